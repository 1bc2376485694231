/- A frame of pixels that are made, in the document: dyeref2.Made, by any closure. Conditions: the region is right; the closure answers within it. -/
import Derived.Test.YtalgepfammpmbaaFrE
import Derived.Deep.AppendLies
import Derived.Deep.RegionLaw
import Derived.BigQuiet
namespace Go.Proofs.Ytalgepfammpmbaa
open Go.RowKit
theorem infoF32 : (Try.prog.info? 27).map (fun i => (i.zero, i.size, i.bytes)) = some (some (.float .f32 0), 1, 4) := by kernel_rfl
theorem own_past {W w : World} {base : Nat} {e : TypeId} {size : Nat} {v : Value} {n : Nat} {xs : List Value} (h : W.ownsRow base e size v n xs) (hb : Below W.heap.size W w) : w.ownsRow base e size v n xs :=
  ⟨h.1, h.2.imp id fun ⟨g, cap, cur, h1, h2, h3, h4⟩ => ⟨g, cap, cur, h1, h2, by
    have hl : g < W.heap.size := by
      rcases Nat.lt_or_ge g W.heap.size with h' | h'
      · exact h'
      · rw [Array.getElem?_eq_none h'] at h3; cases h3
    rw [hb.block g hl]; exact h3, h4⟩⟩
theorem own_far {W : World} {base : Nat} {e : TypeId} {size : Nat} {v : Value} {n : Nat} {xs : List Value} (h : W.ownsRow base e size v n xs) (q : Addr) (x : Value) (hq : q.block < base) : (W.setCell q x).ownsRow base e size v n xs :=
  ⟨h.1, h.2.imp id fun ⟨g, cap, cur, h1, h2, h3, h4⟩ => ⟨g, cap, cur, h1, h2, by rw [Below.heap_setCell _ _ _ _ (by omega)]; exact h3, h4⟩⟩
theorem FrameC.set4 {w : World} {n : Nat} {x y v h : Int} {s : Value} (k : FrameC w n x y v h s) (t : Value) : FrameC (w.setCell ⟨n, 4, none⟩ t) n x y v h t :=
  ⟨(World.cell?_setCell_other _ _ _ _ (by simp)).trans k.c0, (World.cell?_setCell_other _ _ _ _ (by simp)).trans k.c1, (World.cell?_setCell_other _ _ _ _ (by simp)).trans k.c2, (World.cell?_setCell_other _ _ _ _ (by simp)).trans k.c3, World.cell?_setCell_same _ _ _ k.c4, fun o => (World.frozen?_setCell _ _ _ _).trans (k.f o)⟩
theorem FrameC.far {w : World} {n : Nat} {x y v h : Int} {s : Value} (k : FrameC w n x y v h s) (q : Addr) (t : Value) (hq : q.block ≠ n) : FrameC (w.setCell q t) n x y v h s :=
  k.block (Below.heap_setCell _ _ _ _ (Ne.symm hq))
/-- A region's variable. -/
structure RegC (w : World) (n : Nat) (x y v h : Int) : Prop where
  c0 : w.cell? ⟨n, 0, none⟩ = some (.int .i64 x)
  c1 : w.cell? ⟨n, 1, none⟩ = some (.int .i64 y)
  c2 : w.cell? ⟨n, 2, none⟩ = some (.int .i64 v)
  c3 : w.cell? ⟨n, 3, none⟩ = some (.int .i64 h)
theorem RegC.block {W w : World} {n : Nat} {x y v h : Int} (k : RegC W n x y v h) (hb : w.heap[n]? = W.heap[n]?) : RegC w n x y v h :=
  ⟨(World.cell?_of_block hb).trans k.c0, (World.cell?_of_block hb).trans k.c1, (World.cell?_of_block hb).trans k.c2, (World.cell?_of_block hb).trans k.c3⟩
def madeL (G : Nat → Nat → Nat) (N : Nat) : List Value := (List.range N).map fun j => .float .f32 (G (j / 4) (j % 4))
theorem madeL_succ (G : Nat → Nat → Nat) (N : Nat) : madeL G (N + 1) = madeL G N ++ [.float .f32 (G (N / 4) (N % 4))] := by simp [madeL, List.range_succ]
/-- What stands behind N singles. -/
structure MadeR (w wr : World) (x y v h : Int) (G : Nat → Nat → Nat) (N : Nat) (s : Value) : Prop where
  frm : FrameC wr (w.heap.size + 1 + 1) x y v h s
  own : wr.ownsRow (w.heap.size + 3) 27 1 s N (madeL G N)
  reg : RegC wr w.heap.size x y v h
  res : FrameC wr (w.heap.size + 1) 0 0 0 0 (.slice none 0 0)
  bel : Below w.heap.size w wr
theorem MadeR.past {w wr w2 : World} {x y v h : Int} {G : Nat → Nat → Nat} {N : Nat} {s : Value} (k : MadeR w wr x y v h G N s) (hb : Below wr.heap.size wr w2) : MadeR w w2 x y v h G N s :=
  ⟨k.frm.below hb k.frm.lt, own_past k.own hb, k.reg.block (hb.block _ (cell_lt k.reg.c0)), k.res.below hb k.res.lt, k.bel.trans (hb.mono k.bel.size)⟩
theorem own_block {w : World} {base : Nat} {e : TypeId} {size : Nat} {v : Value} {n : Nat} {xs : List Value} (h : w.ownsRow base e size v n xs) {j : Nat} (hj : j < base) : some j ≠ v.ownBlock := by
  intro e'
  have := h.lt j e'.symm
  omega
theorem MadeR.step {w wa w1 : World} {x y v h : Int} {G : Nat → Nat → Nat} {N : Nat} {s s' : Value} (k : MadeR w wa x y v h G N s) (hown : w1.ownsRow (w.heap.size + 3) 27 1 s' (N + 1) (madeL G N ++ [.float .f32 (G (N / 4) (N % 4))])) (hg : wa.grownBy w1 s.ownBlock) :
    MadeR w (w1.setCell ⟨w.heap.size + 1 + 1, 4, none⟩ s') x y v h G (N + 1) s' := by
  have f2 := hg.block _ k.frm.lt (own_block k.own (by omega))
  have f1 := hg.block _ k.res.lt (own_block k.own (by omega))
  have f0 := hg.block _ (cell_lt k.reg.c0) (own_block k.own (show w.heap.size < w.heap.size + 3 by omega))
  refine ⟨(k.frm.block f2).set4 s', ?_, (k.reg.block f0).block (Below.heap_setCell _ _ _ _ (by simp; omega)), (k.res.block f1).far _ _ (by simp), ?_⟩
  · rw [madeL_succ]; exact own_far hown _ _ (by simp)
  · refine (k.bel.grown hg (by have := cell_lt k.reg.c0; simp at this; omega) (fun j hj => ?_)).setCell (by simp; omega) _
    have := k.own.lt j hj
    omega
theorem MadeR.app {w wr wa w1 : World} {x y v h : Int} {G : Nat → Nat → Nat} {N : Nat} {s s' : Value} {b : Nat} (k0 : MadeR w wr x y v h G N s) (hb : Below wr.heap.size wr wa) (hown : w1.ownsRow (w.heap.size + 3) 27 1 s' (N + 1) (madeL G N ++ [.float .f32 b])) (hv : b = G (N / 4) (N % 4)) (hg : wa.grownBy w1 s.ownBlock) :
    w1.cell? ⟨w.heap.size + 1 + 1, 4, none⟩ = some s ∧ w1.frozen? ⟨w.heap.size + 1 + 1, 4, none⟩ = false ∧ MadeR w (w1.setCell ⟨w.heap.size + 1 + 1, 4, none⟩ s') x y v h G (N + 1) s' := by
  have k := k0.past hb
  have blk := hg.block (w.heap.size + 1 + 1) k.frm.lt (own_block k.own (by omega))
  exact ⟨(World.cell?_of_block blk).trans k.frm.c4, (World.frozen?_of_block blk).trans (k.frm.f _), k.step (by rw [← hv]; exact hown) hg⟩
/-- What a maker of pixels gives within the region. -/
def MakerOK (K : Nat) (caps : Array Value) (w : World) (x y v h : Int) (G : Nat → Nat → Nat) : Prop :=
  ∀ (i j : Nat) w', (i : Int) < v → (j : Int) < h → Below w.heap.size w w' → Calls Try.prog K (#[.int .i64 (x + i), .int .i64 (y + j)] ++ caps) w' fun e w'' =>
    (∃ q : Nat → Nat, e = .returned (.agg #[.float .f32 (q 0), .float .f32 (q 1), .float .f32 (q 2), .float .f32 (q 3)]) ∧ ∀ c, c < 4 → cn .f32 (q c) = G (v.toNat * j + i) c) ∧ Below w'.heap.size w' w''
set_option maxRecDepth 100000 in
set_option maxHeartbeats 1600000 in
theorem Made_any (K : Nat) (caps : Array Value) (x y v h : Int) (G : Nat → Nat → Nat) (w : World) (he : regErr x y v h = 0)
    (hent : ∀ args w, (callFunc K args).run Try.prog w = .ok (.enter K args) w) (hk : MakerOK K caps w x y v h G) :
    Calls Try.prog 26 #[.agg #[.int .i64 x, .int .i64 y, .int .i64 v, .int .i64 h], .func (.func K) #[] caps] w fun e w' =>
      ∃ g n cap : Nat, (n : Int) = 4 * v * h ∧ e = .returned (.agg #[.int .i64 x, .int .i64 y, .int .i64 v, .int .i64 h, .slice (some ⟨g, 0, none⟩) n cap]) ∧ w.heap.size ≤ g ∧ g < w'.heap.size ∧ (∀ i, i < n → w'.cell? ⟨g, i, none⟩ = some (.float .f32 (G (i / 4) (i % 4)))) ∧ Below w.heap.size w w' := by
  obtain ⟨r1, r2, r3, r4, r5, r6, r7, r8, r9, r10⟩ := regErr_ok he
  obtain ⟨V, rfl⟩ : ∃ V : Nat, v = V := ⟨v.toNat, by omega⟩
  obtain ⟨H, rfl⟩ : ∃ H : Nat, h = H := ⟨h.toNat, by omega⟩
  have hk' := Lib.hid hk; clear hk
  obtain ⟨i0, hi, hz0, hz1, hz2⟩ := info_parts infoF32
  have hVH : V * H ≤ 16384 := by have : ((V * H : Nat) : Int) ≤ 16384 := by { rw [Int.natCast_mul]; exact r5 }; omega
  clear r5 r6 he
  go_enter Try.func26, Try.ntmps26
  go_wp2_with fail
  obtain ⟨W, hW⟩ : ∃ W, W = ((w.alloc (.cells #[.int .i64 x, .int .i64 y, .int .i64 V, .int .i64 H] 23)).alloc (.cells #[.int .i64 0, .int .i64 0, .int .i64 0, .int .i64 0, .slice none 0 0] 26)).alloc (.cells #[.int .i64 x, .int .i64 y, .int .i64 V, .int .i64 H, .slice none 0 0] 26) := ⟨_, rfl⟩
  have M0 : MadeR w W x y V H G 0 (.slice none 0 0) := by
    rw [hW]
    exact ⟨⟨by simp [go_sem], by simp [go_sem], by simp [go_sem], by simp [go_sem], by simp [go_sem], fun o => by simp [go_sem]⟩, World.ownsRow_nil _ _ _ _, ⟨by simp [go_sem], by simp [go_sem], by simp [go_sem], by simp [go_sem]⟩, ⟨by simp [go_sem], by simp [go_sem], by simp [go_sem], by simp [go_sem], by simp [go_sem], fun o => by simp [go_sem]⟩, by (repeat (first | exact Below.refl _ _ | assumption | (refine Below.setCell ?_ (by first | (simp; done) | (simp; omega) | omega) _) | (refine Below.drew ?_) | (refine below_drewN ?_ _) | (refine Below.alloc ?_ (by first | (simp; done) | (simp; omega) | omega) _) | (refine Below.trans ?_ (Below.mono (by assumption) (by first | (simp; done) | (simp; omega) | omega)))))⟩
  rw [← hW]
  clear hW
  go_loopw [6] (fun s6 wr => ∃ j : Nat, j ≤ H ∧ s6 = .int .i64 (y + j) ∧ ∃ s, MadeR w wr x y V H G (4 * (V * j)) s) (fun s6 _ => (y + H - intOf s6).toNat)
  case atStart => exact ⟨0, Nat.zero_le _, by simp, _, by simpa using M0⟩
  case round =>
    obtain ⟨j, hj, rfl, s, M⟩ := hrel
    have HM := Lib.hid M
    obtain ⟨p0, p1, p2, p3⟩ := M.reg
    clear M M0
    by_cases hjH : j < H
    · go_wp2_with fail
      clear p0 p1 p2 p3
      go_loopw [7] (fun s7 wt => ∃ i : Nat, i ≤ V ∧ s7 = .int .i64 (x + i) ∧ ∃ s, MadeR w wt x y V H G (4 * (V * j + i)) s) (fun s7 _ => (x + V - intOf s7).toNat)
      case atStart => exact ⟨0, Nat.zero_le _, by simp, s, HM.out⟩
      case round =>
        obtain ⟨i, hi2, rfl, t, M⟩ := hrel
        have HM2 := Lib.hid M
        obtain ⟨p0, p1, p2, p3⟩ := M.reg
        have hmul : V * (j + 1) ≤ V * H := Nat.mul_le_mul_left V hjH
        rw [Nat.mul_add, Nat.mul_one] at hmul
        clear M HM
        by_cases hiV : i < V
        · go_wp2_with fail
          refine (hk'.out i j _ (by omega) (by omega) HM2.out.bel).mono ?_
          rintro e w1 ⟨⟨q, rfl, hq⟩, hb1⟩
          have M1 := HM2.out.past hb1
          clear hb1 HM2 p0 p1 p2 p3
          have HQ := Lib.hid hq; have HM1 := Lib.hid M1
          clear hq M1
          simp only [Int.toNat_natCast] at HQ
          obtain ⟨kk, hkk⟩ : ∃ kk, kk = V * j + i := ⟨_, rfl⟩
          rw [← hkk] at HQ HM1
          have HKK := Lib.hid hkk; clear hkk
          go_wp2_with fail
          go_loopw [38] (fun s38 wu => ∃ c : Nat, c ≤ 4 ∧ s38 = .int .i64 c ∧ ∃ s, MadeR w wu x y V H G (4 * kk + c) s) (fun s38 _ => 4 - (intOf s38).toNat)
          case atStart => exact ⟨0, by omega, by simp, t, HM1.out⟩
          case round =>
            obtain ⟨c, hc4, rfl, u, M⟩ := hrel
            clear HM1
            have HM := Lib.hid M
            by_cases hc : c < 4
            · have hix := index4 q c hc
              have f4 := M.frm.c4
              have ff := M.frm.f
              have hfl := M.frm.lt
              clear M
              go_wp2_with fail
              have hb1 : 4 * kk + c + 1 ≤ 65536 := by
                have := HKK.out
                omega
              have hb2 := HM.out.bel.size
              have HV := Lib.hid (by rw [HQ.out c hc, show (4 * kk + c) / 4 = kk by omega, show (4 * kk + c) % 4 = c by omega] : cn .f32 (q c) = G ((4 * kk + c) / 4) ((4 * kk + c) % 4))
              go_region_law (first | (refine step_append_lies _ rfl (.tmp 42) (.tmp 45) 24 rfl (w.heap.size + 3) 27 i0 (.float .f32 0) 1 4 Try.underlying24 hi hz0 hz1 hz2 rfl (by decide) u (4 * kk + c) (madeL G (4 * kk + c)) rfl (World.ownsRow.alloc HM.out.own _) ⟨wr.heap.size, 0, none⟩ 1 1 [.float .f32 (cn .f32 (q c))] rfl rfl (by intro j u hj; match j, hj with | 0, hj => (simp at hj; subst hj; simp [Addr.add])) (by intro u hu; simp at hu; subst hu; rfl) (by decide) (by unfold maxLen; omega) (by omega) (by simp; omega) _ rfl ?_; intro g cap w1 hown hgrow hat hlt; obtain ⟨f4w, ffw, MS0⟩ := MadeR.app HM.out (by (repeat (first | exact Below.refl _ _ | assumption | (refine Below.setCell ?_ (by first | (simp; done) | (simp; omega) | omega) _) | (refine Below.drew ?_) | (refine below_drewN ?_ _) | (refine Below.alloc ?_ (by first | (simp; done) | (simp; omega) | omega) _) | (refine Below.trans ?_ (Below.mono (by assumption) (by first | (simp; done) | (simp; omega) | omega)))))) hown HV.out hgrow; have MS := Lib.hid MS0; clear MS0 hown hgrow) | (go_simp; go_at_call 48; refine (Fix_any _ _).mono ?_; rintro e w' ⟨rfl, rfl⟩))
              all_goals
                go_wp2_with fail
                go_roundw
                case rel => exact ⟨c + 1, by omega, by go_num, _, by simpa [Nat.add_assoc] using MS.out⟩
                case measure => simp [intOf]; omega
            · have hce : c = 4 := by omega
              subst hce
              clear M
              go_wp2_with fail
              go_roundw
              case rel => exact ⟨i + 1, by omega, by simp [Int.add_assoc], u, by have e := HKK.out; rw [show 4 * (V * j + (i + 1)) = 4 * kk + 4 by omega]; exact HM.out⟩
              case measure => simp [intOf]; omega
        · have hie : i = V := by omega
          subst hie
          go_wp2_with fail
          go_roundw
          case rel => exact ⟨j + 1, by omega, by simp [Int.add_assoc], t, by rw [Nat.mul_add, Nat.mul_one]; exact HM2.out⟩
          case measure => simp [intOf]; omega
    · have hje : j = H := by omega
      subst hje
      have FR := HM.out.frm
      have RS := HM.out.res
      obtain ⟨f0, f1, f2, f3, f4, -⟩ := FR
      obtain ⟨z0, z1, z2, z3, z4, zf⟩ := RS
      have hVH0 : 0 < V * j := Nat.mul_pos (by omega) (by omega)
      obtain ⟨g, cap, rfl, hg1, hg2⟩ := HM.out.own.form (by omega)
      have hcells := HM.out.own.cells (g := g) rfl
      have HC := Lib.hid hcells; clear hcells
      go_wp2_with fail
      refine bodyPost_ret (v := .agg #[.int .i64 x, .int .i64 y, .int .i64 V, .int .i64 j, .slice (some ⟨g, 0, none⟩) (4 * (V * j)) cap]) (by simp [results, Try.results26, go_sem, z0, z1, z2, z3, z4]) rfl ⟨g, 4 * (V * j), cap, by rw [Int.natCast_mul, Int.natCast_mul, Int.mul_assoc]; rfl, rfl, by omega, by simp; omega, fun k hk => ?_, ?_⟩
      · have := HC.out k (.float .f32 (G (k / 4) (k % 4))) (by simp [madeL, hk])
        rw [Go.WideShapes.add_plain] at this
        rw [← this]
        simp [go_sem]
      · exact ((((HM.out.bel.setCell (by simp) _).setCell (by simp) _).setCell (by simp) _).setCell (by simp) _).setCell (by simp) _
end Go.Proofs.Ytalgepfammpmbaa
