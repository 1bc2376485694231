/- A frame made of pixels with their places: finish.mapped, by any closure. Conditions: the frame is right; the closure answers at its pixels. -/
import Derived.Test.YtalgepfammpmbaaFrD
import Derived.Test.YtalgepfammpmbaaLooseM
import Derived.Deep.DeepCutAuto
namespace Go.Proofs.Ytalgepfammpmbaa
open Go.RowKit
/-- A frame's variable at block n: the region, and the slice's value s. -/
structure FrameC (w : World) (n : Nat) (x y v h : Int) (s : Value) : Prop where
  c0 : w.cell? ⟨n, 0, none⟩ = some (.int .i64 x)
  c1 : w.cell? ⟨n, 1, none⟩ = some (.int .i64 y)
  c2 : w.cell? ⟨n, 2, none⟩ = some (.int .i64 v)
  c3 : w.cell? ⟨n, 3, none⟩ = some (.int .i64 h)
  c4 : w.cell? ⟨n, 4, none⟩ = some s
  f : ∀ o, w.frozen? ⟨n, o, none⟩ = false
theorem FrameC.below {W w : World} {m n : Nat} {x y v h : Int} {s : Value} (k : FrameC W n x y v h s) (hb : Below m W w) (hn : n < m) : FrameC w n x y v h s :=
  ⟨(hb.cell (p := ⟨n, 0, none⟩) hn).trans k.c0, (hb.cell (p := ⟨n, 1, none⟩) hn).trans k.c1, (hb.cell (p := ⟨n, 2, none⟩) hn).trans k.c2, (hb.cell (p := ⟨n, 3, none⟩) hn).trans k.c3, (hb.cell (p := ⟨n, 4, none⟩) hn).trans k.c4, fun o => (hb.frozen (p := ⟨n, o, none⟩) hn).trans (k.f o)⟩
theorem FrameC.block {W w : World} {n : Nat} {x y v h : Int} {s : Value} (k : FrameC W n x y v h s) (hb : w.heap[n]? = W.heap[n]?) : FrameC w n x y v h s :=
  ⟨(World.cell?_of_block hb).trans k.c0, (World.cell?_of_block hb).trans k.c1, (World.cell?_of_block hb).trans k.c2, (World.cell?_of_block hb).trans k.c3, (World.cell?_of_block hb).trans k.c4, fun o => (World.frozen?_of_block hb).trans (k.f o)⟩
theorem FrameC.lt {w : World} {n : Nat} {x y v h : Int} {s : Value} (k : FrameC w n x y v h s) : n < w.heap.size := cell_lt k.c0
/-- What a change of pixels gives: at pixel k of a frame of width v at (x, y). -/
def PixelOK (K : Nat) (caps : Array Value) (w : World) (x y v : Int) (n : Nat) (fs : Nat → Nat) (G : Nat → Nat → Nat) : Prop :=
  ∀ k w', 4 * k + 4 ≤ n → Below w.heap.size w w' → Calls Try.prog K (#[.int .i64 (x + (k : Int) % v), .int .i64 (y + (k : Int) / v), .agg #[.float .f32 (fs (4 * k)), .float .f32 (fs (4 * k + 1)), .float .f32 (fs (4 * k + 2)), .float .f32 (fs (4 * k + 3))]] ++ caps) w' fun e w'' =>
    (∃ q : Nat → Nat, e = .returned (.agg #[.float .f32 (q 0), .float .f32 (q 1), .float .f32 (q 2), .float .f32 (q 3)]) ∧ ∀ c, c < 4 → cn .f32 (q c) = G k c) ∧ Below w'.heap.size w' w''
/-- A pixel whose singles are these, one NaN for all. -/
def PixV (g : Nat → Nat) (u : Value) : Prop := ∃ q : Nat → Nat, u = .agg #[.float .f32 (q 0), .float .f32 (q 1), .float .f32 (q 2), .float .f32 (q 3)] ∧ ∀ c, c < 4 → cn .f32 (q c) = g c
/-- Four singles by their place. -/
def pick4 (q0 q1 q2 q3 : Nat) : Nat → Nat
  | 0 => q0
  | 1 => q1
  | 2 => q2
  | _ => q3
theorem index4 (q : Nat → Nat) (c : Nat) (hc : c < 4) (w : World) : (Instr.index 41 (.agg #[.float .f32 (q 0), .float .f32 (q 1), .float .f32 (q 2), .float .f32 (q 3)]) (.int .i64 (c : Int))).run Try.prog w = .ok (.float .f32 (q c)) w := by
  rcases (show c = 0 ∨ c = 1 ∨ c = 2 ∨ c = 3 by omega) with rfl | rfl | rfl | rfl <;> kernel_rfl
theorem grown_far {W a : World} {g : Nat} (h : W.grownBy a (some g)) (q : Addr) (v : Value) (hq : W.heap.size ≤ q.block) : W.grownBy (a.setCell q v) (some g) :=
  ⟨h.os, h.tape, h.output, by have := h.size; simp [World.setCell]; omega, fun j hj hne => by
    have h1 : j ≠ q.block := by omega
    rw [Below.heap_setCell _ _ _ _ h1]
    exact h.block j hj hne⟩
theorem grown_set {W a : World} {g : Nat} (h : W.grownBy a (some g)) (k : Nat) (v : Value) : W.grownBy (a.setCell ⟨g, k, none⟩ v) (some g) := grown_step h (Below.refl _ _) v
theorem grown_past {W a b : World} {g : Nat} (h : W.grownBy a (some g)) (hb : Below a.heap.size a b) : W.grownBy b (some g) :=
  ⟨hb.os.trans h.os, hb.tape.trans h.tape, hb.output.trans h.output, by have := h.size; have := hb.size; omega, fun j hj hne => by rw [hb.block j (by have := h.size; omega)]; exact h.block j hj hne⟩
set_option maxRecDepth 100000 in
set_option maxHeartbeats 1600000 in
theorem mapped_any (K : Nat) (caps : Array Value) (x y v h : Int) (b off n cap : Nat) (fs : Nat → Nat) (G : Nat → Nat → Nat) (w : World) (he : regErr x y v h = 0) (hl : (n : Int) = 4 * v * h) (hcap : n ≤ cap) (hcb : cap ≤ 9223372036854775807)
    (hcell : ∀ i, i < n → w.cell? ⟨b, off + i, none⟩ = some (.float .f32 (fs i)))
    (hent : ∀ args w, (callFunc K args).run Try.prog w = .ok (.enter K args) w) (hk : PixelOK K caps w x y v n fs G) :
    Calls Try.prog 115 #[.agg #[.int .i64 x, .int .i64 y, .int .i64 v, .int .i64 h, .slice (some ⟨b, off, none⟩) n cap], .func (.func K) #[] caps] w fun e w' =>
      ∃ g, e = .returned (.agg #[.int .i64 x, .int .i64 y, .int .i64 v, .int .i64 h, .slice (some ⟨g, 0, none⟩) n n]) ∧ w.heap.size ≤ g ∧ (∀ i, i < n → w'.cell? ⟨g, i, none⟩ = some (.float .f32 (G (i / 4) (i % 4)))) ∧ Below w.heap.size w w' := by
  obtain ⟨r1, r2, r3, r4, r5, r6, r7, r8, r9, r10⟩ := regErr_ok he
  have hlt : 4 * v * h ≤ 65536 := by rw [Int.mul_assoc]; omega
  have hlt0 : 4 ≤ 4 * v * h := by rw [Int.mul_assoc]; omega
  have hL := Lib.hid hl; clear hl
  have hn : n ≤ 65536 := by have := hL.out; omega
  have hn0 : 0 < n := by have := hL.out; omega
  clear hlt hlt0 r5 r6 he
  have hk' := Lib.hid hk; clear hk
  have hbw : b < w.heap.size := cell_lt (hcell 0 hn0)
  have HC := Lib.hid hcell; clear hcell
  have sa := array_at
  have hmk := run_make_row' (P := Try.prog) 24 27 (.float .f32 0) 4 Try.underlying24 (by kernel_rfl) rfl .i64 .i64 n (by omega) (by omega)
  go_enter Try.func115, Try.ntmps115
  go_upto_region 1 with fail
  go_cut [5] (fun s5 wx => ∃ nf g : Nat, s5 = .pointer (some ⟨nf, 0, none⟩) ∧ FrameC wx nf x y v h (.slice (some ⟨g, 0, none⟩) n n) ∧ wx.rowIs g 27 n (fun _ => .float .f32 0) ∧ nf ≠ g ∧ w.heap.size + 1 < nf ∧ w.heap.size + 1 < g ∧ FrameC wx w.heap.size x y v h (.slice (some ⟨b, off, none⟩) n cap) ∧ FrameC wx (w.heap.size + 1) 0 0 0 0 (.slice none 0 0) ∧ Below w.heap.size w wx)
  case first =>
    go_region
    · go_wp2_with fail
      go_meet
      refine ⟨w.heap.size + 1 + 1 + 1, w.heap.size + 1 + 1, rfl, ⟨by simp [go_sem], by simp [go_sem], by simp [go_sem], by simp [go_sem], by simp [go_sem], fun o => by simp [go_sem]⟩, ?_, by omega, by omega, by omega, ⟨by simp [go_sem], by simp [go_sem], by simp [go_sem], by simp [go_sem], by simp [go_sem], fun o => by simp [go_sem]⟩, ⟨by simp [go_sem], by simp [go_sem], by simp [go_sem], by simp [go_sem], by simp [go_sem], fun o => by simp [go_sem]⟩, by (repeat (first | exact Below.refl _ _ | assumption | (refine Below.setCell ?_ (by first | (simp; done) | (simp; omega) | omega) _) | (refine Below.drew ?_) | (refine below_drewN ?_ _) | (refine Below.alloc ?_ (by first | (simp; done) | (simp; omega) | omega) _) | (refine Below.trans ?_ (Below.mono (by assumption) (by first | (simp; done) | (simp; omega) | omega)))))⟩
      have hr := World.rowIs_made ((w.alloc (.cells #[.int .i64 x, .int .i64 y, .int .i64 v, .int .i64 h, .slice (some ⟨b, off, none⟩) n cap] 26)).alloc (.cells #[.int .i64 0, .int .i64 0, .int .i64 0, .int .i64 0, .slice none 0 0] 26)) (.float .f32 0) n 27
      simp only [World.size_alloc] at hr
      exact (hr.alloc _).drew
    · go_wp2_with fail
      go_meet
      refine ⟨w.heap.size + 1 + 1, w.heap.size + 1 + 1 + 1, rfl, ⟨by simp [go_sem], by simp [go_sem], by simp [go_sem], by simp [go_sem], by simp [go_sem], fun o => by simp [go_sem]⟩, ?_, by omega, by omega, by omega, ⟨by simp [go_sem], by simp [go_sem], by simp [go_sem], by simp [go_sem], by simp [go_sem], fun o => by simp [go_sem]⟩, ⟨by simp [go_sem], by simp [go_sem], by simp [go_sem], by simp [go_sem], by simp [go_sem], fun o => by simp [go_sem]⟩, by (repeat (first | exact Below.refl _ _ | assumption | (refine Below.setCell ?_ (by first | (simp; done) | (simp; omega) | omega) _) | (refine Below.drew ?_) | (refine below_drewN ?_ _) | (refine Below.alloc ?_ (by first | (simp; done) | (simp; omega) | omega) _) | (refine Below.trans ?_ (Below.mono (by assumption) (by first | (simp; done) | (simp; omega) | omega)))))⟩
      have hr := World.rowIs_made (((w.alloc (.cells #[.int .i64 x, .int .i64 y, .int .i64 v, .int .i64 h, .slice (some ⟨b, off, none⟩) n cap] 26)).alloc (.cells #[.int .i64 0, .int .i64 0, .int .i64 0, .int .i64 0, .slice none 0 0] 26)).alloc (.cells #[.int .i64 x, .int .i64 y, .int .i64 v, .int .i64 h, .slice (some ⟨w.heap.size + 1 + 1 + 1, 0, none⟩) n n] 26)) (.float .f32 0) n 27
      simp only [World.size_alloc] at hr
      exact hr.drew
  case rest =>
    obtain ⟨nf, g, rfl, hF, hrow, hne, hn1, hg1, hP, hZ, hbx⟩ := hcut
    have HF := Lib.hid hF; have HP := Lib.hid hP; have HZ := Lib.hid hZ; have HR := Lib.hid hrow
    have hqx := hbx.size
    have hgl := hrow.lt
    have hnl := hF.lt
    have hpl := hP.lt
    obtain ⟨p0, p1, p2, p3, p4, -⟩ := hP
    clear hrow hmk hF hZ
    go_wp2_with fail
    go_loopw [6] (fun i wr => ∃ k : Nat, 4 * k ≤ n ∧ i = .int .i64 (4 * k : Nat) ∧ wr.rowIs g 27 n (fun j => if j < 4 * k then .float .f32 (G (j / 4) (j % 4)) else .float .f32 0) ∧ wc.grownBy wr (some g)) (fun i _ => n - (intOf i).toNat)
    case atStart => exact ⟨0, by omega, rfl, by simpa using HR.out, World.grownBy.refl _ _⟩
    case round =>
      obtain ⟨k, hkn, rfl, hrw, hgr⟩ := hrel
      by_cases hkl : 4 * k < n
      · have hk4 : 4 * k + 4 ≤ n := by
          have h1 := hL.out
          have h2 : (n : Int) = 4 * (v * h) := by rw [h1, Int.mul_assoc]
          omega
        have hvh : (k : Int) < v * h := by
          have h1 := hL.out
          rw [Int.mul_assoc] at h1
          omega
        have m0 : 0 ≤ (k : Int) % v := Int.emod_nonneg _ (by omega)
        have m1 : (k : Int) % v < v := Int.emod_lt_of_pos _ (by omega)
        have m2 : 0 ≤ (k : Int) / v := Int.ediv_nonneg (by omega) (by omega)
        have m3 : (k : Int) / v < h := Int.ediv_lt_of_lt_mul (by omega) (by rw [Int.mul_comm]; exact hvh)
        have d2 : (k : Int).tmod v = (k : Int) % v := Int.tmod_eq_emod_of_nonneg (by omega)
        have d3 : (k : Int).tdiv v = (k : Int) / v := Int.tdiv_eq_ediv_of_nonneg (by omega)
        obtain ⟨i, hi⟩ : ∃ i, i = 4 * k := ⟨_, rfl⟩
        have hv0 : ¬ v = 0 := by omega
        have hwk : IntKind.i64.wrap (k : Int) = k := by rw [IntKind.wrap_i64]; omega
        have d1 : (i : Int).tdiv 4 = k := by rw [Int.tdiv_eq_ediv_of_nonneg (by omega)]; omega
        have hP := HP.out.block (hgr.block w.heap.size hpl (by simp; omega))
        have hF := HF.out.block (hgr.block nf hnl (by simp; omega))
        have CB : ∀ j, j < n → wr.cell? ⟨b, off + j, none⟩ = some (.float .f32 (fs j)) := fun j hj => by
          rw [World.cell?_of_block (hgr.block b (by omega) (by simp; omega)), hbx.cell (p := ⟨b, off + j, none⟩) hbw]; exact HC.out j hj
        have C0 := CB (4 * k) hkl
        have C1 := CB (4 * k + 1) (by omega)
        have C2 := CB (4 * k + 2) (by omega)
        have C3 := CB (4 * k + 3) (by omega)
        have BW : Below w.heap.size w wr := hbx.grown hgr (by omega) (by intro j hj; cases hj; omega)
        clear CB
        have HK : Hid (∀ w', Below w.heap.size w w' → Calls Try.prog K (#[.int .i64 (x + (k : Int) % v), .int .i64 (y + (k : Int) / v), .agg #[.float .f32 (fs (4 * k)), .float .f32 (fs (4 * k + 1)), .float .f32 (fs (4 * k + 2)), .float .f32 (fs (4 * k + 3))]] ++ caps) w' fun e w'' =>
          (∃ q : Nat → Nat, e = .returned (.agg #[.float .f32 (q 0), .float .f32 (q 1), .float .f32 (q 2), .float .f32 (q 3)]) ∧ ∀ c, c < 4 → cn .f32 (q c) = G k c) ∧ Below w'.heap.size w' w'') := Lib.hid (fun w' hb => hk'.out k w' hk4 hb)
        generalize fs (4 * k) = v0 at *
        generalize fs (4 * k + 1) = v1 at *
        generalize fs (4 * k + 2) = v2 at *
        generalize fs (4 * k + 3) = v3 at *
        rw [← hi] at hkl hk4 C0 C1 C2 C3 hrw ⊢
        have ei := Lib.hid hi; clear hi
        rw [← Nat.add_assoc] at C1 C2 C3
        generalize (k : Int) % v = r at *
        generalize (k : Int) / v = s at *
        have wx : IntKind.i64.wrap (x + r) = x + r := by rw [IntKind.wrap_i64]; omega
        have ws : IntKind.i64.wrap s = s := by rw [IntKind.wrap_i64]; omega
        have wy : IntKind.i64.wrap (y + s) = y + s := by rw [IntKind.wrap_i64]; omega
        have wi : IntKind.i64.wrap ((i : Int) + 4) = (i : Int) + 4 := by rw [IntKind.wrap_i64]; omega
        have j0 : (0 : Int) ≤ (i : Int) + 4 := by omega
        have j1 : (i : Int) + 4 ≤ (cap : Int) := by omega
        have j2 : ((i : Int) + 4).toNat = i + 4 := by omega
        have j3 : i + 4 - i = 4 := by omega
        have j4 : ¬ cap = i := by omega
        have HRW := Lib.hid hrw
        have hgw : g < wr.heap.size := hrw.lt
        have HF' := Lib.hid hF; have HP' := Lib.hid hP
        have hpw : w.heap.size < wr.heap.size := hP.lt
        have hbr : b < wr.heap.size := by omega
        obtain ⟨p0', p1', p2', p3', p4', -⟩ := hP
        clear hrw hF p0 p1 p2 p3 p4 hvh
        go_wp2_with fail
        refine wp_region_looseM 31 (fun _ _ u => PixV (G k) u) [(30, 7, .cells #[.float .f32 0, .float .f32 0, .float .f32 0, .float .f32 0] 41)] (by kernel_rfl) (by kernel_rfl) (by kernel_rfl) (by intro m hm; cases hm with | head => exact ⟨_, rfl, ⟨rfl, rfl, fun ev w => by kernel_rfl⟩⟩ | tail _ h => cases h) (by intro m hm; cases hm with | head => exact of_decide_eq_true (by kernel_rfl) | tail _ h => cases h) ?_
        simp only [List.take_succ_cons, List.take_zero, List.drop_succ_cons, List.drop_zero]
        iterate 29 (refine looseM_wanted rfl (fun K hK => ?_); go_simp; refine hK _ ?_; clear hK K)
        refine looseM_wanted rfl (fun K1 hK => ?_)
        go_simp
        refine ⟨fun p => (HK.out p.w (BW.trans (p.h.mono (by omega)))).mono ?_, ?_⟩
        · rintro e w' ⟨⟨q, rfl, e0⟩, hb⟩
          exact ⟨_, rfl, ⟨_, rfl, e0⟩, hb⟩
        rintro u ⟨q, rfl, e0⟩
        refine hK _ ?_
        clear hK K1
        refine looseM_lays (d := 7) (blk := .cells #[.float .f32 0, .float .f32 0, .float .f32 0, .float .f32 0] 41) ⟨rfl, rfl, fun ev w => by kernel_rfl⟩ (fun pg hpg => ?_)
        refine looseM_nil (fun w2 hb2 hg2 _ => ?_)
        obtain ⟨pg', hpg1, hpg2⟩ := hg2 _ (List.Mem.head _)
        obtain rfl : pg = pg' := by cases hpg1; rfl
        clear hpg1 hg2
        have N0 : w2.cell? ⟨pg, 0, none⟩ = some (.float .f32 0) := by simp [World.cell?, hpg2]
        have N1 : w2.cell? ⟨pg, 1, none⟩ = some (.float .f32 0) := by simp [World.cell?, hpg2]
        have N2 : w2.cell? ⟨pg, 2, none⟩ = some (.float .f32 0) := by simp [World.cell?, hpg2]
        have N3 : w2.cell? ⟨pg, 3, none⟩ = some (.float .f32 0) := by simp [World.cell?, hpg2]
        have NF : ∀ o, w2.frozen? ⟨pg, o, none⟩ = false := fun o => by simp [World.frozen?, hpg2]
        have hs2 := hb2.size
        have hR2 : w2.rowIs g 27 n _ := HRW.out.of_block (hb2.block g hgw)
        have HF2 := HF'.out.block (hb2.block nf HF'.out.lt)
        have HP2 := HP'.out.block (hb2.block w.heap.size hpw)
        have hgg : pg ≠ g := by omega
        have hgnf : pg ≠ nf := by have := HF'.out.lt; omega
        have GR2 : wc.grownBy w2 (some g) := grown_past hgr hb2
        have hwcr := hgr.size
        clear p0' p1' p2' p3' p4' C0 C1 C2 C3 hb2 HRW HF' HP'
        have HR2 := Lib.hid hR2; have HF3 := Lib.hid HF2; have HG2 := Lib.hid GR2; have E0 := Lib.hid e0
        clear hR2 HF2 HP2 GR2 e0 hgr
        go_wp2_with fail
        have hnpg : n ≤ 65536 := hn
        go_loopw [56] (fun s56 wt => ∃ c : Nat, c ≤ 4 ∧ s56 = .int .i64 c ∧ wt.rowIs g 27 n (fun j => if j < i + c then .float .f32 (G (j / 4) (j % 4)) else .float .f32 0) ∧ wc.grownBy wt (some g)) (fun s _ => 4 - (intOf s).toNat)
        case atStart =>
          refine ⟨0, by omega, rfl, ?_, ?_⟩
          · exact ((((HR2.out.setOther (by simp; omega) _).setOther (by simp; omega) _).setOther (by simp; omega) _).setOther (by simp; omega) _).congr (fun j hj => by simp)
          · exact grown_far (grown_far (grown_far (grown_far HG2.out _ _ (by simp; omega)) _ _ (by simp; omega)) _ _ (by simp; omega)) _ _ (by simp; omega)
        case round =>
          obtain ⟨c, hc4, rfl, hrw, hgr⟩ := hrel
          by_cases hc : c < 4
          · have hix := index4 q c hc
            have F4 : wr.cell? ⟨nf, 4, none⟩ = some (.slice (some ⟨g, 0, none⟩) n n) := by
              rw [World.cell?_of_block (hgr.block nf hnl (by simp; omega))]; exact HF.out.c4
            have hgwt : g < wr.heap.size := hrw.lt
            have hnwt : nf < wr.heap.size := cell_lt F4
            have HRT := Lib.hid hrw; have HGT := Lib.hid hgr
            clear hrw hgr
            have i0 : (0 : Int) ≤ (i : Int) + (c : Int) := by omega
            have i1 : (i : Int) + (c : Int) < (n : Int) := by omega
            have i2 : ((i : Int) + (c : Int)).toNat = i + c := by omega
            have i3 : IntKind.i64.wrap ((i : Int) + (c : Int)) = (i : Int) + (c : Int) := by rw [IntKind.wrap_i64]; omega
            go_wp2_with fail
            refine wp_region_loose 8 (fun _ _ u => u = .float .f32 (cn .f32 (q c))) (by kernel_rfl) (by kernel_rfl) ?_
            simp only [List.take_succ_cons, List.take_zero, List.drop_succ_cons, List.drop_zero]
            iterate 6 (refine loose_wanted rfl (fun K hK => ?_); go_simp; refine hK _ ?_; clear hK K)
            refine loose_wanted rfl (fun K1 hK => ?_)
            go_simp
            refine ⟨fun p => (Clean_any _ p.w).mono ?_, ?_⟩
            · rintro e w' ⟨rfl, rfl⟩
              exact ⟨_, rfl, rfl, p.h⟩
            refine hK _ ?_
            clear hK K1
            iterate 1 (refine loose_wanted rfl (fun K hK => ?_); go_simp; refine hK _ ?_; clear hK K)
            refine loose_nil (fun w5 hb5 => ?_)
            have hR5 : w5.rowIs g 27 n _ := HRT.out.of_block (hb5.block g hgwt)
            have hG5 : wc.grownBy w5 (some g) := grown_past HGT.out hb5
            have x5 : w5.cell? ⟨g, i + c, none⟩ = some (.float .f32 0) := by have := hR5.cell (show i + c < n by omega); rw [this]; simp
            have y5 : w5.frozen? ⟨g, i + c, none⟩ = false := hR5.frozen _
            have HR5 := Lib.hid hR5; have HG5 := Lib.hid hG5
            clear hR5 hG5 hb5
            go_wp2_with fail
            go_roundw
            case rel =>
              refine ⟨c + 1, by omega, by go_num, (HR5.out.set (i + c) _).congr (fun j hj => ?_), ?_⟩
              · by_cases hjk : j = i + c
                · subst hjk
                  have z1 : (i + c) / 4 = k := by have := ei.out; omega
                  have z2 : (i + c) % 4 = c := by have := ei.out; omega
                  simp [z1, z2, E0.out c hc]
                · simp only [hjk, if_false]
                  by_cases h : j < i + c
                  · rw [if_pos h, if_pos (by omega)]
                  · rw [if_neg h, if_neg (by omega)]
              · exact grown_set HG5.out _ _
            case measure => simp [intOf]; omega
          · have hce : c = 4 := by omega
            subst hce
            go_wp2_with fail
            go_roundw
            case rel =>
              refine ⟨k + 1, by have := ei.out; omega, by have := ei.out; go_num, hrw.congr (fun j hj => ?_), hgr⟩
              have e : 4 * (k + 1) = i + 4 := by have := ei.out; omega
              simp only [e]
            case measure => simp [intOf]; omega
      · have hke : 4 * k = n := by omega
        have hrw' : ∀ i, i < n → wr.cell? ⟨g, i, none⟩ = some (.float .f32 (G (i / 4) (i % 4))) := fun i hi => by
          have := hrw.cell hi
          rw [this, if_pos (by omega)]
        have hP := HP.out.block (hgr.block w.heap.size hpl (by simp; omega))
        have hF := HF.out.block (hgr.block nf hnl (by simp; omega))
        have hZ := HZ.out.block (hgr.block (w.heap.size + 1) HZ.out.lt (by simp; omega))
        have BW : Below w.heap.size w wr := hbx.grown hgr (by omega) (by intro j hj; cases hj; omega)
        obtain ⟨i, hi⟩ : ∃ i, i = 4 * k := ⟨_, rfl⟩
        rw [← hi] at hke ⊢
        clear hi
        subst hke
        have HW := Lib.hid hrw'
        clear hrw hgr hrw'
        obtain ⟨z0, z1, z2, z3, z4, zf⟩ := hZ
        obtain ⟨f0, f1, f2, f3, f4, -⟩ := hF
        obtain ⟨p0', p1', p2', p3', p4', -⟩ := hP
        go_wp2_with fail
        refine bodyPost_ret (v := .agg #[.int .i64 x, .int .i64 y, .int .i64 v, .int .i64 h, .slice (some ⟨g, 0, none⟩) i i]) (by simp [results, Try.results115, go_sem, z0, z1, z2, z3, z4]) rfl ⟨g, rfl, by omega, fun j hj => ?_, ?_⟩
        · rw [← HW.out j hj]; simp [go_sem]
        · exact ((((BW.setCell (by simp) _).setCell (by simp) _).setCell (by simp) _).setCell (by simp) _).setCell (by simp) _
end Go.Proofs.Ytalgepfammpmbaa
