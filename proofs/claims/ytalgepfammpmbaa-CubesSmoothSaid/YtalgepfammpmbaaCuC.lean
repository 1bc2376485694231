/- A cube of entries that are made: cube.made, by any closure. Conditions: the size is right; the closure answers within it. -/
import Derived.Test.YtalgepfammpmbaaCuB
namespace Go.Proofs.Ytalgepfammpmbaa
open Go.RowKit
theorem own_form {w : World} {base : Nat} {e : TypeId} {size : Nat} {v : Value} {n : Nat} {xs : List Value} (h : w.ownsRow base e size v n xs) (hn : 0 < n) : ∃ g cap, v = .slice (some ⟨g, 0, none⟩) n cap ∧ base ≤ g ∧ g < w.heap.size ∧ n ≤ cap ∧ cap ≤ 9223372036854775807 := by
  rcases h.2 with ⟨-, h0⟩ | ⟨g, cap, cur, h1, h2, h3, h4, h5, -⟩
  · omega
  · refine ⟨g, cap, h1, h2, ?_, h4, by unfold maxLen at h5; omega⟩
    rcases Nat.lt_or_ge g w.heap.size with h' | h'
    · exact h'
    · rw [Array.getElem?_eq_none h'] at h3; cases h3
/-- What a maker of entries gives within the size. -/
def EntOK (K : Nat) (caps : Array Value) (w : World) (S : Nat) (G : Nat → Nat → Nat) : Prop :=
  ∀ (i j k : Nat) w', i < S → j < S → k < S → Below w.heap.size w w' → Calls Try.prog K (#[.int .i64 i, .int .i64 j, .int .i64 k] ++ caps) w' fun e w'' =>
    (∃ q : Nat → Nat, e = .returned (.agg #[.float .f32 (q 0), .float .f32 (q 1), .float .f32 (q 2)]) ∧ ∀ c, c < 3 → cn .f32 (q c) = G (enI S i j k) c) ∧ Below w'.heap.size w' w''
def made3L (G : Nat → Nat → Nat) (N : Nat) : List Value := (List.range (3 * N)).map fun j => .float .f32 (G (j / 3) (j % 3))
theorem made3_succ (G : Nat → Nat → Nat) (N : Nat) : made3L G (N + 1) = made3L G N ++ [.float .f32 (G N 0), .float .f32 (G N 1), .float .f32 (G N 2)] := by
  unfold made3L
  rw [show 3 * (N + 1) = 3 * N + 1 + 1 + 1 by omega, List.range_succ, List.range_succ, List.range_succ]
  simp only [List.map_append, List.map_cons, List.map_nil, List.append_assoc, List.cons_append, List.nil_append]
  rw [show 3 * N / 3 = N by omega, show 3 * N % 3 = 0 by omega, show (3 * N + 1) / 3 = N by omega, show (3 * N + 1) % 3 = 1 by omega, show (3 * N + 1 + 1) / 3 = N by omega, show (3 * N + 1 + 1) % 3 = 2 by omega]
/-- What stands behind N entries: the cube's variable at nc, the result's at nr. -/
structure CubR (w wr : World) (nr nc base : Nat) (S lo hi : Nat) (G : Nat → Nat → Nat) (N : Nat) (s : Value) : Prop where
  cub : Blk wr nc [.int .i64 S, .float .f32 lo, .float .f32 hi, s]
  own : wr.ownsRow base 27 1 s (3 * N) (made3L G N)
  res : Blk wr nr [.int .i64 0, .float .f32 0, .float .f32 0, .slice none 0 0]
  bel : Below w.heap.size w wr
  lay : w.heap.size ≤ nr ∧ w.heap.size ≤ nc ∧ nr < base ∧ nc < base ∧ nr ≠ nc
theorem CubR.past {w wr w2 : World} {nr nc base S lo hi : Nat} {G : Nat → Nat → Nat} {N : Nat} {s : Value} (k : CubR w wr nr nc base S lo hi G N s) (hb : Below wr.heap.size wr w2) : CubR w w2 nr nc base S lo hi G N s :=
  ⟨k.cub.past hb, own_past k.own hb, k.res.past hb, k.bel.trans (hb.mono k.bel.size), k.lay⟩
theorem CubR.step {w wa w1 : World} {nr nc base S lo hi : Nat} {G : Nat → Nat → Nat} {N : Nat} {s s' : Value} (k : CubR w wa nr nc base S lo hi G N s) (hown : w1.ownsRow base 27 1 s' (3 * N + 3) (made3L G N ++ [.float .f32 (G N 0), .float .f32 (G N 1), .float .f32 (G N 2)])) (hg : wa.grownBy w1 s.ownBlock) :
    CubR w (w1.setCell ⟨nc, 3, none⟩ s') nr nc base S lo hi G (N + 1) s' := by
  obtain ⟨l1, l2, l3, l4, l5⟩ := k.lay
  have fc := hg.block _ k.cub.lt (own_block k.own l4)
  have fr := hg.block _ k.res.lt (own_block k.own l3)
  refine ⟨(k.cub.block hg.size fc).set 3 s', ?_, (k.res.block hg.size fr).far _ _ (Ne.symm l5), ?_, k.lay⟩
  · rw [made3_succ]; exact own_far hown _ _ l4
  · refine (k.bel.grown hg (by have := k.cub.lt; omega) (fun j hj => ?_)).setCell l2 _
    have := k.own.lt j hj
    omega
theorem CubR.app {w wr wa w1 : World} {nr nc base S lo hi : Nat} {G : Nat → Nat → Nat} {N : Nat} {s s' : Value} {v0 v1 v2 : Nat} (k0 : CubR w wr nr nc base S lo hi G N s) (hb : Below wr.heap.size wr wa) (hown : w1.ownsRow base 27 1 s' (3 * N + 3) (made3L G N ++ [.float .f32 v0, .float .f32 v1, .float .f32 v2])) (h0 : v0 = G N 0) (h1 : v1 = G N 1) (h2 : v2 = G N 2) (hg : wa.grownBy w1 s.ownBlock) :
    w1.cell? ⟨nc, 3, none⟩ = some s ∧ w1.frozen? ⟨nc, 3, none⟩ = false ∧ CubR w (w1.setCell ⟨nc, 3, none⟩ s') nr nc base S lo hi G (N + 1) s' := by
  have k := k0.past hb
  obtain ⟨l1, l2, l3, l4, l5⟩ := k.lay
  have blk := hg.block nc k.cub.lt (own_block k.own l4)
  exact ⟨(World.cell?_of_block blk).trans (k.cub.c 3 _ rfl), (World.frozen?_of_block blk).trans (k.cub.f _), k.step (by subst h0 h1 h2; exact hown) hg⟩
set_option maxRecDepth 100000 in
set_option maxHeartbeats 3200000 in
theorem made_any (K : Nat) (caps : Array Value) (S lo hi : Nat) (G : Nat → Nat → Nat) (w : World) (hS : S ≤ 17) (hS0 : 0 < S)
    (hent : ∀ args w, (callFunc K args).run Try.prog w = .ok (.enter K args) w) (hk : EntOK K caps w S G) :
    Calls Try.prog 148 #[.int .i64 S, .float .f32 lo, .float .f32 hi, .func (.func K) #[] caps] w fun e w' =>
      ∃ g cap : Nat, e = .returned (.agg #[.int .i64 S, .float .f32 lo, .float .f32 hi, .slice (some ⟨g, 0, none⟩) (3 * (S * S * S)) cap]) ∧ w.heap.size ≤ g ∧ g < w'.heap.size ∧ 3 * (S * S * S) ≤ cap ∧ cap ≤ 9223372036854775807 ∧ Row w' g 0 (3 * (S * S * S)) (fun i => G (i / 3) (i % 3)) ∧ Below w.heap.size w w' := by
  obtain ⟨b1, b2⟩ := cub_nat hS
  have hk' := Lib.hid hk; clear hk
  obtain ⟨i0, hi0, hz0, hz1, hz2⟩ := info_parts infoF32
  go_enter Try.func148, Try.ntmps148
  go_wp2_with fail
  refine wp_world (fun W hW => ?_)
  have M0 : CubR w W w.heap.size (w.heap.size + 1) (w.heap.size + 2) S lo hi G 0 (.slice none 0 0) := by
    rw [hW]
    exact ⟨by first | exact Blk.new _ _ _ _ (by simp) | exact (((((Blk.new _ _ _ _ (by simp)).set 0 _).set 1 _).set 2 _).set 3 _), World.ownsRow_nil _ _ _ _, by first | exact (Blk.new _ _ _ _ rfl).alloc _ | exact (((((Blk.new _ _ _ _ rfl).alloc _).far _ _ (by simp)).far _ _ (by simp)).far _ _ (by simp)).far _ _ (by simp), by (repeat (first | exact Below.refl _ _ | assumption | (refine Below.setCell ?_ (by first | (simp; done) | (simp; omega) | omega) _) | (refine Below.drew ?_) | (refine below_drewN ?_ _) | (refine Below.alloc ?_ (by first | (simp; done) | (simp; omega) | omega) _) | (refine Below.trans ?_ (Below.mono (by assumption) (by first | (simp; done) | (simp; omega) | omega))))), by omega, by omega, by omega, by omega, by omega⟩
  clear hW
  go_loopw [19] (fun s wr => ∃ k : Nat, k ≤ S ∧ s = .int .i64 k ∧ ∃ s, CubR w wr w.heap.size (w.heap.size + 1) (w.heap.size + 2) S lo hi G (S * (S * k)) s) (fun s _ => S - (intOf s).toNat)
  case atStart => exact ⟨0, Nat.zero_le _, rfl, _, by simpa using M0⟩
  case round =>
    obtain ⟨k, hk, rfl, s, M⟩ := hrel
    have HM := Lib.hid M
    clear M M0
    by_cases hkS : k < S
    · go_wp2_with fail
      go_loopw [23] (fun s wr => ∃ j : Nat, j ≤ S ∧ s = .int .i64 j ∧ ∃ s, CubR w wr w.heap.size (w.heap.size + 1) (w.heap.size + 2) S lo hi G (S * (j + S * k)) s) (fun s _ => S - (intOf s).toNat)
      case atStart => exact ⟨0, Nat.zero_le _, rfl, s, by rw [Nat.zero_add]; exact HM.out⟩
      case round =>
        obtain ⟨j, hj, rfl, t, M⟩ := hrel
        have HM2 := Lib.hid M
        clear M HM
        by_cases hjS : j < S
        · go_wp2_with fail
          go_loopw [27] (fun s wr => ∃ i : Nat, i ≤ S ∧ s = .int .i64 i ∧ ∃ s, CubR w wr w.heap.size (w.heap.size + 1) (w.heap.size + 2) S lo hi G (i + S * (j + S * k)) s) (fun s _ => S - (intOf s).toNat)
          case atStart => exact ⟨0, Nat.zero_le _, rfl, t, by rw [Nat.zero_add]; exact HM2.out⟩
          case round =>
            obtain ⟨i, hi, rfl, u, M⟩ := hrel
            have HM3 := Lib.hid M
            clear M HM2
            by_cases hiS : i < S
            · have hlt := enI_lt hiS hjS hkS
              obtain ⟨N, hN⟩ : ∃ N, N = enI S i j k := ⟨_, rfl⟩
              have hN2 : i + S * (j + S * k) = N := by rw [hN]; rfl
              rw [hN2] at HM3
              rw [← hN] at hlt
              have HN := Lib.hid (And.intro hN hN2)
              clear hN hN2
              go_wp2_with fail
              refine (hk'.out i j k _ hiS hjS hkS HM3.out.bel).mono ?_
              rintro e w1 ⟨⟨q, rfl, hq⟩, hb1⟩
              rw [← HN.out.1] at hq
              have M1 := HM3.out.past hb1
              clear hb1
              have q0 := Lib.hid (hq 0 (by omega)); have q1 := Lib.hid (hq 1 (by omega)); have q2 := Lib.hid (hq 2 (by omega))
              have HM1 := Lib.hid M1
              clear hq M1
              go_wp2_with (first | (go_at_call 159; refine (cleaned_any _ _ _ _).mono ?_; rintro e w2 ⟨rfl, hb2⟩; have M2 := HM1.out.past hb2; have HM2 := Lib.hid M2; clear hb2 M2))
              refine wp_world (fun W3 hW3 => ?_)
              have VB : Blk W3 w2.heap.size [.float .f32 (cn .f32 (q 0)), .float .f32 (cn .f32 (q 1)), .float .f32 (cn .f32 (q 2))] := by rw [hW3]; exact Blk.new _ _ _ _ rfl
              have M3 := HM2.out.past (show Below w2.heap.size w2 W3 by rw [hW3]; (repeat (first | exact Below.refl _ _ | assumption | (refine Below.setCell ?_ (by first | (simp; done) | (simp; omega) | omega) _) | (refine Below.drew ?_) | (refine below_drewN ?_ _) | (refine Below.alloc ?_ (by first | (simp; done) | (simp; omega) | omega) _) | (refine Below.trans ?_ (Below.mono (by assumption) (by first | (simp; done) | (simp; omega) | omega))))))
              have c3 := M3.cub.c 3 _ rfl
              have cf := M3.cub.f
              have lc := M3.cub.lt
              have v0 := VB.c 0 _ rfl; have v1 := VB.c 1 _ rfl; have v2 := VB.c 2 _ rfl
              have hbs := M3.bel.size
              have lv := VB.lt
              have HM4 := Lib.hid M3
              clear hW3 HM2 HM1 HM3 M3 VB
              go_region_law (refine step_append_lies _ rfl (.tmp 37) (.tmp 38) 24 rfl (w.heap.size + 2) 27 i0 (.float .f32 0) 1 4 Try.underlying24 hi0 hz0 hz1 hz2 rfl (by decide) u (3 * N) (made3L G N) rfl (by first | exact HM4.out.own | exact own_past HM4.out.own (by (repeat (first | exact Below.refl _ _ | assumption | (refine Below.setCell ?_ (by first | (simp; done) | (simp; omega) | omega) _) | (refine Below.drew ?_) | (refine below_drewN ?_ _) | (refine Below.alloc ?_ (by first | (simp; done) | (simp; omega) | omega) _) | (refine Below.trans ?_ (Below.mono (by assumption) (by first | (simp; done) | (simp; omega) | omega))))))) ⟨w2.heap.size, 0, none⟩ 3 3 [.float .f32 (cn .f32 (q 0)), .float .f32 (cn .f32 (q 1)), .float .f32 (cn .f32 (q 2))] rfl rfl (by intro j u hj; match j, hj with | 0, hj => (simp at hj; subst hj; simpa [Addr.add] using v0) | 1, hj => (simp at hj; subst hj; simpa [Addr.add] using v1) | 2, hj => (simp at hj; subst hj; simpa [Addr.add] using v2)) (by intro u hu; simp at hu; rcases hu with rfl | rfl | rfl <;> rfl) (by decide) (by unfold maxLen; omega) (by omega) (by simp; omega) _ rfl ?_; intro g cap w1 hown hgrow hat hlt; obtain ⟨f4w, ffw, MS0⟩ := CubR.app HM4.out (by (repeat (first | exact Below.refl _ _ | assumption | (refine Below.setCell ?_ (by first | (simp; done) | (simp; omega) | omega) _) | (refine Below.drew ?_) | (refine below_drewN ?_ _) | (refine Below.alloc ?_ (by first | (simp; done) | (simp; omega) | omega) _) | (refine Below.trans ?_ (Below.mono (by assumption) (by first | (simp; done) | (simp; omega) | omega)))))) hown q0.out q1.out q2.out hgrow; have MS := Lib.hid MS0; clear MS0 hown hgrow)
              all_goals
                go_wp2_with fail
                go_roundw
                case rel => exact ⟨i + 1, by omega, by go_num, _, by rw [show i + 1 + S * (j + S * k) = N + 1 by have := HN.out.2; omega]; exact MS.out⟩
                case measure => simp [intOf]; omega
            · have hie : i = S := by omega
              subst hie
              go_wp2_with fail
              go_roundw
              case rel => exact ⟨j + 1, by omega, by go_num, u, by rw [show i * (j + 1 + i * k) = i + i * (j + i * k) by rw [show j + 1 + i * k = (j + i * k) + 1 by omega, Nat.mul_add, Nat.mul_one, Nat.add_comm]]; exact HM3.out⟩
              case measure => simp [intOf]; omega
        · have hje : j = S := by omega
          subst hje
          go_wp2_with fail
          go_roundw
          case rel => exact ⟨k + 1, by omega, by go_num, t, by rw [show j * (k + 1) = j + j * k by rw [Nat.mul_add, Nat.mul_one, Nat.add_comm]]; exact HM2.out⟩
          case measure => simp [intOf]; omega
    · have hke : k = S := by omega
      subst hke
      have e0 : k * (k * k) = k * k * k := by rw [Nat.mul_assoc]
      rw [e0] at HM
      have hpos : 0 < k * k * k := Nat.mul_pos (Nat.mul_pos hS0 hS0) hS0
      obtain ⟨g, cap, rfl, hg1, hg2, hg3, hg4⟩ := own_form HM.out.own (by omega)
      have hcells := HM.out.own.cells (g := g) rfl
      have HC := Lib.hid hcells; clear hcells
      have c0 := HM.out.cub.c 0 _ rfl; have c1 := HM.out.cub.c 1 _ rfl; have c2 := HM.out.cub.c 2 _ rfl; have c3 := HM.out.cub.c 3 _ rfl
      have z0 := HM.out.res.c 0 _ rfl; have z1 := HM.out.res.c 1 _ rfl; have z2 := HM.out.res.c 2 _ rfl; have z3 := HM.out.res.c 3 _ rfl
      have zf := HM.out.res.f
      have zl := HM.out.res.lt
      go_wp2_with fail
      refine bodyPost_ret (v := .agg #[.int .i64 k, .float .f32 lo, .float .f32 hi, .slice (some ⟨g, 0, none⟩) (3 * (k * k * k)) cap]) (by simp [results, Try.results148, go_sem, z0, z1, z2, z3]) rfl ⟨g, cap, rfl, by omega, by simp; omega, hg3, hg4, fun x hx => ?_, ?_⟩
      · have := HC.out x (.float .f32 (G (x / 3) (x % 3))) (by simp [made3L, hx])
        rw [Go.WideShapes.add_plain] at this
        rw [Nat.zero_add, ← this]
        simp [go_sem]
      · exact (((HM.out.bel.setCell (by simp) _).setCell (by simp) _).setCell (by simp) _).setCell (by simp) _
end Go.Proofs.Ytalgepfammpmbaa
