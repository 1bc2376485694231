/- The identity cube and cubes that are the same: cube.Identity, dyelaw2.cubes, dyelaw2.sameCube. Conditions: the size is right. -/
import Derived.Test.YtalgepfammpmbaaCuC
namespace Go.Proofs.Ytalgepfammpmbaa
open Go.RowKit
/-- A place's share of its axis. -/
def partF (n S : Nat) : Nat := fop .quo .f32 (floatOfInt .f32 (n : Int)) (floatOfInt .f32 ((S : Int) - 1))
set_option maxHeartbeats 800000 in
theorem part_any (n S : Nat) (w : World) (hS : S ≤ 17) : Calls Try.prog 171 #[.int .i64 n, .int .i64 S] w fun e w' => (∃ r, e = .returned (.float .f32 r) ∧ FR .f32 r (partF n S)) ∧ ∃ m, w' = w.drewN m := by
  have e1 : IntKind.i64.wrap ((S : Int) - 1) = (S : Int) - 1 := by rw [IntKind.wrap_i64]; omega
  go_enter Try.func171, Try.ntmps171
  go_wp2_with (first | ((with_reducible apply wpList_farith); rfl; rfl; rfl; intro _ _ _) | ((with_reducible apply wpList_up); rfl; exact Try.underlying27; exact Try.underlying151; intro _ _ _))
  rename_i r m hr
  go_ret
  refine ⟨⟨r, rfl, ?_⟩, _, rfl⟩
  rw [fop_cn_left, fop_cn_right] at hr
  exact hr
theorem enI_dec {S i j k : Nat} (hi : i < S) (hj : j < S) : enI S i j k % S = i ∧ enI S i j k / S % S = j ∧ enI S i j k / S / S = k := by
  unfold enI
  have h0 : 0 < S := by omega
  have e1 : (i + S * (j + S * k)) / S = j + S * k := by rw [Nat.add_mul_div_left _ _ h0, Nat.div_eq_of_lt hi, Nat.zero_add]
  have e2 : (j + S * k) / S = k := by rw [Nat.add_mul_div_left _ _ h0, Nat.div_eq_of_lt hj, Nat.zero_add]
  refine ⟨by rw [Nat.add_mul_mod_self_left, Nat.mod_eq_of_lt hi], ?_, ?_⟩
  · rw [e1, Nat.add_mul_mod_self_left, Nat.mod_eq_of_lt hj]
  · rw [e1, e2]
/-- The identity's entries. -/
def idG (S e m : Nat) : Nat := match m with
  | 0 => partF (e % S) S
  | 1 => partF (e / S % S) S
  | _ => partF (e / S / S) S
theorem idG_cn (S e m : Nat) : cn .f32 (idG S e m) = idG S e m := by
  unfold idG; split <;> exact cn_fop _ _ _ _
def IdPsi (S : Nat) (args : Array Value) (u : Value) : Prop := ∃ n : Nat, args = #[.int .i64 n, .int .i64 S] ∧ ∃ r, u = .float .f32 r ∧ FR .f32 r (partF n S)
theorem id_psi {S n : Nat} {u : Value} (h : IdPsi S #[.int .i64 n, .int .i64 S] u) : ∃ r, u = .float .f32 r ∧ FR .f32 r (partF n S) := by
  obtain ⟨n', h1, r, rfl, hr⟩ := h
  simp at h1
  obtain rfl : n' = n := by omega
  exact ⟨r, rfl, hr⟩
set_option maxRecDepth 100000 in
set_option maxHeartbeats 1600000 in
theorem Identity_closure (S i j k ps : Nat) (w : World) (hS : S ≤ 17) (hi : i < S) (hj : j < S) (hp : w.cell? ⟨ps, 0, none⟩ = some (.int .i64 S)) :
    Calls Try.prog 174 #[.int .i64 i, .int .i64 j, .int .i64 k, .pointer (some ⟨ps, 0, none⟩)] w fun e w' =>
      (∃ q : Nat → Nat, e = .returned (.agg #[.float .f32 (q 0), .float .f32 (q 1), .float .f32 (q 2)]) ∧ ∀ c, c < 3 → cn .f32 (q c) = idG S (enI S i j k) c) ∧ Below w.heap.size w w' := by
  have HE := Lib.hid (enI_dec (k := k) hi hj)
  have lp := cell_lt hp
  simp only at lp
  have HP := Lib.hid hp
  clear hi hj hp
  go_enter Try.func174, Try.ntmps174
  go_wp2_with fail
  refine wp_world (fun W hW => ?_)
  have B0 : Below w.heap.size w W := by rw [hW]; (repeat (first | exact Below.refl _ _ | assumption | (refine Below.setCell ?_ (by first | (simp; done) | (simp; omega) | omega) _) | (refine Below.drew ?_) | (refine below_drewN ?_ _) | (refine Below.alloc ?_ (by first | (simp; done) | (simp; omega) | omega) _) | (refine Below.trans ?_ (Below.mono (by assumption) (by first | (simp; done) | (simp; omega) | omega)))))
  have R0 : Blk W w.heap.size [.float .f32 0, .float .f32 0, .float .f32 0] := by rw [hW]; exact Blk.new _ _ _ _ rfl
  have g0 := (B0.cell (p := ⟨ps, 0, none⟩) lp).trans HP.out
  have l1 : ps < W.heap.size := by have := B0.size; omega
  have R := Lib.hid R0; have B := Lib.hid B0
  clear hW R0 B0 lp
  refine wp_region_loose 9 (fun _ args u => IdPsi S args u) (by kernel_rfl) (by kernel_rfl) ?_
  simp only [List.take_succ_cons, List.take_zero, List.drop_succ_cons, List.drop_zero]
  iterate 2 (refine loose_wanted rfl (fun K hK => ?_); go_simp; refine hK _ ?_; clear hK K)
  refine loose_wanted rfl (fun K1 hK => ?_)
  go_simp
  refine ⟨fun p => (part_any _ _ p.w hS).mono ?_, ?_⟩
  · rintro e w' ⟨⟨r, rfl, hr⟩, m, rfl⟩
    exact ⟨_, rfl, ⟨_, rfl, r, rfl, hr⟩, below_drewN p.h m⟩
  intro u hu
  obtain ⟨r0, rfl, hr0⟩ := id_psi hu
  refine hK _ ?_
  clear hK K1 hu
  iterate 2 (refine loose_wanted rfl (fun K hK => ?_); go_simp; refine hK _ ?_; clear hK K)
  refine loose_wanted rfl (fun K1 hK => ?_)
  go_simp
  refine ⟨fun p => (part_any _ _ p.w hS).mono ?_, ?_⟩
  · rintro e w' ⟨⟨r, rfl, hr⟩, m, rfl⟩
    exact ⟨_, rfl, ⟨_, rfl, r, rfl, hr⟩, below_drewN p.h m⟩
  intro u hu
  obtain ⟨r1, rfl, hr1⟩ := id_psi hu
  refine hK _ ?_
  clear hK K1 hu
  iterate 2 (refine loose_wanted rfl (fun K hK => ?_); go_simp; refine hK _ ?_; clear hK K)
  refine loose_wanted rfl (fun K1 hK => ?_)
  go_simp
  refine ⟨fun p => (part_any _ _ p.w hS).mono ?_, ?_⟩
  · rintro e w' ⟨⟨r, rfl, hr⟩, m, rfl⟩
    exact ⟨_, rfl, ⟨_, rfl, r, rfl, hr⟩, below_drewN p.h m⟩
  intro u hu
  obtain ⟨r2, rfl, hr2⟩ := id_psi hu
  refine hK _ ?_
  clear hK K1 hu
  refine loose_nil (fun w5 hb5 => ?_)
  have H0 := Lib.hid hr0; have H1 := Lib.hid hr1; have H2 := Lib.hid hr2
  have R5 := R.out.past hb5
  have B5 := B.out.trans (hb5.mono B.out.size)
  clear hb5 g0 l1 hr0 hr1 hr2
  have d0 := R5.c 0 _ rfl; have d1 := R5.c 1 _ rfl; have d2 := R5.c 2 _ rfl; have df := R5.f
  clear R5
  go_wp2_with fail
  refine bodyPost_ret (v := .agg #[.float .f32 r0, .float .f32 r1, .float .f32 r2]) (by simp [results, Try.results174, go_sem, d0, d1, d2]) rfl ⟨⟨fun c => match c with | 0 => r0 | 1 => r1 | _ => r2, rfl, fun c hc => ?_⟩, ?_⟩
  · obtain ⟨e1, e2, e3⟩ := HE.out
    rcases (show c = 0 ∨ c = 1 ∨ c = 2 by omega) with rfl | rfl | rfl
    · show cn .f32 r0 = partF (enI S i j k % S) S; rw [e1]; exact H0.out.eq
    · show cn .f32 r1 = partF (enI S i j k / S % S) S; rw [e2]; exact H1.out.eq
    · show cn .f32 r2 = partF (enI S i j k / S / S) S; rw [e3]; exact H2.out.eq
  · exact ((B5.setCell (by first | (simp; done) | (simp; omega) | omega) _).setCell (by first | (simp; done) | (simp; omega) | omega) _).setCell (by first | (simp; done) | (simp; omega) | omega) _
set_option maxRecDepth 100000 in
set_option maxHeartbeats 1600000 in
theorem Identity_yes (S : Nat) (w : World) (hS : 2 ≤ S ∧ S ≤ 17) : Calls Try.prog 95 #[.int .i64 S] w fun e w' =>
    ∃ g cap : Nat, e = .returned (.tuple #[.agg #[.int .i64 S, .float .f32 0, .float .f32 1065353216, .slice (some ⟨g, 0, none⟩) (3 * (S * S * S)) cap], .int .i64 0]) ∧ w.heap.size ≤ g ∧ g < w'.heap.size ∧ 3 * (S * S * S) ≤ cap ∧ cap ≤ 9223372036854775807 ∧ Row w' g 0 (3 * (S * S * S)) (fun i => idG S (i / 3) (i % 3)) ∧ Below w.heap.size w w' := by
  obtain ⟨s1, s2⟩ := hS
  have HS := Lib.hid (And.intro s1 s2)
  go_enter Try.func95, Try.ntmps95
  go_wp2_with fail
  refine calls_world (fun W hW => ?_)
  have B0 : Below w.heap.size w W := by rw [hW]; (repeat (first | exact Below.refl _ _ | assumption | (refine Below.setCell ?_ (by first | (simp; done) | (simp; omega) | omega) _) | (refine Below.drew ?_) | (refine below_drewN ?_ _) | (refine Below.alloc ?_ (by first | (simp; done) | (simp; omega) | omega) _) | (refine Below.trans ?_ (Below.mono (by assumption) (by first | (simp; done) | (simp; omega) | omega)))))
  have P0 : Blk W w.heap.size [.int .i64 S] := by rw [hW]; exact (Blk.new _ _ _ _ rfl).alloc _
  have Z0 : Blk W (w.heap.size + 1) [.int .i64 0, .float .f32 0, .float .f32 0, .slice none 0 0] := by rw [hW]; exact Blk.new _ _ _ _ (by simp)
  have HP := Lib.hid P0; have HZ := Lib.hid Z0; have HB := Lib.hid B0
  clear hW P0 Z0 B0
  refine (made_any 174 #[.pointer (some ⟨w.heap.size, 0, none⟩)] S 0 1065353216 (idG S) W s2 (by omega) (body_enters Try.func174 (by kernel_rfl) rfl) (fun i j k w' hi hj _ hb => Identity_closure S i j k w.heap.size w' HS.out.2 hi hj ((HP.out.past hb).c 0 _ rfl))).mono ?_
  rintro e w3 ⟨g, cap, rfl, hg1, hg2, hg3, hg4, hrow, hb3⟩
  have Z3 := HZ.out.past hb3
  have B3 := HB.out.trans (hb3.mono HB.out.size)
  have HR := Lib.hid (And.intro hg3 (And.intro hg4 hrow))
  have hsz := HB.out.size
  clear hb3 hrow hg3 hg4
  have z0 := Z3.c 0 _ rfl; have z1 := Z3.c 1 _ rfl; have z2 := Z3.c 2 _ rfl; have z3 := Z3.c 3 _ rfl; have zf := Z3.f
  have lz := HZ.out.lt
  clear Z3
  go_wp2_with fail
  refine bodyPost_ret (v := .tuple #[.agg #[.int .i64 S, .float .f32 0, .float .f32 1065353216, .slice (some ⟨g, 0, none⟩) (3 * (S * S * S)) cap], .int .i64 0]) (by simp [results, Try.results95, go_sem, z0, z1, z2, z3]) rfl ⟨g, cap, rfl, by omega, by simp; omega, HR.out.1, HR.out.2.1, fun i hi => ?_, ?_⟩
  · rw [← HR.out.2.2 i hi]
    simp [go_sem]
  · exact (((B3.setCell (by first | (simp; done) | (simp; omega) | omega) _).setCell (by first | (simp; done) | (simp; omega) | omega) _).setCell (by first | (simp; done) | (simp; omega) | omega) _).setCell (by first | (simp; done) | (simp; omega) | omega) _
theorem idG_one : idG 2 1 0 = 1065353216 := by decide +kernel
theorem id_row3 {w : World} {g : Nat} (h : Row w g 0 (3 * (2 * 2 * 2)) (fun i => idG 2 (i / 3) (i % 3))) : w.cell? ⟨g, 3, none⟩ = some (.float .f32 1065353216) := by
  have := h 3 (by decide)
  rw [← idG_one]
  exact this
set_option maxRecDepth 100000 in
set_option maxHeartbeats 1600000 in
theorem cubes_any (w : World) : Calls Try.prog 64 #[] w fun e w' => e = .returned (.bool true) ∧ Below w.heap.size w w' := by
  have h1 : (FloatKind.f32.format.order 1065353216 1065353216 == some .eq) = true := by decide +kernel
  go_enter Try.func64, Try.ntmps64
  go_wp2_with (first | (go_at_call 95; refine (Identity_yes 2 _ (by decide)).mono ?_; rintro e w2 ⟨g, cap, rfl, hg1, hg2, hg3, hg4, hrow, hb2⟩; have c3 := id_row3 hrow; have hs2 := hb2.size; clear hrow))
  go_ret
  refine ⟨rfl, ?_⟩
  (repeat (first | exact Below.refl _ _ | assumption | (refine Below.setCell ?_ (by first | (simp; done) | (simp; omega) | omega) _) | (refine Below.drew ?_) | (refine below_drewN ?_ _) | (refine Below.alloc ?_ (by first | (simp; done) | (simp; omega) | omega) _) | (refine Below.trans ?_ (Below.mono (by assumption) (by first | (simp; done) | (simp; omega) | omega)))))
set_option maxRecDepth 100000 in
set_option maxHeartbeats 1600000 in
theorem EqualFunc_yes (b1 o1 b2 o2 n k1 k2 : Nat) (fs : Nat → Nat) (w : World) (hn : n ≤ 65536) (h1 : Row w b1 o1 n fs) (h2 : Row w b2 o2 n fs) :
    Calls Try.prog 156 #[.slice (some ⟨b1, o1, none⟩) n k1, .slice (some ⟨b2, o2, none⟩) n k2, .func (.func 36) #[] #[]] w fun e w' => e = .returned (.bool true) ∧ w = w' := by
  have H1 := Lib.hid h1; have H2 := Lib.hid h2
  clear h1 h2
  go_enter Try.func156, Try.ntmps156
  go_wp2_with fail
  go_loopw [17] (fun s wr => ∃ k : Nat, k ≤ n ∧ s = .int .i64 k ∧ w = wr) (fun s _ => n - (intOf s).toNat)
  case atStart => exact ⟨0, Nat.zero_le _, rfl, by first | rfl | trivial⟩
  case round =>
    obtain ⟨k, hk, rfl, rfl⟩ := hrel
    by_cases hkn : k < n
    · have c1 := H1.out k hkn; have c2 := H2.out k hkn
      generalize fs k = v at *
      go_wp2_with (first | (go_at_call 36; refine (same_any _ _ _).mono ?_; rintro e w' ⟨rfl, rfl⟩))
      go_roundw
      case rel => exact ⟨k + 1, by omega, by go_num, by first | rfl | trivial⟩
      case measure => simp [intOf]; omega
    · have : k = n := by omega
      subst this
      go_wp2_with fail
      go_ret
      exact ⟨rfl, rfl⟩
set_option maxRecDepth 100000 in
set_option maxHeartbeats 1600000 in
theorem sameCube_yes (S : Int) (lo hi b1 o1 b2 o2 n k1 k2 : Nat) (fs : Nat → Nat) (w : World) (hn : n ≤ 65536) (hn0 : 0 < n) (h1 : Row w b1 o1 n fs) (h2 : Row w b2 o2 n fs) :
    Calls Try.prog 70 #[.agg #[.int .i64 S, .float .f32 lo, .float .f32 hi, .slice (some ⟨b1, o1, none⟩) n k1], .agg #[.int .i64 S, .float .f32 lo, .float .f32 hi, .slice (some ⟨b2, o2, none⟩) n k2]] w fun e w' => e = .returned (.bool true) ∧ Below w.heap.size w w' := by
  have H1 := Lib.hid h1; have H2 := Lib.hid h2; have L1 := Lib.hid (h1.lt hn0); have L2 := Lib.hid (h2.lt hn0)
  clear h1 h2
  go_enter Try.func70, Try.ntmps70
  go_wp2_with (first | (go_at_call 36; refine (same_any _ _ _).mono ?_; rintro e w' ⟨rfl, rfl⟩) | (go_at_call 156; refine (EqualFunc_yes b1 o1 b2 o2 n k1 k2 fs _ hn (H1.out.below (m := w.heap.size) (by (repeat (first | exact Below.refl _ _ | assumption | (refine Below.setCell ?_ (by first | (simp; done) | (simp; omega) | omega) _) | (refine Below.drew ?_) | (refine below_drewN ?_ _) | (refine Below.alloc ?_ (by first | (simp; done) | (simp; omega) | omega) _) | (refine Below.trans ?_ (Below.mono (by assumption) (by first | (simp; done) | (simp; omega) | omega)))))) L1.out) (H2.out.below (m := w.heap.size) (by (repeat (first | exact Below.refl _ _ | assumption | (refine Below.setCell ?_ (by first | (simp; done) | (simp; omega) | omega) _) | (refine Below.drew ?_) | (refine below_drewN ?_ _) | (refine Below.alloc ?_ (by first | (simp; done) | (simp; omega) | omega) _) | (refine Below.trans ?_ (Below.mono (by assumption) (by first | (simp; done) | (simp; omega) | omega)))))) L2.out)).mono ?_; rintro e w' ⟨rfl, rfl⟩))
  go_ret
  refine ⟨ret_b (by simp), ?_⟩
  (repeat (first | exact Below.refl _ _ | assumption | (refine Below.setCell ?_ (by first | (simp; done) | (simp; omega) | omega) _) | (refine Below.drew ?_) | (refine below_drewN ?_ _) | (refine Below.alloc ?_ (by first | (simp; done) | (simp; omega) | omega) _) | (refine Below.trans ?_ (Below.mono (by assumption) (by first | (simp; done) | (simp; omega) | omega)))))
end Go.Proofs.Ytalgepfammpmbaa
