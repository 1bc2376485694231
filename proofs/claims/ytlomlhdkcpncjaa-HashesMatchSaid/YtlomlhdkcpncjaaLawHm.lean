/- HashesMatch, MixesMatch and NearMatches: the walks of the statements. No condition. -/
import Derived.Test.YtlomlhdkcpncjaaCount
import Derived.Test.YtlomlhdkcpncjaaOpen
namespace Go.Proofs.Ytlomlhdkcpncjaa
open Go.RowKit
set_option maxRecDepth 100000 in
set_option maxHeartbeats 1600000 in
theorem hm_walk (s x y n : Int) (w : World) (_ : IntKind.u32.min ≤ s ∧ s ≤ IntKind.u32.max) (_ : IntKind.i64.min ≤ x ∧ x ≤ IntKind.i64.max) (_ : IntKind.i64.min ≤ y ∧ y ≤ IntKind.i64.max) (_ : IntKind.i64.min ≤ n ∧ n ≤ IntKind.i64.max) :
    Calls Try.prog 3 #[.int .u32 s, .int .i64 x, .int .i64 y, .int .i64 n] w fun e w' => e = .returned (.bool true) ∧ Below w.heap.size w w' := by
  obtain ⟨b0, b1⟩ := hashZ_bd s x y n
  have b2 : (FloatKind.f32.format.order (unitF (hashZ s x y n)) (unitF (hashZ s x y n)) == some .eq) = true := by
    rw [ord_self_eq, unit_not_nan b0 b1]; rfl
  go_enter Try.func3, Try.ntmps3
  go_wp2_with (first | (go_at_call 9; refine (counts_any _).mono ?_; rintro e w' ⟨rfl, m, rfl⟩) | (go_at_call 8; refine (Hash_any _ _ _ _ _).mono ?_; rintro e w' ⟨rfl, rfl⟩) | (go_at_call 10; refine (HashOf_any _ _ _ _ _).mono ?_; rintro e w1 ⟨rfl, hb1⟩) | (go_at_call 11; refine (Unit_any _ _ b0 b1).mono ?_; rintro e w' ⟨m, rfl, rfl⟩) | (go_at_call 12; refine (UnitOf_any _ _ b0 b1).mono ?_; rintro e w' ⟨m, rfl, rfl⟩))
  go_ret
  refine ⟨ret_b (by simp [*]), ?_⟩
  (repeat (first | exact Below.refl _ _ | assumption | (refine Below.setCell ?_ (by first | (simp; done) | (simp; omega) | omega) _) | (refine Below.drew ?_) | (refine below_drewN ?_ _) | (refine Below.alloc ?_ (by first | (simp; done) | (simp; omega) | omega) _) | (refine Below.trans ?_ (Below.mono (by assumption) (by first | (simp; done) | (simp; omega) | omega)))))
/-- What mixing hands back. -/
def lerpF (a b t : Nat) : Nat := if FloatKind.f32.format.order t 0 == some .eq then cn .f32 a else if FloatKind.f32.format.order t 1065353216 == some .eq then cn .f32 b else fop .add .f32 (cn .f32 a) (fop .mul .f32 (fop .sub .f32 (cn .f32 b) (cn .f32 a)) (cn .f32 t))
theorem lerp_FR {a b t r1 r2 r3 : Nat} (h1 : FR .f32 r1 (fop .sub .f32 (cn .f32 b) (cn .f32 a))) (h2 : FR .f32 r2 (fop .mul .f32 (cn .f32 r1) (cn .f32 t))) (h3 : FR .f32 r3 (fop .add .f32 (cn .f32 a) (cn .f32 r2)))
    (c0 : (FloatKind.f32.format.order t 0 == some .eq) = false) (c1 : (FloatKind.f32.format.order t 1065353216 == some .eq) = false) : cn .f32 r3 = lerpF a b t := by
  unfold lerpF; rw [c0, c1, h3.eq, h2.eq, h1.eq]; rfl
set_option maxHeartbeats 800000 in
theorem Lerp_any (a b t : Nat) (w : World) : Calls Try.prog 25 #[.float .f32 a, .float .f32 b, .float .f32 t] w fun e w' => e = .returned (.float .f32 (lerpF a b t)) ∧ ∃ m, w' = w.drewN m := by
  go_enter Try.func25, Try.ntmps25
  go_wp2_with (first | ((with_reducible apply wpList_farith); rfl; rfl; rfl; intro _ _ _) | ((with_reducible apply wpList_up); rfl; exact Try.underlying25; exact Try.underlying28; intro _ _ _) | (go_at_call 17; refine (Clean_any _ _).mono ?_; rintro e w' ⟨rfl, rfl⟩))
  · rename_i h; go_ret; exact ⟨ret_f (by unfold lerpF; rw [h]; rfl), 0, rfl⟩
  · rename_i h0 h1; go_ret; exact ⟨ret_f (by unfold lerpF; rw [h0, h1]; rfl), 0, rfl⟩
  · rename_i h0 h1 _ _ a1 _ _ a2 _ _ a3; go_ret; exact ⟨ret_f (lerp_FR a1 a2 a3 h0 h1), _, rfl⟩
set_option maxHeartbeats 800000 in
theorem LerpOf_any (a b t : Nat) (w : World) : Calls Try.prog 26 #[.float .f32 a, .float .f32 b, .float .f32 t] w fun e w' => e = .returned (.float .f32 (lerpF a b t)) ∧ ∃ m, w' = w.drewN m := by
  go_enter Try.func26, Try.ntmps26
  go_wp2_with (first | ((with_reducible apply wpList_farith); rfl; rfl; rfl; intro _ _ _) | ((with_reducible apply wpList_up); rfl; exact Try.underlying25; exact Try.underlying28; intro _ _ _) | (go_at_call 18; refine (Fix_any _ _).mono ?_; rintro e w' ⟨rfl, rfl⟩))
  · rename_i h; go_ret; exact ⟨ret_f (by unfold lerpF; rw [h]; rfl), 0, rfl⟩
  · rename_i h0 h1; go_ret; exact ⟨ret_f (by unfold lerpF; rw [h0, h1]; rfl), 0, rfl⟩
  · rename_i h0 h1 _ _ a1 _ _ a2 _ _ a3; go_ret; exact ⟨ret_f (lerp_FR a1 a2 a3 h0 h1), _, rfl⟩
/-- The smooth step. -/
def smoothF (t : Nat) : Nat := fop .mul .f32 (fop .mul .f32 (cn .f32 (limF t 0 1065353216)) (cn .f32 (limF t 0 1065353216))) (fop .sub .f32 (cn .f32 1077936128) (fop .mul .f32 (cn .f32 1073741824) (cn .f32 (limF t 0 1065353216))))
theorem smooth_FR {s r1 r2 r3 r4 : Nat} (h1 : FR .f32 r1 (fop .mul .f32 (cn .f32 s) (cn .f32 s))) (h2 : FR .f32 r2 (fop .mul .f32 (cn .f32 1073741824) (cn .f32 s))) (h3 : FR .f32 r3 (fop .sub .f32 (cn .f32 1077936128) (cn .f32 r2))) (h4 : FR .f32 r4 (fop .mul .f32 (cn .f32 r1) (cn .f32 r3))) :
    cn .f32 r4 = fop .mul .f32 (fop .mul .f32 (cn .f32 s) (cn .f32 s)) (fop .sub .f32 (cn .f32 1077936128) (fop .mul .f32 (cn .f32 1073741824) (cn .f32 s))) := by
  rw [h4.eq, h1.eq, h3.eq, h2.eq]
set_option maxHeartbeats 800000 in
theorem Smooth_any (t : Nat) (w : World) : Calls Try.prog 27 #[.float .f32 t] w fun e w' => e = .returned (.float .f32 (smoothF t)) ∧ ∃ m, w' = w.drewN m := by
  go_enter Try.func27, Try.ntmps27
  go_wp2_with (first | ((with_reducible apply wpList_farith); rfl; rfl; rfl; intro _ _ _) | ((with_reducible apply wpList_up); rfl; exact Try.underlying25; exact Try.underlying28; intro _ _ _) | (go_at_call 17; refine (Clean_any _ _).mono ?_; rintro e w' ⟨rfl, rfl⟩) | (go_at_call 23; refine (Limit_any _ _ _ _).mono ?_; rintro e w' ⟨rfl, rfl⟩))
  rename_i _ _ a1 _ _ a2 _ _ a3 _ _ a4; go_ret; exact ⟨ret_f (smooth_FR a1 a2 a3 a4), _, rfl⟩
set_option maxHeartbeats 800000 in
theorem SmoothOf_any (t : Nat) (w : World) : Calls Try.prog 28 #[.float .f32 t] w fun e w' => e = .returned (.float .f32 (smoothF t)) ∧ ∃ m, w' = w.drewN m := by
  go_enter Try.func28, Try.ntmps28
  go_wp2_with (first | ((with_reducible apply wpList_farith); rfl; rfl; rfl; intro _ _ _) | ((with_reducible apply wpList_up); rfl; exact Try.underlying25; exact Try.underlying28; intro _ _ _) | (go_at_call 18; refine (Fix_any _ _).mono ?_; rintro e w' ⟨rfl, rfl⟩) | (go_at_call 24; refine (LimitOf_any _ _ _ _).mono ?_; rintro e w' ⟨rfl, rfl⟩))
  rename_i _ _ a1 _ _ a2 _ _ a3 _ _ a4; go_ret; exact ⟨ret_f (smooth_FR a1 a2 a3 a4), _, rfl⟩
set_option maxRecDepth 100000 in
set_option maxHeartbeats 1600000 in
theorem mm_walk (a b t : Nat) (w : World) (_ : a < 2 ^ FloatKind.f32.format.width) (_ : b < 2 ^ FloatKind.f32.format.width) (_ : t < 2 ^ FloatKind.f32.format.width) :
    Calls Try.prog 5 #[.float .f32 a, .float .f32 b, .float .f32 t] w fun e w' => e = .returned (.bool true) ∧ Below w.heap.size w w' := by
  go_enter Try.func5, Try.ntmps5
  go_wp2_with (first | (go_at_call 9; refine (counts_any _).mono ?_; rintro e w' ⟨rfl, m, rfl⟩) | (go_at_call 16; refine (same_any _ _ _).mono ?_; rintro e w' ⟨rfl, rfl⟩) | (go_at_call 23; refine (Limit_any _ _ _ _).mono ?_; rintro e w' ⟨rfl, rfl⟩) | (go_at_call 24; refine (LimitOf_any _ _ _ _).mono ?_; rintro e w' ⟨rfl, rfl⟩) | (go_at_call 25; refine (Lerp_any _ _ _ _).mono ?_; rintro e w' ⟨rfl, m, rfl⟩) | (go_at_call 26; refine (LerpOf_any _ _ _ _).mono ?_; rintro e w' ⟨rfl, m, rfl⟩) | (go_at_call 27; refine (Smooth_any _ _).mono ?_; rintro e w' ⟨rfl, m, rfl⟩) | (go_at_call 28; refine (SmoothOf_any _ _).mono ?_; rintro e w' ⟨rfl, m, rfl⟩))
  go_ret
  refine ⟨ret_b (by simp), ?_⟩
  (repeat (first | exact Below.refl _ _ | assumption | (refine Below.setCell ?_ (by first | (simp; done) | (simp; omega) | omega) _) | (refine Below.drew ?_) | (refine below_drewN ?_ _) | (refine Below.alloc ?_ (by first | (simp; done) | (simp; omega) | omega) _) | (refine Below.trans ?_ (Below.mono (by assumption) (by first | (simp; done) | (simp; omega) | omega)))))
set_option maxHeartbeats 800000 in
theorem Near_no (v : Nat) (lo hi : Int) (w : World) (h : hi < lo ∨ lo < -16777216 ∨ 16777216 < lo ∨ hi < -16777216 ∨ 16777216 < hi) :
    Calls Try.prog 33 #[.float .f32 v, .int .i64 lo, .int .i64 hi] w fun e w' => e = .returned (.tuple #[.int .i64 0, .bool false, .int .i64 8]) ∧ w = w' := by
  have h' := Lib.hid h; clear h
  go_enter Try.func33, Try.ntmps33
  go_wp2_with (first | ((with_reducible apply wpList_farith); rfl; rfl; rfl; intro _ _ _) | ((with_reducible apply wpList_up); rfl; exact Try.underlying25; exact Try.underlying28; intro _ _ _) | ((with_reducible apply wpList_even); rfl; exact FR.lt (by assumption); intro _ _ _) | ((with_reducible apply wpList_f2i); rfl; exact Try.underlying28; exact Try.underlying3; intro _ _ _))
  all_goals first
    | (exfalso; have := h'.out; omega)
    | exact bodyPost_ret (v := .tuple #[.int .i64 0, .bool false, .int .i64 8]) (by simp [results, Try.results33, go_sem, *]) rfl ⟨rfl, rfl⟩
set_option maxRecDepth 100000 in
set_option maxHeartbeats 1600000 in
theorem nm_walk (v : Nat) (lo hi : Int) (w : World) (_ : v < 2 ^ FloatKind.f32.format.width) (_ : IntKind.i64.min ≤ lo ∧ lo ≤ IntKind.i64.max) (_ : IntKind.i64.min ≤ hi ∧ hi ≤ IntKind.i64.max) :
    Calls Try.prog 7 #[.float .f32 v, .int .i64 lo, .int .i64 hi] w fun e w' => e = .returned (.bool true) ∧ Below w.heap.size w w' := by
  by_cases h : hi < lo ∨ lo < -16777216 ∨ 16777216 < lo ∨ hi < -16777216 ∨ 16777216 < hi
  · have h' := Lib.hid h
    rcases (show hi < lo ∨ (¬ hi < lo ∧ inB lo (-16777216) 16777216 = false) ∨ (¬ hi < lo ∧ inB lo (-16777216) 16777216 = true ∧ inB hi (-16777216) 16777216 = false) from by
      by_cases a : hi < lo
      · exact .inl a
      · by_cases b : -16777216 ≤ lo ∧ lo ≤ 16777216
        · exact .inr (.inr ⟨a, inB_t b, inB_f (by omega)⟩)
        · exact .inr (.inl ⟨a, inB_f (by omega)⟩)) with a | ⟨a, b⟩ | ⟨a, b, c⟩
    all_goals
      clear h
      go_enter Try.func7, Try.ntmps7
      go_wp2_with (first | (go_at_call 9; refine (counts_any _).mono ?_; rintro e w' ⟨rfl, m, rfl⟩) | (go_at_call 34; refine (In_any _ _ _ _).mono ?_; rintro e w' ⟨rfl, rfl⟩) | (go_at_call 33; refine (Near_no _ _ _ _ h'.out).mono ?_; rintro e w' ⟨rfl, rfl⟩))
      go_ret
      refine ⟨ret_b (by simp [*]), ?_⟩
      (repeat (first | exact Below.refl _ _ | assumption | (refine Below.setCell ?_ (by first | (simp; done) | (simp; omega) | omega) _) | (refine Below.drew ?_) | (refine below_drewN ?_ _) | (refine Below.alloc ?_ (by first | (simp; done) | (simp; omega) | omega) _) | (refine Below.trans ?_ (Below.mono (by assumption) (by first | (simp; done) | (simp; omega) | omega)))))
  · have a : ¬ hi < lo := by omega
    have b := inB_t (show -16777216 ≤ lo ∧ lo ≤ 16777216 by omega)
    have c := inB_t (show -16777216 ≤ hi ∧ hi ≤ 16777216 by omega)
    have h' := Lib.hid h; clear h
    go_enter Try.func7, Try.ntmps7
    go_wp2_with (first | (go_at_call 9; refine (counts_any _).mono ?_; rintro e w' ⟨rfl, m, rfl⟩) | (go_at_call 34; refine (In_any _ _ _ _).mono ?_; rintro e w' ⟨rfl, rfl⟩) | (go_at_call 33; refine (Near_any _ _ _ _ (by have := h'.out; omega) (by have := h'.out; omega) (by have := h'.out; omega)).mono ?_; rintro e w' ⟨m, rfl, rfl⟩) | (go_at_call 35; refine (NearOf_any _ _ _ _ (by have := h'.out; omega) (by have := h'.out; omega)).mono ?_; rintro e w' ⟨m, rfl, rfl⟩))
    go_ret
    refine ⟨ret_b (by simp [*]), ?_⟩
    (repeat (first | exact Below.refl _ _ | assumption | (refine Below.setCell ?_ (by first | (simp; done) | (simp; omega) | omega) _) | (refine Below.drew ?_) | (refine below_drewN ?_ _) | (refine Below.alloc ?_ (by first | (simp; done) | (simp; omega) | omega) _) | (refine Below.trans ?_ (Below.mono (by assumption) (by first | (simp; done) | (simp; omega) | omega)))))
end Go.Proofs.Ytlomlhdkcpncjaa
