/- Mixing and smooth steps: num.Lerp, num.Smooth and the document's. No condition. -/
import Derived.Test.YtalgepfammpmbaaGmA
namespace Go.Proofs.Ytalgepfammpmbaa
open Go.RowKit
/-- What mixing hands back. -/
def lerpF (a b t : Nat) : Nat := if FloatKind.f32.format.order t 0 == some .eq then cn .f32 a else if FloatKind.f32.format.order t 1065353216 == some .eq then cn .f32 b else fop .add .f32 (cn .f32 a) (fop .mul .f32 (fop .sub .f32 (cn .f32 b) (cn .f32 a)) (cn .f32 t))
theorem lerp_FR {a b t r1 r2 r3 : Nat} (h1 : FR .f32 r1 (fop .sub .f32 (cn .f32 b) (cn .f32 a))) (h2 : FR .f32 r2 (fop .mul .f32 (cn .f32 r1) (cn .f32 t))) (h3 : FR .f32 r3 (fop .add .f32 (cn .f32 a) (cn .f32 r2)))
    (c0 : (FloatKind.f32.format.order t 0 == some .eq) = false) (c1 : (FloatKind.f32.format.order t 1065353216 == some .eq) = false) : cn .f32 r3 = lerpF a b t := by
  unfold lerpF; rw [c0, c1, h3.eq, h2.eq, h1.eq]; rfl
set_option maxHeartbeats 800000 in
theorem Lerp_any (a b t : Nat) (w : World) : Calls Try.prog 172 #[.float .f32 a, .float .f32 b, .float .f32 t] w fun e w' => e = .returned (.float .f32 (lerpF a b t)) ∧ ∃ m, w' = w.drewN m := by
  go_enter Try.func172, Try.ntmps172
  go_wp2_with (first | ((with_reducible apply wpList_farith); rfl; rfl; rfl; intro _ _ _) | ((with_reducible apply wpList_up); rfl; exact Try.underlying27; exact Try.underlying151; intro _ _ _) | (go_at_call 180; refine (Clean_any _ _).mono ?_; rintro e w' ⟨rfl, rfl⟩))
  · rename_i h; go_ret; exact ⟨ret_f (by unfold lerpF; rw [h]; rfl), 0, rfl⟩
  · rename_i h0 h1; go_ret; exact ⟨ret_f (by unfold lerpF; rw [h0, h1]; rfl), 0, rfl⟩
  · rename_i h0 h1 _ _ a1 _ _ a2 _ _ a3; go_ret; exact ⟨ret_f (lerp_FR a1 a2 a3 h0 h1), _, rfl⟩
set_option maxHeartbeats 800000 in
theorem LerpOf_any (a b t : Nat) (w : World) : Calls Try.prog 91 #[.float .f32 a, .float .f32 b, .float .f32 t] w fun e w' => e = .returned (.float .f32 (lerpF a b t)) ∧ ∃ m, w' = w.drewN m := by
  go_enter Try.func91, Try.ntmps91
  go_wp2_with (first | ((with_reducible apply wpList_farith); rfl; rfl; rfl; intro _ _ _) | ((with_reducible apply wpList_up); rfl; exact Try.underlying27; exact Try.underlying151; intro _ _ _) | (go_at_call 48; refine (Fix_any _ _).mono ?_; rintro e w' ⟨rfl, rfl⟩))
  · rename_i h; go_ret; exact ⟨ret_f (by unfold lerpF; rw [h]; rfl), 0, rfl⟩
  · rename_i h0 h1; go_ret; exact ⟨ret_f (by unfold lerpF; rw [h0, h1]; rfl), 0, rfl⟩
  · rename_i h0 h1 _ _ a1 _ _ a2 _ _ a3; go_ret; exact ⟨ret_f (lerp_FR a1 a2 a3 h0 h1), _, rfl⟩
/-- The smooth step. -/
def smoothF (t : Nat) : Nat := fop .mul .f32 (fop .mul .f32 (cn .f32 (limF t 0 1065353216)) (cn .f32 (limF t 0 1065353216))) (fop .sub .f32 (cn .f32 1077936128) (fop .mul .f32 (cn .f32 1073741824) (cn .f32 (limF t 0 1065353216))))
theorem smooth_FR {s r1 r2 r3 r4 : Nat} (h1 : FR .f32 r1 (fop .mul .f32 (cn .f32 s) (cn .f32 s))) (h2 : FR .f32 r2 (fop .mul .f32 (cn .f32 1073741824) (cn .f32 s))) (h3 : FR .f32 r3 (fop .sub .f32 (cn .f32 1077936128) (cn .f32 r2))) (h4 : FR .f32 r4 (fop .mul .f32 (cn .f32 r1) (cn .f32 r3))) :
    cn .f32 r4 = fop .mul .f32 (fop .mul .f32 (cn .f32 s) (cn .f32 s)) (fop .sub .f32 (cn .f32 1077936128) (fop .mul .f32 (cn .f32 1073741824) (cn .f32 s))) := by
  rw [h4.eq, h1.eq, h3.eq, h2.eq]
set_option maxHeartbeats 800000 in
theorem Smooth_any (t : Nat) (w : World) : Calls Try.prog 182 #[.float .f32 t] w fun e w' => e = .returned (.float .f32 (smoothF t)) ∧ ∃ m, w' = w.drewN m := by
  go_enter Try.func182, Try.ntmps182
  go_wp2_with (first | ((with_reducible apply wpList_farith); rfl; rfl; rfl; intro _ _ _) | ((with_reducible apply wpList_up); rfl; exact Try.underlying27; exact Try.underlying151; intro _ _ _) | (go_at_call 180; refine (Clean_any _ _).mono ?_; rintro e w' ⟨rfl, rfl⟩) | (go_at_call 137; refine (Limit_any _ _ _ _).mono ?_; rintro e w' ⟨rfl, rfl⟩))
  rename_i _ _ a1 _ _ a2 _ _ a3 _ _ a4; go_ret; exact ⟨ret_f (smooth_FR a1 a2 a3 a4), _, rfl⟩
set_option maxHeartbeats 800000 in
theorem SmoothOf_any (t : Nat) (w : World) : Calls Try.prog 120 #[.float .f32 t] w fun e w' => e = .returned (.float .f32 (smoothF t)) ∧ ∃ m, w' = w.drewN m := by
  go_enter Try.func120, Try.ntmps120
  go_wp2_with (first | ((with_reducible apply wpList_farith); rfl; rfl; rfl; intro _ _ _) | ((with_reducible apply wpList_up); rfl; exact Try.underlying27; exact Try.underlying151; intro _ _ _) | (go_at_call 48; refine (Fix_any _ _).mono ?_; rintro e w' ⟨rfl, rfl⟩) | (go_at_call 49; refine (LimitOf_any _ _ _ _).mono ?_; rintro e w' ⟨rfl, rfl⟩))
  rename_i _ _ a1 _ _ a2 _ _ a3 _ _ a4; go_ret; exact ⟨ret_f (smooth_FR a1 a2 a3 a4), _, rfl⟩
end Go.Proofs.Ytalgepfammpmbaa
