/- Pixels compared with '=='. No condition. -/
import Derived.Test.YtalgepfammpmbaaClipB
namespace Go.Proofs.Ytalgepfammpmbaa
open Go.RowKit
set_option maxHeartbeats 4000000 in
theorem pix_zero (w : World) : (Op.equalIn 10000 41 (.agg #[.float .f32 0, .float .f32 0, .float .f32 0, .float .f32 0]) (.agg #[.float .f32 0, .float .f32 0, .float .f32 0, .float .f32 0])).run Try.prog w = .ok true w := by
  have h1 := Try.underlying41
  have h2 := Try.underlying27
  have g0 : ∀ w, (part 27 #[.float .f32 0, .float .f32 0, .float .f32 0, .float .f32 0] 0).run Try.prog w = .ok (.float .f32 0) w := fun _ => by kernel_rfl
  have g1 : ∀ w, (part 27 #[.float .f32 0, .float .f32 0, .float .f32 0, .float .f32 0] 1).run Try.prog w = .ok (.float .f32 0) w := fun _ => by kernel_rfl
  have g2 : ∀ w, (part 27 #[.float .f32 0, .float .f32 0, .float .f32 0, .float .f32 0] 2).run Try.prog w = .ok (.float .f32 0) w := fun _ => by kernel_rfl
  have g3 : ∀ w, (part 27 #[.float .f32 0, .float .f32 0, .float .f32 0, .float .f32 0] 3).run Try.prog w = .ok (.float .f32 0) w := fun _ => by kernel_rfl
  rw [show (10000 : Nat) = 9998 + 1 + 1 from rfl]
  generalize 9998 = d
  have h4 : ∀ w, (sizeOf 27).run Try.prog w = .ok 1 w := fun _ => by kernel_rfl
  have h5 : Op.floatEq .f32 0 0 = true := by decide
  simp [Op.equalIn, run_underlying h1, run_underlying h2, Sem.run_bind, Sem.run_pure, Result.andThen_ok, List.range', h4, h5, g0, g1, g2, g3]
end Go.Proofs.Ytalgepfammpmbaa
