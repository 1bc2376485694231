/- Whether two regions are the same. No condition. -/
import Derived.Test.YtnicamndlkdcmaaSpE
namespace Go.Proofs.Ytnicamndlkdcmaa
open Go Go.RowKit
set_option maxHeartbeats 4000000 in
theorem eq_reg (a b c d a' b' c' d' : Int) (w : World) : Sem.run Try.prog (Op.equalIn 10000 40 (.agg #[.int .i64 a, .int .i64 b, .int .i64 c, .int .i64 d]) (.agg #[.int .i64 a', .int .i64 b', .int .i64 c', .int .i64 d'])) w = .ok (a == a' && (b == b' && (c == c' && d == d'))) w := by
  have h2 := Try.underlying3
  have h3 := Try.underlying40
  have k0 : ∀ a b c d w, (part 3 #[.int .i64 a, .int .i64 b, .int .i64 c, .int .i64 d] 0).run Try.prog w = .ok (.int .i64 a) w := fun _ _ _ _ _ => by kernel_rfl
  have k1 : ∀ a b c d w, (part 3 #[.int .i64 a, .int .i64 b, .int .i64 c, .int .i64 d] 1).run Try.prog w = .ok (.int .i64 b) w := fun _ _ _ _ _ => by kernel_rfl
  have k2 : ∀ a b c d w, (part 3 #[.int .i64 a, .int .i64 b, .int .i64 c, .int .i64 d] 2).run Try.prog w = .ok (.int .i64 c) w := fun _ _ _ _ _ => by kernel_rfl
  have k3 : ∀ a b c d w, (part 3 #[.int .i64 a, .int .i64 b, .int .i64 c, .int .i64 d] 3).run Try.prog w = .ok (.int .i64 d) w := fun _ _ _ _ _ => by kernel_rfl
  rw [show (10000 : Nat) = 9998 + 1 + 1 from rfl]
  generalize 9998 = e
  by_cases e0 : a = a'
  · subst e0
    by_cases e1 : b = b'
    · subst e1
      by_cases e2 : c = c'
      · subst e2
        by_cases e3 : d = d'
        · subst e3
          simp [Op.equalIn, run_underlying h2, run_underlying h3, Sem.run_bind, Sem.run_pure, Result.andThen_ok, k0, k1, k2, k3]
        · simp [Op.equalIn, run_underlying h2, run_underlying h3, Sem.run_bind, Sem.run_pure, Result.andThen_ok, k0, k1, k2, k3, e3]
      · simp [Op.equalIn, run_underlying h2, run_underlying h3, Sem.run_bind, Sem.run_pure, Result.andThen_ok, k0, k1, k2, k3, e2]
    · simp [Op.equalIn, run_underlying h2, run_underlying h3, Sem.run_bind, Sem.run_pure, Result.andThen_ok, k0, k1, k2, k3, e1]
  · simp [Op.equalIn, run_underlying h2, run_underlying h3, Sem.run_bind, Sem.run_pure, Result.andThen_ok, k0, k1, k2, k3, e0]
end Go.Proofs.Ytnicamndlkdcmaa
