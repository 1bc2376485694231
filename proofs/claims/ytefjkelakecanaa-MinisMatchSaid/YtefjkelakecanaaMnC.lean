/- num.FromMini where there is no such format or no such code. Conditions: those named. -/
import Derived.Test.YtefjkelakecanaaMnB
namespace Go.Proofs.Ytefjkelakecanaa
open Go.RowKit
set_option maxHeartbeats 1600000 in
theorem FromMini_fault (n X F : Int) (w : World) (h : faultB X F = true) : Calls Try.prog 15 #[.int .i64 n, .int .i64 X, .int .i64 F] w fun e w' => e = .returned (.tuple #[.float .f32 0, .int .i64 3]) ∧ w = w' := by
  go_enter Try.func15, Try.ntmps15
  go_wp2_with (first | (go_at_call 38; refine (miniFault_any _ _ _).mono ?_; rintro e w' ⟨rfl, rfl⟩; rw [h]))
  exact bodyPost_ret (v := .tuple #[.float .f32 0, .int .i64 3]) (by simp [results, Try.results15, go_sem, *]) rfl ⟨rfl, rfl⟩
set_option maxHeartbeats 1600000 in
theorem Mini_fault (v : Nat) (X F : Int) (w : World) (h : faultB X F = true) : Calls Try.prog 14 #[.float .f32 v, .int .i64 X, .int .i64 F] w fun e w' => e = .returned (.tuple #[.int .i64 0, .int .i64 3]) ∧ w = w' := by
  go_enter Try.func14, Try.ntmps14
  go_wp2_with (first | (go_at_call 38; refine (miniFault_any _ _ _).mono ?_; rintro e w' ⟨rfl, rfl⟩; rw [h]))
  exact bodyPost_ret (v := .tuple #[.int .i64 0, .int .i64 3]) (by simp [results, Try.results14, go_sem, *]) rfl ⟨rfl, rfl⟩
theorem faultB_no {X F : Nat} (hX : 2 ≤ X ∧ X ≤ 8) (hF : 1 ≤ F ∧ F ≤ 23) : faultB X F = false := by
  unfold faultB
  rw [decide_eq_false (by omega), decide_eq_false (by omega), decide_eq_false (by omega), decide_eq_false (by omega)]; rfl
set_option maxHeartbeats 1600000 in
theorem FromMini_low (n : Int) (X F : Nat) (w : World) (hX : 2 ≤ X ∧ X ≤ 8) (hF : 1 ≤ F ∧ F ≤ 23) (hn : n < 0) : Calls Try.prog 15 #[.int .i64 n, .int .i64 X, .int .i64 F] w fun e w' => e = .returned (.tuple #[.float .f32 0, .int .i64 3]) ∧ w = w' := by
  have h := faultB_no hX hF
  go_enter Try.func15, Try.ntmps15
  go_wp2_with (first | (go_at_call 38; refine (miniFault_any _ _ _).mono ?_; rintro e w' ⟨rfl, rfl⟩; rw [h]))
  exact bodyPost_ret (v := .tuple #[.float .f32 0, .int .i64 3]) (by simp [results, Try.results15, go_sem, *]) rfl ⟨rfl, rfl⟩
set_option maxHeartbeats 1600000 in
theorem FromMini_high (n : Int) (X F : Nat) (w : World) (hX : 2 ≤ X ∧ X ≤ 8) (hF : 1 ≤ F ∧ F ≤ 23) (hn : (2 : Int) ^ (1 + X + F) ≤ n) : Calls Try.prog 15 #[.int .i64 n, .int .i64 X, .int .i64 F] w fun e w' => e = .returned (.tuple #[.float .f32 0, .int .i64 3]) ∧ w = w' := by
  have h := faultB_no hX hF
  have q1 : (2 : Int) ≤ 2 ^ (1 + X + F) := two_pow_le (a := 1) (by omega)
  have q2 : (2 : Int) ^ (1 + X + F) ≤ 4294967296 := two_pow_le (b := 32) (by omega)
  have hq : wrap64 ((2 : Int) ^ (1 + X + F)) = 2 ^ (1 + X + F) := by unfold wrap64; omega
  have hn0 : ¬ n < 0 := by omega
  go_enter Try.func15, Try.ntmps15
  go_wp2_with (first | (go_at_call 38; refine (miniFault_any _ _ _).mono ?_; rintro e w' ⟨rfl, rfl⟩; rw [h]))
  exact bodyPost_ret (v := .tuple #[.float .f32 0, .int .i64 3]) (by simp [results, Try.results15, go_sem, *]) rfl ⟨rfl, rfl⟩
end Go.Proofs.Ytefjkelakecanaa
