/- Small contracts on singles: Clean, Fix, bits, limits, what a number is, pixels that are the same. No condition. -/
import Derived.Test.YtalgepfammpmbaaOffB
namespace Go.Proofs.Ytalgepfammpmbaa
open Go.RowKit

theorem ret_f {k : FloatKind} {a b : Nat} (h : a = b) : Ending.returned (.float k a) = .returned (.float k b) := by rw [h]
theorem nan32 : nanOf .f32 = 2143289344 := by decide +kernel
theorem cn_ne {v : Nat} (h : (FloatKind.f32.format.order v v != some .eq) = true) : (2143289344 : Nat) = cn .f32 v := by
  rw [ord_self_ne] at h; rw [cn_of_nan h, nan32]
theorem cn_nn {v : Nat} (h : (FloatKind.f32.format.order v v != some .eq) = false) : v = cn .f32 v := by
  rw [ord_self_ne] at h; rw [cn_of_not h]
set_option maxHeartbeats 400000 in
theorem Clean_any (v : Nat) (w : World) : Calls Try.prog 180 #[.float .f32 v] w fun e w' => e = .returned (.float .f32 (cn .f32 v)) ∧ w = w' := by
  go_enter Try.func180, Try.ntmps180
  go_wp2
  · go_ret; exact ⟨ret_f (cn_ne (by assumption)), rfl⟩
  · go_ret; exact ⟨ret_f (cn_nn (by assumption)), rfl⟩
set_option maxHeartbeats 400000 in
theorem TheNaN_any (w : World) : Calls Try.prog 138 #[] w fun e w' => e = .returned (.float .f32 2143289344) ∧ w = w' := by
  go_enter Try.func138, Try.ntmps138
  go_wp2
  go_ret
  exact ⟨rfl, rfl⟩
set_option maxHeartbeats 400000 in
theorem Fix_any (v : Nat) (w : World) : Calls Try.prog 48 #[.float .f32 v] w fun e w' => e = .returned (.float .f32 (cn .f32 v)) ∧ w = w' := by
  go_enter Try.func48, Try.ntmps48
  go_wp2_with (first | (go_at_call 138; refine (TheNaN_any _).mono ?_; rintro e w' ⟨rfl, rfl⟩))
  · go_ret; exact ⟨ret_f (cn_ne (by assumption)), rfl⟩
  · go_ret; exact ⟨ret_f (cn_nn (by assumption)), rfl⟩
theorem ret_u32 {a b : Int} (h : a = b) : Ending.returned (.int .u32 a) = .returned (.int .u32 b) := by rw [h]
set_option maxHeartbeats 400000 in
theorem Bits_any (v : Nat) (w : World) : Calls Try.prog 112 #[.float .f32 v] w fun e w' => e = .returned (.int .u32 (cn .f32 v)) ∧ w = w' := by
  go_enter Try.func112, Try.ntmps112
  go_wp2_with (first | (go_at_call 180; refine (Clean_any _ _).mono ?_; rintro e w' ⟨rfl, rfl⟩))
  go_ret
  exact ⟨rfl, rfl⟩
set_option maxHeartbeats 400000 in
theorem BitsOf_any (v : Nat) (w : World) : Calls Try.prog 139 #[.float .f32 v] w fun e w' => e = .returned (.int .u32 (cn .f32 v)) ∧ w = w' := by
  go_enter Try.func139, Try.ntmps139
  go_wp2_with (first | (go_at_call 48; refine (Fix_any _ _).mono ?_; rintro e w' ⟨rfl, rfl⟩))
  go_ret
  exact ⟨rfl, rfl⟩
set_option maxHeartbeats 400000 in
theorem Bit_any (u v : Nat) (w : World) : Calls Try.prog 50 #[.float .f32 u, .float .f32 v] w fun e w' => e = .returned (.bool (decide (cn .f32 u = cn .f32 v))) ∧ w = w' := by
  go_enter Try.func50, Try.ntmps50
  go_wp2_with (first | (go_at_call 139; refine (BitsOf_any _ _).mono ?_; rintro e w' ⟨rfl, rfl⟩))
  go_ret
  refine ⟨ret_b ?_, rfl⟩
  rw [Bool.eq_iff_iff]; simp; omega
/-- A value within bounds. -/
def limF (v lo hi : Nat) : Nat := if FloatKind.f32.format.order v lo == some .lt then cn .f32 lo else if FloatKind.f32.format.order v hi == some .gt then cn .f32 hi else cn .f32 v
set_option maxHeartbeats 400000 in
theorem Limit_any (v lo hi : Nat) (w : World) : Calls Try.prog 137 #[.float .f32 v, .float .f32 lo, .float .f32 hi] w fun e w' => e = .returned (.float .f32 (limF v lo hi)) ∧ w = w' := by
  go_enter Try.func137, Try.ntmps137
  go_wp2_with (first | (go_at_call 180; refine (Clean_any _ _).mono ?_; rintro e w' ⟨rfl, rfl⟩))
  all_goals (go_ret; refine ⟨ret_f ?_, rfl⟩; unfold limF; simp only [*]; simp)
set_option maxHeartbeats 400000 in
theorem LimitOf_any (v lo hi : Nat) (w : World) : Calls Try.prog 49 #[.float .f32 v, .float .f32 lo, .float .f32 hi] w fun e w' => e = .returned (.float .f32 (limF v lo hi)) ∧ w = w' := by
  go_enter Try.func49, Try.ntmps49
  go_wp2_with (first | (go_at_call 48; refine (Fix_any _ _).mono ?_; rintro e w' ⟨rfl, rfl⟩))
  all_goals (go_ret; refine ⟨ret_f ?_, rfl⟩; unfold limF; simp only [*]; simp)
end Go.Proofs.Ytalgepfammpmbaa
