/- num.Mini of any single: the code that is next to it. Conditions: those named. -/
import Derived.Test.YtefjkelakecanaaMnU
import Derived.Test.YtefjkelakecanaaMnC
namespace Go.Proofs.Ytefjkelakecanaa
open Go.RowKit
/-- What stands ahead of a walk about a format. -/
theorem mini_pows {X F : Nat} (hX : 2 ≤ X ∧ X ≤ 8) (hF : 1 ≤ F ∧ F ≤ 23) :
    ((2 : Int) ≤ 2 ^ (X - 1) ∧ (2 : Int) ^ (X - 1) ≤ 128) ∧ ((2 : Int) ≤ 2 ^ F ∧ (2 : Int) ^ F ≤ 8388608) ∧ ((4 : Int) ≤ 2 ^ X ∧ (2 : Int) ^ X ≤ 256) ∧ ((1 : Int) ≤ 2 ^ (F - 1) ∧ (2 : Int) ^ (F - 1) ≤ 4194304) ∧
    ((2 : Int) ≤ 2 ^ (X + F) ∧ (2 : Int) ^ (X + F) ≤ 2147483648) ∧ ((2 : Int) ^ (F + 1) = 2 * 2 ^ F) ∧ wrap64 (((2 : Int) ^ X - 1) * 2 ^ F) = (allK X F : Int) ∧ 1 ≤ allK X F ∧ allK X F + 2 ^ F = 2 ^ (X + F) ∧ 2 ^ F = 2 ^ (F - 1) * 2 ∧ (2 : Nat) ^ (X + F) ≤ 2147483648 := by
  have a1 : (2 : Int) ≤ 2 ^ (X - 1) := two_pow_le (a := 1) (by omega)
  have a2 : (2 : Int) ^ (X - 1) ≤ 128 := two_pow_le (b := 7) (by omega)
  have b1 : (2 : Int) ≤ 2 ^ F := two_pow_le (a := 1) (by omega)
  have b2 : (2 : Int) ^ F ≤ 8388608 := two_pow_le (b := 23) (by omega)
  have c1 : (4 : Int) ≤ 2 ^ X := two_pow_le (a := 2) (by omega)
  have c2 : (2 : Int) ^ X ≤ 256 := two_pow_le (b := 8) (by omega)
  have d1 : (1 : Int) ≤ 2 ^ (F - 1) := two_pow_le (a := 0) (by omega)
  have d2 : (2 : Int) ^ (F - 1) ≤ 4194304 := two_pow_le (b := 22) (by omega)
  have e1 : (2 : Int) ≤ 2 ^ (X + F) := two_pow_le (a := 1) (by omega)
  have e2 : (2 : Int) ^ (X + F) ≤ 2147483648 := two_pow_le (b := 31) (by omega)
  have x0 : 1 ≤ 2 ^ X := Nat.pow_pos (by decide)
  have hA : ((allK X F : Nat) : Int) = ((2 : Int) ^ X - 1) * 2 ^ F := by
    unfold allK; rw [Int.natCast_mul, Int.ofNat_sub x0]; push_cast; rfl
  have s1 : allK X F + 2 ^ F = 2 ^ (X + F) := by
    unfold allK
    rw [Nat.pow_add, Nat.sub_mul, Nat.one_mul, Nat.sub_add_cancel]
    exact Nat.le_mul_of_pos_left _ x0
  have s2 : (2 : Nat) ^ (X + F) ≤ 2147483648 := Nat.pow_le_pow_right (n := 2) (by decide) (show X + F ≤ 31 by omega)
  have s3 : 1 ≤ allK X F := by
    have n1 : 1 ≤ 2 ^ F := Nat.pow_pos (by decide)
    have n2 : 1 ≤ 2 ^ X - 1 := by
      have : 2 ^ 1 ≤ 2 ^ X := Nat.pow_le_pow_right (by decide) (by omega)
      omega
    exact Nat.mul_le_mul n2 n1
  refine ⟨⟨a1, a2⟩, ⟨b1, b2⟩, ⟨c1, c2⟩, ⟨d1, d2⟩, ⟨e1, e2⟩, ?_, ?_, s3, s1, ?_, s2⟩
  · rw [Int.pow_succ, Int.mul_comm]
  · rw [← hA]
    have : allK X F ≤ 2147483648 := Nat.le_trans (Nat.le.intro s1) s2
    clear s1 hA s2 s3
    generalize allK X F = a at *
    unfold wrap64; omega
  · rw [← Nat.pow_succ]; congr 1; omega
set_option maxHeartbeats 1600000 in
theorem Mini_nan (v X F : Nat) (w : World) (hX : 2 ≤ X ∧ X ≤ 8) (hF : 1 ≤ F ∧ F ≤ 23) (hv : isN .f32 v = true) : Calls Try.prog 14 #[.float .f32 v, .int .i64 X, .int .i64 F] w fun e w' => e = .returned (.tuple #[.int .i64 ((allK X F + 2 ^ (F - 1) : Nat) : Int), .int .i64 0]) ∧ w = w' := by
  have h := faultB_no hX hF
  have h1 : (FloatKind.f32.format.order v v != some .eq) = true := by rw [ord_self_ne]; exact hv
  obtain ⟨-, ⟨q1, q2⟩, ⟨x1, x2⟩, ⟨d1, d2⟩, -, -, hA, -, s1, s2, s3⟩ := mini_pows hX hF
  have hor : bits .or .i64 (allK X F : Int) ((2 : Int) ^ (F - 1)) = ((allK X F + 2 ^ (F - 1) : Nat) : Int) := by
    have hk : 2 ^ (F - 1) < 2 ^ F := by have : 0 < 2 ^ (F - 1) := Nat.pow_pos (by decide); omega
    have := or_two F (2 ^ X - 1) (2 ^ (F - 1)) hk (by rw [Nat.mul_comm]; unfold allK at s1; omega)
    rw [Nat.mul_comm] at this
    have e : (((2 ^ (F - 1) : Nat)) : Int) = (2 : Int) ^ (F - 1) := by push_cast; rfl
    rw [e] at this
    exact this
  clear s1 s2 s3
  go_enter Try.func14, Try.ntmps14
  go_wp2_with (first | (go_at_call 38; refine (miniFault_any _ _ _).mono ?_; rintro e w' ⟨rfl, rfl⟩; rw [h]))
  exact bodyPost_ret (v := .tuple #[.int .i64 ((allK X F + 2 ^ (F - 1) : Nat) : Int), .int .i64 0]) (by simp [results, Try.results14, go_sem, *]) rfl ⟨rfl, rfl⟩
/-- The sign's bit of a code. -/
def sgK (X F v : Nat) : Nat := if v < 2147483648 then 0 else 2 ^ (X + F)
theorem or_sg {X F v k : Nat} (hX : 2 ≤ X ∧ X ≤ 8) (hF : 1 ≤ F ∧ F ≤ 23) (hk : k ≤ allK X F) : bits .or .i64 (sgK X F v : Int) (k : Int) = ((sgK X F v + k : Nat) : Int) := by
  obtain ⟨-, -, -, -, -, -, -, -, s1, -, s3⟩ := mini_pows hX hF
  have f0 : 0 < 2 ^ F := Nat.pow_pos (by decide)
  unfold sgK
  split
  · rw [Nat.zero_add]; exact or_none k (by omega)
  · have := or_two (X + F) 1 k (by omega) (by omega)
    rw [Nat.mul_one] at this
    exact this
set_option maxHeartbeats 1600000 in
theorem Mini_inf (v X F : Nat) (w : World) (hX : 2 ≤ X ∧ X ≤ 8) (hF : 1 ≤ F ∧ F ≤ 23) (hl : v < 2 ^ FloatKind.f32.format.width) (hv : isN .f32 v = false) (hn : isNum .f32 v = false) : Calls Try.prog 14 #[.float .f32 v, .int .i64 X, .int .i64 F] w fun e w' => e = .returned (.tuple #[.int .i64 ((sgK X F v + allK X F : Nat) : Int), .int .i64 0]) ∧ w = w' := by
  have h := faultB_no hX hF
  have h1 : (FloatKind.f32.format.order v v != some .eq) = false := by rw [ord_self_ne]; exact hv
  obtain ⟨-, ⟨q1, q2⟩, ⟨x1, x2⟩, -, ⟨e1, e2⟩, -, hA, -, -, -, -⟩ := mini_pows hX hF
  have hor := or_sg (v := v) hX hF (Nat.le_refl (allK X F))
  have h3 := isNum_code v
  rw [ord_self_eq, hv, hn] at h3
  have h6 : ((FloatKind.f32.format.order v 2139095039 == some .gt) || (FloatKind.f32.format.order v 4286578687 == some .lt)) = true := by
    revert h3; cases ((FloatKind.f32.format.order v 2139095039 == some .gt) || (FloatKind.f32.format.order v 4286578687 == some .lt)) <;> simp
  have hb := and_sign v hl
  clear h3
  by_cases hs : v < 2147483648
  · rw [if_pos hs] at hb
    have hS : sgK X F v = 0 := by unfold sgK; rw [if_pos hs]
    rw [hS] at hor ⊢
    have hor' : bits .or .i64 (0 : Int) (allK X F : Int) = ((0 + allK X F : Nat) : Int) := hor
    clear hor
    go_enter Try.func14, Try.ntmps14
    go_wp2_with (first | (go_at_call 38; refine (miniFault_any _ _ _).mono ?_; rintro e w' ⟨rfl, rfl⟩; rw [h]) | (go_at_call 36; refine (infinite_any _ _).mono ?_; rintro e w' ⟨rfl, rfl⟩; rw [h6]))
    exact bodyPost_ret (v := .tuple #[.int .i64 ((0 + allK X F : Nat) : Int), .int .i64 0]) (by simp [results, Try.results14, go_sem, *]) rfl ⟨rfl, rfl⟩
  · rw [if_neg hs] at hb
    have hS : sgK X F v = 2 ^ (X + F) := by unfold sgK; rw [if_neg hs]
    rw [hS] at hor ⊢
    have hor' : bits .or .i64 ((2 : Int) ^ (X + F)) (allK X F : Int) = ((2 ^ (X + F) + allK X F : Nat) : Int) := by rw [← hor]; push_cast; rfl
    clear hor
    go_enter Try.func14, Try.ntmps14
    go_wp2_with (first | (go_at_call 38; refine (miniFault_any _ _ _).mono ?_; rintro e w' ⟨rfl, rfl⟩; rw [h]) | (go_at_call 36; refine (infinite_any _ _).mono ?_; rintro e w' ⟨rfl, rfl⟩; rw [h6]))
    exact bodyPost_ret (v := .tuple #[.int .i64 ((2 ^ (X + F) + allK X F : Nat) : Int), .int .i64 0]) (by simp [results, Try.results14, go_sem, *]) rfl ⟨rfl, rfl⟩
set_option maxHeartbeats 1600000 in
theorem Mini_zero (v X F : Nat) (w : World) (hX : 2 ≤ X ∧ X ≤ 8) (hF : 1 ≤ F ∧ F ≤ 23) (hl : v < 2 ^ FloatKind.f32.format.width) (hn : isNum .f32 v = true) (hz : magF v = 0) : Calls Try.prog 14 #[.float .f32 v, .int .i64 X, .int .i64 F] w fun e w' => e = .returned (.tuple #[.int .i64 (sgK X F v : Int), .int .i64 0]) ∧ w = w' := by
  have h := faultB_no hX hF
  have hv := isNum_not_nan hn
  have h1 : (FloatKind.f32.format.order v v != some .eq) = false := by rw [ord_self_ne]; exact hv
  obtain ⟨-, ⟨q1, q2⟩, ⟨x1, x2⟩, -, ⟨e1, e2⟩, -, hA, -, -, -, -⟩ := mini_pows hX hF
  have h3 := isNum_code v
  rw [ord_self_eq, hv, hn] at h3
  have h6 : ((FloatKind.f32.format.order v 2139095039 == some .gt) || (FloatKind.f32.format.order v 4286578687 == some .lt)) = false := by
    revert h3; cases ((FloatKind.f32.format.order v 2139095039 == some .gt) || (FloatKind.f32.format.order v 4286578687 == some .lt)) <;> simp
  have h2 := ord_zero hv
  rw [decide_eq_true hz] at h2
  have hb := and_sign v hl
  clear h3
  by_cases hs : v < 2147483648
  · rw [if_pos hs] at hb
    have hS : sgK X F v = 0 := by unfold sgK; rw [if_pos hs]
    rw [hS]
    go_enter Try.func14, Try.ntmps14
    go_wp2_with (first | (go_at_call 38; refine (miniFault_any _ _ _).mono ?_; rintro e w' ⟨rfl, rfl⟩; rw [h]) | (go_at_call 36; refine (infinite_any _ _).mono ?_; rintro e w' ⟨rfl, rfl⟩; rw [h6]))
    exact bodyPost_ret (v := .tuple #[.int .i64 ((0 : Nat) : Int), .int .i64 0]) (by simp [results, Try.results14, go_sem, *]) rfl ⟨rfl, rfl⟩
  · rw [if_neg hs] at hb
    have hS : sgK X F v = 2 ^ (X + F) := by unfold sgK; rw [if_neg hs]
    rw [hS]
    go_enter Try.func14, Try.ntmps14
    go_wp2_with (first | (go_at_call 38; refine (miniFault_any _ _ _).mono ?_; rintro e w' ⟨rfl, rfl⟩; rw [h]) | (go_at_call 36; refine (infinite_any _ _).mono ?_; rintro e w' ⟨rfl, rfl⟩; rw [h6]))
    exact bodyPost_ret (v := .tuple #[.int .i64 ((2 ^ (X + F) : Nat) : Int), .int .i64 0]) (by simp [results, Try.results14, go_sem, *]) rfl ⟨rfl, rfl⟩
end Go.Proofs.Ytefjkelakecanaa
