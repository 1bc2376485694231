/- math.Frexp of a positive plain double: its exponent. Conditions: those named. -/
import Derived.Test.YtefjkelakecanaaMnQ
namespace Go.Proofs.Ytefjkelakecanaa
open Go.RowKit
set_option maxRecDepth 100000 in
set_option maxHeartbeats 1600000 in
theorem frexp_plain (E f : Nat) (w : World) (h1 : 1 ≤ E) (h2 : E ≤ 2046) (hf : f < 4503599627370496) :
    Calls Try.prog 59 #[.float .f64 (E * 4503599627370496 + f)] w fun e w' => (∃ z : Nat, e = .returned (.tuple #[.float .f64 z, .int .i64 ((E : Int) - 1022)])) ∧ w = w' := by
  obtain ⟨a1, a2, a3, a4, a5⟩ := plain64 h1 h2 hf
  obtain ⟨X, hX⟩ : ∃ X, X = E * 4503599627370496 + f := ⟨_, rfl⟩
  have e2 : (2 : Nat) ^ 52 = 4503599627370496 := by decide
  have z1 : isNum .f64 0 = true := by decide +kernel
  rw [e2] at a1 a2 a3 a4
  rw [← hX] at a1 a2 a3 a4 ⊢
  have ax : absF X = X := by rw [absF_eq (Nat.lt_of_lt_of_le a1 (by decide))]; exact Nat.mod_eq_of_lt a1
  have o1 : (FloatKind.f64.format.order X 0 == some .eq) = false := by
    rw [ord_eq (isNum_not_nan a2) (isNum_not_nan z1), decide_eq_false_iff_not, key_pos a1, key_pos (by decide)]; omega
  have o2 : (FloatKind.f64.format.order (absF X) 9218868437227405311 == some .gt) = false := by
    rw [ax, ord_gt (isNum_not_nan a2) (by decide +kernel), decide_eq_false_iff_not, key_pos a1, key_pos (by decide)]; omega
  have o3 : (FloatKind.f64.format.order X X != some .eq) = false := by rw [ord_self_ne]; exact isNum_not_nan a2
  have o4 : (FloatKind.f64.format.order (absF X) 4503599627370496 == some .lt) = false := by
    rw [ax, ord_lt (isNum_not_nan a2) (by decide +kernel), decide_eq_false_iff_not, key_pos a1, key_pos (by decide)]; omega
  have b1 : (X : Int) / 4503599627370496 = E := by omega
  have b2 : bits .and .u64 (E : Int) 2047 = (E : Int) := by
    have h := and_nat .u64 (.inr (.inl rfl)) E 2047 (by omega) (by decide)
    rw [show (2047 : Nat) = 2 ^ 11 - 1 by decide, Nat.and_two_pow_sub_one_eq_mod, Nat.mod_eq_of_lt (by omega)] at h
    exact h
  obtain ⟨z1, hz1⟩ : ∃ z, z = bits .andNot .u64 (X : Int) 9218868437227405312 := ⟨_, rfl⟩
  have b3 := hz1.symm
  obtain ⟨z2, hz2⟩ : ∃ z, z = bits .or .u64 z1 4602678819172646912 := ⟨_, rfl⟩
  have b4 := hz2.symm

  clear a3 a4 a5 hz1 hz2 hf hX ax e2
  go_enter Try.func59, Try.ntmps59
  go_wp2_with (first | (go_at_call 54; refine (IsInf_any _ _).mono ?_; rintro e w' ⟨rfl, rfl⟩) | (go_at_call 55; refine (IsNaN_any _ _).mono ?_; rintro e w' ⟨rfl, rfl⟩) | (go_at_call 56; refine (normalize_big _ _ o4).mono ?_; rintro e w' ⟨rfl, rfl⟩))
  exact bodyPost_ret (v := .tuple #[.float .f64 z2.toNat, .int .i64 ((E : Int) - 1022)]) (by simp [results, Try.results59, go_sem, *]; try omega) rfl ⟨⟨_, rfl⟩, rfl⟩
set_option maxHeartbeats 800000 in
theorem Frexp_plain (b : Nat) (w : World) (hb : isNum .f64 b = true) (hs : sgn FloatKind.f64.format b = false) (hl : b < 2 ^ FloatKind.f64.format.width) (hE : 1 ≤ b / 4503599627370496) :
    Calls Try.prog 39 #[.float .f64 b] w fun e w' => (∃ z : Nat, e = .returned (.tuple #[.float .f64 z, .int .i64 (((b / 4503599627370496 : Nat) : Int) - 1022)])) ∧ w = w' := by
  have hb2 : b < 2 ^ 63 := by
    unfold sgn at hs; rw [sw64] at hs
    have hl : b < 2 ^ 64 := hl
    simp only [beq_eq_false_iff_ne] at hs
    omega
  have hE2 : b / 4503599627370496 ≤ 2046 := by
    have hn := hb
    unfold isNum rung at hn
    rw [sw64, Nat.mod_eq_of_lt hb2] at hn
    have : FloatKind.f64.format.infRung = 9218868437227405312 := by decide
    rw [this] at hn
    simp at hn
    omega
  have H := Lib.hid (fun w' => frexp_plain (b / 4503599627370496) (b % 4503599627370496) w' hE hE2 (Nat.mod_lt _ (by decide)))
  have e : b / 4503599627370496 * 4503599627370496 + b % 4503599627370496 = b := by omega
  rw [e] at H
  generalize ((b / 4503599627370496 : Nat) : Int) - 1022 = E at *
  clear hb hs hl hE hb2 hE2 e
  go_enter Try.func39, Try.ntmps39
  go_wp2_with (first | (go_at_call 59; refine (H.out _).mono ?_; rintro e w' ⟨⟨z, rfl⟩, rfl⟩))
  exact bodyPost_ret (v := .tuple #[.float .f64 z, .int .i64 E]) (by simp [results, Try.results39, go_sem, *]) rfl ⟨⟨_, rfl⟩, rfl⟩
theorem place_val {E f : Nat} (h1 : 1 ≤ E) (h2 : E ≤ 2046) (hf : f < 2 ^ 52) : (2 : Rat) ^ ((E : Int) - 1023) ≤ val .f64 (E * 2 ^ 52 + f) ∧ val .f64 (E * 2 ^ 52 + f) < (2 : Rat) ^ ((E : Int) - 1022) := by
  obtain ⟨-, -, -, -, a⟩ := plain64 h1 h2 hf
  have p := zp_pos ((E : Int) - 1075)
  have e1 : (2 : Rat) ^ ((E : Int) - 1023) = ((2 ^ 52 : Nat) : Rat) * (2 : Rat) ^ ((E : Int) - 1075) := by
    rw [← zp_nat, ← zp_add]; congr 1; omega
  have e2 : (2 : Rat) ^ ((E : Int) - 1022) = ((2 ^ 53 : Nat) : Rat) * (2 : Rat) ^ ((E : Int) - 1075) := by
    rw [← zp_nat, ← zp_add]; congr 1; omega
  rw [a, e1, e2]
  exact ⟨Rat.mul_le_mul_of_nonneg_right (Rat.natCast_le_natCast.2 (by omega)) (Rat.le_of_lt p), Rat.mul_lt_mul_of_pos_right (Rat.natCast_lt_natCast.2 (by omega)) p⟩
end Go.Proofs.Ytefjkelakecanaa
