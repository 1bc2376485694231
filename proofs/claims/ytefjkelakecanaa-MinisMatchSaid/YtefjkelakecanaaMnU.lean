/- Small floats: the facts that the walk of num.Mini stands on. Plain Lean. Conditions: those named. -/
import Derived.Test.YtefjkelakecanaaMnT
namespace Go.Proofs.Ytefjkelakecanaa
open Go.RowKit
theorem or_none (k : Nat) (hk : k < 2 ^ 32) : bits .or .i64 0 (k : Int) = (k : Int) := by
  have h := or_nat .i64 (.inl rfl) 0 k (by decide) hk
  rw [Nat.zero_or] at h; exact h
theorem or_two (t a k : Nat) (hk : k < 2 ^ t) (hb : 2 ^ t * a + k < 2 ^ 32) : bits .or .i64 ((2 ^ t * a : Nat) : Int) (k : Int) = ((2 ^ t * a + k : Nat) : Int) := by
  have h := or_nat .i64 (.inl rfl) (2 ^ t * a) k (by omega) (by omega)
  rw [h, Nat.two_pow_add_eq_or_of_lt hk]
theorem and_sign (v : Nat) (hv : v < 2 ^ 32) : bits .and .u32 (v : Int) 2147483648 = if v < 2147483648 then 0 else 2147483648 := by
  have := and_nat .u32 (.inr (.inr rfl)) v 2147483648 hv (by decide)
  rw [show ((2147483648 : Nat) : Int) = 2147483648 from rfl] at this
  rw [this, show (2147483648 : Nat) = 2 ^ 31 from rfl, and_bit v hv]
  split <;> rfl
/-- The magnitude of a single that is a number above 0, as a double: its word's exponent tells where it lies. -/
theorem abs_place {v : Nat} (hn : isNum .f32 v = true) (h0 : magF v ≠ 0) (b : Nat) (hb : b = absF (fcv .f32 .f64 v)) :
    isNum .f64 b = true ∧ sgn FloatKind.f64.format b = false ∧ b < 2 ^ 63 ∧ val .f64 b = vq FloatKind.f32.format (rung FloatKind.f32.format v) ∧ 874 ≤ b / 4503599627370496 ∧ b / 4503599627370496 ≤ 1150 ∧
    (2 : Rat) ^ (((b / 4503599627370496 : Nat) : Int) - 1023) ≤ val .f64 b ∧ val .f64 b < (2 : Rat) ^ (((b / 4503599627370496 : Nat) : Int) - 1022) := by
  obtain ⟨u1, -, u3⟩ := up_exact hn
  have hx := fcv_lt .f32 .f64 v
  obtain ⟨r1, r2⟩ := abs_rung hx
  have hb2 : b < 2 ^ 63 := by rw [hb, absF_eq hx]; exact Nat.mod_lt _ (by decide)
  have hs : sgn FloatKind.f64.format b = false := by unfold sgn; rw [sw64, Nat.div_eq_of_lt hb2]; rfl
  have hnum : isNum .f64 b = true := by unfold isNum at u1 ⊢; rw [hb, r1]; exact u1
  have hval : val .f64 b = vq FloatKind.f32.format (rung FloatKind.f32.format v) := by rw [val_sg, hs, hb, r1, u3]; rfl
  have hm : magF v < 2139095040 := by unfold isNum at hn; rw [inf32] at hn; simpa [magF] using hn
  have hrm : rung FloatKind.f32.format v = magF v := rfl
  have k1 : key FloatKind.f64.format 3936146074321813504 ≤ key FloatKind.f64.format b := val_le_key.1 (by
    rw [hval, hrm, show val .f64 3936146074321813504 = vq FloatKind.f32.format 1 by decide +kernel]
    exact (vq_le_iff _).2 (by omega))
  have k2 : key FloatKind.f64.format b ≤ key FloatKind.f64.format 5183643170566569984 := val_le_key.1 (by
    rw [hval, hrm, show val .f64 5183643170566569984 = vq FloatKind.f32.format 2139095039 by decide +kernel]
    exact (vq_le_iff _).2 (by omega))
  rw [key_pos hb2, key_pos (by decide)] at k1 k2
  have e1 : 874 ≤ b / 4503599627370496 := by omega
  have e2 : b / 4503599627370496 ≤ 1150 := by omega
  have e : b / 4503599627370496 * 2 ^ 52 + b % 4503599627370496 = b := by
    have : (2 : Nat) ^ 52 = 4503599627370496 := by decide
    rw [this]; omega
  obtain ⟨p1, p2⟩ := place_val (E := b / 4503599627370496) (f := b % 4503599627370496) (by omega) (by omega) (Nat.mod_lt _ (by decide))
  rw [e] at p1 p2
  exact ⟨hnum, hs, hb2, hval, e1, e2, p1, p2⟩
/-- Where e is the greater of the number's place and of the least one, the number over 2 ^ (e - F) rounds to the code's number. -/
theorem mini_code {X F n : Nat} {q t : Rat} {E e : Int} (hF : 1 ≤ F) (hq1 : (2 : Rat) ^ E ≤ q) (hq2 : q < (2 : Rat) ^ (E + 1)) (he : e = max E (1 - (2 ^ (X - 1) - 1))) (ht : t = q * (2 : Rat) ^ ((F : Int) - e))
    (h1 : 2 * (n : Rat) ≤ 2 * t + 1) (h2 : 2 * t ≤ 2 * (n : Rat) + 1) (h3 : 2 * (n : Rat) = 2 * t + 1 ∨ 2 * t = 2 * (n : Rat) + 1 → n % 2 = 0) :
    0 ≤ t ∧ t < ((2 ^ (F + 1) : Nat) : Rat) ∧ n ≤ 2 ^ (F + 1) ∧ ∃ j : Nat, e = (j : Int) + (1 - (2 ^ (X - 1) - 1)) ∧ (n < 2 ^ F → j = 0) ∧ codeK X F q (min (j * 2 ^ F + n) (allK X F)) := by
  have p := zp_pos ((F : Int) - e)
  have t0 : 0 ≤ t := by
    have q0 : 0 ≤ q := Rat.le_trans (Rat.le_of_lt (zp_pos E)) hq1
    rw [ht]; exact Rat.mul_nonneg q0 (Rat.le_of_lt p)
  have t1 : t < ((2 ^ (F + 1) : Nat) : Rat) := by
    have a := Rat.mul_lt_mul_of_pos_right hq2 p
    rw [← ht, ← zp_add] at a
    rw [← zp_nat]
    exact rlt_le a (zp_le (by omega))
  have hn : n ≤ 2 ^ (F + 1) := by
    have a : 2 * (n : Rat) < 2 * ((2 ^ (F + 1) : Nat) : Rat) + 1 := by grind
    have b : ((2 * n : Nat) : Rat) < ((2 * 2 ^ (F + 1) + 1 : Nat) : Rat) := by push_cast; push_cast at a; exact a
    have c := Rat.natCast_lt_natCast.1 b
    omega
  obtain ⟨j, hj⟩ : ∃ j : Nat, e = (j : Int) + (1 - (2 ^ (X - 1) - 1)) := ⟨(e - (1 - (2 ^ (X - 1) - 1))).toNat, by omega⟩
  have hjt : j = 0 ∨ ((2 ^ F : Nat) : Rat) ≤ t := by
    rcases Nat.eq_zero_or_pos j with h | h
    · exact .inl h
    · right
      have hE : E = e := by omega
      have a := Rat.mul_le_mul_of_nonneg_right hq1 (Rat.le_of_lt p)
      rw [← ht, ← zp_add] at a
      rw [← zp_nat]
      exact Rat.le_trans (zp_le (by omega)) a
  refine ⟨t0, t1, hn, j, hj, ?_, ?_⟩
  · intro h
    rcases hjt with h4 | h4
    · exact h4
    · exfalso
      have a : ((n + 1 : Nat) : Rat) ≤ ((2 ^ F : Nat) : Rat) := Rat.natCast_le_natCast.2 h
      have b : ((n + 1 : Nat) : Rat) = (n : Rat) + 1 := by push_cast; rfl
      rw [b] at a
      grind
  · refine code_min (A := t * ((2 ^ j : Nat) : Rat)) ?_ (near_of_even hF t0 hjt t1 h1 h2 h3)
    rw [ht, ← zp_nat, stepQ, Rat.mul_assoc, Rat.mul_assoc, ← zp_add, ← zp_add]
    have : (F : Int) - e + ((j : Int) + (1 - (2 ^ (X - 1) - 1) - F)) = 0 := by omega
    rw [this, Rat.zpow_zero, Rat.mul_one]
end Go.Proofs.Ytefjkelakecanaa
