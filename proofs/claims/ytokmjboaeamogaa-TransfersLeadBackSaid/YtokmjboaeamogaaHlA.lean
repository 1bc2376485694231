/- Bounds of roundings by a bound of the true value; weights of hues. Plain Lean. Conditions: what each theorem names. -/
import Derived.Test.YtokmjboaeamogaaBD
namespace Go.Proofs.Ytokmjboaeamogaa
open Go.RowKit
/-- Two numbers are at most c apart. -/
def Nr (a b c : Rat) : Prop := a ≤ b + c ∧ b ≤ a + c
theorem pow_find {q : Rat} (h1 : (2 : Rat) ^ (-101 : Int) ≤ q) : ∀ n : Nat, q < (2 : Rat) ^ (-101 + (n : Int)) → ∃ K : Int, -101 < K ∧ K ≤ -101 + (n : Int) ∧ (2 : Rat) ^ (K - 1) ≤ q ∧ q < (2 : Rat) ^ K
  | 0, h => by simp at h; grind
  | n + 1, h => by
    by_cases h2 : q < (2 : Rat) ^ (-101 + (n : Int))
    · obtain ⟨K, a, b, c, d⟩ := pow_find h1 n h2
      exact ⟨K, a, by omega, c, d⟩
    · refine ⟨-101 + ((n + 1 : Nat) : Int), by omega, Int.le_refl _, ?_, h⟩
      rw [show -101 + ((n + 1 : Nat) : Int) - 1 = -101 + (n : Int) by omega]
      grind
theorem rn_bd {q B : Rat} {b : Nat} (h : Rn .f32 q b) (hB : (2 : Rat) ^ (-101 : Int) ≤ B) (hB2 : B < (2 : Rat) ^ (99 : Int)) (h1 : -B ≤ q) (h2 : q ≤ B) : Nr (val .f32 b) q (B * (1 / 16777216)) := by
  obtain ⟨K, a, b1, c, d⟩ := pow_find hB 200 hB2
  have nr := h.near K (by rw [show FloatKind.f32.format.leastPlace + (FloatKind.f32.format.fractionBits : Int) + 1 = -125 by decide +kernel]; omega) (by show K < 128; omega) (by grind) (by grind)
  have e : (2 : Rat) ^ (K - 1 - (FloatKind.f32.format.fractionBits : Int)) = (2 : Rat) ^ (K - 1) * (1 / 8388608) := by
    rw [show K - 1 - (FloatKind.f32.format.fractionBits : Int) = K - 1 + -23 by rfl, zp_add, show (2 : Rat) ^ (-23 : Int) = 1 / 8388608 by decide +kernel]
  rw [e] at nr
  unfold Nr
  constructor <;> grind
theorem rn_bd64 {q B : Rat} {b : Nat} (h : Rn .f64 q b) (hB : (2 : Rat) ^ (-101 : Int) ≤ B) (hB2 : B < (2 : Rat) ^ (99 : Int)) (h1 : -B ≤ q) (h2 : q ≤ B) : Nr (val .f64 b) q (B * (1 / 9007199254740992)) := by
  obtain ⟨K, a, b1, c, d⟩ := pow_find hB 200 hB2
  have nr := h.near K (by rw [show FloatKind.f64.format.leastPlace + (FloatKind.f64.format.fractionBits : Int) + 1 = -1021 by decide +kernel]; omega) (by show K < 1024; omega) (by grind) (by grind)
  have e : (2 : Rat) ^ (K - 1 - (FloatKind.f64.format.fractionBits : Int)) = (2 : Rat) ^ (K - 1) * (1 / 4503599627370496) := by
    rw [show K - 1 - (FloatKind.f64.format.fractionBits : Int) = K - 1 + -52 by rfl, zp_add, show (2 : Rat) ^ (-52 : Int) = 1 / 4503599627370496 by decide +kernel]
  rw [e] at nr
  unfold Nr
  constructor <;> grind
theorem rq_bd {q B : Rat} {b : Nat} (h : Rq .f32 q b) (hB : (2 : Rat) ^ (-101 : Int) ≤ B) (hB2 : B < (2 : Rat) ^ (99 : Int)) (h1 : -B ≤ q) (h2 : q ≤ B) : Nr (val .f32 b) q (B * (1 / 8388608)) := by
  obtain ⟨K, a, b1, c, d⟩ := pow_find hB 200 hB2
  have nr := h.near K (by rw [show FloatKind.f32.format.leastPlace + (FloatKind.f32.format.fractionBits : Int) + 1 = -125 by decide +kernel]; omega) (by show K < 128; omega) (by grind) (by grind)
  have e : (2 : Rat) ^ (K - 1 - (FloatKind.f32.format.fractionBits : Int)) = (2 : Rat) ^ (K - 1) * (1 / 8388608) := by
    rw [show K - 1 - (FloatKind.f32.format.fractionBits : Int) = K - 1 + -23 by rfl, zp_add, show (2 : Rat) ^ (-23 : Int) = 1 / 8388608 by decide +kernel]
  rw [e] at nr
  unfold Nr
  constructor <;> grind
theorem Nr.mul {a b c v : Rat} (h : Nr a b c) (hv : 0 ≤ v) : Nr (v * a) (v * b) (v * c) := by
  have h1 := Rat.mul_le_mul_of_nonneg_left h.1 hv
  have h2 := Rat.mul_le_mul_of_nonneg_left h.2 hv
  unfold Nr
  constructor <;> grind
theorem Nr.times {a b c z w : Rat} (h : Nr a b c) (hc : 0 ≤ c) (h1 : -z ≤ w) (h2 : w ≤ z) : Nr (a * w) (b * w) (c * z) := by
  unfold Nr at *
  rcases (Rat.le_total : 0 ≤ w ∨ w ≤ 0) with hw | hw
  · have e1 := Rat.mul_le_mul_of_nonneg_right h.1 hw
    have e2 := Rat.mul_le_mul_of_nonneg_right h.2 hw
    have e3 := Rat.mul_le_mul_of_nonneg_left h2 hc
    constructor <;> grind
  · have hw' : 0 ≤ -w := by grind
    have e1 := Rat.mul_le_mul_of_nonneg_right h.1 hw'
    have e2 := Rat.mul_le_mul_of_nonneg_right h.2 hw'
    have e3 := Rat.mul_le_mul_of_nonneg_left (show -w ≤ z by grind) hc
    constructor <;> grind
theorem le_cancel {x c s : Rat} (hs : 0 < s) (h : x * s ≤ c * s) : x ≤ c := by
  rcases (Rat.le_total : x ≤ c ∨ c ≤ x) with h1 | h1
  · exact h1
  · have h2 := Rat.mul_le_mul_of_nonneg_right h1 (Rat.le_of_lt hs)
    have : x = c := rat_cancel hs (by grind)
    grind
/-- How much of red, green, blue a hue in sixths has. -/
def wR (x : Rat) : Rat := if x ≤ 1 then 1 else if x ≤ 2 then 2 - x else if x ≤ 4 then 0 else if x ≤ 5 then x - 4 else 1
def wG (x : Rat) : Rat := if x ≤ 0 then 0 else if x ≤ 1 then x else if x ≤ 3 then 1 else if x ≤ 4 then 4 - x else 0
def wB (x : Rat) : Rat := if x ≤ 0 then -x else if x ≤ 2 then 0 else if x ≤ 3 then x - 2 else if x ≤ 5 then 1 else 6 - x
theorem w_lip {x Y e : Rat} (h0 : 0 ≤ x) (y0 : -1 ≤ Y) (y1 : Y ≤ 5) (he : 0 ≤ e) (he2 : e ≤ 1 / 2) (h : Nr x Y e ∨ (Nr x (Y + 6) e ∧ Y ≤ e ∧ x ≤ 6 + e)) : Nr (wR x) (wR Y) e ∧ Nr (wG x) (wG Y) e ∧ Nr (wB x) (wB Y) e := by
  unfold Nr at *
  refine ⟨?_, ?_, ?_⟩
  · unfold wR; rcases h with ⟨a, b⟩ | ⟨⟨a, b⟩, c, d⟩ <;> (split <;> (repeat' split)) <;> grind
  · unfold wG; rcases h with ⟨a, b⟩ | ⟨⟨a, b⟩, c, d⟩ <;> (split <;> (repeat' split)) <;> grind
  · unfold wB; rcases h with ⟨a, b⟩ | ⟨⟨a, b⟩, c, d⟩ <;> (split <;> (repeat' split)) <;> grind
/-- The grid on which singles from 2^-20 on lie. -/
theorem grid_of {b : Nat} (h : isNum .f32 b = true) (h1 : (2 : Rat) ^ (-20 : Int) ≤ val .f32 b) : ∃ n : Nat, val .f32 b = (n : Rat) * (2 : Rat) ^ (-43 : Int) := by
  obtain ⟨m, e, hd, hq, hm, he⟩ := decode_num h
  have hs : sgn FloatKind.f32.format b = false := by
    cases hs : sgn FloatKind.f32.format b with
    | false => rfl
    | true =>
      exfalso
      rw [val_sg, hs] at h1; unfold sg at h1
      have := vq_nonneg FloatKind.f32.format (rung FloatKind.f32.format b)
      have := zp_pos (-20)
      simp at h1; grind
  rw [val_sg, hs] at h1 ⊢
  unfold sg at h1 ⊢
  simp only [Bool.false_eq_true, if_false] at h1 ⊢
  rw [← hq] at h1 ⊢
  have hm' : (m : Rat) < (2 : Rat) ^ (24 : Int) := by
    have := Rat.natCast_lt_natCast.2 hm
    rw [show (2 : Rat) ^ (24 : Int) = ((2 ^ 24 : Nat) : Rat) from zp_nat 24]; exact this
  have h2 : (2 : Rat) ^ (-20 : Int) < (2 : Rat) ^ (24 + e) := by
    rw [zp_add]
    exact rle_lt h1 (Rat.mul_lt_mul_of_pos_right hm' (zp_pos e))
  have h3 := zp_lt_iff h2
  refine ⟨m * 2 ^ (e + 43).toNat, ?_⟩
  rw [Rat.natCast_mul, ← zp_nat, Rat.mul_assoc, ← zp_add]
  congr 2; omega
theorem grid_diff {a b : Nat} (ha : isNum .f32 a = true) (hb : isNum .f32 b = true) (a1 : (2 : Rat) ^ (-20 : Int) ≤ val .f32 a) (b1 : (2 : Rat) ^ (-20 : Int) ≤ val .f32 b) (h : val .f32 b < val .f32 a) : (2 : Rat) ^ (-43 : Int) ≤ val .f32 a - val .f32 b := by
  obtain ⟨n, hn⟩ := grid_of ha a1
  obtain ⟨m, hm⟩ := grid_of hb b1
  rw [hn, hm] at h ⊢
  have hp := zp_pos (-43)
  have h1 : m < n := by
    rcases Nat.lt_or_ge m n with h1 | h1
    · exact h1
    · exfalso
      have := Rat.mul_le_mul_of_nonneg_right (Rat.natCast_le_natCast.2 h1) (Rat.le_of_lt hp)
      grind
  have h2 : ((m + 1 : Nat) : Rat) ≤ (n : Rat) := Rat.natCast_le_natCast.2 h1
  have h3 := Rat.mul_le_mul_of_nonneg_right h2 (Rat.le_of_lt hp)
  rw [Rat.natCast_add] at h3
  simp at h3
  grind
end Go.Proofs.Ytokmjboaeamogaa
