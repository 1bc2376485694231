/- num.Log2 of a single between the 120th powers: near the logarithm. Conditions: those named. -/
import Derived.Test.YtokmjboaeamogaaPiB
namespace Go.Proofs.Ytokmjboaeamogaa
open Go Go.RowKit
theorem down_Rn {y : Nat} (K : Int) (hy : isNum .f64 y = true) (hlo : -125 ≤ K) (hhi : K < 128) (h1 : -((2 : Rat) ^ K) < val .f64 y) (h2 : val .f64 y < (2 : Rat) ^ K) :
    ovf .f64 .f32 y = false ∧ Rn .f32 (val .f64 y) (fcv .f64 .f32 y) := by
  obtain ⟨m, e, hd, hm, -, -⟩ := decode_num hy
  have hf : fcv .f64 .f32 y = FloatKind.f32.encode (.number (sgn FloatKind.f64.format y) m e) := fcv_dec (isNum_not_nan hy) hd
  have hf2 : FloatKind.f32.encode (.number (sgn FloatKind.f64.format y) m e) = FloatKind.f32.format.nearest (sgn FloatKind.f64.format y) m e := rfl
  have R : Rn .f32 (val .f64 y) (fcv .f64 .f32 y) := by
    rw [hf, hf2]
    refine nearest_Rn .f32 _ m e K (by rw [show FloatKind.f32.format.leastPlace + (FloatKind.f32.format.fractionBits : Int) + 1 = -125 by decide +kernel]; exact hlo) hhi ?_ h1 h2
    rw [val_sg, ← hm]
  refine ⟨?_, R⟩
  unfold ovf
  rw [hd, ← hf]
  obtain ⟨m', e', h', -, -, -⟩ := decode_num R.num
  rw [h']; rfl
/-- l is the single near the logarithm of x. -/
def LogR (x : Rat) (l : Nat) : Prop := isNum .f32 l = true ∧ -125 ≤ val .f32 l ∧ val .f32 l ≤ 125 ∧ ∃ d, LogP x d ∧ Nr (val .f32 l) d (1 / 262144)
theorem logp_in {x d : Rat} (h : LogP x d) (h1 : (2 : Rat) ^ (-120 : Int) ≤ x) (h2 : x ≤ (2 : Rat) ^ (120 : Int)) : -122 ≤ d ∧ d ≤ 122 := by
  obtain ⟨m, s, t, n, e1, e2, e3, e4, e5, e6, e7, e8, -, -⟩ := h
  have b1 : sB = 8580 / 50000 := rfl
  have m0 : 7 / 10 ≤ m := by
    refine le_canc (show 0 < 1 - s by grind) ?_
    rw [e2]; grind
  have m1 : m ≤ 3 / 2 := by
    refine le_canc (show 0 < 1 - s by grind) ?_
    rw [e2]; grind
  have z := zp_pos n
  have two : (2 : Rat) ^ (1 : Int) = 2 := by decide +kernel
  have a1 : (2 : Rat) ^ n < (2 : Rat) ^ (121 : Int) := by
    have := Rat.mul_le_mul_of_nonneg_right m0 (Rat.le_of_lt z)
    rw [show (121 : Int) = 120 + 1 by rfl, zp_add, two]
    have := zp_pos 120
    grind
  have a2 : (2 : Rat) ^ (-121 : Int) < (2 : Rat) ^ n := by
    have := Rat.mul_le_mul_of_nonneg_right m1 (Rat.le_of_lt z)
    have h3 : (2 : Rat) ^ (-120 : Int) = (2 : Rat) ^ (-121 : Int) * 2 := by
      rw [show (-120 : Int) = -121 + 1 by rfl, zp_add, two]
    have := zp_pos (-121)
    grind
  have b2 := zp_lt_iff a1
  have b3 := zp_lt_iff a2
  have c1 : ((-120 : Int) : Rat) ≤ (n : Rat) := Rat.intCast_le_intCast.2 (by omega)
  have c2 : (n : Rat) ≤ ((120 : Int) : Rat) := Rat.intCast_le_intCast.2 (by omega)
  have c1 : (-120 : Rat) ≤ (n : Rat) := c1
  have c2 : (n : Rat) ≤ 120 := c2
  unfold Nr at e8
  constructor <;> grind
theorem log_down {x : Rat} {D : Nat} (hD : isNum .f64 D = true) (h : LogP x (val .f64 D)) (h1 : (2 : Rat) ^ (-120 : Int) ≤ x) (h2 : x ≤ (2 : Rat) ^ (120 : Int)) :
    ∃ l, ovf .f64 .f32 D = false ∧ fcv .f64 .f32 D = l ∧ isN .f32 l = false ∧ cn .f32 l = l ∧ LogR x l := by
  obtain ⟨a, b⟩ := logp_in h h1 h2
  have c7 : (2 : Rat) ^ (7 : Int) = 128 := by decide +kernel
  obtain ⟨o, R⟩ := down_Rn 7 hD (by decide) (by decide) (by rw [c7]; grind) (by rw [c7]; grind)
  have nr := R.near 7 (by decide) (by decide) (by rw [c7]; grind) (by rw [c7]; grind)
  rw [show (2 : Rat) ^ ((7 : Int) - 1 - (FloatKind.f32.format.fractionBits : Int)) = 1 / 131072 by decide +kernel] at nr
  have hn := isNum_not_nan R.num
  refine ⟨_, o, rfl, hn, by unfold cn; rw [hn]; rfl, R.num, by grind, by grind, _, h, ?_⟩
  unfold Nr; constructor <;> grind
/-- What a single between the powers is as a double. -/
theorem up_parts {v : Nat} (hv : isNum .f32 v = true) (h1 : (2 : Rat) ^ (-120 : Int) ≤ val .f32 v) (h2 : val .f32 v ≤ (2 : Rat) ^ (120 : Int)) :
    ∃ E f : Nat, fcv .f32 .f64 v = E * 4503599627370496 + f ∧ 822 ≤ E ∧ E ≤ 1222 ∧ f < 4503599627370496 ∧ isNum .f64 (fcv .f32 .f64 v) = true ∧ val .f64 (fcv .f32 .f64 v) = val .f32 v := by
  obtain ⟨u1, u2, u3⟩ := up_exact hv
  have hx : val .f64 (fcv .f32 .f64 v) = val .f32 v := by rw [val_sg, val_sg, u2, u3]
  have hl : fcv .f32 .f64 v < 2 ^ FloatKind.f64.format.width := fcv_lt _ _ _
  obtain ⟨b, hb⟩ : ∃ b, b = fcv .f32 .f64 v := ⟨_, rfl⟩
  rw [← hb] at u1 hx hl ⊢
  have c0 : val .f64 (903 * 4503599627370496) = (2 : Rat) ^ (-120 : Int) := by decide +kernel
  have c1 : val .f64 (1143 * 4503599627370496) = (2 : Rat) ^ (120 : Int) := by decide +kernel
  have k0 : key FloatKind.f64.format (903 * 4503599627370496) = 903 * 4503599627370496 := by decide +kernel
  have k1 : key FloatKind.f64.format (1143 * 4503599627370496) = 1143 * 4503599627370496 := by decide +kernel
  have g0 := val_le_key.1 (show val .f64 (903 * 4503599627370496) ≤ val .f64 b by rw [c0, hx]; exact h1)
  have g1 := val_le_key.1 (show val .f64 b ≤ val .f64 (1143 * 4503599627370496) by rw [c1, hx]; exact h2)
  rw [k0] at g0
  rw [k1] at g1
  have hs : sgn FloatKind.f64.format b = false := by
    cases hs : sgn FloatKind.f64.format b with
    | false => rfl
    | true => exfalso; unfold key at g0; rw [hs] at g0; simp at g0; omega
  have hp : b < 2 ^ 63 := by
    unfold sgn at hs; rw [sw64] at hs
    have hl : b < 2 ^ 64 := hl
    simp only [beq_eq_false_iff_ne] at hs
    omega
  rw [key_pos hp] at g0 g1
  exact ⟨b / 4503599627370496, b % 4503599627370496, by omega, by omega, by omega, by omega, u1, hx⟩
end Go.Proofs.Ytokmjboaeamogaa
