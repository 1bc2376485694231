/- Roundings up to the greatest number; singles of doubles. Plain Lean. Conditions: those named. -/
import Derived.Test.YtokmjboaeamogaaPhY
import Derived.Test.YtokmjboaeamogaaBH
namespace Go.Proofs.Ytokmjboaeamogaa
open Go Go.RowKit
/-- Rounding where the result is a number, or the true value is well below the end. -/
theorem nearest_top (k : FloatKind) (neg : Bool) (mag : Nat) (place K : Int) (hlo : k.format.leastPlace + k.format.fractionBits + 1 ≤ K) (hq : (mag : Rat) * (2 : Rat) ^ place < (2 : Rat) ^ K)
    (hn : isNum k (k.format.nearest neg mag place) = true ∨ 2 * ((mag : Rat) * (2 : Rat) ^ place) + (2 : Rat) ^ (K - 1 - k.format.fractionBits) < 2 * (2 : Rat) ^ emax k) :
    isNum k (k.format.nearest neg mag place) = true ∧ sgn k.format (k.format.nearest neg mag place) = neg ∧
    2 * vq k.format (rung k.format (k.format.nearest neg mag place)) ≤ 2 * ((mag : Rat) * (2 : Rat) ^ place) + (2 : Rat) ^ (K - 1 - k.format.fractionBits) ∧
    2 * ((mag : Rat) * (2 : Rat) ^ place) ≤ 2 * vq k.format (rung k.format (k.format.nearest neg mag place)) + (2 : Rat) ^ (K - 1 - k.format.fractionBits) := by
  have hsw := k.format.infRung_lt
  have hcp := zp_pos (K - 1 - k.format.fractionBits)
  rcases Nat.eq_zero_or_pos mag with h | h
  · subst h
    have hi : 0 < k.format.infRung := Nat.lt_of_lt_of_le (binade_pos _) (binade_le_inf _ (exp_ok k))
    have e : k.format.nearest neg 0 place = k.format.word neg 0 := rfl
    have z : ((0 : Nat) : Rat) * (2 : Rat) ^ place = 0 := by rw [show ((0 : Nat) : Rat) = 0 from rfl]; exact Rat.zero_mul _
    rw [e, z, rung_word _ _ (by omega), vq_zero]
    refine ⟨?_, sgn_word _ _ (by omega), by grind, by grind⟩
    unfold isNum; rw [rung_word _ _ (by omega)]; simpa using hi
  · obtain ⟨r, hr, h1, h2, -⟩ := nearest_spec k.format (frac_ok k) neg mag place h
    have hlog := log_le mag place h
    have hL : lastOf k.format mag place ≤ K - 1 - k.format.fractionBits := by
      have := zp_lt_iff (rle_lt hlog hq)
      unfold lastOf; omega
    have hc := zp_le hL
    have hlt : r < k.format.infRung := by
      rcases hn with hn | hn
      · rw [hr] at hn
        unfold isNum at hn
        rw [rung_word _ _ (by omega)] at hn
        have hn := of_decide_eq_true hn
        omega
      · refine (vq_lt_iff k.format).1 ?_
        rw [vq_inf]
        grind
    have e : k.format.nearest neg mag place = k.format.word neg r := by rw [hr, Nat.min_eq_left (by omega)]
    rw [e, rung_word _ _ (by omega)]
    refine ⟨?_, sgn_word _ _ (by omega), by grind, by grind⟩
    unfold isNum; rw [rung_word _ _ (by omega)]; simpa using hlt
/-- The single of a positive double. -/
theorem down_top {y : Nat} (K : Int) (hy : isNum .f64 y = true) (h0 : 0 ≤ val .f64 y) (hlo : -125 ≤ K) (hq : val .f64 y < (2 : Rat) ^ K) (hn : 2 * val .f64 y + (2 : Rat) ^ (K - 24) < 2 * (2 : Rat) ^ (128 : Int)) :
    ovf .f64 .f32 y = false ∧ isNum .f32 (fcv .f64 .f32 y) = true ∧ Nr (val .f32 (fcv .f64 .f32 y)) (val .f64 y) ((2 : Rat) ^ (K - 25)) := by
  obtain ⟨m, e, hd, hm, -, -⟩ := decode_num hy
  have hf : fcv .f64 .f32 y = FloatKind.f32.encode (.number (sgn FloatKind.f64.format y) m e) := fcv_dec (isNum_not_nan hy) hd
  have hf2 : FloatKind.f32.encode (.number (sgn FloatKind.f64.format y) m e) = FloatKind.f32.format.nearest (sgn FloatKind.f64.format y) m e := rfl
  have nn := mag_nonneg m e
  rw [val_sg .f64 y, ← hm] at h0 hq hn ⊢
  have q1 : (m : Rat) * (2 : Rat) ^ e < (2 : Rat) ^ K := by
    have := zp_pos K
    unfold sg at hq h0
    split at hq <;> grind
  have q2 : sg (sgn FloatKind.f64.format y) ((m : Rat) * (2 : Rat) ^ e) = (m : Rat) * (2 : Rat) ^ e := by
    unfold sg at h0 ⊢
    split at h0 <;> grind
  rw [q2] at hn
  obtain ⟨g1, g2, g3, g4⟩ := nearest_top .f32 (sgn FloatKind.f64.format y) m e K (by rw [show FloatKind.f32.format.leastPlace + (FloatKind.f32.format.fractionBits : Int) + 1 = -125 by decide +kernel]; exact hlo) q1 (.inr (by
    rw [show K - 1 - (FloatKind.f32.format.fractionBits : Int) = K - 24 by rw [show (FloatKind.f32.format.fractionBits : Int) = 23 by decide]; omega]
    exact hn))
  rw [← hf2, ← hf] at g1 g2 g3 g4
  rw [show K - 1 - (FloatKind.f32.format.fractionBits : Int) = (K - 25) + 1 by rw [show (FloatKind.f32.format.fractionBits : Int) = 23 by decide]; omega, zp_add, show (2 : Rat) ^ (1 : Int) = 2 by decide +kernel] at g3 g4
  refine ⟨?_, g1, ?_⟩
  · unfold ovf
    rw [hd, ← hf]
    obtain ⟨m', e', h', -, -, -⟩ := decode_num g1
    rw [h']; rfl
  · rw [val_sg, g2]
    unfold Nr
    generalize vq FloatKind.f32.format (rung FloatKind.f32.format (fcv .f64 .f32 y)) = V at *
    unfold sg at q2 ⊢
    split <;> rename_i hs <;> simp only [hs] at q2 <;> simp at q2 <;> constructor <;> grind
end Go.Proofs.Ytokmjboaeamogaa
