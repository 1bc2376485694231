/- Rounding to singles, relative to the value. Plain Lean. Conditions: those named. -/
import Derived.Test.YtokmjboaeamogaaPiD
namespace Go.Proofs.Ytokmjboaeamogaa
open Go Go.RowKit
theorem pow_from {q : Rat} (h1 : (2 : Rat) ^ (-125 : Int) ≤ q) : ∀ n : Nat, q < (2 : Rat) ^ (-125 + (n : Int)) → ∃ K : Int, -125 < K ∧ K ≤ -125 + (n : Int) ∧ (2 : Rat) ^ (K - 1) ≤ q ∧ q < (2 : Rat) ^ K
  | 0, h => by simp at h; grind
  | n + 1, h => by
    by_cases h2 : q < (2 : Rat) ^ (-125 + (n : Int))
    · obtain ⟨K, a, b, c, d⟩ := pow_from h1 n h2
      exact ⟨K, a, by omega, c, d⟩
    · refine ⟨-125 + ((n + 1 : Nat) : Int), by omega, Int.le_refl _, ?_, h⟩
      rw [show -125 + ((n + 1 : Nat) : Int) - 1 = -125 + (n : Int) by omega]
      grind
theorem pow_rel {q : Rat} (h1 : (2 : Rat) ^ (-126 : Int) * (99 / 100) ≤ q) (h2 : q < (2 : Rat) ^ (128 : Int)) : ∃ K : Int, -125 ≤ K ∧ K ≤ 128 ∧ q < (2 : Rat) ^ K ∧ (2 : Rat) ^ (K - 25) ≤ q * (1 / 16600000) := by
  by_cases h : q < (2 : Rat) ^ (-125 : Int)
  · refine ⟨-125, by decide, by decide, h, ?_⟩
    have e : (2 : Rat) ^ ((-125 : Int) - 25) = (2 : Rat) ^ (-126 : Int) * (1 / 16777216) := by decide +kernel
    have z := zp_pos (-126)
    rw [e]
    grind
  · obtain ⟨K, a, b, c, d⟩ := pow_from (q := q) (by grind) 253 h2
    refine ⟨K, by omega, by omega, d, ?_⟩
    have e : (2 : Rat) ^ (K - 25) = (2 : Rat) ^ (K - 1) * (1 / 16777216) := by
      rw [show K - 25 = K - 1 + -24 by omega, zp_add, show (2 : Rat) ^ (-24 : Int) = 1 / 16777216 by decide +kernel]
    have z := zp_pos (K - 1)
    rw [e]
    grind
/-- The single of a positive double, relative to it. -/
theorem down_rel {y : Nat} (hy : isNum .f64 y = true) (h1 : (2 : Rat) ^ (-126 : Int) * (99 / 100) ≤ val .f64 y) (h2 : val .f64 y ≤ (2 : Rat) ^ (128 : Int) * (16777215 / 16777216)) :
    ovf .f64 .f32 y = false ∧ isNum .f32 (fcv .f64 .f32 y) = true ∧ Nr (val .f32 (fcv .f64 .f32 y)) (val .f64 y) (val .f64 y * (1 / 16600000)) := by
  have z := zp_pos (-126)
  have z2 := zp_pos 128
  obtain ⟨K, a, b, c, d⟩ := pow_rel h1 (by grind)
  have e : (2 : Rat) ^ (K - 24) = (2 : Rat) ^ (K - 25) * 2 := by
    rw [show K - 24 = K - 25 + 1 by omega, zp_add, show (2 : Rat) ^ (1 : Int) = 2 by decide +kernel]
  have e2 : (2 : Rat) ^ (K - 25) ≤ (2 : Rat) ^ (128 : Int) * (1 / 33554432) := by
    have h : (2 : Rat) ^ (K - 25) ≤ (2 : Rat) ^ ((128 : Int) - 25) := zp_le (by omega)
    have : (2 : Rat) ^ ((128 : Int) - 25) = (2 : Rat) ^ (128 : Int) * (1 / 33554432) := by decide +kernel
    grind
  obtain ⟨g1, g2, g3⟩ := down_top K hy (by grind) a c (by rw [e]; grind)
  refine ⟨g1, g2, ?_⟩
  unfold Nr at *
  constructor <;> grind
end Go.Proofs.Ytokmjboaeamogaa
