/- The single square. Plain Lean. Conditions: those named. -/
import Derived.Test.YtokmjboaeamogaaPiG
namespace Go.Proofs.Ytokmjboaeamogaa
open Go Go.RowKit
/-- The single product where it is a number: near the true square. -/
theorem mul_top {v : Nat} (K : Int) (hv : isNum .f32 v = true) (hlo : -125 ≤ K) (hq : val .f32 v * val .f32 v < (2 : Rat) ^ K) (hn : isNum .f32 (fop .mul .f32 v v) = true) :
    Nr (val .f32 (fop .mul .f32 v v)) (val .f32 v * val .f32 v) ((2 : Rat) ^ (K - 25)) := by
  obtain ⟨m, e, d1, v1, -, -⟩ := decode_num hv
  have hf : fop .mul .f32 v v = FloatKind.f32.format.nearest (sgn FloatKind.f32.format v ^^ sgn FloatKind.f32.format v) (m * m) (e + e) := by
    have g1 : FloatKind.f32.format.read v = _ := d1
    unfold fop floatBits Ieee.Format.mul
    simp only []
    rw [g1]; rfl
  have q1 : val .f32 v * val .f32 v = ((m * m : Nat) : Rat) * (2 : Rat) ^ (e + e) := by
    rw [val_sg, ← v1, zp_add, Rat.natCast_mul]
    cases sgn FloatKind.f32.format v <;> simp [sg] <;> grind
  rw [q1] at hq ⊢
  rw [hf] at hn
  obtain ⟨g1, g2, g3, g4⟩ := nearest_top .f32 _ _ _ K (by rw [show FloatKind.f32.format.leastPlace + (FloatKind.f32.format.fractionBits : Int) + 1 = -125 by decide +kernel]; exact hlo) hq (.inl hn)
  rw [← hf] at g1 g2 g3 g4
  have ek : (2 : Rat) ^ (K - 1 - (FloatKind.f32.format.fractionBits : Int)) = (2 : Rat) ^ (K - 25) * 2 := by
    rw [show K - 1 - (FloatKind.f32.format.fractionBits : Int) = (K - 25) + 1 by rw [show (FloatKind.f32.format.fractionBits : Int) = 23 by decide]; omega, zp_add, show (2 : Rat) ^ (1 : Int) = 2 by decide +kernel]
  rw [ek] at g3 g4
  have b : (sgn FloatKind.f32.format v ^^ sgn FloatKind.f32.format v) = false := by cases sgn FloatKind.f32.format v <;> rfl
  rw [val_sg, g2, b]
  unfold Nr sg
  simp only [Bool.false_eq_true, if_false]
  constructor <;> grind
theorem num_top {s : Nat} (hs : isNum .f32 s = true) : val .f32 s < (2 : Rat) ^ (128 : Int) := by
  have nm : isNum .f32 2139095039 = true := by decide +kernel
  have km : key FloatKind.f32.format 2139095039 = 2139095039 := by decide +kernel
  have hm : key FloatKind.f32.format s ≤ 2139095039 := by
    have h := hs
    unfold isNum at h
    have h := of_decide_eq_true h
    rw [inf32] at h
    unfold key
    split <;> omega
  have h := val_le_key.2 (show key FloatKind.f32.format s ≤ key FloatKind.f32.format 2139095039 by rw [km]; exact hm)
  have c : val .f32 2139095039 < (2 : Rat) ^ (128 : Int) := by decide +kernel
  grind
/-- A positive single whose square is a number: the square lies below 2 to the 128. -/
theorem square_lt {v : Nat} (hl : v < 2 ^ FloatKind.f32.format.width) (hv : isNum .f32 v = true) (h2 : val .f32 v ≤ (2 : Rat) ^ (120 : Int)) (hn : isNum .f32 (fop .mul .f32 v v) = true) :
    val .f32 v < (2 : Rat) ^ (64 : Int) := by
  by_cases hx : val .f32 v < (2 : Rat) ^ (64 : Int)
  · exact hx
  · exfalso
    have c0 : val .f32 1602224128 = (2 : Rat) ^ (64 : Int) := by decide +kernel
    have k0 : key FloatKind.f32.format 1602224128 = 1602224128 := by decide +kernel
    have k1 : key FloatKind.f32.format 1602224129 = 1602224129 := by decide +kernel
    have c1 : val .f32 1602224129 = (2 : Rat) ^ (64 : Int) * (8388609 / 8388608) := by decide +kernel
    have g := val_le_key.1 (show val .f32 1602224128 ≤ val .f32 v by rw [c0]; grind)
    rw [k0] at g
    by_cases he : key FloatKind.f32.format v = 1602224128
    · have e : val .f32 v = val .f32 1602224128 := Rat.le_antisymm (val_le_key.2 (by rw [k0, he]; exact Int.le_refl _)) (val_le_key.2 (by rw [k0, he]; exact Int.le_refl _))
      have e2 : v = 1602224128 := bits_of_val hl (by decide) e (by grind)
      rw [e2] at hn
      exact absurd hn (by decide +kernel)
    · have h3 := val_le_key.2 (show key FloatKind.f32.format 1602224129 ≤ key FloatKind.f32.format v by rw [k1]; omega)
      rw [c1] at h3
      have z := zp_pos 64
      have e128 : (2 : Rat) ^ (128 : Int) = (2 : Rat) ^ (64 : Int) * (2 : Rat) ^ (64 : Int) := by decide +kernel
      obtain ⟨x, hx2⟩ : ∃ x, x = val .f32 v := ⟨_, rfl⟩
      have q1 : (2 : Rat) ^ (128 : Int) * (8388610 / 8388608) ≤ x * x := by
        have p := Rat.mul_nonneg (show 0 ≤ x - (2 : Rat) ^ (64 : Int) * (8388609 / 8388608) by grind) (show 0 ≤ x + (2 : Rat) ^ (64 : Int) * (8388609 / 8388608) by grind)
        rw [e128]
        have z2 := Rat.mul_pos z z
        grind
      have q2 : x * x < (2 : Rat) ^ (241 : Int) := by
        have p := Rat.mul_nonneg (show 0 ≤ (2 : Rat) ^ (120 : Int) - x by grind) (show 0 ≤ (2 : Rat) ^ (120 : Int) + x by grind)
        have e240 : (2 : Rat) ^ (241 : Int) = (2 : Rat) ^ (120 : Int) * (2 : Rat) ^ (120 : Int) * 2 := by decide +kernel
        have z3 := Rat.mul_pos (zp_pos 120) (zp_pos 120)
        rw [e240]
        grind
      have z1 := zp_pos 128
      obtain ⟨K, a, b, c, d⟩ := pow_from (q := x * x) (by
        have : (2 : Rat) ^ (-125 : Int) ≤ (2 : Rat) ^ (128 : Int) := zp_le (by decide)
        grind) 366 q2
      have mt := mul_top K hv (by omega) (by rw [← hx2]; exact d) hn
      rw [← hx2] at mt
      have e : (2 : Rat) ^ (K - 25) = (2 : Rat) ^ (K - 1) * (1 / 16777216) := by
        rw [show K - 25 = K - 1 + -24 by omega, zp_add, show (2 : Rat) ^ (-24 : Int) = 1 / 16777216 by decide +kernel]
      rw [e] at mt
      have nt := num_top hn
      unfold Nr at mt
      grind
/-- The single square, relative to the true one. -/
theorem square_rel {v : Nat} (hl : v < 2 ^ FloatKind.f32.format.width) (hv : isNum .f32 v = true) (h0 : 0 < val .f32 v) (h2 : val .f32 v ≤ (2 : Rat) ^ (120 : Int)) (hn : isNum .f32 (fop .mul .f32 v v) = true) (hs : (2 : Rat) ^ (-126 : Int) ≤ val .f32 (fop .mul .f32 v v)) :
    Nr (val .f32 (fop .mul .f32 v v)) (val .f32 v * val .f32 v) (val .f32 v * val .f32 v * (1 / 16600000)) ∧ (2 : Rat) ^ (-126 : Int) * (999 / 1000) ≤ val .f32 v * val .f32 v := by
  have hx := square_lt hl hv h2 hn
  obtain ⟨x, hx2⟩ : ∃ x, x = val .f32 v := ⟨_, rfl⟩
  have z := zp_pos (-126)
  have e128 : (2 : Rat) ^ (128 : Int) = (2 : Rat) ^ (64 : Int) * (2 : Rat) ^ (64 : Int) := by decide +kernel
  have q2 : x * x < (2 : Rat) ^ (128 : Int) := by
    have p := Rat.mul_pos (show 0 < (2 : Rat) ^ (64 : Int) - x by grind) (show 0 < (2 : Rat) ^ (64 : Int) + x by grind)
    rw [e128]; grind
  have q1 : (2 : Rat) ^ (-126 : Int) * (999 / 1000) ≤ x * x := by
    by_cases hq : x * x < (2 : Rat) ^ (-126 : Int)
    · have e0 : (2 : Rat) ^ (-125 : Int) = (2 : Rat) ^ (-126 : Int) * 2 := by decide +kernel
      have mt := mul_top (-125) hv (by decide) (by rw [← hx2, e0]; grind) hn
      have e : (2 : Rat) ^ ((-125 : Int) - 25) = (2 : Rat) ^ (-126 : Int) * (1 / 16777216) := by decide +kernel
      rw [e, ← hx2] at mt
      unfold Nr at mt
      grind
    · grind
  obtain ⟨K, a, b, c, d⟩ := pow_rel (q := x * x) (by grind) q2
  have mt := mul_top K hv a (by rw [← hx2]; exact c) hn
  rw [← hx2] at mt ⊢
  refine ⟨?_, q1⟩
  unfold Nr at *
  constructor <;> grind
end Go.Proofs.Ytokmjboaeamogaa
