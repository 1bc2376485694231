/- num.Power of 2, joined. Conditions: those named. -/
import Derived.Test.YtokmjboaeamogaaPiJ
namespace Go.Proofs.Ytokmjboaeamogaa
open Go Go.RowKit
theorem logp_mid {x d : Rat} (h : LogP x d) (h1 : (2 : Rat) ^ (-64 : Int) ≤ x) (h2 : x ≤ (2 : Rat) ^ (64 : Int)) : -67 ≤ d ∧ d ≤ 67 := by
  obtain ⟨m, s, t, n, e1, e2, e3, e4, e5, e6, e7, e8, -, -⟩ := h
  have b1 : sB = 8580 / 50000 := rfl
  have m0 : 7 / 10 ≤ m := by
    refine le_canc (show 0 < 1 - s by grind) ?_
    rw [e2]; grind
  have m1 : m ≤ 3 / 2 := by
    refine le_canc (show 0 < 1 - s by grind) ?_
    rw [e2]; grind
  have z := zp_pos n
  have two : (2 : Rat) ^ (1 : Int) = 2 := by decide +kernel
  have a1 : (2 : Rat) ^ n < (2 : Rat) ^ (65 : Int) := by
    have := Rat.mul_le_mul_of_nonneg_right m0 (Rat.le_of_lt z)
    rw [show (65 : Int) = 64 + 1 by rfl, zp_add, two]
    have := zp_pos 64
    grind
  have a2 : (2 : Rat) ^ (-65 : Int) < (2 : Rat) ^ n := by
    have := Rat.mul_le_mul_of_nonneg_right m1 (Rat.le_of_lt z)
    have h3 : (2 : Rat) ^ (-64 : Int) = (2 : Rat) ^ (-65 : Int) * 2 := by
      rw [show (-64 : Int) = -65 + 1 by rfl, zp_add, two]
    have := zp_pos (-65)
    grind
  have b2 := zp_lt_iff a1
  have b3 := zp_lt_iff a2
  have c1 : ((-64 : Int) : Rat) ≤ (n : Rat) := Rat.intCast_le_intCast.2 (by omega)
  have c2 : (n : Rat) ≤ ((64 : Int) : Rat) := Rat.intCast_le_intCast.2 (by omega)
  have c1 : (-64 : Rat) ≤ (n : Rat) := c1
  have c2 : (n : Rat) ≤ 64 := c2
  unfold Nr at e8
  constructor <;> grind
theorem Power_two (v : Nat) (w : World) (hl : v < 2 ^ FloatKind.f32.format.width) (hv : isNum .f32 v = true) (h1 : (2 : Rat) ^ (-120 : Int) ≤ val .f32 v) (h2 : val .f32 v ≤ (2 : Rat) ^ (120 : Int)) (hne : (FloatKind.f32.format.order v 1065353216 == some .eq) = false)
    (hn : isNum .f32 (fop .mul .f32 v v) = true) (hs : (2 : Rat) ^ (-126 : Int) ≤ val .f32 (fop .mul .f32 v v)) :
    Calls Try.prog 30 #[.float .f32 v, .float .f32 1073741824] w fun e w' => (∃ p, e = .returned (.float .f32 p) ∧ SquareR (val .f32 v) p) ∧ ∃ m, w' = w.drewN m := by
  have z := zp_pos (-120)
  have x0 : 0 < val .f32 v := by grind
  obtain ⟨o3, o4, o6⟩ := pos_ords hv h1
  obtain ⟨o0, -, o5⟩ := num_ords hv
  have o2 : (FloatKind.f32.format.order v 0 == some .lt) = false := by
    rw [ord_lt (isNum_not_nan hv) (by decide +kernel), decide_eq_false_iff_not, Int.not_lt]
    refine val_le_key.1 ?_
    rw [show val .f32 0 = 0 by decide +kernel]; grind
  obtain ⟨-, q1⟩ := square_rel hl hv x0 h2 hn hs
  have hx := square_lt hl hv h2 hn
  have k0 : key FloatKind.f32.format 1602224128 = 1602224128 := by decide +kernel
  have k1 : key FloatKind.f32.format 1602224127 = 1602224127 := by decide +kernel
  have c0 : val .f32 1602224128 = (2 : Rat) ^ (64 : Int) := by decide +kernel
  have c1 : val .f32 1602224127 = (2 : Rat) ^ (64 : Int) * (16777215 / 16777216) := by decide +kernel
  have g := val_lt_key.1 (show val .f32 v < val .f32 1602224128 by rw [c0]; exact hx)
  rw [k0] at g
  have g2 := val_le_key.2 (show key FloatKind.f32.format v ≤ key FloatKind.f32.format 1602224127 by rw [k1]; omega)
  rw [c1] at g2
  obtain ⟨x, hx2⟩ : ∃ x, x = val .f32 v := ⟨_, rfl⟩
  rw [← hx2] at x0 q1 hx g2 ⊢
  have z64 := zp_pos 64
  have e128 : (2 : Rat) ^ (128 : Int) = (2 : Rat) ^ (64 : Int) * (2 : Rat) ^ (64 : Int) := by decide +kernel
  have q2 : x * x ≤ (2 : Rat) ^ (128 : Int) * (33554429 / 33554432) := by
    have p := Rat.mul_nonneg (show 0 ≤ (2 : Rat) ^ (64 : Int) * (16777215 / 16777216) - x by grind) (show 0 ≤ (2 : Rat) ^ (64 : Int) * (16777215 / 16777216) + x by grind)
    have z2 := Rat.mul_pos z64 z64
    rw [e128]; grind
  have q3 : (2 : Rat) ^ (-64 : Int) ≤ x := by
    by_cases h : (2 : Rat) ^ (-64 : Int) ≤ x
    · exact h
    · have p := Rat.mul_nonneg (show 0 ≤ (2 : Rat) ^ (-64 : Int) - x by grind) (show 0 ≤ (2 : Rat) ^ (-64 : Int) + x by grind)
      have e : (2 : Rat) ^ (-64 : Int) * (2 : Rat) ^ (-64 : Int) = (2 : Rat) ^ (-126 : Int) * (1 / 4) := by decide +kernel
      have := zp_pos (-126)
      grind
  obtain ⟨E, f, e1, b1, b2, b3, n1, e2⟩ := up_parts hv h1 h2
  refine (Power_of v _ (SquareR x) w o0 hne o2 o3 o4 o5 rfl (isNum_not_nan n1) (fun w => ?_))
  have L := logarithm_any E f w b1 b2 b3
  rw [← e1, e2, ← hx2] at L
  refine L.mono ?_
  rintro e w' ⟨⟨D, rfl, hD, hL⟩, hw⟩
  refine ⟨?_, hw⟩
  obtain ⟨d1, d2⟩ := logp_mid hL q3 (by grind)
  obtain ⟨m1, -, -, m4⟩ := log_twice hD (by grind) (by grind)
  obtain ⟨f1, f2⟩ := flt hD lits64.1.1 rfl m1
  refine ⟨D, _, rfl, f1, f2, fun w => ?_⟩
  have m5 := m4
  unfold Nr at m5
  refine (exponential_any _ w m1 (by grind) (by grind)).mono ?_
  rintro e w' ⟨⟨V, rfl, hV, hE⟩, hw⟩
  obtain ⟨p, g1, g2, g3, g4, g5⟩ := pow_down hL m4 hV hE q1 q2
  exact ⟨⟨V, p, rfl, g1, g2, g3, g4, g5⟩, hw⟩
end Go.Proofs.Ytokmjboaeamogaa
