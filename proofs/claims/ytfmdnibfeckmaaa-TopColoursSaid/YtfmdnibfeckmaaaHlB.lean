/- Hues lead back: what the roundings of ToHSV and FromHSV come to. Plain laws of floats. Conditions: what each theorem names. -/
import Derived.Test.YtfmdnibfeckmaaaHlA
import Derived.Test.YtfmdnibfeckmaaaHlN
namespace Go.Proofs.Ytfmdnibfeckmaaa
open Go.RowKit
theorem icast_le' {a b : Int} (h : a ≤ b) : (a : Rat) ≤ (b : Rat) := Rat.intCast_le_intCast.2 h
theorem quot_y {g b V M : Nat} {y : Rat} (ng : isNum .f32 g = true) (nb : isNum .f32 b = true) (nV : isNum .f32 V = true) (nM : isNum .f32 M = true) (hD : (2 : Rat) ^ (-43 : Int) ≤ val .f32 V - val .f32 M) (hD2 : val .f32 V - val .f32 M ≤ 1048576)
    (h1 : -(val .f32 V - val .f32 M) ≤ val .f32 g - val .f32 b) (h2 : val .f32 g - val .f32 b ≤ val .f32 V - val .f32 M) (hy : y * (val .f32 V - val .f32 M) = val .f32 g - val .f32 b) :
    0 < val .f32 (fop .sub .f32 V M) ∧ isNum .f32 (fop .sub .f32 V M) = true ∧ isNum .f32 (fop .quo .f32 (fop .sub .f32 g b) (fop .sub .f32 V M)) = true ∧ Nr (val .f32 (fop .quo .f32 (fop .sub .f32 g b) (fop .sub .f32 V M))) y (42 / 10 * (1 / 16777216)) := by
  have t21 : (2 : Rat) ^ (21 : Int) = 2097152 := by decide +kernel
  have p43 : (2 : Rat) ^ (-43 : Int) = 1 / 8796093022208 := by decide +kernel
  have p101 : (2 : Rat) ^ (-101 : Int) ≤ 1 / 8796093022208 := by decide +kernel
  have p99 : (1048577 : Rat) < (2 : Rat) ^ (99 : Int) := by decide +kernel
  have o1 : (2 : Rat) ^ (1 : Int) = 2 := by decide +kernel
  have u1 : (2 : Rat) ^ ((1 : Int) - 1 - (FloatKind.f32.format.fractionBits : Int)) = 1 / 8388608 := by decide +kernel
  rw [p43] at hD
  have R1 := fop_sub_num ng nb 21 (by decide) (by decide) (by rw [t21]; grind) (by rw [t21]; grind)
  have R2 := fop_sub_num nV nM 21 (by decide) (by decide) (by rw [t21]; grind) (by rw [t21]; grind)
  have N1 := rn_bd R1 (B := val .f32 V - val .f32 M) (by grind) (by grind) h1 h2
  have N2 := rn_bd R2 (B := val .f32 V - val .f32 M) (by grind) (by grind) (by grind) (by grind)
  have n1 := R1.num
  have n2 := R2.num
  clear R1 R2
  generalize fop .sub .f32 g b = E at *
  generalize fop .sub .f32 V M = S at *
  generalize val .f32 V - val .f32 M = D at *
  generalize val .f32 g - val .f32 b = G at *
  have hS : 0 < val .f32 S := by have := N2.2; grind
  have hD0 : 0 < D := by grind
  have y1 : y ≤ 1 := le_cancel hD0 (by grind)
  have y0 : -y ≤ 1 := le_cancel hD0 (by grind)
  have N3 := N2.times (w := y) (z := 1) (by grind) (by grind) y1
  obtain ⟨q, hq⟩ : ∃ q : Rat, q * val .f32 S = val .f32 E := ⟨val .f32 E / val .f32 S, by rw [Rat.div_def, Rat.mul_assoc, Rat.inv_mul_cancel _ (by grind), Rat.mul_one]⟩
  unfold Nr at N1 N2 N3
  have q1 : q ≤ 3 / 2 := le_cancel hS (by grind)
  have q0 : -q ≤ 3 / 2 := le_cancel hS (by grind)
  have d1 : q - y ≤ 21 / 10 * (1 / 16777216) := le_cancel hS (by grind)
  have d2 : y - q ≤ 21 / 10 * (1 / 16777216) := le_cancel hS (by grind)
  have RQ := fop_quo_num n1 n2 (by grind) hq 1 (by decide) (by decide) (by rw [o1]; grind) (by rw [o1]; grind)
  have nr := RQ.near 1 (by decide) (by decide) (by rw [o1]; grind) (by rw [o1]; grind)
  rw [u1] at nr
  refine ⟨hS, n2, RQ.num, ?_⟩
  unfold Nr
  constructor <;> grind
/-- The hue in sixths of a hue from 0 to 1. -/
theorem six_of {h : Nat} (hh : isNum .f32 h = true) (h0 : 0 ≤ val .f32 h) (h1 : val .f32 h ≤ 1) : (val .f32 h < 1 ∧ Nr (val .f32 (sixF h)) (6 * val .f32 h) (4 * (1 / 16777216))) ∨ (val .f32 h = 1 ∧ val .f32 (sixF h) = 0) := by
  obtain ⟨-, -, N, -, b1, b2, n1, v1⟩ := floor_spec hh
  have n1' : isNum .f32 (flF h) = true := n1
  have v1' : val .f32 (flF h) = (N : Rat) := v1
  obtain ⟨l1, l2, -⟩ := six_lit
  have o : (2 : Rat) ^ (0 : Int) = 1 := Rat.zpow_zero _
  have o3 : (2 : Rat) ^ (3 : Int) = 8 := by decide +kernel
  have u3 : (2 : Rat) ^ ((3 : Int) - 1 - (FloatKind.f32.format.fractionBits : Int)) = 1 / 2097152 := by decide +kernel
  have R := fop_sub_num hh n1' 0 (by decide) (by decide) (by rw [o, v1']; grind) (by rw [o, v1']; grind)
  rw [v1'] at R
  have hN : N = 0 ∨ N = 1 := by
    have a1 : -1 < N := by
      rcases Int.lt_or_le (-1) N with h | h
      · exact h
      · exfalso; have := icast_le' (show N + 1 ≤ 0 by omega); rw [Rat.intCast_add] at this; simp at this; grind
    have a2 : N < 2 := by
      rcases Int.lt_or_le N 2 with h | h
      · exact h
      · exfalso; have := icast_le' h; simp at this; grind
    omega
  rcases hN with rfl | rfl
  · left
    have z0 : (((0 : Int)) : Rat) = 0 := rfl
    rw [z0] at R b2
    obtain ⟨m, e, hd, hq, hm, he⟩ := decode_num hh
    have ex := R.exact (sgn FloatKind.f32.format h) m e hm he (by rw [hq, ← val_sg]; grind)
    have R2 := fop_mul_num R.num l1 3 (by decide) (by decide) (by rw [o3, l2, ex]; grind) (by rw [o3, l2, ex]; grind)
    have nr := R2.near 3 (by decide) (by decide) (by rw [o3, l2, ex]; grind) (by rw [o3, l2, ex]; grind)
    rw [u3, l2, ex] at nr
    refine ⟨by grind, ?_⟩
    unfold sixF Nr
    constructor <;> grind
  · right
    have z1 : (((1 : Int)) : Rat) = 1 := rfl
    rw [z1] at R b1
    have hv : val .f32 h = 1 := by grind
    have ex := R.exact false 0 0 (by decide) (by decide) (by rw [hv]; simp [sg]; decide +kernel)
    rw [hv] at ex
    have R2 := fop_mul_num R.num l1 3 (by decide) (by decide) (by rw [o3, l2, ex]; grind) (by rw [o3, l2, ex]; grind)
    have ex2 := R2.exact false 0 0 (by decide) (by decide) (by rw [ex]; simp [sg]; grind)
    refine ⟨hv, ?_⟩
    unfold sixF
    rw [ex2, ex]; grind
/-- The hue of what is Y sixths, but for little. -/
theorem hue_x {c : Nat} {Y : Rat} (nc : isNum .f32 c = true) (hc : Nr (val .f32 c) Y (82 / 10 * (1 / 16777216))) (y0 : -1 ≤ Y) (y1 : Y ≤ 5) {h : Nat}
    (hh : h = if FloatKind.f32.format.order (fop .quo .f32 c 1086324736) 0 == some .lt then fop .add .f32 (fop .quo .f32 c 1086324736) 1065353216 else fop .quo .f32 c 1086324736) :
    isNum .f32 h = true ∧ 0 ≤ val .f32 (sixF h) ∧ isNum .f32 (sixF h) = true ∧ val .f32 (sixF h) ≤ 6 + 1 / 16 ∧ (Nr (val .f32 (sixF h)) Y (22 * (1 / 16777216)) ∨ (Nr (val .f32 (sixF h)) (Y + 6) (22 * (1 / 16777216)) ∧ Y ≤ 22 * (1 / 16777216) ∧ val .f32 (sixF h) ≤ 6 + 22 * (1 / 16777216))) := by
  obtain ⟨l1, l2, -⟩ := six_lit
  obtain ⟨⟨k1, k2⟩, -⟩ := lits5
  have k2 : val .f32 1065353216 = 1 := k2
  have o : (2 : Rat) ^ (0 : Int) = 1 := Rat.zpow_zero _
  have u0 : (2 : Rat) ^ ((0 : Int) - 1 - (FloatKind.f32.format.fractionBits : Int)) = 1 / 16777216 := by decide +kernel
  unfold Nr at hc
  have RQ := fop_quo_num (q := val .f32 c * (1 / 6)) nc l1 (by rw [l2]; grind) (by rw [l2]; grind) 0 (by decide) (by decide) (by rw [o]; grind) (by rw [o]; grind)
  have nr := RQ.near 0 (by decide) (by decide) (by rw [o]; grind) (by rw [o]; grind)
  rw [u0] at nr
  have nh := RQ.num
  generalize fop .quo .f32 c 1086324736 = hr at *
  clear RQ
  have z : val .f32 0 = 0 := by decide +kernel
  have nz : isN .f32 0 = false := by decide +kernel
  rw [ord_lt (isNum_not_nan nh) nz] at hh
  by_cases hneg : val .f32 hr < 0
  · have hk := val_lt_key.1 (show val .f32 hr < val .f32 0 by rw [z]; exact hneg)
    rw [decide_eq_true hk, if_pos rfl] at hh
    have RA := fop_add_num nh k1 0 (by decide) (by decide) (by rw [o, k2]; grind) (by rw [o, k2]; grind)
    have na := RA.near 0 (by decide) (by decide) (by rw [o, k2]; grind) (by rw [o, k2]; grind)
    rw [u0, k2] at na
    have nn := RA.num
    have hle : val .f32 (fop .add .f32 hr 1065353216) ≤ 1 := by
      by_cases h : val .f32 (fop .add .f32 hr 1065353216) ≤ 1
      · exact h
      · exfalso
        have hk1 := val_lt_key.1 (show val .f32 1065353216 < val .f32 (fop .add .f32 hr 1065353216) by rw [k2]; grind)
        have e1 : key FloatKind.f32.format 1065353216 = 1065353216 := by decide +kernel
        have e2 : key FloatKind.f32.format 1065353217 = 1065353217 := by decide +kernel
        have h3 := val_le_key.2 (show key FloatKind.f32.format 1065353217 ≤ key FloatKind.f32.format (fop .add .f32 hr 1065353216) by omega)
        have v : val .f32 1065353217 = 8388609 / 8388608 := by decide +kernel
        rw [v] at h3
        grind
    rw [← hh] at na nn hle
    obtain ⟨x1, x2⟩ := six_X nn
    rcases six_of nn (by grind) hle with ⟨a, b⟩ | ⟨a, b⟩
    · unfold Nr at b
      refine ⟨nn, x2, x1, by grind, .inr ⟨by unfold Nr; constructor <;> grind, by grind, by grind⟩⟩
    · refine ⟨nn, x2, x1, by grind, .inl (by unfold Nr; constructor <;> grind)⟩
  · have hk : ¬ key FloatKind.f32.format hr < key FloatKind.f32.format 0 := fun h => hneg (by rw [← z]; exact val_lt_key.2 h)
    rw [decide_eq_false hk, if_neg (by decide)] at hh
    subst hh
    obtain ⟨x1, x2⟩ := six_X nh
    rcases six_of nh (by grind) (by grind) with ⟨a, b⟩ | ⟨a, b⟩
    · unfold Nr at b
      exact ⟨nh, x2, x1, by grind, .inl (by unfold Nr; constructor <;> grind)⟩
    · exfalso; grind
/-- A channel by its weight's complement. -/
theorem chan_w {v s w : Nat} {D W : Rat} (nv : isNum .f32 v = true) (ns : isNum .f32 s = true) (nw : isNum .f32 w = true) (v0 : (2 : Rat) ^ (-20 : Int) ≤ val .f32 v) (v1 : val .f32 v ≤ 1048576) (D0 : 0 ≤ D) (D1 : D ≤ val .f32 v)
    (hs : Nr (val .f32 v * val .f32 s) D (val .f32 v * (31 / 10 * (1 / 16777216)))) (hw : Nr (val .f32 w) W (21 / 10 * (1 / 16777216))) (w0 : -(1 / 1024) ≤ W) (w1 : W ≤ 1 + 1 / 1024) :
    isNum .f32 (fop .mul .f32 v (fop .sub .f32 1065353216 (fop .mul .f32 s w))) = true ∧ Nr (val .f32 (fop .mul .f32 v (fop .sub .f32 1065353216 (fop .mul .f32 s w)))) (val .f32 v - D * W) (val .f32 v * (85 / 10 * (1 / 16777216))) := by
  obtain ⟨⟨k1, k2⟩, -⟩ := lits5
  have k2 : val .f32 1065353216 = 1 := k2
  have p20 : (2 : Rat) ^ (-20 : Int) = 1 / 1048576 := by decide +kernel
  have p101 : (2 : Rat) ^ (-101 : Int) ≤ 1 / 8796093022208 := by decide +kernel
  have p99 : (4048577 : Rat) < (2 : Rat) ^ (99 : Int) := by decide +kernel
  have o2 : (2 : Rat) ^ (2 : Int) = 4 := by decide +kernel
  have o22 : (2 : Rat) ^ (22 : Int) = 4194304 := by decide +kernel
  rw [p20] at v0
  have hv : 0 < val .f32 v := by grind
  have hs' := hs
  have hw' := hw
  unfold Nr at hs hw
  have s1 : val .f32 s ≤ 1 + 4 * (1 / 16777216) := le_cancel hv (by grind)
  have s0 : -val .f32 s ≤ 4 * (1 / 16777216) := le_cancel hv (by grind)
  have m1 := Rat.mul_nonneg (show 0 ≤ val .f32 s + 4 * (1 / 16777216) by grind) (show 0 ≤ val .f32 w + 1 / 512 by grind)
  have m2 := Rat.mul_nonneg (show 0 ≤ 1 + 4 * (1 / 16777216) - val .f32 s by grind) (show 0 ≤ val .f32 w + 1 / 512 by grind)
  have b1 : val .f32 s * val .f32 w ≤ 1 + 1 / 128 := by grind
  have b0 : -(1 / 128) ≤ val .f32 s * val .f32 w := by grind
  have T1 := hs'.times (w := val .f32 w) (z := 1 + 1 / 256) (by grind) (by grind) (by grind)
  have T2 := hw'.mul D0
  have T3 := Rat.mul_le_mul_of_nonneg_right D1 (show (0 : Rat) ≤ 21 / 10 * (1 / 16777216) by grind)
  have R1 := fop_mul_num ns nw 2 (by decide) (by decide) (by rw [o2]; grind) (by rw [o2]; grind)
  have N1 := rn_bd R1 (B := 1 + 1 / 64) (by grind) (by grind) (by grind) (by grind)
  have n1 := R1.num
  clear R1 m1 m2
  generalize fop .mul .f32 s w = g at *
  have V1 := N1.mul (Rat.le_of_lt hv)
  unfold Nr at N1
  have R2 := fop_sub_num k1 n1 2 (by decide) (by decide) (by rw [o2, k2]; grind) (by rw [o2, k2]; grind)
  rw [k2] at R2
  have N2 := rn_bd R2 (B := 1 + 1 / 64) (by grind) (by grind) (by grind) (by grind)
  have n2 := R2.num
  clear R2
  generalize fop .sub .f32 1065353216 g = k at *
  have V2 := N2.mul (Rat.le_of_lt hv)
  unfold Nr at N2
  have c1 := Rat.mul_le_mul_of_nonneg_left (show val .f32 k ≤ 1 + 1 / 32 by grind) (Rat.le_of_lt hv)
  have c0 := Rat.mul_le_mul_of_nonneg_left (show -(1 + 1 / 32) ≤ val .f32 k by grind) (Rat.le_of_lt hv)
  have R3 := fop_mul_num nv n2 22 (by decide) (by decide) (by rw [o22]; grind) (by rw [o22]; grind)
  have N3 := rn_bd R3 (B := val .f32 v * (1 + 1 / 32)) (by grind) (by grind) (by grind) (by grind)
  refine ⟨R3.num, ?_⟩
  unfold Nr at N3 V1 V2 T1 T2
  unfold Nr
  clear R3 hs' hw'
  constructor <;> grind
/-- .. and the one of the least: the whole saturation is off. -/
theorem chan_p {v s : Nat} {D : Rat} (nv : isNum .f32 v = true) (ns : isNum .f32 s = true) (v0 : (2 : Rat) ^ (-20 : Int) ≤ val .f32 v) (v1 : val .f32 v ≤ 1048576)
    (hs : Nr (val .f32 v * val .f32 s) D (val .f32 v * (31 / 10 * (1 / 16777216)))) (D0 : 0 ≤ D) (D1 : D ≤ val .f32 v) :
    isNum .f32 (fop .mul .f32 v (fop .sub .f32 1065353216 s)) = true ∧ Nr (val .f32 (fop .mul .f32 v (fop .sub .f32 1065353216 s))) (val .f32 v - D) (val .f32 v * (85 / 10 * (1 / 16777216))) := by
  obtain ⟨⟨k1, k2⟩, -⟩ := lits5
  have k2 : val .f32 1065353216 = 1 := k2
  have p20 : (2 : Rat) ^ (-20 : Int) = 1 / 1048576 := by decide +kernel
  have p101 : (2 : Rat) ^ (-101 : Int) ≤ 1 / 8796093022208 := by decide +kernel
  have p99 : (4048577 : Rat) < (2 : Rat) ^ (99 : Int) := by decide +kernel
  have o2 : (2 : Rat) ^ (2 : Int) = 4 := by decide +kernel
  have o22 : (2 : Rat) ^ (22 : Int) = 4194304 := by decide +kernel
  rw [p20] at v0
  have hv : 0 < val .f32 v := by grind
  unfold Nr at hs
  have s1 : val .f32 s ≤ 1 + 4 * (1 / 16777216) := le_cancel hv (by grind)
  have s0 : -val .f32 s ≤ 4 * (1 / 16777216) := le_cancel hv (by grind)
  have R2 := fop_sub_num k1 ns 2 (by decide) (by decide) (by rw [o2, k2]; grind) (by rw [o2, k2]; grind)
  rw [k2] at R2
  have N2 := rn_bd R2 (B := 1 + 1 / 64) (by grind) (by grind) (by grind) (by grind)
  have n2 := R2.num
  clear R2
  generalize fop .sub .f32 1065353216 s = k at *
  have V2 := N2.mul (Rat.le_of_lt hv)
  unfold Nr at N2
  have c1 := Rat.mul_le_mul_of_nonneg_left (show val .f32 k ≤ 1 + 1 / 32 by grind) (Rat.le_of_lt hv)
  have c0 := Rat.mul_le_mul_of_nonneg_left (show -(1 + 1 / 32) ≤ val .f32 k by grind) (Rat.le_of_lt hv)
  have R3 := fop_mul_num nv n2 22 (by decide) (by decide) (by rw [o22]; grind) (by rw [o22]; grind)
  have N3 := rn_bd R3 (B := val .f32 v * (1 + 1 / 32)) (by grind) (by grind) (by grind) (by grind)
  refine ⟨R3.num, ?_⟩
  unfold Nr at N3 V2
  unfold Nr
  clear R3
  constructor <;> grind
/-- The saturation. -/
theorem sat_s {V M : Nat} (nV : isNum .f32 V = true) (nM : isNum .f32 M = true) (v0 : (2 : Rat) ^ (-20 : Int) ≤ val .f32 V) (v1 : val .f32 V ≤ 1048576) (m0 : 0 ≤ val .f32 M) (hm : val .f32 M ≤ val .f32 V) :
    isNum .f32 (fop .quo .f32 (fop .sub .f32 V M) V) = true ∧ Nr (val .f32 V * val .f32 (fop .quo .f32 (fop .sub .f32 V M) V)) (val .f32 V - val .f32 M) (val .f32 V * (31 / 10 * (1 / 16777216))) := by
  have p20 : (2 : Rat) ^ (-20 : Int) = 1 / 1048576 := by decide +kernel
  have p101 : (2 : Rat) ^ (-101 : Int) ≤ 1 / 8796093022208 := by decide +kernel
  have p99 : (4048577 : Rat) < (2 : Rat) ^ (99 : Int) := by decide +kernel
  have o1 : (2 : Rat) ^ (1 : Int) = 2 := by decide +kernel
  have o21 : (2 : Rat) ^ (21 : Int) = 2097152 := by decide +kernel
  have u1 : (2 : Rat) ^ ((1 : Int) - 1 - (FloatKind.f32.format.fractionBits : Int)) = 1 / 8388608 := by decide +kernel
  rw [p20] at v0
  have hv : 0 < val .f32 V := by grind
  have R1 := fop_sub_num nV nM 21 (by decide) (by decide) (by rw [o21]; grind) (by rw [o21]; grind)
  have N1 : Nr (val .f32 (fop .sub .f32 V M)) (val .f32 V - val .f32 M) (val .f32 V * (1 / 16777216)) := rn_bd R1 (B := val .f32 V) (by grind) (by grind) (by grind) (by grind)
  have n1 := R1.num
  clear R1
  generalize fop .sub .f32 V M = E at *
  unfold Nr at N1
  obtain ⟨q, hq⟩ : ∃ q : Rat, q * val .f32 V = val .f32 E := ⟨val .f32 E / val .f32 V, by rw [Rat.div_def, Rat.mul_assoc, Rat.inv_mul_cancel _ (by grind), Rat.mul_one]⟩
  have q1 : q ≤ 3 / 2 := le_cancel hv (by grind)
  have q0 : -q ≤ 3 / 2 := le_cancel hv (by grind)
  have RQ := fop_quo_num n1 nV (by grind) hq 1 (by decide) (by decide) (by rw [o1]; grind) (by rw [o1]; grind)
  have nr := RQ.near 1 (by decide) (by decide) (by rw [o1]; grind) (by rw [o1]; grind)
  rw [u1] at nr
  refine ⟨RQ.num, ?_⟩
  have N2 : Nr (val .f32 (fop .quo .f32 E V)) q (1 / 8388608) := nr
  have V2 := N2.mul (Rat.le_of_lt hv)
  unfold Nr at V2
  unfold Nr
  constructor <;> grind
end Go.Proofs.Ytfmdnibfeckmaaa
