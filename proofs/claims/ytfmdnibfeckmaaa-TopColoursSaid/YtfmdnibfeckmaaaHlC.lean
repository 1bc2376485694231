/- Hues lead back: the plain law. Conditions: what each theorem names. -/
import Derived.Test.YtfmdnibfeckmaaaHlB
import Derived.Test.YtfmdnibfeckmaaaHlH
namespace Go.Proofs.Ytfmdnibfeckmaaa
open Go.RowKit
/-- The hue's sixth of a hue, by its number. -/
theorem six_k {h : Nat} (hh : isNum .f32 h = true) : ∃ k : Nat, jF h = k ∧ k ≤ 5 ∧ isNum .f32 (iF h) = true ∧ val .f32 (iF h) = (k : Rat) ∧ (k : Rat) ≤ val .f32 (sixF h) ∧ (val .f32 (sixF h) < (k : Rat) + 1 ∨ k = 5) := by
  obtain ⟨x1, x2⟩ := six_X hh
  obtain ⟨N, -, -, n1, v1, g1, -⟩ := six_N hh
  obtain ⟨-, -, N2, -, b1, b2, -, v2⟩ := floor_spec x1
  have v2' : val .f32 (flF (sixF h)) = (N2 : Rat) := v2
  rw [v1] at v2'
  rw [← v2'] at b1 b2
  obtain ⟨-, -, -, -, ⟨k5, k6⟩⟩ := lits5
  by_cases hN : 5 < N
  · rw [decide_eq_true hN] at g1
    have h6 : ((6 : Nat) : Rat) ≤ (N : Rat) := Rat.natCast_le_natCast.2 hN
    have e6 : ((6 : Nat) : Rat) = 6 := rfl
    have e5 : ((5 : Nat) : Rat) = 5 := rfl
    rw [e6] at h6
    refine ⟨5, by unfold jF; rw [g1]; rfl, by omega, by unfold iF; rw [g1]; exact k5, by unfold iF; rw [g1]; exact k6, ?_, .inr rfl⟩
    rw [e5]; grind
  · rw [decide_eq_false hN] at g1
    have s1 := small_int (flF_lt _) n1 v1 (by omega)
    exact ⟨N, by unfold jF; rw [g1, s1]; simp, by omega, by unfold iF; rw [g1]; exact n1, by unfold iF; rw [g1]; exact v1, b1, .inl b2⟩
theorem tab_of {h s v : Nat} {D : Rat} (hh : isNum .f32 h = true) (hx : val .f32 (sixF h) ≤ 6 + 1 / 2048) (nv : isNum .f32 v = true) (ns : isNum .f32 s = true) (v0 : (2 : Rat) ^ (-20 : Int) ≤ val .f32 v) (v1 : val .f32 v ≤ 1048576) (D0 : 0 ≤ D) (D1 : D ≤ val .f32 v)
    (hs : Nr (val .f32 v * val .f32 s) D (val .f32 v * (31 / 10 * (1 / 16777216)))) :
    (isNum .f32 (pixF h s v).1 = true ∧ Nr (val .f32 (pixF h s v).1) (val .f32 v - D * (1 - wR (val .f32 (sixF h)))) (val .f32 v * (85 / 10 * (1 / 16777216)))) ∧
    (isNum .f32 (pixF h s v).2.1 = true ∧ Nr (val .f32 (pixF h s v).2.1) (val .f32 v - D * (1 - wG (val .f32 (sixF h)))) (val .f32 v * (85 / 10 * (1 / 16777216)))) ∧
    (isNum .f32 (pixF h s v).2.2 = true ∧ Nr (val .f32 (pixF h s v).2.2) (val .f32 v - D * (1 - wB (val .f32 (sixF h)))) (val .f32 v * (85 / 10 * (1 / 16777216)))) := by
  obtain ⟨⟨k1, k2⟩, -⟩ := lits5
  have k2 : val .f32 1065353216 = 1 := k2
  have p20 : (2 : Rat) ^ (-20 : Int) = 1 / 1048576 := by decide +kernel
  have p101 : (2 : Rat) ^ (-101 : Int) ≤ 1 / 8796093022208 := by decide +kernel
  have p99 : (4048577 : Rat) < (2 : Rat) ^ (99 : Int) := by decide +kernel
  have o2 : (2 : Rat) ^ (2 : Int) = 4 := by decide +kernel
  obtain ⟨x1, x2⟩ := six_X hh
  obtain ⟨k, hj, hk, ni, vi, kx, xk⟩ := six_k hh
  have hall : allNum [h, s, v] = true := by simp [allNum, hh, ns, nv]
  have hv0 : 0 ≤ val .f32 v := by rw [p20] at v0; grind
  have e5 : ((5 : Nat) : Rat) = 5 := rfl
  have xu : val .f32 (sixF h) ≤ (k : Rat) + 1 + 1 / 2048 := by
    rcases xk with xk | rfl
    · grind
    · rw [e5]; grind
  have RF := fop_sub_num x1 ni 2 (by decide) (by decide) (by rw [o2, vi]; grind) (by rw [o2, vi]; grind)
  rw [vi] at RF
  have NF := rn_bd RF (B := 1 + 1 / 1024) (by grind) (by grind) (by grind) (by grind)
  have nf := RF.num
  have ef : ffF h = fop .sub .f32 (sixF h) (iF h) := by unfold ffF; rw [fop_cn_left, fop_cn_right]
  rw [← ef] at NF nf
  clear RF
  unfold Nr at NF
  have RW := fop_sub_num k1 nf 2 (by decide) (by decide) (by rw [o2, k2]; grind) (by rw [o2, k2]; grind)
  rw [k2] at RW
  have NW := rn_bd RW (B := 1 + 1 / 512) (by grind) (by grind) (by grind) (by grind)
  unfold Nr at NW
  have HT := chan_w nv ns RW.num v0 v1 D0 D1 hs (W := 1 - (val .f32 (sixF h) - (k : Rat))) (by unfold Nr; constructor <;> grind) (by grind) (by grind)
  have HQ := chan_w nv ns nf v0 v1 D0 D1 hs (W := val .f32 (sixF h) - (k : Rat)) (by unfold Nr; constructor <;> grind) (by grind) (by grind)
  have HP := chan_p nv ns v0 v1 hs D0 D1
  have et : htF h s v = fop .mul .f32 v (fop .sub .f32 1065353216 (fop .mul .f32 s (fop .sub .f32 1065353216 (ffF h)))) := by unfold htF; simp only [fop_cn_left]
  have eq : hqF h s v = fop .mul .f32 v (fop .sub .f32 1065353216 (fop .mul .f32 s (ffF h))) := by unfold hqF; simp only [fop_cn_left]
  have ep : hpF s v = fop .mul .f32 v (fop .sub .f32 1065353216 s) := by unfold hpF; simp only [fop_cn_left, fop_cn_right]
  have ev : cn .f32 v = v := cn_of_not (isNum_not_nan nv)
  rw [← et] at HT; rw [← eq] at HQ; rw [← ep] at HP
  have HV : isNum .f32 v = true ∧ Nr (val .f32 v) (val .f32 v) (val .f32 v * (85 / 10 * (1 / 16777216))) := ⟨nv, by unfold Nr; constructor <;> grind⟩
  unfold pixF
  rw [if_pos hall, hj, ev]
  clear et eq ep NF NW RW hs hall ef
  generalize htF h s v = t at *
  generalize hqF h s v = q at *
  generalize hpF s v = p at *
  generalize val .f32 (sixF h) = x at *
  have one : ∀ {w : Rat}, w = 1 → val .f32 v - D * (1 - w) = val .f32 v := fun h => by rw [h]; grind
  have zer : ∀ {w : Rat}, w = 0 → val .f32 v - D * (1 - w) = val .f32 v - D := fun h => by rw [h]; grind
  have z0 : ((0 : Nat) : Rat) = 0 := rfl
  have z1 : ((1 : Nat) : Rat) = 1 := rfl
  have z2 : ((2 : Nat) : Rat) = 2 := rfl
  have z3 : ((3 : Nat) : Rat) = 3 := rfl
  have z4 : ((4 : Nat) : Rat) = 4 := rfl
  rcases (show k = 0 ∨ k = 1 ∨ k = 2 ∨ k = 3 ∨ k = 4 ∨ k = 5 by omega) with rfl | rfl | rfl | rfl | rfl | rfl
  · rw [z0] at *
    refine ⟨?_, ?_, ?_⟩
    · rw [one (by unfold wR; (repeat' split) <;> grind)]; exact HV
    · rw [show wG x = x - 0 by unfold wG; (repeat' split) <;> grind]; exact HT
    · rw [zer (by unfold wB; (repeat' split) <;> grind)]; exact HP
  · rw [z1] at *
    refine ⟨?_, ?_, ?_⟩
    · rw [show 1 - wR x = x - 1 by unfold wR; (repeat' split) <;> grind]; exact HQ
    · rw [one (by unfold wG; (repeat' split) <;> grind)]; exact HV
    · rw [zer (by unfold wB; (repeat' split) <;> grind)]; exact HP
  · rw [z2] at *
    refine ⟨?_, ?_, ?_⟩
    · rw [zer (by unfold wR; (repeat' split) <;> grind)]; exact HP
    · rw [one (by unfold wG; (repeat' split) <;> grind)]; exact HV
    · rw [show wB x = x - 2 by unfold wB; (repeat' split) <;> grind]; exact HT
  · rw [z3] at *
    refine ⟨?_, ?_, ?_⟩
    · rw [zer (by unfold wR; (repeat' split) <;> grind)]; exact HP
    · rw [show 1 - wG x = x - 3 by unfold wG; (repeat' split) <;> grind]; exact HQ
    · rw [one (by unfold wB; (repeat' split) <;> grind)]; exact HV
  · rw [z4] at *
    refine ⟨?_, ?_, ?_⟩
    · rw [show wR x = x - 4 by unfold wR; (repeat' split) <;> grind]; exact HT
    · rw [zer (by unfold wG; (repeat' split) <;> grind)]; exact HP
    · rw [one (by unfold wB; (repeat' split) <;> grind)]; exact HV
  · rw [e5] at *
    refine ⟨?_, ?_, ?_⟩
    · rw [one (by unfold wR; (repeat' split) <;> grind)]; exact HV
    · rw [zer (by unfold wG; (repeat' split) <;> grind)]; exact HP
    · rw [show 1 - wB x = x - 5 by unfold wB; (repeat' split) <;> grind]; exact HQ
/-- The colours of three values, by their weights. -/
theorem col_red {V M g b y : Rat} (hD : 0 < V - M) (hM : M = V ∨ M = g ∨ M = b) (g0 : M ≤ g) (g1 : g ≤ V) (b0 : M ≤ b) (b1 : b ≤ V) (hy : y * (V - M) = g - b) : (-1 ≤ y ∧ y ≤ 1) ∧ V = V - (V - M) * (1 - wR y) ∧ g = V - (V - M) * (1 - wG y) ∧ b = V - (V - M) * (1 - wB y) := by
  have y1 : y ≤ 1 := le_cancel hD (by grind)
  have y0 : -y ≤ 1 := le_cancel hD (by grind)
  refine ⟨⟨by grind, y1⟩, ?_⟩
  rcases (Rat.le_total : 0 ≤ y ∨ y ≤ 0) with h | h
  · have hp := Rat.mul_nonneg h (Rat.le_of_lt hD)
    refine ⟨?_, ?_, ?_⟩
    · rw [show wR y = 1 by unfold wR; (repeat' split) <;> grind]; grind
    · rw [show wG y = y by unfold wG; (repeat' split) <;> grind]; grind
    · rw [show wB y = 0 by unfold wB; (repeat' split) <;> grind]; grind
  · have hp := Rat.mul_nonneg (show 0 ≤ -y by grind) (Rat.le_of_lt hD)
    refine ⟨?_, ?_, ?_⟩
    · rw [show wR y = 1 by unfold wR; (repeat' split) <;> grind]; grind
    · rw [show wG y = 0 by unfold wG; (repeat' split) <;> grind]; grind
    · rw [show wB y = -y by unfold wB; (repeat' split) <;> grind]; grind
theorem col_green {V M b r y : Rat} (hD : 0 < V - M) (hM : M = V ∨ M = b ∨ M = r) (g0 : M ≤ b) (g1 : b ≤ V) (b0 : M ≤ r) (b1 : r ≤ V) (hy : y * (V - M) = b - r) : (-1 ≤ y ∧ y ≤ 1) ∧ V = V - (V - M) * (1 - wG (y + 2)) ∧ b = V - (V - M) * (1 - wB (y + 2)) ∧ r = V - (V - M) * (1 - wR (y + 2)) := by
  have y1 : y ≤ 1 := le_cancel hD (by grind)
  have y0 : -y ≤ 1 := le_cancel hD (by grind)
  refine ⟨⟨by grind, y1⟩, ?_⟩
  rcases (Rat.le_total : 0 ≤ y ∨ y ≤ 0) with h | h
  · have hp := Rat.mul_nonneg h (Rat.le_of_lt hD)
    refine ⟨?_, ?_, ?_⟩
    · rw [show wG (y + 2) = 1 by unfold wG; (repeat' split) <;> grind]; grind
    · rw [show wB (y + 2) = y by unfold wB; (repeat' split) <;> grind]; grind
    · rw [show wR (y + 2) = 0 by unfold wR; (repeat' split) <;> grind]; grind
  · have hp := Rat.mul_nonneg (show 0 ≤ -y by grind) (Rat.le_of_lt hD)
    refine ⟨?_, ?_, ?_⟩
    · rw [show wG (y + 2) = 1 by unfold wG; (repeat' split) <;> grind]; grind
    · rw [show wB (y + 2) = 0 by unfold wB; (repeat' split) <;> grind]; grind
    · rw [show wR (y + 2) = -y by unfold wR; (repeat' split) <;> grind]; grind
theorem col_blue {V M r g y : Rat} (hD : 0 < V - M) (hM : M = V ∨ M = r ∨ M = g) (g0 : M ≤ r) (g1 : r ≤ V) (b0 : M ≤ g) (b1 : g ≤ V) (hy : y * (V - M) = r - g) : (-1 ≤ y ∧ y ≤ 1) ∧ V = V - (V - M) * (1 - wB (y + 4)) ∧ r = V - (V - M) * (1 - wR (y + 4)) ∧ g = V - (V - M) * (1 - wG (y + 4)) := by
  have y1 : y ≤ 1 := le_cancel hD (by grind)
  have y0 : -y ≤ 1 := le_cancel hD (by grind)
  refine ⟨⟨by grind, y1⟩, ?_⟩
  rcases (Rat.le_total : 0 ≤ y ∨ y ≤ 0) with h | h
  · have hp := Rat.mul_nonneg h (Rat.le_of_lt hD)
    refine ⟨?_, ?_, ?_⟩
    · rw [show wB (y + 4) = 1 by unfold wB; (repeat' split) <;> grind]; grind
    · rw [show wR (y + 4) = y by unfold wR; (repeat' split) <;> grind]; grind
    · rw [show wG (y + 4) = 0 by unfold wG; (repeat' split) <;> grind]; grind
  · have hp := Rat.mul_nonneg (show 0 ≤ -y by grind) (Rat.le_of_lt hD)
    refine ⟨?_, ?_, ?_⟩
    · rw [show wB (y + 4) = 1 by unfold wB; (repeat' split) <;> grind]; grind
    · rw [show wR (y + 4) = 0 by unfold wR; (repeat' split) <;> grind]; grind
    · rw [show wG (y + 4) = -y by unfold wG; (repeat' split) <;> grind]; grind
end Go.Proofs.Ytfmdnibfeckmaaa
