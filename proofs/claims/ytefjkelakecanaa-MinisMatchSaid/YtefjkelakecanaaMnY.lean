/- Small floats: the last comparison of dyeref2.MiniOf, in doubles and in numbers. Plain Lean. Conditions: those named. -/
import Derived.Test.YtefjkelakecanaaMnV
namespace Go.Proofs.Ytefjkelakecanaa
open Go.RowKit
theorem ord_ge_val {x y : Nat} (hx : isNum .f64 x = true) (hy : isNum .f64 y = true) : (FloatKind.f64.format.order x y == some .gt || FloatKind.f64.format.order x y == some .eq) = decide (val .f64 y ≤ val .f64 x) := by
  rw [ord_gt (isNum_not_nan hx) (isNum_not_nan hy), ord_eq (isNum_not_nan hx) (isNum_not_nan hy), ← Bool.decide_or, decide_eq_decide, val_le_key]
  omega
theorem ord_le_val {x y : Nat} (hx : isNum .f64 x = true) (hy : isNum .f64 y = true) : (FloatKind.f64.format.order x y == some .lt || FloatKind.f64.format.order x y == some .eq) = decide (val .f64 x ≤ val .f64 y) := by
  rw [ord_lt (isNum_not_nan hx) (isNum_not_nan hy), ord_eq (isNum_not_nan hx) (isNum_not_nan hy), ← Bool.decide_or, decide_eq_decide, val_le_key]
  omega
theorem ord_lt_num {x y : Nat} (hx : isNum .f64 x = true) (hy : isNum .f64 y = true) : (FloatKind.f64.format.order x y == some .lt) = decide (val .f64 x < val .f64 y) := by
  rw [ord_lt (isNum_not_nan hx) (isNum_not_nan hy), decide_eq_decide, val_lt_key]
theorem ord_eq_num {x y : Nat} (hx : isNum .f64 x = true) (hy : isNum .f64 y = true) : (FloatKind.f64.format.order x y == some .eq) = decide (val .f64 x = val .f64 y) := by
  rw [ord_eq (isNum_not_nan hx) (isNum_not_nan hy), decide_eq_decide]
  constructor
  · intro h
    have h1 := val_le_key.2 (Int.le_of_eq h)
    have h2 := val_le_key.2 (Int.le_of_eq h.symm)
    grind
  · intro h
    have h1 : val .f64 x ≤ val .f64 y := by grind
    have h2 : val .f64 y ≤ val .f64 x := by grind
    have := val_le_key.1 h1
    have := val_le_key.1 h2
    omega
/-- The magnitude of a single that is a number, as a double. -/
theorem abs_num {v : Nat} (hn : isNum .f32 v = true) (b : Nat) (hb : b = absF (fcv .f32 .f64 v)) :
    isNum .f64 b = true ∧ sgn FloatKind.f64.format b = false ∧ val .f64 b = vq FloatKind.f32.format (rung FloatKind.f32.format v) ∧ val .f64 b < (2 : Rat) ^ (128 : Int) ∧ ∃ (m : Nat) (e : Int), m < 2 ^ 24 ∧ -1074 ≤ e ∧ val .f64 b = (m : Rat) * (2 : Rat) ^ e := by
  obtain ⟨u1, -, u3⟩ := up_exact hn
  have hx := fcv_lt .f32 .f64 v
  obtain ⟨r1, r2⟩ := abs_rung hx
  have hb2 : b < 2 ^ 63 := by rw [hb, absF_eq hx]; exact Nat.mod_lt _ (by decide)
  have hs : sgn FloatKind.f64.format b = false := by unfold sgn; rw [sw64, Nat.div_eq_of_lt hb2]; rfl
  have hnum : isNum .f64 b = true := by unfold isNum at u1 ⊢; rw [hb, r1]; exact u1
  have hval : val .f64 b = vq FloatKind.f32.format (rung FloatKind.f32.format v) := by rw [val_sg, hs, hb, r1, u3]; rfl
  obtain ⟨m, e, -, hv, hm, he⟩ := decode_num hn
  refine ⟨hnum, hs, hval, ?_, m, e, hm, ?_, by rw [hval, hv]⟩
  · rw [hval, ← vq_inf32]
    refine (vq_lt_iff _).2 ?_
    unfold isNum at hn; simpa using hn
  · have : FloatKind.f32.format.leastPlace = -149 := by decide
    omega
theorem svN_one {F : Nat} (hF : 1 ≤ F) : svN F 1 = 1 := by
  have : 2 ^ 1 ≤ 2 ^ F := Nat.pow_le_pow_right (by decide) hF
  unfold svN
  rw [Nat.div_eq_of_lt (by omega), if_pos rfl, Nat.mod_eq_of_lt (by omega)]
theorem svN_double {F k : Nat} (h : 1 ≤ k) : svN F (k + 1) ≤ 2 * svN F k := by
  have f0 : 0 < 2 ^ F := Nat.pow_pos (by decide)
  rw [svN_succ]
  have : 2 ^ (k / 2 ^ F - 1) ≤ svN F k := by
    unfold svN
    split
    · rename_i h0
      rw [h0]
      have : k % 2 ^ F = k := Nat.mod_eq_of_lt (by rcases Nat.lt_or_ge k (2 ^ F) with h1 | h1; exact h1; have := Nat.div_pos h1 f0; omega)
      rw [this]; simpa using h
    · exact Nat.le_mul_of_pos_left _ (by omega)
  omega
/-- The last comparison: in doubles as in numbers. -/
theorem mini_last {X F low a L H : Nat} (hX : 2 ≤ X ∧ X ≤ 8) (hF : 1 ≤ F ∧ F ≤ 23) (ha : isNum .f64 a = true) (sa : sgn FloatKind.f64.format a = false) (hb : val .f64 a < (2 : Rat) ^ (128 : Int)) (hm : ∃ (m : Nat) (e : Int), m < 2 ^ 24 ∧ -1074 ≤ e ∧ val .f64 a = (m : Rat) * (2 : Rat) ^ e)
    (hL : isNum .f64 L = true ∧ sgn FloatKind.f64.format L = false ∧ val .f64 L = svQ X F low) (hH : isNum .f64 H = true ∧ sgn FloatKind.f64.format H = false ∧ val .f64 H = svQ X F (low + 1)) (h1 : svQ X F low ≤ val .f64 a) (h2 : val .f64 a < svQ X F (low + 1)) :
    (isNum .f64 (fop .sub .f64 a L) = true ∧ isNum .f64 (fop .sub .f64 H a) = true) ∧ (val .f64 (fop .sub .f64 H a) < val .f64 (fop .sub .f64 a L) ↔ svQ X F (low + 1) - val .f64 a < val .f64 a - svQ X F low) ∧ (val .f64 (fop .sub .f64 H a) = val .f64 (fop .sub .f64 a L) ↔ svQ X F (low + 1) - val .f64 a = val .f64 a - svQ X F low) := by
  obtain ⟨L1, L2, L3⟩ := hL
  obtain ⟨H1, H2, H3⟩ := hH
  have z1 : (2 : Rat) ^ (128 : Int) < (2 : Rat) ^ (200 : Int) := zp_lt (by decide)
  have z2 : 2 * (2 : Rat) ^ (128 : Int) < (2 : Rat) ^ (200 : Int) := by decide +kernel
  rcases Nat.eq_zero_or_pos low with h0 | h0
  · subst h0
    have q0 : svQ X F 0 = 0 := by rw [svQ_step, svN_zero]; simp
    have q1 : svQ X F 1 = (2 : Rat) ^ ((1 : Int) - (2 ^ (X - 1) - 1) - F) := by
      rw [svQ_step, svN_one hF.1, stepQ, show ((1 : Nat) : Rat) = 1 from rfl, Rat.one_mul]
    rw [Nat.zero_add] at H3 h2
    rw [q0] at L3 h1
    rw [Nat.zero_add, q0]
    obtain ⟨b1, b2⟩ := sub_none ha L1 sa L3 (by grind)
    obtain ⟨m, e, m1, e1, hv⟩ := hm
    obtain ⟨⟨p1, p2⟩, -⟩ := mini_pows hX hF
    obtain ⟨c1, c2⟩ := sub_far (p := (1 : Int) - (2 ^ (X - 1) - 1) - F) H1 ha (by rw [H3, q1]) hv m1 e1 (by rw [H3]; exact h2) (by omega) (by omega)
    refine ⟨⟨b1, c1⟩, ?_⟩
    rw [b2]
    rw [H3] at c2
    clear q0 q1 hb hv z1 z2 L3 H3 b1 b2 c1 ha sa L1 L2 H1 H2
    generalize svQ X F 1 = Q at *
    generalize val .f64 (fop .sub .f64 H a) = c at *
    generalize val .f64 a = y at *
    rcases c2 with c2 | ⟨c2, c3⟩
    · rw [c2]
      constructor <;> constructor <;> intro h <;> grind
    · constructor <;> constructor <;> intro h <;> grind
  · have d : svQ X F (low + 1) ≤ 2 * svQ X F low := by
      have d1 : ((svN F (low + 1) : Nat) : Rat) ≤ ((2 * svN F low : Nat) : Rat) := Rat.natCast_le_natCast.2 (svN_double h0)
      have d2 := Rat.mul_le_mul_of_nonneg_right d1 (Rat.le_of_lt (step_pos X F))
      rw [Rat.natCast_mul, Rat.mul_assoc, ← svQ_step, ← svQ_step] at d2
      exact d2
    obtain ⟨b1, b2⟩ := sub_exact ha L1 sa L2 (by rw [L3]; exact h1) (by rw [L3]; grind) (by grind)
    obtain ⟨c1, c2⟩ := sub_exact H1 ha H2 sa (by rw [H3]; exact Rat.le_of_lt h2) (by rw [H3]; grind) (by rw [H3]; grind)
    refine ⟨⟨b1, c1⟩, ?_⟩
    rw [b2, c2, L3, H3]
    exact ⟨Iff.rfl, Iff.rfl⟩
/-- What the search says is the code. -/
theorem near_code {X F low k : Nat} {q : Rat} (hl : low + 1 ≤ allK X F) (h1 : svQ X F low ≤ q) (h2 : q < svQ X F (low + 1))
    (h : (k = low + 1 ∧ (svQ X F (low + 1) - q < q - svQ X F low ∨ (svQ X F (low + 1) - q = q - svQ X F low ∧ low % 2 = 1))) ∨ (k = low ∧ ¬ (svQ X F (low + 1) - q < q - svQ X F low ∨ (svQ X F (low + 1) - q = q - svQ X F low ∧ low % 2 = 1)))) : codeK X F q k := by
  have p := step_pos X F
  obtain ⟨A, hA⟩ : ∃ A : Rat, q = A * stepQ X F := ⟨q * (2 : Rat) ^ (-((1 : Int) - (2 ^ (X - 1) - 1) - F)), by
    rw [stepQ, Rat.mul_assoc, ← zp_add]
    have : -((1 : Int) - (2 ^ (X - 1) - 1) - F) + ((1 : Int) - (2 ^ (X - 1) - 1) - F) = 0 := by omega
    rw [this, Rat.zpow_zero, Rat.mul_one]⟩
  subst hA
  rw [svQ_step] at h1 h2
  rw [svQ_step, svQ_step] at h
  have k1 : (svN F (low + 1) : Rat) * stepQ X F - A * stepQ X F < A * stepQ X F - (svN F low : Rat) * stepQ X F ↔ (svN F (low + 1) : Rat) - A < A - (svN F low : Rat) := by
    rw [show (svN F (low + 1) : Rat) * stepQ X F - A * stepQ X F = ((svN F (low + 1) : Rat) - A) * stepQ X F by grind, show A * stepQ X F - (svN F low : Rat) * stepQ X F = (A - (svN F low : Rat)) * stepQ X F by grind]
    exact Rat.mul_lt_mul_right p
  have k2 : (svN F (low + 1) : Rat) * stepQ X F - A * stepQ X F = A * stepQ X F - (svN F low : Rat) * stepQ X F ↔ (svN F (low + 1) : Rat) - A = A - (svN F low : Rat) := by
    rw [show (svN F (low + 1) : Rat) * stepQ X F - A * stepQ X F = ((svN F (low + 1) : Rat) - A) * stepQ X F by grind, show A * stepQ X F - (svN F low : Rat) * stepQ X F = (A - (svN F low : Rat)) * stepQ X F by grind]
    exact ⟨fun h => rat_cancel p h, fun h => by rw [h]⟩
  rw [k1, k2] at h
  have a1 : (svN F low : Rat) ≤ A := Rat.le_of_mul_le_mul_right h1 p
  have a2 : A < (svN F (low + 1) : Rat) := Rat.lt_of_mul_lt_mul_right h2 (Rat.le_of_lt p)
  refine ⟨A, rfl, ?_, fun _ => ⟨low, a1, a2, h⟩⟩
  intro h3
  exfalso
  have h4 := svN_le_iff.1 (Rat.natCast_lt_natCast.1 (rle_lt h3 a2))
  omega
/-- Above infinity's code. -/
theorem top_code {X F : Nat} {q : Rat} (h : svQ X F (allK X F) ≤ q) : codeK X F q (allK X F) := by
  have p := step_pos X F
  obtain ⟨A, hA⟩ : ∃ A : Rat, q = A * stepQ X F := ⟨q * (2 : Rat) ^ (-((1 : Int) - (2 ^ (X - 1) - 1) - F)), by
    rw [stepQ, Rat.mul_assoc, ← zp_add]
    have : -((1 : Int) - (2 ^ (X - 1) - 1) - F) + ((1 : Int) - (2 ^ (X - 1) - 1) - F) = 0 := by omega
    rw [this, Rat.zpow_zero, Rat.mul_one]⟩
  subst hA
  rw [svQ_step] at h
  have a1 : (svN F (allK X F) : Rat) ≤ A := Rat.le_of_mul_le_mul_right h p
  exact ⟨A, rfl, fun _ => rfl, fun h2 => absurd a1 (by grind)⟩
/-- The magnitude of an infinity, as a double, is above every number. -/
theorem inf_above {v r : Nat} (hl : v < 2 ^ FloatKind.f32.format.width) (hv : isN .f32 v = false) (hn : isNum .f32 v = false) (hr : isNum .f64 r = true) (a : Nat) (ha : a = absF (fcv .f32 .f64 v)) : (FloatKind.f64.format.order a r == some .gt || FloatKind.f64.format.order a r == some .eq) = true := by
  have e : a = 9218868437227405312 := by
    obtain ⟨-, h | h⟩ := inf_of hl hv hn <;> subst h <;> rw [ha] <;> decide +kernel
  have k1 : key FloatKind.f64.format a = 9218868437227405312 := by rw [e]; decide +kernel
  have k2 : key FloatKind.f64.format r < 9218868437227405312 := by
    unfold isNum at hr; rw [f64_ir] at hr
    simp only [decide_eq_true_eq] at hr
    unfold key; split <;> omega
  rw [ord_gt (by rw [e]; decide +kernel) (isNum_not_nan hr), k1, decide_eq_true k2]; rfl
end Go.Proofs.Ytefjkelakecanaa
