/- The nearest integer, in numbers: no more than one half away. Plain Lean. -/
import Derived.Test.YtefjkelakecanaaRn
import Derived.Test.YtefjkelakecanaaNear
namespace Go.Proofs.Ytefjkelakecanaa
open Go.RowKit

theorem sg_int (s : Bool) (c : Nat) : sg s (c : Rat) = ((if s then -(c : Int) else (c : Int) : Int) : Rat) := by
  cases s
  · simp [sg, Rat.intCast_natCast]
  · simp [sg, Rat.intCast_neg, Rat.intCast_natCast]
/-- Rounding to a whole number: at most one half away. -/
theorem cut_near {m : Nat} {e : Int} : ∃ c : Nat, c = cutE (m <<< e.toNat) (2 ^ (-e).toNat) ∧ 2 * (c : Rat) ≤ 2 * ((m : Rat) * (2 : Rat) ^ e) + 1 ∧ 2 * ((m : Rat) * (2 : Rat) ^ e) ≤ 2 * (c : Rat) + 1 := by
  refine ⟨_, rfl, ?_⟩
  rw [Nat.shiftLeft_eq]
  have hg : 0 < 2 ^ (-e).toNat := Nat.two_pow_pos _
  obtain ⟨b1, b2⟩ := cutE_bounds (m * 2 ^ e.toNat) hg
  have hc := zp_pos (-((-e).toNat : Int))
  have e1 : (m : Rat) * (2 : Rat) ^ e = ((m * 2 ^ e.toNat : Nat) : Rat) * (2 : Rat) ^ (-((-e).toNat : Int)) := by
    rw [Rat.natCast_mul, ← zp_nat, Rat.mul_assoc, ← zp_add]; congr 2; omega
  have e2 : ((2 ^ (-e).toNat : Nat) : Rat) * (2 : Rat) ^ (-((-e).toNat : Int)) = 1 := by
    rw [← zp_nat, ← zp_add]
    have : ((-e).toNat : Int) + -((-e).toNat : Int) = 0 := by omega
    rw [this, Rat.zpow_zero]
  rw [e1]
  generalize (2 : Rat) ^ (-((-e).toNat : Int)) = c at *
  generalize m * 2 ^ e.toNat = n at *
  generalize 2 ^ (-e).toNat = g at *
  generalize cutE n g = q at *
  have b3 := Rat.natCast_le_natCast.2 b1
  have b4 := Rat.natCast_le_natCast.2 b2
  simp only [Rat.natCast_add, Rat.natCast_mul] at b3 b4
  have b5 := Rat.mul_le_mul_of_nonneg_right b3 (Rat.le_of_lt hc)
  have b6 := Rat.mul_le_mul_of_nonneg_right b4 (Rat.le_of_lt hc)
  have t : ((2 : Nat) : Rat) = 2 := rfl
  rw [t] at b5 b6
  clear b1 b2 b3 b4 hg hc e1 t
  have e3 : (2 * ((q : Rat) * (g : Rat))) * c = 2 * (q : Rat) := by rw [Rat.mul_assoc, Rat.mul_assoc, e2, Rat.mul_one]
  have e4 : (2 * (n : Rat)) * c = 2 * ((n : Rat) * c) := Rat.mul_assoc _ _ _
  rw [Rat.add_mul, e2, e3, e4] at b5
  rw [Rat.add_mul, e2, e3, e4] at b6
  exact ⟨b5, b6⟩
theorem whole_near {v : Nat} (hv : isNum .f64 v = true) (hb : vq FloatKind.f64.format (rung FloatKind.f64.format v) ≤ ((2 ^ 40 : Nat) : Rat)) :
    ∃ n : Int, isNum .f64 (fwhole .even v) = true ∧ val .f64 (fwhole .even v) = (n : Rat) ∧ 2 * (n : Rat) ≤ 2 * val .f64 v + 1 ∧ 2 * val .f64 v ≤ 2 * (n : Rat) + 1 := by
  obtain ⟨m, e, hd, hm, -, -⟩ := decode_num hv
  obtain ⟨c, hc, c1, c2⟩ := cut_near (m := m) (e := e)
  have hf : fwhole .even v = FloatKind.f64.encode (.number (sgn FloatKind.f64.format v) c 0) := by
    unfold fwhole
    rw [isNum_not_nan hv, hd, hc, ← cut_even (sgn FloatKind.f64.format v)]
    exact if_neg (by decide)
  rw [hm] at c1 c2
  have hc40 : c ≤ 2 ^ 41 := by
    refine Rat.natCast_le_natCast.1 ?_
    have t1 : ((2 ^ 41 : Nat) : Rat) = 2 * ((2 ^ 40 : Nat) : Rat) := by decide +kernel
    have t2 : (1 : Rat) ≤ ((2 ^ 40 : Nat) : Rat) := by decide +kernel
    grind
  obtain ⟨x1, x2, x3⟩ := encode_exact .f64 (sgn FloatKind.f64.format v) c 0 (Nat.le_trans hc40 (by decide)) (by decide) (by
    rw [vq_inf64, Rat.zpow_zero, Rat.mul_one]
    have a1 : (c : Rat) ≤ ((2 ^ 41 : Nat) : Rat) := Rat.natCast_le_natCast.2 hc40
    rw [← zp_nat] at a1
    exact rle_lt a1 (zp_lt (by decide)))
  rw [Rat.zpow_zero, Rat.mul_one] at x3
  refine ⟨if sgn FloatKind.f64.format v then -(c : Int) else (c : Int), by rw [hf]; exact x1, ?_, ?_, ?_⟩
  · rw [hf, val_sg, x2, x3, sg_int]
  · rw [← sg_int, val_sg]
    generalize vq FloatKind.f64.format (rung FloatKind.f64.format v) = V at *
    unfold sg; split <;> grind
  · rw [← sg_int, val_sg]
    generalize vq FloatKind.f64.format (rung FloatKind.f64.format v) = V at *
    unfold sg; split <;> grind
theorem f2i_int {x : Nat} {n : Int} (hx : isNum .f64 x = true) (hv : val .f64 x = (n : Rat)) (hn : n.natAbs ≤ 2 ^ 60) : floatToIntVal .f64 x .i64 = some n := by
  have hb : vq FloatKind.f64.format (rung FloatKind.f64.format x) = ((n.natAbs : Nat) : Rat) := by
    have h0 := vq_nonneg FloatKind.f64.format (rung FloatKind.f64.format x)
    rw [val_sg] at hv
    rw [← Rat.intCast_natCast]
    rcases Int.le_total 0 n with h | h
    · have e : ((n.natAbs : Nat) : Int) = n := by omega
      have e2 : (0 : Rat) ≤ (n : Rat) := by have := Rat.intCast_le_intCast.2 h; simpa using this
      rw [e]; unfold sg at hv; split at hv <;> grind
    · have e : ((n.natAbs : Nat) : Int) = -n := by omega
      have e2 : (n : Rat) ≤ (0 : Rat) := by have := Rat.intCast_le_intCast.2 h; simpa using this
      rw [e, Rat.intCast_neg]; unfold sg at hv; split at hv <;> grind
  obtain ⟨q, h1, h2, h3⟩ := f2i_some hx (by rw [hb]; exact Rat.natCast_le_natCast.2 (by omega))
  rw [hb] at h2 h3
  have q1 : q ≤ n.natAbs := Rat.natCast_le_natCast.1 h2
  have q2 : n.natAbs < q + 1 := by
    refine Rat.natCast_lt_natCast.1 ?_
    rw [Rat.natCast_add]; simpa using h3
  have q3 : q = n.natAbs := by omega
  rw [h1]; congr 1
  rw [val_sg, hb] at hv
  subst q3
  cases hs : sgn FloatKind.f64.format x
  · rw [hs, sg_int] at hv
    exact Rat.intCast_inj.1 hv
  · rw [hs, sg_int] at hv
    exact Rat.intCast_inj.1 hv
/-- A value that is nearer than one half to a whole number within the bounds gives that number. -/
theorem near_int {v : Nat} {n lo hi : Int} (hv : isNum .f32 v = true) (hl : lo.natAbs ≤ 2 ^ 24) (hh : hi.natAbs ≤ 2 ^ 24) (h1 : 2 * val .f32 v < 2 * (n : Rat) + 1) (h2 : 2 * (n : Rat) < 2 * val .f32 v + 1) (h3 : lo ≤ n) (h4 : n ≤ hi) :
    nearOf v lo hi = (n, true) := by
  obtain ⟨u1, u2, u3⟩ := up_exact hv
  have hvv : val .f64 (fcv .f32 .f64 v) = val .f32 v := by rw [val_sg, val_sg, u2, u3]
  have hn1 : (n : Rat) ≤ ((2 ^ 24 : Nat) : Rat) := by
    have := Rat.intCast_le_intCast.2 (show n ≤ ((2 ^ 24 : Nat) : Int) by omega)
    rwa [Rat.intCast_natCast] at this
  have hn2 : -((2 ^ 24 : Nat) : Rat) ≤ (n : Rat) := by
    have := Rat.intCast_le_intCast.2 (show -((2 ^ 24 : Nat) : Int) ≤ n by omega)
    rwa [Rat.intCast_neg, Rat.intCast_natCast] at this
  have hb : vq FloatKind.f64.format (rung FloatKind.f64.format (fcv .f32 .f64 v)) ≤ ((2 ^ 40 : Nat) : Rat) := by
    have t : ((2 ^ 24 : Nat) : Rat) + 1 ≤ ((2 ^ 40 : Nat) : Rat) := by decide +kernel
    have h0 := vq_nonneg FloatKind.f64.format (rung FloatKind.f64.format (fcv .f32 .f64 v))
    rw [← hvv, val_sg] at h1 h2
    generalize vq FloatKind.f64.format (rung FloatKind.f64.format (fcv .f32 .f64 v)) = V at *
    unfold sg at h1 h2; split at h1 <;> grind
  obtain ⟨z, w1, w2, w3, w4⟩ := whole_near u1 hb
  rw [hvv] at w3 w4
  have hz : z = n := by
    have a1 : z < n + 1 := by
      refine Rat.intCast_lt_intCast.1 ?_
      rw [Rat.intCast_add]; simp; grind
    have a2 : n < z + 1 := by
      refine Rat.intCast_lt_intCast.1 ?_
      rw [Rat.intCast_add]; simp; grind
    omega
  subst hz
  obtain ⟨a1, a2⟩ := ofInt_exact64 lo (by omega)
  obtain ⟨b1, b2⟩ := ofInt_exact64 hi (by omega)
  unfold nearOf
  rw [isNum_not_nan hv]
  simp only [Bool.false_eq_true, if_false]
  have e1 : (ford .f64 (fwhole .even (fcv .f32 .f64 v)) (floatOfInt .f64 lo) == some .lt) = false := by
    unfold ford
    rw [ord_lt (isNum_not_nan w1) (isNum_not_nan a1), decide_eq_false_iff_not, ← val_lt_key, w2, a2]
    intro h; have := Rat.intCast_lt_intCast.1 h; omega
  have e2 : (ford .f64 (fwhole .even (fcv .f32 .f64 v)) (floatOfInt .f64 hi) == some .gt) = false := by
    unfold ford
    rw [ord_gt (isNum_not_nan w1) (isNum_not_nan b1), decide_eq_false_iff_not, ← val_lt_key, w2, b2]
    intro h; have := Rat.intCast_lt_intCast.1 h; omega
  rw [e1, e2, f2i_int w1 w2 (by omega)]
  rfl
end Go.Proofs.Ytefjkelakecanaa
