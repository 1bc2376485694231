/- num.exponential: what it gives. Conditions: those named. -/
import Derived.Test.YtokmjboaeamogaaPhV
namespace Go.Proofs.Ytokmjboaeamogaa
open Go Go.RowKit
theorem cut_down_nat (neg : Bool) (n drop : Nat) : ∃ C, C = Ieee.Toward.down.cut neg n drop ∧ C * 2 ^ drop < n + 2 ^ drop ∧ n < C * 2 ^ drop + 2 ^ drop ∧ (neg = false → C * 2 ^ drop ≤ n) ∧ (neg = true → n ≤ C * 2 ^ drop) := by
  refine ⟨_, rfl, ?_⟩
  unfold Ieee.Toward.cut
  simp only [Nat.one_shiftLeft]
  have hg : 0 < 2 ^ drop := Nat.two_pow_pos _
  by_cases h : drop ≤ n.log2 + 2
  · rw [Nat.min_eq_left h]
    generalize 2 ^ drop = g at *
    have h1 := Nat.div_add_mod n g
    have h2 : n % g < g := Nat.mod_lt _ hg
    have h3 : g * (n / g) = n / g * g := Nat.mul_comm _ _
    rw [h3] at h1
    cases neg
    · simp only [Bool.false_and, Bool.toNat_false, Nat.add_zero]
      and_intros <;> first | omega | (intro h; first | omega | cases h)
    · simp only [Bool.true_and]
      by_cases h4 : n % g = 0
      · have h5 : (n % g != 0) = false := by simpa using h4
        rw [h5]
        simp only [Bool.toNat_false, Nat.add_zero]
        and_intros <;> first | omega | (intro h; first | omega | cases h)
      · have h5 : (n % g != 0) = true := by simpa using h4
        rw [h5]
        simp only [Bool.toNat_true, Nat.add_mul, Nat.one_mul]
        and_intros <;> first | omega | (intro h; first | omega | cases h)
  · rw [Nat.min_eq_right (by omega)]
    have hlt : n < 2 ^ (n.log2 + 2) := Nat.lt_of_lt_of_le Nat.lt_log2_self (Nat.pow_le_pow_right (by decide) (by omega))
    have hle : 2 ^ (n.log2 + 2) ≤ 2 ^ drop := Nat.pow_le_pow_right (by decide) (by omega)
    rw [Nat.div_eq_of_lt hlt, Nat.mod_eq_of_lt hlt]
    generalize 2 ^ drop = g at *
    generalize 2 ^ (n.log2 + 2) = g2 at *
    cases neg
    · simp only [Bool.false_and, Bool.toNat_false, Nat.add_zero, Nat.zero_mul]
      and_intros <;> first | omega | (intro h; first | omega | cases h)
    · by_cases h4 : n = 0
      · subst h4; simp only [bne_self_eq_false, Bool.and_false, Bool.toNat_false, Nat.add_zero, Nat.zero_mul]
        and_intros <;> first | omega | (intro h; first | omega | cases h)
      · have h5 : (n != 0) = true := by simpa using h4
        simp only [h5, Bool.and_true, Bool.toNat_true, Nat.zero_add, Nat.one_mul]
        and_intros <;> first | omega | (intro h; first | omega | cases h)
theorem cut_down {m : Nat} {e : Int} (neg : Bool) : ∃ C : Nat, C = Ieee.Toward.down.cut neg (m <<< e.toNat) (-e).toNat ∧ (C : Rat) < (m : Rat) * (2 : Rat) ^ e + 1 ∧ (m : Rat) * (2 : Rat) ^ e < (C : Rat) + 1 ∧ (neg = false → (C : Rat) ≤ (m : Rat) * (2 : Rat) ^ e) ∧ (neg = true → (m : Rat) * (2 : Rat) ^ e ≤ (C : Rat)) := by
  obtain ⟨C, hC, b1, b2, b3, b4⟩ := cut_down_nat neg (m <<< e.toNat) (-e).toNat
  refine ⟨C, hC, ?_⟩
  clear hC
  rw [Nat.shiftLeft_eq] at b1 b2 b3 b4
  have hc := zp_pos (-((-e).toNat : Int))
  have e1 : (m : Rat) * (2 : Rat) ^ e = ((m * 2 ^ e.toNat : Nat) : Rat) * (2 : Rat) ^ (-((-e).toNat : Int)) := by
    rw [Rat.natCast_mul, ← zp_nat, Rat.mul_assoc, ← zp_add]; congr 2; omega
  have e2 : ((2 ^ (-e).toNat : Nat) : Rat) * (2 : Rat) ^ (-((-e).toNat : Int)) = 1 := by
    rw [← zp_nat, ← zp_add]
    have : ((-e).toNat : Int) + -((-e).toNat : Int) = 0 := by omega
    rw [this, Rat.zpow_zero]
  rw [e1]
  generalize (2 : Rat) ^ (-((-e).toNat : Int)) = c at *
  generalize m * 2 ^ e.toNat = n at *
  generalize 2 ^ (-e).toNat = g at *
  have e3 : ((C : Rat) * (g : Rat)) * c = (C : Rat) := by rw [Rat.mul_assoc, e2, Rat.mul_one]
  have c1 := Rat.mul_lt_mul_of_pos_right (Rat.natCast_lt_natCast.2 b1) hc
  have c2 := Rat.mul_lt_mul_of_pos_right (Rat.natCast_lt_natCast.2 b2) hc
  simp only [Rat.natCast_add, Rat.natCast_mul, Rat.add_mul, e2, e3] at c1 c2
  refine ⟨c1, c2, fun h => ?_, fun h => ?_⟩
  · have := Rat.mul_le_mul_of_nonneg_right (Rat.natCast_le_natCast.2 (b3 h)) (Rat.le_of_lt hc)
    simp only [Rat.natCast_mul, e3] at this
    exact this
  · have := Rat.mul_le_mul_of_nonneg_right (Rat.natCast_le_natCast.2 (b4 h)) (Rat.le_of_lt hc)
    simp only [Rat.natCast_mul, e3] at this
    exact this
theorem whole_down {v : Nat} (hv : isNum .f64 v = true) (b1 : -1000 ≤ val .f64 v) (b2 : val .f64 v ≤ 1000) :
    ∃ n : Int, isNum .f64 (fwhole .down v) = true ∧ val .f64 (fwhole .down v) = (n : Rat) ∧ (n : Rat) ≤ val .f64 v ∧ val .f64 v < (n : Rat) + 1 := by
  obtain ⟨m, e, hd, hm, -, -⟩ := decode_num hv
  obtain ⟨c, hc, c1, c2, c3, c4⟩ := cut_down (m := m) (e := e) (sgn FloatKind.f64.format v)
  have hf : fwhole .down v = FloatKind.f64.encode (.number (sgn FloatKind.f64.format v) c 0) := by
    unfold fwhole
    rw [isNum_not_nan hv, hd, hc]
    exact if_neg (by decide)
  rw [hm] at c1 c2 c3 c4
  have hb : vq FloatKind.f64.format (rung FloatKind.f64.format v) ≤ 1000 := by
    rw [val_sg] at b1 b2
    unfold sg at b1 b2
    split at b1 <;> grind
  have hc40 : c ≤ 2 ^ 41 := by
    refine Rat.natCast_le_natCast.1 ?_
    have t1 : (1001 : Rat) ≤ ((2 ^ 41 : Nat) : Rat) := by decide +kernel
    grind
  obtain ⟨x1, x2, x3⟩ := encode_exact .f64 (sgn FloatKind.f64.format v) c 0 (Nat.le_trans hc40 (by decide)) (by decide) (by
    rw [vq_inf64, Rat.zpow_zero, Rat.mul_one]
    have a1 : (c : Rat) ≤ ((2 ^ 41 : Nat) : Rat) := Rat.natCast_le_natCast.2 hc40
    rw [← zp_nat] at a1
    exact rle_lt a1 (zp_lt (by decide)))
  rw [Rat.zpow_zero, Rat.mul_one] at x3
  refine ⟨if sgn FloatKind.f64.format v then -(c : Int) else (c : Int), by rw [hf]; exact x1, ?_, ?_, ?_⟩
  · rw [hf, val_sg, x2, x3, sg_int]
  · rw [← sg_int, val_sg]
    generalize vq FloatKind.f64.format (rung FloatKind.f64.format v) = V at *
    unfold sg; split <;> grind
  · rw [← sg_int, val_sg]
    generalize vq FloatKind.f64.format (rung FloatKind.f64.format v) = V at *
    unfold sg; split <;> grind
/-- V is near 2 to the power d. -/
def ExpP (d V : Rat) : Prop := ∃ (k : Int) (r P : Rat), Nr d (k : Rat) (1 / 2 + 1 / 1099511627776) ∧ -(9 / 25) ≤ r ∧ r ≤ 9 / 25 ∧ Nr r ((d - (k : Rat)) * ln2c) (2 * uQ) ∧ Nr P (pev expL r) (8 * uQ) ∧ V = P * (2 : Rat) ^ k
theorem exp_head {d b k c r : Nat} (hd : isNum .f64 d = true) (d1 : -200 ≤ val .f64 d) (d2 : val .f64 d ≤ 200) (hb : b = fop .add .f64 d 4602678819172646912) (hk : k = fwhole .down b) (hc : c = fop .sub .f64 d k) (hr : r = fop .mul .f64 c 4604418534313441775) :
    isNum .f64 b = true ∧ isNum .f64 k = true ∧ isNum .f64 c = true ∧ isNum .f64 r = true ∧ ∃ n : Int, val .f64 k = (n : Rat) ∧ -201 ≤ n ∧ n ≤ 201 ∧ Nr (val .f64 d) (n : Rat) (1 / 2 + 1 / 1099511627776) ∧ -(9 / 25) ≤ val .f64 r ∧ val .f64 r ≤ 9 / 25 ∧ Nr (val .f64 r) ((val .f64 d - (n : Rat)) * ln2c) (2 * uQ) := by
  obtain ⟨-, ⟨l3, l4⟩, -, ⟨l8, -⟩⟩ := lits64
  obtain ⟨-, c1, c2⟩ := ln2c_in
  obtain ⟨x, hx⟩ : ∃ x, x = val .f64 d := ⟨_, rfl⟩
  rw [← hx] at d1 d2 ⊢
  obtain ⟨n1, e1⟩ := add64 (x := d) (y := 4602678819172646912) 256 hd l3 (by decide +kernel) (by decide +kernel) (by rw [l4, ← hx]; grind) (by rw [l4, ← hx]; grind)
  rw [← hb] at n1 e1
  rw [l4, ← hx] at e1
  unfold Nr uQ at e1
  obtain ⟨n, w1, w2, w3, w4⟩ := whole_down n1 (by grind) (by grind)
  rw [← hk] at w1 w2
  have m1 : -201 ≤ n := by
    have : ((-202 : Int) : Rat) < (n : Rat) := by show (-202 : Rat) < n; grind
    have := Rat.intCast_lt_intCast.1 this
    omega
  have m2 : n ≤ 201 := by
    have : (n : Rat) < ((202 : Int) : Rat) := by show (n : Rat) < 202; grind
    have := Rat.intCast_lt_intCast.1 this
    omega
  obtain ⟨n2, e2⟩ := sub64 (x := d) (y := k) 1 hd w1 (by decide +kernel) (by decide +kernel) (by rw [w2, ← hx]; grind) (by rw [w2, ← hx]; grind)
  rw [← hc] at n2 e2
  rw [w2, ← hx] at e2
  obtain ⟨C, hC⟩ : ∃ C, C = val .f64 c := ⟨_, rfl⟩
  rw [← hC] at e2
  unfold Nr uQ at e2
  obtain ⟨g1, g2⟩ := mul_in (x := C) (y := ln2c) (b := 1 / 2 + 1 / 1099511627776) (c := 69314719 / 100000000) (by grind) (by grind) (by grind) c2
  obtain ⟨n3, e3⟩ := mul64 (x := c) (y := 4604418534313441775) (1 / 2) n2 l8 (by decide +kernel) (by decide +kernel) (by show _ ≤ _ * ln2c; rw [← hC]; grind) (by show _ * ln2c ≤ _; rw [← hC]; grind)
  rw [← hr] at n3 e3
  replace e3 : Nr (val .f64 r) (C * ln2c) (1 / 2 * uQ) := by rw [hC]; exact e3
  obtain ⟨R, hR⟩ : ∃ R, R = val .f64 r := ⟨_, rfl⟩
  rw [← hR] at e3 ⊢
  unfold Nr uQ at e3
  obtain ⟨g3, g4⟩ := mul_in (x := C - (x - (n : Rat))) (y := ln2c) (b := 1 * (1 / 9007199254740992)) (c := 69314719 / 100000000) (by grind) (by grind) (by grind) c2
  refine ⟨n1, w1, n2, n3, n, w2, m1, m2, ?_, by grind, by grind, ?_⟩
  · unfold Nr; constructor <;> grind
  · unfold Nr uQ; constructor <;> grind
theorem exp_low : pabs [1, 1/2, 1/6, 1/24, 1/120, 1/720, 1/5040, 1/40320, 1/362880, 1/3628800, 1/39916800, 1/479001600, 1/6227020800, 1/87178291200] (9 / 25) ≤ 121 / 100 := by decide +kernel
theorem exp_in {r : Rat} (h0 : -(9 / 25) ≤ r) (h1 : r ≤ 9 / 25) : 56 / 100 ≤ pev expL r ∧ pev expL r ≤ 144 / 100 := by
  obtain ⟨a1, a2⟩ := pev_bd [1, 1/2, 1/6, 1/24, 1/120, 1/720, 1/5040, 1/40320, 1/362880, 1/3628800, 1/39916800, 1/479001600, 1/6227020800, 1/87178291200] h0 h1
  have a3 := exp_low
  obtain ⟨T, hT⟩ : ∃ T, T = pev [1, 1/2, 1/6, 1/24, 1/120, 1/720, 1/5040, 1/40320, 1/362880, 1/3628800, 1/39916800, 1/479001600, 1/6227020800, 1/87178291200] r := ⟨_, rfl⟩
  have e : pev expL r = 1 + r * T := by rw [hT]; rfl
  rw [← hT] at a1 a2
  obtain ⟨m1, m2⟩ := mul_in (x := r) (y := T) (b := 9 / 25) (c := 121 / 100) h0 h1 (by grind) (by grind)
  rw [e]
  constructor <;> grind
end Go.Proofs.Ytokmjboaeamogaa
