/- Rounding: how far the nearest float lies from a number: plain facts on the model's floats, no function of the program. No condition. -/
import Derived.Test.YtefjkelakecanaaIeee
namespace Go.Proofs.Ytefjkelakecanaa
open Go.RowKit

/-- To the nearest whole number, between two the even one. -/
def cutE (n g : Nat) : Nat := n / g + (decide (g < 2 * (n % g)) || (g == 2 * (n % g) && n / g % 2 == 1)).toNat
theorem cut_even (neg : Bool) (n drop : Nat) : Ieee.Toward.even.cut neg n drop = cutE n (2 ^ drop) := by
  unfold Ieee.Toward.cut cutE
  simp only [Nat.one_shiftLeft]
  by_cases h : drop ≤ n.log2 + 2
  · rw [Nat.min_eq_left h]
  · rw [Nat.min_eq_right (by omega)]
    have h1 : n < 2 ^ (n.log2 + 1) := Nat.lt_log2_self
    have h2 : 2 ^ (n.log2 + 2) = 2 * 2 ^ (n.log2 + 1) := by rw [Nat.pow_succ, Nat.mul_comm]
    have h3 : 2 ^ (n.log2 + 2) ≤ 2 ^ drop := Nat.pow_le_pow_right (by decide) (by omega)
    rw [Nat.div_eq_of_lt (by omega), Nat.mod_eq_of_lt (show n < 2 ^ (n.log2 + 2) by omega), Nat.div_eq_of_lt (by omega), Nat.mod_eq_of_lt (show n < 2 ^ drop by omega)]
    simp only [Nat.zero_add, Nat.zero_mod]
    rw [decide_eq_false (by omega), decide_eq_false (by omega)]
    simp
theorem cutE_bounds (n : Nat) {g : Nat} (hg : 0 < g) : 2 * (cutE n g * g) ≤ 2 * n + g ∧ 2 * n ≤ 2 * (cutE n g * g) + g := by
  have h1 := Nat.div_add_mod n g
  have h2 : n % g < g := Nat.mod_lt _ hg
  have h3 : g * (n / g) = n / g * g := Nat.mul_comm _ _
  unfold cutE
  cases hb : (decide (g < 2 * (n % g)) || (g == 2 * (n % g) && n / g % 2 == 1))
  · simp only [Bool.toNat_false, Nat.add_zero]
    simp only [Bool.or_eq_false_iff, decide_eq_false_iff_not] at hb
    omega
  · simp only [Bool.toNat_true]
    have h4 : (n / g + 1) * g = n / g * g + g := by rw [Nat.add_mul, Nat.one_mul]
    rw [h4]
    simp only [Bool.or_eq_true, decide_eq_true_eq, Bool.and_eq_true, beq_iff_eq] at hb
    omega
theorem cutE_exact (q : Nat) {g : Nat} (hg : 0 < g) : cutE (q * g) g = q := by
  unfold cutE
  rw [Nat.mul_div_cancel _ hg, Nat.mul_mod_left]
  rw [decide_eq_false (by omega)]
  have : (g == 2 * 0) = false := by simp; omega
  rw [this]; rfl
theorem cutE_mono {n m : Nat} {g : Nat} (hg : 0 < g) (h : n ≤ m) : cutE n g ≤ cutE m g := by
  have h1 := Nat.div_add_mod n g
  have h2 : n % g < g := Nat.mod_lt _ hg
  have h3 := Nat.div_add_mod m g
  have h4 : m % g < g := Nat.mod_lt _ hg
  have h5 : n / g ≤ m / g := Nat.div_le_div_right h
  rcases Nat.lt_or_eq_of_le h5 with hlt | heq
  · have a : cutE n g ≤ n / g + 1 := by unfold cutE; exact Nat.add_le_add_left (Bool.toNat_le _) _
    have b : m / g ≤ cutE m g := by unfold cutE; omega
    omega
  · unfold cutE
    rw [heq] at h1 ⊢
    have h6 : n % g ≤ m % g := by omega
    cases hb : (decide (g < 2 * (n % g)) || (g == 2 * (n % g) && m / g % 2 == 1))
    · simp
    · have : (decide (g < 2 * (m % g)) || (g == 2 * (m % g) && m / g % 2 == 1)) = true := by
        simp only [Bool.or_eq_true, decide_eq_true_eq, Bool.and_eq_true, beq_iff_eq] at hb ⊢
        omega
      rw [this]; simp

/-- The number of a rung behind rounding. -/
theorem vr_round {B d kept : Nat} (hB : 2 ≤ B) (h : (d = 0 ∧ kept ≤ 2 * B) ∨ (B ≤ kept ∧ kept ≤ 2 * B)) : vr B (d * B + kept) = kept * 2 ^ d := by
  by_cases hk : kept < B
  · have hd : d = 0 := by omega
    subst hd; unfold vr; rw [if_pos (by omega)]; omega
  · unfold vr
    rw [if_neg (by omega)]
    by_cases hk2 : kept = 2 * B
    · subst hk2
      have e : d * B + 2 * B = (d + 2) * B := by rw [Nat.add_mul]
      rw [e, Nat.mul_div_cancel _ (by omega), Nat.mul_mod_left]
      have : d + 2 - 1 = d + 1 := by omega
      rw [this, Nat.pow_succ]
      have : (B + 0) * (2 ^ d * 2) = 2 * B * 2 ^ d := by rw [Nat.add_zero, Nat.mul_comm (2 ^ d) 2, ← Nat.mul_assoc, Nat.mul_comm B 2]
      exact this
    · obtain ⟨t, ht⟩ : ∃ t, kept = B + t := ⟨kept - B, by omega⟩
      have e : d * B + kept = (d + 1) * B + t := by rw [Nat.add_mul, ht]; omega
      have e1 : (d * B + kept) / B = d + 1 := by
        rw [e, Nat.add_comm, Nat.add_mul_div_right _ _ (by omega), Nat.div_eq_of_lt (by omega)]; omega
      have e2 : (d * B + kept) % B = t := by
        rw [e, Nat.add_comm, Nat.add_mul_mod_self_right, Nat.mod_eq_of_lt (by omega)]
      rw [e1, e2, ht]; rfl

/-- The number of a magnitude's rung, exactly. -/
def vq (f : Ieee.Format) (r : Nat) : Rat := (vr f.binade r : Rat) * (2 : Rat) ^ f.leastPlace
/-- Half of the last place kept. -/
def lastOf (f : Ieee.Format) (mag : Nat) (place : Int) : Int := max (place + mag.log2 - f.fractionBits) f.leastPlace

theorem two_ne : (2 : Rat) ≠ 0 := by decide
theorem two_pos : (0 : Rat) < 2 := by decide
theorem zp_pos (e : Int) : (0 : Rat) < (2 : Rat) ^ e := Rat.zpow_pos two_pos
theorem zp_add (a b : Int) : (2 : Rat) ^ (a + b) = (2 : Rat) ^ a * (2 : Rat) ^ b := Rat.zpow_add two_ne a b
theorem zp_nat (n : Nat) : (2 : Rat) ^ (n : Int) = ((2 ^ n : Nat) : Rat) := by rw [Rat.zpow_natCast]; push_cast; rfl

theorem rat_cancel {a b c : Rat} (hc : 0 < c) (h : a * c = b * c) : a = b := by
  have h1 : a * c * c⁻¹ = b * c * c⁻¹ := by rw [h]
  have h2 : c * c⁻¹ = 1 := Rat.mul_inv_cancel _ (Rat.ne_of_gt hc)
  rwa [Rat.mul_assoc, Rat.mul_assoc, h2, Rat.mul_one, Rat.mul_one] at h1
theorem nearest_spec (f : Ieee.Format) (hp : 1 ≤ f.fractionBits) (neg : Bool) (mag : Nat) (place : Int) (hm : 0 < mag) :
    ∃ r : Nat, f.nearest neg mag place = f.word neg (min r f.infRung) ∧
      2 * vq f r ≤ 2 * ((mag : Rat) * (2 : Rat) ^ place) + (2 : Rat) ^ lastOf f mag place ∧
      2 * ((mag : Rat) * (2 : Rat) ^ place) ≤ 2 * vq f r + (2 : Rat) ^ lastOf f mag place ∧
      (∀ q : Nat, (mag : Rat) * (2 : Rat) ^ place = (q : Rat) * (2 : Rat) ^ lastOf f mag place → vq f r = (mag : Rat) * (2 : Rat) ^ place) := by
  have hL1 : 2 ^ mag.log2 ≤ mag := Nat.log2_self_le (by omega)
  have hL2 : mag < 2 ^ (mag.log2 + 1) := Nat.lt_log2_self
  have hB2 : 2 ≤ f.binade := by
    have : 2 ^ 1 ≤ 2 ^ f.fractionBits := Nat.pow_le_pow_right (by decide) hp
    exact this
  have hBp : f.binade = 2 ^ f.fractionBits := rfl
  generalize hl : lastOf f mag place = last
  have hl1 : place + mag.log2 - f.fractionBits ≤ last := by rw [← hl]; unfold lastOf; omega
  have hl2 : f.leastPlace ≤ last := by rw [← hl]; unfold lastOf; omega
  have hl3 : last = place + mag.log2 - f.fractionBits ∨ last = f.leastPlace := by rw [← hl]; unfold lastOf; omega
  obtain ⟨a, ha⟩ : ∃ a, a = (place - last).toNat := ⟨_, rfl⟩
  obtain ⟨b, hb⟩ : ∃ b, b = (last - place).toNat := ⟨_, rfl⟩
  obtain ⟨d, hd⟩ : ∃ d, d = (last - f.leastPlace).toNat := ⟨_, rfl⟩
  have hg : 0 < 2 ^ b := Nat.two_pow_pos _
  -- what is kept
  have hn2 : mag * 2 ^ a ≤ 2 * f.binade * 2 ^ b := by
    have h1 : mag * 2 ^ a ≤ 2 ^ (mag.log2 + 1) * 2 ^ a := Nat.mul_le_mul_right _ (by omega)
    have h2 : 2 * f.binade * 2 ^ b = 2 ^ (f.fractionBits + 1 + b) := by rw [hBp, Nat.pow_add, Nat.pow_succ, Nat.mul_comm (2 ^ f.fractionBits) 2]
    rw [← Nat.pow_add] at h1
    have h3 : 2 ^ (mag.log2 + 1 + a) ≤ 2 ^ (f.fractionBits + 1 + b) := Nat.pow_le_pow_right (by decide) (by omega)
    omega
  have hk2 : cutE (mag * 2 ^ a) (2 ^ b) ≤ 2 * f.binade := by
    have := cutE_mono hg hn2
    rwa [cutE_exact _ hg] at this
  have hk1 : d = 0 ∨ f.binade ≤ cutE (mag * 2 ^ a) (2 ^ b) := by
    rcases hl3 with h | h
    · right
      have h1 : 2 ^ mag.log2 * 2 ^ a ≤ mag * 2 ^ a := Nat.mul_le_mul_right _ hL1
      rw [← Nat.pow_add] at h1
      have h2 : f.binade * 2 ^ b = 2 ^ (mag.log2 + a) := by
        rw [hBp, ← Nat.pow_add]; congr 1; omega
      have := cutE_mono (n := f.binade * 2 ^ b) hg (by omega : f.binade * 2 ^ b ≤ mag * 2 ^ a)
      rwa [cutE_exact _ hg] at this
    · left; omega
  have hkb := cutE_bounds (mag * 2 ^ a) hg
  have hke := fun q => cutE_exact q hg
  generalize hK : cutE (mag * 2 ^ a) (2 ^ b) = kept at hk2 hk1 hkb
  have hv : vr f.binade (d * f.binade + kept) = kept * 2 ^ d := vr_round hB2 (by omega)
  refine ⟨d * f.binade + kept, ?_, ?_⟩
  · unfold Ieee.Format.nearest
    rw [if_neg (by omega)]
    simp only []
    have e : max (place + ↑mag.log2 - ↑f.fractionBits) f.leastPlace = last := hl
    rw [e, ← ha, ← hb, ← hd, Nat.shiftLeft_eq, cut_even, hK]
  · -- in numbers
    have hc := zp_pos (last - b)
    generalize hcc : (2 : Rat) ^ (last - b) = c at hc
    have e1 : (2 : Rat) ^ last = ((2 ^ b : Nat) : Rat) * c := by
      rw [← hcc, ← zp_nat, ← zp_add]; congr 1; omega
    have e2 : (mag : Rat) * (2 : Rat) ^ place = ((mag * 2 ^ a : Nat) : Rat) * c := by
      have e3 : (2 : Rat) ^ place = ((2 ^ a : Nat) : Rat) * c := by
        rw [← hcc, ← zp_nat, ← zp_add]; congr 1; omega
      have e4 : ((mag * 2 ^ a : Nat) : Rat) = (mag : Rat) * ((2 ^ a : Nat) : Rat) := Rat.natCast_mul _ _
      rw [e3, e4, Rat.mul_assoc]
    have e5 : vq f (d * f.binade + kept) = ((kept * 2 ^ b : Nat) : Rat) * c := by
      unfold vq
      rw [hv, Rat.natCast_mul, Rat.natCast_mul, Rat.mul_assoc, Rat.mul_assoc, ← e1, ← zp_nat, ← zp_add]
      congr 2; omega
    rw [e1, e2, e5]
    have b1 : 2 * ((kept * 2 ^ b : Nat) : Rat) ≤ 2 * ((mag * 2 ^ a : Nat) : Rat) + ((2 ^ b : Nat) : Rat) := by
      have := Rat.natCast_le_natCast.2 hkb.1
      simpa [Rat.natCast_add, Rat.natCast_mul] using this
    have b2 : 2 * ((mag * 2 ^ a : Nat) : Rat) ≤ 2 * ((kept * 2 ^ b : Nat) : Rat) + ((2 ^ b : Nat) : Rat) := by
      have := Rat.natCast_le_natCast.2 hkb.2
      simpa [Rat.natCast_add, Rat.natCast_mul] using this
    refine ⟨?_, ?_, ?_⟩
    · generalize ((kept * 2 ^ b : Nat) : Rat) = x at *
      generalize ((mag * 2 ^ a : Nat) : Rat) = y at *
      have := Rat.mul_le_mul_of_nonneg_right b1 (Rat.le_of_lt hc)
      grind
    · generalize ((kept * 2 ^ b : Nat) : Rat) = x at *
      generalize ((mag * 2 ^ a : Nat) : Rat) = y at *
      have := Rat.mul_le_mul_of_nonneg_right b2 (Rat.le_of_lt hc)
      grind
    · intro q hq
      have h1 : ((mag * 2 ^ a : Nat) : Rat) = ((q * 2 ^ b : Nat) : Rat) := by
        rw [Rat.natCast_mul q]
        rw [← Rat.mul_assoc] at hq
        exact rat_cancel hc hq
      have h2 : mag * 2 ^ a = q * 2 ^ b := Rat.natCast_inj.1 h1
      have h3 : kept = q := by rw [← hK, h2]; exact hke q
      rw [h3, h1]

end Go.Proofs.Ytefjkelakecanaa
