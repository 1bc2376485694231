/- Rounding to the even integer, with its ties. Conditions: those named. -/
import Derived.Test.YtefjkelakecanaaMnP
namespace Go.Proofs.Ytefjkelakecanaa
open Go.RowKit
theorem cutE_tie (n : Nat) {g : Nat} (hg : 0 < g) (h : 2 * (cutE n g * g) = 2 * n + g ∨ 2 * n = 2 * (cutE n g * g) + g) : cutE n g % 2 = 0 := by
  have hn := Nat.div_add_mod n g
  have hr := Nat.mod_lt n hg
  unfold cutE at h ⊢
  generalize n / g = q at *
  generalize n % g = r at *
  rw [Nat.mul_comm g q] at hn
  by_cases h1 : g < 2 * r
  · rw [decide_eq_true h1] at h
    simp only [Bool.true_or, Bool.toNat_true, Nat.add_mul, Nat.one_mul] at h
    omega
  · rw [decide_eq_false h1] at h ⊢
    rw [Bool.false_or] at h ⊢
    by_cases h2 : g = 2 * r
    · have h4 : (g == 2 * r) = true := by simpa using h2
      rw [h4, Bool.true_and] at h ⊢
      by_cases h3 : q % 2 = 1
      · rw [show (q % 2 == 1) = true by simpa using h3, Bool.toNat_true]; omega
      · rw [show (q % 2 == 1) = false by simpa using h3, Bool.toNat_false]; omega
    · have : (g == 2 * r) = false := by simpa using h2
      rw [this, Bool.false_and] at h
      simp only [Bool.toNat_false, Nat.add_zero] at h
      omega
theorem cut_tie {m : Nat} {e : Int} (h : 2 * (cutE (m <<< e.toNat) (2 ^ (-e).toNat) : Rat) = 2 * ((m : Rat) * (2 : Rat) ^ e) + 1 ∨ 2 * ((m : Rat) * (2 : Rat) ^ e) = 2 * (cutE (m <<< e.toNat) (2 ^ (-e).toNat) : Rat) + 1) : cutE (m <<< e.toNat) (2 ^ (-e).toNat) % 2 = 0 := by
  rw [Nat.shiftLeft_eq] at *
  have hg : 0 < 2 ^ (-e).toNat := Nat.two_pow_pos _
  refine cutE_tie _ hg ?_
  have e1 : (m : Rat) * (2 : Rat) ^ e = ((m * 2 ^ e.toNat : Nat) : Rat) * (2 : Rat) ^ (-((-e).toNat : Int)) := by
    rw [Rat.natCast_mul, ← zp_nat, Rat.mul_assoc, ← zp_add]; congr 2; omega
  have e2 : (2 : Rat) ^ (-((-e).toNat : Int)) * ((2 ^ (-e).toNat : Nat) : Rat) = 1 := by
    rw [← zp_nat, ← zp_add]
    have : -((-e).toNat : Int) + ((-e).toNat : Int) = 0 := by omega
    rw [this, Rat.zpow_zero]
  rw [e1] at h
  generalize (2 : Rat) ^ (-((-e).toNat : Int)) = c at *
  generalize m * 2 ^ e.toNat = n at *
  generalize 2 ^ (-e).toNat = g at *
  generalize cutE n g = q at *
  have k : 2 * ((n : Rat) * c) * (g : Rat) = 2 * (n : Rat) := by rw [Rat.mul_assoc, Rat.mul_assoc, e2, Rat.mul_one]
  rcases h with h | h
  · left
    have h5 : (2 * (q : Rat)) * (g : Rat) = (2 * ((n : Rat) * c) + 1) * (g : Rat) := by rw [h]
    rw [Rat.add_mul, k, Rat.one_mul] at h5
    have h6 : ((2 * (q * g) : Nat) : Rat) = ((2 * n + g : Nat) : Rat) := by push_cast; grind
    exact_mod_cast h6
  · right
    have h5 : 2 * ((n : Rat) * c) * (g : Rat) = (2 * (q : Rat) + 1) * (g : Rat) := by rw [h]
    rw [Rat.add_mul, k, Rat.one_mul] at h5
    have h6 : ((2 * n : Nat) : Rat) = ((2 * (q * g) + g : Nat) : Rat) := by push_cast; grind
    exact_mod_cast h6
theorem whole_even {v : Nat} (hv : isNum .f64 v = true) (hs : sgn FloatKind.f64.format v = false) (hb : val .f64 v ≤ ((2 ^ 40 : Nat) : Rat)) :
    ∃ n : Nat, isNum .f64 (fwhole .even v) = true ∧ val .f64 (fwhole .even v) = (n : Rat) ∧ 2 * (n : Rat) ≤ 2 * val .f64 v + 1 ∧ 2 * val .f64 v ≤ 2 * (n : Rat) + 1 ∧ (2 * (n : Rat) = 2 * val .f64 v + 1 ∨ 2 * val .f64 v = 2 * (n : Rat) + 1 → n % 2 = 0) := by
  have hvq : val .f64 v = vq FloatKind.f64.format (rung FloatKind.f64.format v) := by unfold val; rw [hs]; rfl
  obtain ⟨m, e, hd, hm, -, -⟩ := decode_num hv
  obtain ⟨c, hc, c1, c2⟩ := cut_near (m := m) (e := e)
  have c3 : 2 * (c : Rat) = 2 * ((m : Rat) * (2 : Rat) ^ e) + 1 ∨ 2 * ((m : Rat) * (2 : Rat) ^ e) = 2 * (c : Rat) + 1 → c % 2 = 0 := by rw [hc]; exact cut_tie
  have hf : fwhole .even v = FloatKind.f64.encode (.number (sgn FloatKind.f64.format v) c 0) := by
    unfold fwhole
    rw [isNum_not_nan hv, hd, hc, ← cut_even (sgn FloatKind.f64.format v)]
    exact if_neg (by decide)
  rw [hm, ← hvq] at c1 c2 c3
  have hc40 : c ≤ 2 ^ 41 := by
    refine Rat.natCast_le_natCast.1 ?_
    have t1 : ((2 ^ 41 : Nat) : Rat) = 2 * ((2 ^ 40 : Nat) : Rat) := by decide +kernel
    have t2 : (1 : Rat) ≤ ((2 ^ 40 : Nat) : Rat) := by decide +kernel
    grind
  obtain ⟨x1, x2, x3⟩ := encode_exact .f64 (sgn FloatKind.f64.format v) c 0 (Nat.le_trans hc40 (by decide)) (by decide) (by
    rw [vq_inf64, Rat.zpow_zero, Rat.mul_one]
    have a1 : (c : Rat) ≤ ((2 ^ 41 : Nat) : Rat) := Rat.natCast_le_natCast.2 hc40
    rw [← zp_nat] at a1
    exact rle_lt a1 (zp_lt (by decide)))
  rw [Rat.zpow_zero, Rat.mul_one] at x3
  refine ⟨c, by rw [hf]; exact x1, ?_, c1, c2, c3⟩
  rw [hf, val_sg, x2, x3, hs]; rfl
end Go.Proofs.Ytefjkelakecanaa
