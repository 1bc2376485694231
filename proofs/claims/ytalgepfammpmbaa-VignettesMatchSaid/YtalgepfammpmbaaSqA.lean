/- Square roots of singles by way of doubles: what comes of them is no too great for a single. Plain Lean. -/
import Derived.Test.YtalgepfammpmbaaRn
import Derived.Test.YtalgepfammpmbaaFloatB
namespace Go.Proofs.Ytalgepfammpmbaa
open Go Go.RowKit
theorem rootFrom_sq (n : Nat) : ∀ todo root : Nat, root * root ≤ n → Ieee.Datum.rootFrom n todo root * Ieee.Datum.rootFrom n todo root ≤ n
  | 0, root, h => h
  | todo + 1, root, h => by
    unfold Ieee.Datum.rootFrom
    by_cases k : (root + 1 <<< todo) * (root + 1 <<< todo) ≤ n
    · simp only [if_pos k]; exact rootFrom_sq n todo _ k
    · simp only [if_neg k]; exact rootFrom_sq n todo _ h
theorem sq_lt {a b : Rat} (hb : 0 ≤ b) (h : a * a < b * b) : a < b := by
  by_cases h0 : a < b
  · exact h0
  · have h1 : b ≤ a := by grind
    have h2 := Rat.mul_le_mul_of_nonneg_left h1 hb
    have h3 := Rat.mul_le_mul_of_nonneg_right h1 (by grind : (0 : Rat) ≤ a)
    grind
theorem root_bd {m digits : Nat} {i K : Int} {s t : Bool} {mag : Nat} {place : Int} (h : (Ieee.Datum.number s m i).root digits = some (.number t mag place)) (hv : (m : Rat) * (2 : Rat) ^ i < (2 : Rat) ^ (K + K)) :
    (mag : Rat) * (2 : Rat) ^ place < (2 : Rat) ^ (K + 1) := by
  by_cases hm : m = 0
  · simp only [Ieee.Datum.root, if_pos hm] at h
    cases h
    subst hm
    have := zp_pos (K + 1)
    simpa using this
  · by_cases hs : s = true
    · simp only [Ieee.Datum.root, if_neg hm, if_pos hs] at h; cases h
    · simp only [Ieee.Datum.root, if_neg hm, if_neg hs] at h
      obtain ⟨more, hmore⟩ : ∃ more, more = 2 * digits - m.log2 + ((i - ((2 * digits - m.log2 : Nat) : Int)) % 2).toNat := ⟨_, rfl⟩
      rw [← hmore] at h
      obtain ⟨H, hH⟩ : ∃ H : Int, i = H + H + more := ⟨(i - more) / 2, by omega⟩
      obtain ⟨whole, hw⟩ : ∃ whole, whole = Ieee.Datum.rootFrom (m <<< more) ((m <<< more).log2 / 2 + 1) 0 := ⟨_, rfl⟩
      rw [← hw] at h
      have hsq : whole * whole ≤ m <<< more := by rw [hw]; exact rootFrom_sq _ _ _ (Nat.zero_le _)
      have hHe : (i - (more : Int)) / 2 - 1 = H - 1 := by omega
      rw [hHe] at h
      have hb : ((whole * whole != m <<< more) : Bool).toNat ≤ 1 := Bool.toNat_le _
      generalize ((whole * whole != m <<< more) : Bool).toNat = b at *
      cases h
      rw [Nat.shiftLeft_eq] at hsq
      have hsq' : (whole : Rat) * (whole : Rat) ≤ (m : Rat) * ((2 ^ more : Nat) : Rat) := by
        rw [← Rat.natCast_mul, ← Rat.natCast_mul]; exact Rat.natCast_le_natCast.2 hsq
      have e1 : (m : Rat) * (2 : Rat) ^ i = (m : Rat) * ((2 ^ more : Nat) : Rat) * ((2 : Rat) ^ H * (2 : Rat) ^ H) := by
        rw [← zp_nat, ← zp_add, Rat.mul_assoc, ← zp_add]; congr 2; omega
      have p0 := zp_pos H
      have pK := zp_pos K
      have e2 : (2 : Rat) ^ (K + K) = (2 : Rat) ^ K * (2 : Rat) ^ K := zp_add K K
      have e3 : (2 : Rat) ^ (K + 1) = (2 : Rat) ^ K * 2 := by rw [zp_add]; rfl
      have e4 : (2 : Rat) ^ H = (2 : Rat) ^ (H - 1) * 2 := by
        have := zp_add (H - 1) 1; rw [show H - 1 + 1 = H by omega] at this; rw [this]; rfl
      have hHH : (0 : Rat) ≤ (2 : Rat) ^ H * (2 : Rat) ^ H := Rat.mul_nonneg (Rat.le_of_lt p0) (Rat.le_of_lt p0)
      have f1 : ((whole : Rat) * (2 : Rat) ^ H) * ((whole : Rat) * (2 : Rat) ^ H) < (2 : Rat) ^ K * (2 : Rat) ^ K := by
        have := Rat.mul_le_mul_of_nonneg_right hsq' hHH
        grind
      have g1 := sq_lt (Rat.le_of_lt pK) f1
      have hn1 : (1 : Rat) ≤ (m : Rat) * ((2 ^ more : Nat) : Rat) := by
        rw [← Rat.natCast_mul]
        exact Rat.natCast_le_natCast.2 (Nat.mul_pos (by omega) (Nat.two_pow_pos _))
      have f2 : (2 : Rat) ^ H * (2 : Rat) ^ H < (2 : Rat) ^ K * (2 : Rat) ^ K := by
        have := Rat.mul_le_mul_of_nonneg_right hn1 hHH
        grind
      have g2 := sq_lt (Rat.le_of_lt pK) f2
      have hb' : (b : Rat) ≤ 1 := by exact_mod_cast hb
      have h5 := Rat.mul_le_mul_of_nonneg_right hb' (Rat.le_of_lt (zp_pos (H - 1)))
      rw [Rat.natCast_add, Rat.natCast_mul, e3]
      rw [e4] at g1 g2
      have : ((2 : Nat) : Rat) = 2 := rfl
      grind
theorem sqrt_fit {x : Nat} (hb : isNum .f64 x = true → vq FloatKind.f64.format (rung FloatKind.f64.format x) < (2 : Rat) ^ (128 : Int)) (hn : isNum .f64 (fsqrt x) = true) : ovf .f64 .f32 (fsqrt x) = false := by
  obtain ⟨s, m, e, hd⟩ : ∃ s m e, FloatKind.f64.decode x = .number s m e := by
    cases hc : FloatKind.f64.decode x with
    | number s m e => exact ⟨s, m, e, rfl⟩
    | nan s t =>
      exfalso
      have hd' : FloatKind.f64.format.read x = .nan s t := hc
      have : fsqrt x = nanOf .f64 := by unfold fsqrt Ieee.Format.sqrt; rw [hd']; rfl
      rw [this] at hn; revert hn; decide +kernel
    | infinity s =>
      exfalso
      have hd' : FloatKind.f64.format.read x = .infinity s := hc
      have : fsqrt x = nanOf .f64 ∨ fsqrt x = FloatKind.f64.format.write (.infinity false) := by
        unfold fsqrt Ieee.Format.sqrt; rw [hd']; cases s
        · exact .inr rfl
        · exact .inl rfl
      rcases this with h | h <;> (rw [h] at hn; revert hn; decide +kernel)
  have hx : isNum .f64 x = true := isNum_decode.2 ⟨s, m, e, hd⟩
  obtain ⟨m', e', hd2, hv, -, -⟩ := decode_num hx
  rw [hd] at hd2
  cases hd2
  have hlt := hb hx
  rw [← hv] at hlt
  have hd' : FloatKind.f64.format.read x = .number (sgn FloatKind.f64.format x) m e := hd
  have key : ∃ t mag place, fsqrt x = FloatKind.f64.format.nearest t mag place ∧ (mag : Rat) * (2 : Rat) ^ place < (2 : Rat) ^ (65 : Int) := by
    cases hr : (Ieee.Datum.number (sgn FloatKind.f64.format x) m e).root (FloatKind.f64.format.fractionBits + 2) with
    | none =>
      exfalso
      have : fsqrt x = nanOf .f64 := by unfold fsqrt Ieee.Format.sqrt; rw [hd', hr]; rfl
      rw [this] at hn; revert hn; decide +kernel
    | some d =>
      have hf : fsqrt x = FloatKind.f64.format.write d := by unfold fsqrt Ieee.Format.sqrt; rw [hd', hr]; rfl
      cases d with
      | number t mag place => exact ⟨t, mag, place, hf, root_bd (K := 64) hr hlt⟩
      | nan t u => exact absurd (root_not_nan hr) (by simp [Ieee.Datum.isNaN])
      | infinity t =>
        exfalso
        rw [hf] at hn; revert hn; cases t <;> decide +kernel
  obtain ⟨t, mag, place, hf, hm⟩ := key
  obtain ⟨-, -, q1, -, -⟩ := nearest_rn .f64 t mag place 65 (by decide) (by decide) hm
  rw [← hf] at q1
  obtain ⟨m2, e2, hd3, hv3, -, -⟩ := decode_num hn
  have hq : (m2 : Rat) * (2 : Rat) ^ e2 < (2 : Rat) ^ (67 : Int) := by
    rw [hv3]
    have a1 : (2 : Rat) ^ (65 - 1 - (FloatKind.f64.format.fractionBits : Int)) < (2 : Rat) ^ (65 : Int) := zp_lt (by decide)
    have a2 : (2 : Rat) ^ (67 : Int) = (2 : Rat) ^ (65 : Int) * 4 := by
      have := zp_add 65 2; rw [show (65 : Int) + 2 = 67 by rfl] at this; rw [this]; congr 1
    grind
  obtain ⟨k1, -, -, -, -⟩ := nearest_rn .f32 (sgn FloatKind.f64.format (fsqrt x)) m2 e2 67 (by decide) (by decide) hq
  have k2 : FloatKind.f32.encode (FloatKind.f64.decode (fsqrt x)) = FloatKind.f32.format.nearest (sgn FloatKind.f64.format (fsqrt x)) m2 e2 := by rw [hd3]; rfl
  obtain ⟨m4, e4, hd4, -, -, -⟩ := decode_num k1
  unfold ovf
  rw [k2, hd4]
  simp [Ieee.Datum.isInfinity]
end Go.Proofs.Ytalgepfammpmbaa
