/- How far a level's value is from the value. Plain laws of floats. Conditions: what each theorem names. -/
import Derived.Test.YtcdcfkgdgimmcaaDoorHlA
import Derived.Test.YtcdcfkgdgimmcaaDoorMeanA
import Derived.Test.YtcdcfkgdgimmcaaDoorAbsA
import Derived.Test.YtcdcfkgdgimmcaaDoorBC
namespace Go.Proofs.YtcdcfkgdgimmcaaDoor
open Go.RowKit
theorem off_bd (how s x y c : Int) : isNum .f32 (offF how s x y c) = true ∧ -(1 / 2) ≤ val .f32 (offF how s x y c) ∧ val .f32 (offF how s x y c) ≤ 1 / 2 := by
  unfold offF
  split
  · exact ord8 (p := fun a b => isNum .f32 (fop .sub .f32 (fop .quo .f32 (fop .add .f32 (floatOfInt .f32 (ordZ a b)) 1056964608) 1115684864) 1056964608) = true ∧ -(1 / 2) ≤ val .f32 (fop .sub .f32 (fop .quo .f32 (fop .add .f32 (floatOfInt .f32 (ordZ a b)) 1056964608) 1115684864) 1056964608) ∧ val .f32 (fop .sub .f32 (fop .quo .f32 (fop .add .f32 (floatOfInt .f32 (ordZ a b)) 1056964608) 1115684864) 1056964608) ≤ 1 / 2) (by decide +kernel) x y
  · split
    · obtain ⟨z0, z1⟩ := hashZ_bd s x y c
      generalize hashZ s x y c = z at *
      obtain ⟨n, hn⟩ : ∃ n : Nat, z / 256 = (n : Int) := ⟨(z / 256).toNat, by omega⟩
      have hlt : n < 2 ^ 24 := by omega
      unfold unitF
      rw [hn]
      obtain ⟨r1, -⟩ := unit_val hlt
      have e1 := r1.exact false n (-24) (by rw [fb32]; exact hlt) (by decide) rfl
      have n1 := r1.num
      generalize fop .mul .f32 (floatOfInt .f32 (n : Int)) 864026624 = U at *
      clear r1
      have hv : val .f32 1056964608 = 1 / 2 := by decide +kernel
      have p24 : (2 : Rat) ^ (-24 : Int) = 1 / 16777216 := by decide +kernel
      have o1 : (2 : Rat) ^ (1 : Int) = 2 := by decide +kernel
      have b0 : (0 : Rat) ≤ (n : Rat) := Rat.natCast_nonneg
      have b1 : (n : Rat) ≤ 16777215 := by have := Rat.natCast_le_natCast.2 (show n ≤ 16777215 by omega); simpa using this
      rw [p24] at e1
      have R := fop_sub_num n1 half_num 1 (by decide) (by decide) (by rw [o1, e1, hv]; grind) (by rw [o1, e1, hv]; grind)
      rw [e1, hv] at R
      refine ⟨R.num, ?_⟩
      have ex : val .f32 (fop .sub .f32 U 1056964608) = (n : Rat) * (1 / 16777216) - 1 / 2 := by
        rcases Nat.lt_or_ge n 8388608 with h | h
        · refine R.exact true (8388608 - n) (-24) (by rw [fb32]; omega) (by decide) ?_
          have e : ((8388608 - n : Nat) : Rat) = 8388608 - (n : Rat) := by have h2 := Rat.natCast_add (8388608 - n) n; rw [Nat.sub_add_cancel (by omega)] at h2; have h3 : ((8388608 : Nat) : Rat) = 8388608 := rfl; rw [h3] at h2; grind
          rw [p24, e]; unfold sg; simp; grind
        · refine R.exact false (n - 8388608) (-24) (by rw [fb32]; omega) (by decide) ?_
          have e : ((n - 8388608 : Nat) : Rat) = (n : Rat) - 8388608 := by have h2 := Rat.natCast_add (n - 8388608) 8388608; rw [Nat.sub_add_cancel h] at h2; have h3 : ((8388608 : Nat) : Rat) = 8388608 := rfl; rw [h3] at h2; grind
          rw [p24, e]; unfold sg; simp; grind
      rw [ex]
      constructor <;> grind
    · exact ⟨by decide +kernel, by decide +kernel, by decide +kernel⟩
theorem vq_absB {k : FloatKind} {b : Nat} {q : Rat} (h1 : val k b ≤ q) (h2 : -q ≤ val k b) : vq k.format (rung k.format b) ≤ q := by
  rw [val_sg] at h1 h2; unfold sg at h1 h2; split at h1 <;> grind
/-- The level is near: with an offset, and without one. -/
theorem lev_near {v o : Nat} {m : Int} (hm : 1 ≤ m ∧ m ≤ 65535) (hv : isNum .f32 v = true) (h0 : 0 ≤ val .f32 v) (h1 : val .f32 v ≤ 1) (ho : isNum .f32 o = true) (o0 : -(1 / 2) ≤ val .f32 o) (o1 : val .f32 o ≤ 1 / 2) {n : Int} (hn : n = (nearOf (fop .add .f32 (fop .mul .f32 v (floatOfInt .f32 m)) o) 0 m).1) :
    0 ≤ n ∧ n ≤ m ∧ Nr (n : Rat) (val .f32 v * (m : Rat)) (1 + (2 * (m : Rat) + 505 / 1000) * (1 / 16777216)) ∧ (val .f32 o = 0 → Nr (n : Rat) (val .f32 v * (m : Rat)) (1 / 2 + (m : Rat) * (1 / 16777216))) := by
  obtain ⟨b1, b2⟩ := ofInt_exact32 m (by omega)
  have m1 : (1 : Rat) ≤ (m : Rat) := by have := icast_le hm.1; simpa using this
  have m2 : (m : Rat) ≤ 65535 := by have := icast_le hm.2; simpa using this
  have p101 : (2 : Rat) ^ (-101 : Int) ≤ 1 / 8796093022208 := by decide +kernel
  have p99 : (1048577 : Rat) < (2 : Rat) ^ (99 : Int) := by decide +kernel
  have t17 : (2 : Rat) ^ (17 : Int) = 131072 := by decide +kernel
  have t40 : ((2 ^ 40 : Nat) : Rat) = 1099511627776 := by decide +kernel
  have p0 : 0 ≤ val .f32 v * (m : Rat) := Rat.mul_nonneg h0 (by grind)
  have p1 : val .f32 v * (m : Rat) ≤ (m : Rat) := by
    have := Rat.mul_le_mul_of_nonneg_right h1 (show (0 : Rat) ≤ (m : Rat) by grind)
    rwa [Rat.one_mul] at this
  have RP := fop_mul_num hv b1 17 (by decide) (by decide) (by rw [b2, t17]; grind) (by rw [b2, t17]; grind)
  rw [b2] at RP
  have NP := rn_bd RP (B := (m : Rat)) (by grind) (by grind) (by grind) p1
  have np := RP.num
  clear RP
  generalize fop .mul .f32 v (floatOfInt .f32 m) = P at *
  generalize val .f32 v * (m : Rat) = t at *
  unfold Nr at NP
  have RQ := fop_add_num np ho 17 (by decide) (by decide) (by rw [t17]; grind) (by rw [t17]; grind)
  have NQ := rn_bd RQ (B := (m : Rat) + 505 / 1000) (by grind) (by grind) (by grind) (by grind)
  have nq := RQ.num
  have ex : val .f32 o = 0 → val .f32 (fop .add .f32 P o) = val .f32 P := fun h => by
    obtain ⟨mm, e, hdc, hq, hmm, he⟩ := decode_num np
    have := RQ.exact (sgn FloatKind.f32.format P) mm e hmm he (by rw [hq, ← val_sg]; grind)
    grind
  clear RQ
  unfold Nr at NQ
  obtain ⟨n1, n2, n3, n4⟩ := near_bd (v := fop .add .f32 P o) (lo := 0) (hi := m) nq (by rw [t40]; exact vq_absB (by grind) (by grind)) (by decide) (by omega) (by omega)
  rw [← hn] at n1 n2 n3 n4
  have q0 : (0 : Rat) ≤ (n : Rat) := by have := icast_le n1; simpa using this
  have q1 : (n : Rat) ≤ (m : Rat) := icast_le n2
  have z3 : n = 0 ∨ 2 * (n : Rat) ≤ 2 * val .f32 (fop .add .f32 P o) + 1 := by
    rcases (show n = 0 ∨ 0 < n by omega) with h | h
    · exact .inl h
    · exact .inr (n3 h)
  have z4 : n = m ∨ 2 * val .f32 (fop .add .f32 P o) ≤ 2 * (n : Rat) + 1 := by
    rcases (show n = m ∨ n < m by omega) with h | h
    · exact .inl h
    · exact .inr (n4 h)
  clear n3 n4 hn
  generalize val .f32 (fop .add .f32 P o) = Q at *
  refine ⟨n1, n2, ?_, fun hz => ?_⟩
  · unfold Nr
    constructor
    · rcases z3 with h | h
      · have : (n : Rat) = 0 := by rw [h]; rfl
        grind
      · grind
    · rcases z4 with h | h
      · have : (n : Rat) = (m : Rat) := by rw [h]
        grind
      · grind
  · have hx := ex hz
    unfold Nr
    constructor
    · rcases z3 with h | h
      · have : (n : Rat) = 0 := by rw [h]; rfl
        grind
      · grind
    · rcases z4 with h | h
      · have : (n : Rat) = (m : Rat) := by rw [h]
        grind
      · grind
/-- The value of the level is near the value. -/
theorem val_near {v o : Nat} {d : Int} (hd : 1 ≤ d ∧ d ≤ 16) (hv : isNum .f32 v = true) (h0 : 0 ≤ val .f32 v) (h1 : val .f32 v ≤ 1) (ho : isNum .f32 o = true) (o0 : -(1 / 2) ≤ val .f32 o) (o1 : val .f32 o ≤ 1 / 2) :
    isNum .f32 (valueF (levelOf v o d) d) = true ∧ -1 ≤ val .f32 (valueF (levelOf v o d) d) ∧ val .f32 (valueF (levelOf v o d) d) ≤ 2 ∧ ∀ r : Rat, r * ((2 ^ d.toNat - 1 : Int) : Rat) = 1 → 0 < r ∧ r ≤ 1 ∧
      Nr (val .f32 (valueF (levelOf v o d) d)) (val .f32 v) (r + 7 / 2 * (1 / 16777216) + 1 / 100 * (1 / 16777216)) ∧ (val .f32 o = 0 → Nr (val .f32 (valueF (levelOf v o d) d)) (val .f32 v) (r * (1 / 2) + 5 / 2 * (1 / 16777216))) := by
  have hb := pow_bd hd
  have hM : 1 ≤ (2 : Int) ^ d.toNat - 1 ∧ (2 : Int) ^ d.toNat - 1 ≤ 65535 := by omega
  unfold valueF
  obtain ⟨n, hn⟩ : ∃ n, n = levelOf v o d := ⟨_, rfl⟩
  rw [← hn]
  unfold levelOf at hn
  generalize (2 : Int) ^ d.toNat - 1 = m at *
  clear hb hd
  obtain ⟨n0, n1, N1, N2⟩ := lev_near hM hv h0 h1 ho o0 o1 hn
  clear hn
  obtain ⟨a1, a2⟩ := ofInt_exact32 n (by omega)
  obtain ⟨b1, b2⟩ := ofInt_exact32 m (by omega)
  have m1 : (1 : Rat) ≤ (m : Rat) := by have := icast_le hM.1; simpa using this
  have q0 : (0 : Rat) ≤ (n : Rat) := by have := icast_le n0; simpa using this
  have q1 : (n : Rat) ≤ (m : Rat) := icast_le n1
  have o_ : (2 : Rat) ^ (0 : Int) = 1 := Rat.zpow_zero _
  have o2 : (2 : Rat) ^ (1 : Int) = 2 := by decide +kernel
  have u0 : (2 : Rat) ^ ((0 : Int) - 1 - (FloatKind.f32.format.fractionBits : Int)) = 1 / 16777216 := by decide +kernel
  have hmp : (0 : Rat) < (m : Rat) := by grind
  obtain ⟨q, hq⟩ : ∃ q : Rat, q * (m : Rat) = (n : Rat) := ⟨(n : Rat) / (m : Rat), by rw [Rat.div_def, Rat.mul_assoc, Rat.inv_mul_cancel _ (by grind), Rat.mul_one]⟩
  have z1 : q ≤ 1 := le_cancel hmp (by grind)
  have z0 : -q ≤ 0 := le_cancel hmp (by grind)
  have RQ := fop_quo_num (q := q) a1 b1 (by rw [b2]; grind) (by rw [a2, b2]; exact hq) 1 (by decide) (by decide) (by rw [o2]; grind) (by rw [o2]; grind)
  have NG : Nr (val .f32 (fop .quo .f32 (floatOfInt .f32 n) (floatOfInt .f32 m))) q (1 / 16777216) := by
    by_cases h : q = 1
    · have ex := RQ.exact false 1 0 (by decide) (by decide) (by rw [h]; simp [sg])
      rw [ex]; unfold Nr; constructor <;> grind
    · have nr := RQ.near 0 (by decide) (by decide) (by rw [o_]; grind) (by rw [o_]; grind)
      rw [u0] at nr; exact nr
  have ng := RQ.num
  clear RQ
  generalize val .f32 (fop .quo .f32 (floatOfInt .f32 n) (floatOfInt .f32 m)) = G at *
  unfold Nr at NG
  refine ⟨ng, by grind, by grind, fun r hr => ?_⟩
  have hr0 : 0 < r := by
    rcases (Rat.le_total : 0 ≤ r ∨ r ≤ 0) with h | h
    · rcases (show r = 0 ∨ 0 < r by grind) with h2 | h2
      · rw [h2, Rat.zero_mul] at hr; exact absurd hr (by decide)
      · exact h2
    · have := Rat.mul_le_mul_of_nonneg_right h (Rat.le_of_lt hmp); grind
  have hr1 : r ≤ 1 := le_cancel hmp (by grind)
  have e : r * (n : Rat) = q := by
    have : q * (m : Rat) * r = (n : Rat) * r := by rw [hq]
    grind
  have ev : r * (val .f32 v * (m : Rat)) = val .f32 v := by grind
  refine ⟨hr0, hr1, ?_, fun hz => ?_⟩
  · have h := N1.mul (Rat.le_of_lt hr0)
    rw [e, ev] at h
    unfold Nr at h ⊢
    have e3 : r * (1 + (2 * (m : Rat) + 505 / 1000) * (1 / 16777216)) = r + (2 + r * (505 / 1000)) * (1 / 16777216) := by grind
    rw [e3] at h
    constructor <;> grind
  · have h := (N2 hz).mul (Rat.le_of_lt hr0)
    rw [e, ev] at h
    unfold Nr at h ⊢
    have e3 : r * (1 / 2 + (m : Rat) * (1 / 16777216)) = r * (1 / 2) + 1 / 16777216 := by grind
    rw [e3] at h
    constructor <;> grind
end Go.Proofs.YtcdcfkgdgimmcaaDoor
