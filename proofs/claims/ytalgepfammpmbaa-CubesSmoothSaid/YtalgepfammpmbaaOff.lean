/- Offsets ahead of rounding, the single of a hash, and that a level's value leads back. Plain Lean. -/
import Derived.Test.YtalgepfammpmbaaNearC
import Derived.Test.YtalgepfammpmbaaLevB
import Derived.Test.YtalgepfammpmbaaHash
namespace Go.Proofs.Ytalgepfammpmbaa
open Go.RowKit

theorem addsub_not_nan {k : FloatKind} {x y : Nat} (hx : isNum k x = true) (hy : isNum k y = true) : isN k (fop .add k x y) = false ∧ isN k (fop .sub k x y) = false := by
  obtain ⟨m, e, d1, -, -, -⟩ := decode_num hx
  obtain ⟨n, j, d2, -, -, -⟩ := decode_num hy
  have d3 : (k.decode y).opposite = .number (!sgn k.format y) n j := by rw [d2]; rfl
  constructor
  · obtain ⟨neg, mag, place, g, -⟩ := sum_word (k := k) d1 d2
    have h : floatBits .add k x y = some (k.format.nearest neg mag place) := g
    unfold fop; rw [h]; exact floatBits_not_nan h
  · obtain ⟨neg, mag, place, g, -⟩ := sum_word (k := k) d1 d3
    have h : floatBits .sub k x y = some (k.format.nearest neg mag place) := g
    unfold fop; rw [h]; exact floatBits_not_nan h
/-- Bits of one value that is not 0 are one. -/
theorem bits_of_val {k : FloatKind} {b c : Nat} (hb : b < 2 ^ k.format.width) (hc : c < 2 ^ k.format.width) (h : val k b = val k c) (h0 : val k b ≠ 0) : b = c := by
  have hsw : 2 ^ k.format.width = 2 * k.format.signWeight := by cases k <;> decide +kernel
  have hp : 0 < k.format.signWeight := Nat.two_pow_pos _
  have e1 := val_le_key (k := k) (x := b) (y := c)
  have e2 := val_le_key (k := k) (x := c) (y := b)
  have k1 := e1.1 (by rw [h]; exact Rat.le_refl)
  have k2 := e2.1 (by rw [h]; exact Rat.le_refl)
  have hk : key k.format b = key k.format c := by omega
  have hnz : rung k.format b ≠ 0 := by
    intro hr
    apply h0
    rw [val_sg, hr, vq_zero]; unfold sg; split <;> simp
  unfold key at hk
  have r1 : rung k.format b = rung k.format c ∧ sgn k.format b = sgn k.format c := by
    cases h1 : sgn k.format b <;> cases h2 : sgn k.format c <;> rw [h1, h2] at hk <;> simp at hk ⊢ <;> omega
  obtain ⟨r1, r2⟩ := r1
  unfold rung at r1
  unfold sgn at r2
  have q1 : b / k.format.signWeight < 2 := by rw [Nat.div_lt_iff_lt_mul hp]; omega
  have q2 : c / k.format.signWeight < 2 := by rw [Nat.div_lt_iff_lt_mul hp]; omega
  have r3 : b / k.format.signWeight = c / k.format.signWeight := by
    rw [Nat.mod_eq_of_lt q1, Nat.mod_eq_of_lt q2] at r2
    generalize b / k.format.signWeight = i at *
    generalize c / k.format.signWeight = j at *
    rcases (show i = 0 ∨ i = 1 by omega) with rfl | rfl <;> rcases (show j = 0 ∨ j = 1 by omega) with rfl | rfl <;> simp at r2 ⊢
  rw [← Nat.div_add_mod b k.format.signWeight, ← Nat.div_add_mod c k.format.signWeight, r1, r3]

/-- The single of a hash. -/
def unitF (h : Int) : Nat := fop .mul .f32 (floatOfInt .f32 (h / 256)) 864026624
theorem c24 : isNum .f32 864026624 = true ∧ val .f32 864026624 = (2 : Rat) ^ (-24 : Int) ∧ isNum .f32 1266679808 = true ∧ val .f32 1266679808 = (2 : Rat) ^ (24 : Int) := by
  refine ⟨by decide +kernel, by decide +kernel, by decide +kernel, by decide +kernel⟩
theorem lp32 : FloatKind.f32.format.leastPlace = -149 := by decide
theorem fb32 : FloatKind.f32.format.fractionBits = 23 := rfl
theorem unit_val {n : Nat} (hn : n < 2 ^ 24) :
    Rn .f32 ((n : Rat) * (2 : Rat) ^ (-24 : Int)) (fop .mul .f32 (floatOfInt .f32 n) 864026624) ∧ Rq .f32 ((n : Rat) * (2 : Rat) ^ (-24 : Int)) (fop .quo .f32 (floatOfInt .f32 n) 1266679808) := by
  obtain ⟨a1, a2⟩ := ofInt_exact32 n (by omega)
  obtain ⟨b1, b2, b3, b4⟩ := c24
  rw [Rat.intCast_natCast] at a2
  have h0 := mag_nonneg n (-24)
  have h1 : (n : Rat) * (2 : Rat) ^ (-24 : Int) < (2 : Rat) ^ (0 : Int) := by
    have := Rat.mul_lt_mul_of_pos_right (Rat.natCast_lt_natCast.2 hn) (zp_pos (-24))
    have e : ((2 ^ 24 : Nat) : Rat) * (2 : Rat) ^ (-24 : Int) = (2 : Rat) ^ (0 : Int) := by decide +kernel
    rwa [e] at this
  have h2 : -((2 : Rat) ^ (0 : Int)) < (n : Rat) * (2 : Rat) ^ (-24 : Int) := by
    have := zp_pos 0; grind
  constructor
  · have := fop_mul_num a1 b1 0 (by decide) (by decide) (by rw [a2, b2]; exact h2) (by rw [a2, b2]; exact h1)
    rwa [a2, b2] at this
  · refine fop_quo_num a1 b3 (by rw [b4]; decide +kernel) ?_ 0 (by decide) (by decide) h2 h1
    rw [a2, b4, Rat.mul_assoc, ← zp_add]
    have e : (2 : Rat) ^ ((-24 : Int) + 24) = 1 := by decide +kernel
    rw [e, Rat.mul_one]
theorem unit_same {h : Int} (h0 : 0 ≤ h) (h1 : h < 4294967296) : fop .quo .f32 (floatOfInt .f32 (h / 256)) 1266679808 = unitF h ∧ isNum .f32 (unitF h) = true := by
  obtain ⟨n, hn⟩ : ∃ n : Nat, h / 256 = (n : Int) := ⟨(h / 256).toNat, by omega⟩
  have hlt : n < 2 ^ 24 := by omega
  unfold unitF
  rw [hn]
  obtain ⟨r1, r2⟩ := unit_val hlt
  refine ⟨?_, r1.num⟩
  rcases Nat.eq_zero_or_pos n with h | h
  · subst h; decide +kernel
  · have e1 := r1.exact false n (-24) (by rw [fb32]; exact hlt) (by decide) rfl
    have e2 := r2.exact false n (-24) (by rw [fb32]; exact hlt) (by decide) rfl
    refine (bits_of_val (fop_lt _ _ _ _) (fop_lt _ _ _ _) (by rw [e1, e2]) ?_).symm
    rw [e1]
    have : (0 : Rat) < (n : Rat) := by have := Rat.natCast_lt_natCast.2 h; simpa using this
    have := Rat.mul_pos this (zp_pos (-24))
    grind
theorem unit_not_nan {h : Int} (h0 : 0 ≤ h) (h1 : h < 4294967296) : isN .f32 (unitF h) = false := isNum_not_nan (unit_same h0 h1).2

/-- The offset of a kind. -/
def offF (how s x y c : Int) : Nat :=
  if how = 1 then fop .sub .f32 (fop .quo .f32 (fop .add .f32 (floatOfInt .f32 (ordZ (x % 8) (y % 8))) 1056964608) 1115684864) 1056964608
  else if how = 2 then fop .sub .f32 (unitF (hashZ s x y c)) 1056964608
  else 0
theorem half_num : isNum .f32 1056964608 = true := by decide +kernel
theorem off1_not_nan (x y : Int) : isN .f32 (fop .sub .f32 (fop .quo .f32 (fop .add .f32 (floatOfInt .f32 (ordZ (x % 8) (y % 8))) 1056964608) 1115684864) 1056964608) = false :=
  ord8 (p := fun a b => isN .f32 (fop .sub .f32 (fop .quo .f32 (fop .add .f32 (floatOfInt .f32 (ordZ a b)) 1056964608) 1115684864) 1056964608) = false) (by decide +kernel) x y
theorem off2_not_nan (s x y c : Int) : isN .f32 (fop .sub .f32 (unitF (hashZ s x y c)) 1056964608) = false :=
  (addsub_not_nan (unit_same (hashZ_bd s x y c).1 (hashZ_bd s x y c).2).2 half_num).2

/-- The level of a level's value is it. -/
theorem level_back {n d : Int} (hd : 1 ≤ d ∧ d ≤ 16) (h0 : 0 ≤ n) (h1 : n ≤ 2 ^ d.toNat - 1) : levelOf (valueF n d) 0 d = n := by
  have hb := pow_bd hd
  have hM : 1 ≤ (2 : Int) ^ d.toNat - 1 ∧ (2 : Int) ^ d.toNat - 1 ≤ 65535 := by omega
  unfold levelOf valueF
  generalize (2 : Int) ^ d.toNat - 1 = M at *
  clear hb hd
  obtain ⟨a1, a2⟩ := ofInt_exact32 n (by omega)
  obtain ⟨b1, b2⟩ := ofInt_exact32 M (by omega)
  have hn0 : (0 : Rat) ≤ (n : Rat) := by have := Rat.intCast_le_intCast.2 h0; simpa using this
  have hnM : (n : Rat) ≤ (M : Rat) := Rat.intCast_le_intCast.2 h1
  have hM1 : (1 : Rat) ≤ (M : Rat) := by have := Rat.intCast_le_intCast.2 hM.1; simpa using this
  have hM2 : (M : Rat) ≤ 65535 := by have := Rat.intCast_le_intCast.2 hM.2; simpa using this
  obtain ⟨q, hq⟩ : ∃ q : Rat, q = (n : Rat) * (M : Rat)⁻¹ := ⟨_, rfl⟩
  have hMM : (M : Rat)⁻¹ * (M : Rat) = 1 := Rat.inv_mul_cancel _ (by grind)
  have hqM : q * (M : Rat) = (n : Rat) := by rw [hq, Rat.mul_assoc, hMM, Rat.mul_one]
  have q0 : 0 ≤ q := Rat.le_of_mul_le_mul_right (c := (M : Rat)) (by rw [hqM, Rat.zero_mul]; exact hn0) (by grind)
  have q1 : q ≤ 1 := Rat.le_of_mul_le_mul_right (c := (M : Rat)) (by rw [hqM, Rat.one_mul]; exact hnM) (by grind)
  have t1 : (2 : Rat) ^ (1 : Int) = 2 := by decide +kernel
  have t17 : (2 : Rat) ^ (17 : Int) = 131072 := by decide +kernel
  have u1 : (2 : Rat) ^ ((1 : Int) - 1 - (FloatKind.f32.format.fractionBits : Int)) = 1 / 8388608 := by decide +kernel
  have u17 : (2 : Rat) ^ ((17 : Int) - 1 - (FloatKind.f32.format.fractionBits : Int)) = 1 / 128 := by decide +kernel
  have rv := fop_quo_num (q := q) a1 b1 (by rw [b2]; grind) (by rw [a2, b2]; exact hqM) 1 (by decide) (by decide) (by rw [t1]; grind) (by rw [t1]; grind)
  obtain ⟨v1, v2⟩ := rv.near 1 (by decide) (by decide) (by rw [t1]; grind) (by rw [t1]; grind)
  rw [u1] at v1 v2
  have hvn := rv.num
  generalize fop .quo .f32 (floatOfInt .f32 n) (floatOfInt .f32 M) = V at *
  generalize hW : val .f32 V = W at *
  have p1 : W * (M : Rat) ≤ (n : Rat) + 1 / 8388608 * (M : Rat) := by
    have := Rat.mul_le_mul_of_nonneg_right v1 (show (0 : Rat) ≤ (M : Rat) by grind)
    rwa [Rat.add_mul, hqM] at this
  have p2 : (n : Rat) ≤ W * (M : Rat) + 1 / 8388608 * (M : Rat) := by
    have := Rat.mul_le_mul_of_nonneg_right v2 (show (0 : Rat) ≤ (M : Rat) by grind)
    rwa [Rat.add_mul, hqM] at this
  clear rv v1 v2 a1 a2 hq hMM hqM q0 q1
  have rp := fop_mul_num hvn b1 17 (by decide) (by decide) (by rw [hW, b2, t17]; grind) (by rw [hW, b2, t17]; grind)
  rw [hW, b2] at rp
  obtain ⟨s1, s2⟩ := rp.near 17 (by decide) (by decide) (by rw [t17]; grind) (by rw [t17]; grind)
  rw [u17] at s1 s2
  have hpn := rp.num
  generalize fop .mul .f32 V (floatOfInt .f32 M) = P at *
  generalize hX : val .f32 P = X at *
  generalize W * (M : Rat) = Y at *
  have z1 : isNum .f32 0 = true := by decide +kernel
  have z2 : val .f32 0 = 0 := by decide +kernel
  have ra := fop_add_num hpn z1 17 (by decide) (by decide) (by rw [hX, z2, t17]; grind) (by rw [hX, z2, t17]; grind)
  rw [hX, z2, Rat.add_zero] at ra
  obtain ⟨s3, s4⟩ := ra.near 17 (by decide) (by decide) (by rw [t17]; grind) (by rw [t17]; grind)
  rw [u17] at s3 s4
  rw [near_int (n := n) ra.num (by decide) (by omega) (by grind) (by grind) h0 h1]
end Go.Proofs.Ytalgepfammpmbaa
