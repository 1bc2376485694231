/- Integers of floats; the nearest integer within bounds (num.Near, dyeref2.NearOf). No condition. -/
import Derived.Test.YtefjkelakecanaaVal
import Derived.Test.YtefjkelakecanaaExt
namespace Go.Proofs.Ytefjkelakecanaa
open Go.RowKit

theorem vq_le_iff (f : Ieee.Format) {r s : Nat} : vq f r ≤ vq f s ↔ r ≤ s := by
  have := vq_lt_iff f (r := s) (s := r)
  constructor
  · intro h; rcases Nat.lt_or_ge s r with h' | h'
    · have := this.2 h'; grind
    · exact h'
  · intro h; rcases Nat.lt_or_eq_of_le h with h' | h'
    · exact Rat.le_of_lt ((vq_lt_iff f).2 h')
    · rw [h']; exact Rat.le_refl
/-- The order of numbers' bits is that of the numbers. -/
theorem val_lt_key {k : FloatKind} {x y : Nat} : val k x < val k y ↔ key k.format x < key k.format y := by
  have p := vq_lt_iff k.format (r := rung k.format x) (s := rung k.format y)
  have q := vq_lt_iff k.format (r := rung k.format y) (s := rung k.format x)
  have a := vq_nonneg k.format (rung k.format x)
  have b := vq_nonneg k.format (rung k.format y)
  have c := vq_inj k.format (r := rung k.format x) (s := 0)
  have d := vq_inj k.format (r := rung k.format y) (s := 0)
  rw [vq_zero] at c d
  have c' : vq k.format (rung k.format x) = 0 ↔ rung k.format x = 0 := ⟨c, fun h => by rw [h, vq_zero]⟩
  have d' : vq k.format (rung k.format y) = 0 ↔ rung k.format y = 0 := ⟨d, fun h => by rw [h, vq_zero]⟩
  clear c d
  unfold val key
  generalize vq k.format (rung k.format x) = X at *
  generalize vq k.format (rung k.format y) = Y at *
  generalize rung k.format x = r at *
  generalize rung k.format y = s at *
  cases sgn k.format x <;> cases sgn k.format y <;> simp only [if_true, if_false, Bool.false_eq_true]
  · constructor
    · intro h; have := p.1 h; omega
    · intro h; exact p.2 (by omega)
  · constructor
    · intro h; exfalso; grind
    · intro h; omega
  · constructor
    · intro h
      have : ¬ (r = 0 ∧ s = 0) := fun ⟨h1, h2⟩ => by have := c'.2 h1; have := d'.2 h2; grind
      omega
    · intro h
      have : ¬ (X = 0 ∧ Y = 0) := fun ⟨h1, h2⟩ => by have := c'.1 h1; have := d'.1 h2; omega
      grind
  · constructor
    · intro h; have := q.1 (by grind); omega
    · intro h; have := q.2 (by omega); grind
theorem val_le_key {k : FloatKind} {x y : Nat} : val k x ≤ val k y ↔ key k.format x ≤ key k.format y := by
  have := val_lt_key (k := k) (x := y) (y := x)
  constructor
  · intro h; by_cases h' : key k.format y < key k.format x
    · have := this.2 h'; grind
    · omega
  · intro h; have h2 : ¬ val k y < val k x := fun h' => by have := this.1 h'; omega
    grind

theorem cut_zero (neg : Bool) (n drop : Nat) : Ieee.Toward.zero.cut neg n drop = n / 2 ^ drop := by
  unfold Ieee.Toward.cut
  simp only [Nat.one_shiftLeft, Bool.toNat_false, Nat.add_zero]
  by_cases h : drop ≤ n.log2 + 2
  · rw [Nat.min_eq_left h]
  · rw [Nat.min_eq_right (by omega)]
    have h1 : n < 2 ^ (n.log2 + 1) := Nat.lt_log2_self
    have h2 : 2 ^ (n.log2 + 2) = 2 * 2 ^ (n.log2 + 1) := by rw [Nat.pow_succ, Nat.mul_comm]
    have h3 : 2 ^ (n.log2 + 2) ≤ 2 ^ drop := Nat.pow_le_pow_right (by decide) (by omega)
    rw [Nat.div_eq_of_lt (by omega), Nat.div_eq_of_lt (by omega)]
/-- The integer of a number: cut towards 0. -/
theorem toInt_zero {k : FloatKind} {b : Nat} (h : isNum k b = true) : ∃ q : Nat, (k.decode b).toInt .zero = some (if sgn k.format b then -(q : Int) else (q : Int)) ∧ (q : Rat) ≤ vq k.format (rung k.format b) ∧ vq k.format (rung k.format b) < (q : Rat) + 1 := by
  obtain ⟨m, e, hd, hv, -, -⟩ := decode_num h
  rw [← hv]
  refine ⟨m <<< e.toNat / 2 ^ (-e).toNat, ?_, ?_⟩
  · rw [hd]
    simp only [Ieee.Datum.toInt, Ieee.Datum.integral, cut_zero, Ieee.signed, Nat.shiftLeft_zero]
  · rw [Nat.shiftLeft_eq]
    have hg : 0 < 2 ^ (-e).toNat := Nat.two_pow_pos _
    have h1 := Nat.div_add_mod (m * 2 ^ e.toNat) (2 ^ (-e).toNat)
    have h2 := Nat.mod_lt (m * 2 ^ e.toNat) hg
    have hc := zp_pos (-((-e).toNat : Int))
    have e1 : (m : Rat) * (2 : Rat) ^ e = ((m * 2 ^ e.toNat : Nat) : Rat) * (2 : Rat) ^ (-((-e).toNat : Int)) := by
      rw [Rat.natCast_mul, ← zp_nat, Rat.mul_assoc, ← zp_add]; congr 2; omega
    have e2 : ((2 ^ (-e).toNat : Nat) : Rat) * (2 : Rat) ^ (-((-e).toNat : Int)) = 1 := by
      rw [← zp_nat, ← zp_add]
      have : ((-e).toNat : Int) + -((-e).toNat : Int) = 0 := by omega
      rw [this, Rat.zpow_zero]
    rw [e1]
    generalize (2 : Rat) ^ (-((-e).toNat : Int)) = c at *
    generalize m * 2 ^ e.toNat = n at *
    generalize 2 ^ (-e).toNat = g at *
    generalize n / g = q at *
    generalize n % g = t at *
    have h3 : (n : Rat) = (g : Rat) * (q : Rat) + (t : Rat) := by rw [← h1]; push_cast; rfl
    have h4 : (0 : Rat) ≤ (t : Rat) := by exact_mod_cast Nat.zero_le t
    have h5 : (t : Rat) < (g : Rat) := Rat.natCast_lt_natCast.2 h2
    have h6 : (n : Rat) * c = (q : Rat) + (t : Rat) * c := by rw [h3]; grind
    have h7 : 0 ≤ (t : Rat) * c := Rat.mul_nonneg h4 (Rat.le_of_lt hc)
    have h8 : (t : Rat) * c < (g : Rat) * c := Rat.mul_lt_mul_of_pos_right h5 hc
    rw [h6]
    constructor <;> grind
theorem f2i_some {b : Nat} (h : isNum .f64 b = true) (hb : vq FloatKind.f64.format (rung FloatKind.f64.format b) ≤ ((2 ^ 62 : Nat) : Rat)) :
    ∃ q : Nat, floatToIntVal .f64 b .i64 = some (if sgn FloatKind.f64.format b then -(q : Int) else (q : Int)) ∧ (q : Rat) ≤ vq FloatKind.f64.format (rung FloatKind.f64.format b) ∧ vq FloatKind.f64.format (rung FloatKind.f64.format b) < (q : Rat) + 1 := by
  obtain ⟨q, h1, h2, h3⟩ := toInt_zero h
  refine ⟨q, ?_, h2, h3⟩
  have h4 : q ≤ 2 ^ 62 := Rat.natCast_le_natCast.1 (by grind)
  unfold floatToIntVal
  rw [h1]
  simp only []
  have e1 : IntKind.i64.min = -9223372036854775808 := by decide
  have e2 : IntKind.i64.max = 9223372036854775807 := by decide
  rw [if_pos]
  rw [e1, e2]
  split <;> omega

/-- The nearest integer within bounds (P3). -/
def nearOf (v : Nat) (lo hi : Int) : Int × Bool :=
  if isN .f32 v then (lo, false)
  else
    let x := fwhole .even (fcv .f32 .f64 v)
    if ford .f64 x (floatOfInt .f64 lo) == some .lt then (lo, false)
    else if ford .f64 x (floatOfInt .f64 hi) == some .gt then (hi, false)
    else ((floatToIntVal .f64 x .i64).getD 0, true)
theorem nearOf_cn (v : Nat) (lo hi : Int) : nearOf (cn .f32 v) lo hi = nearOf v lo hi := by
  unfold nearOf; rw [isN_cn, fcv_cn]
theorem near_some {x : Nat} {lo hi : Int} (hn : isN .f64 x = false) (hl : lo.natAbs ≤ 2 ^ 24) (hh : hi.natAbs ≤ 2 ^ 24)
    (h1 : (FloatKind.f64.format.order x (floatOfInt .f64 lo) == some .lt) = false) (h2 : (FloatKind.f64.format.order x (floatOfInt .f64 hi) == some .gt) = false) :
    isNum .f64 x = true ∧ (lo : Rat) ≤ val .f64 x ∧ val .f64 x ≤ (hi : Rat) ∧ ∃ n, floatToIntVal .f64 x .i64 = some n := by
  obtain ⟨a1, a2⟩ := ofInt_exact64 lo (by omega)
  obtain ⟨b1, b2⟩ := ofInt_exact64 hi (by omega)
  rw [ord_lt hn (isNum_not_nan a1)] at h1
  rw [ord_gt hn (isNum_not_nan b1)] at h2
  simp only [decide_eq_false_iff_not, Int.not_lt] at h1 h2
  have c1 : rung FloatKind.f64.format (floatOfInt .f64 lo) < FloatKind.f64.format.infRung := by simpa [isNum] using a1
  have c2 : rung FloatKind.f64.format (floatOfInt .f64 hi) < FloatKind.f64.format.infRung := by simpa [isNum] using b1
  have hx : isNum .f64 x = true := by
    unfold isNum
    simp only [decide_eq_true_eq]
    unfold key at h1 h2
    cases hs : sgn FloatKind.f64.format x <;> rw [hs] at h1 h2 <;> simp only [if_true, if_false, Bool.false_eq_true] at h1 h2
    · split at h2 <;> omega
    · split at h1 <;> omega
  have d1 := val_le_key.2 h1
  have d2 := val_le_key.2 h2
  rw [a2] at d1
  rw [b2] at d2
  refine ⟨hx, d1, d2, ?_⟩
  have e1 : (-((2 ^ 24 : Nat) : Rat)) ≤ (lo : Rat) := by
    have : (-(2 ^ 24 : Int)) ≤ lo := by omega
    have := Rat.intCast_le_intCast.2 this
    simpa using this
  have e2 : (hi : Rat) ≤ ((2 ^ 24 : Nat) : Rat) := by
    have : hi ≤ (2 ^ 24 : Int) := by omega
    have := Rat.intCast_le_intCast.2 this
    simpa using this
  have hb : vq FloatKind.f64.format (rung FloatKind.f64.format x) ≤ ((2 ^ 62 : Nat) : Rat) := by
    have e3 : ((2 ^ 24 : Nat) : Rat) ≤ ((2 ^ 62 : Nat) : Rat) := Rat.natCast_le_natCast.2 (by decide)
    unfold val at d1 d2
    split at d1 <;> grind
  obtain ⟨q, hq, -, -⟩ := f2i_some hx hb
  exact ⟨_, hq⟩

end Go.Proofs.Ytefjkelakecanaa
