/- What the checks of regions and of numbers within bounds give (frame.CheckRegion, dyeref2.RegionError, In, When, First; finish.deep). No condition. (with: ErrB, LevA, Near, NearB, LevB, LevC) -/
import Derived.Test.YthlomgbchmhjiaaGreatDoorBA
import Derived.Test.YthlomgbchmhjiaaGreatDoorBB
import Derived.Deep.OwnRows
import Derived.Outline
import Derived.Deep.DeepCutAuto
namespace Go.Proofs.YthlomgbchmhjiaaGreatDoor
open Go.RowKit

/-- The error of a region (P20). -/
def regErr (x y w h : Int) : Int :=
  if w < 1 ∨ 256 < w ∨ h < 1 ∨ 256 < h then 3 else if 16384 < w * h then 4
  else if x < -1048576 ∨ 1048576 - w < x ∨ y < -1048576 ∨ 1048576 - h < y then 5 else 0
def whenE (b : Bool) (e : Int) : Int := if b then e else 0
def firstE (a b : Int) : Int := if a = 0 then b else a
def inB (n lo hi : Int) : Bool := decide (lo ≤ n) && decide (n ≤ hi)

@[go_sem] theorem whenE_true (e : Int) : whenE true e = e := rfl
@[go_sem] theorem whenE_false (e : Int) : whenE false e = 0 := rfl
@[go_sem] theorem firstE_0 (b : Int) : firstE 0 b = b := rfl
@[go_sem] theorem firstE_1 (b : Int) : firstE 1 b = 1 := rfl
@[go_sem] theorem firstE_2 (b : Int) : firstE 2 b = 2 := rfl
@[go_sem] theorem firstE_3 (b : Int) : firstE 3 b = 3 := rfl
@[go_sem] theorem firstE_4 (b : Int) : firstE 4 b = 4 := rfl
@[go_sem] theorem firstE_5 (b : Int) : firstE 5 b = 5 := rfl
@[go_sem] theorem firstE_8 (b : Int) : firstE 8 b = 8 := rfl
theorem firstE_of {a : Int} (b : Int) (h : a ≠ 0) : firstE a b = a := by unfold firstE; rw [if_neg h]
theorem inB_t {n lo hi : Int} (h : lo ≤ n ∧ n ≤ hi) : inB n lo hi = true := by unfold inB; rw [decide_eq_true h.1, decide_eq_true h.2]; rfl
theorem inB_f {n lo hi : Int} (h : n < lo ∨ hi < n) : inB n lo hi = false := by
  unfold inB; rcases h with h | h
  · rw [decide_eq_false (by omega)]; rfl
  · rw [decide_eq_false (show ¬ n ≤ hi by omega), Bool.and_false]
theorem inB_iff {n lo hi : Int} : inB n lo hi = true ↔ lo ≤ n ∧ n ≤ hi := by unfold inB; simp
theorem ret_i {k : IntKind} {a b : Int} (h : a = b) : Ending.returned (.int k a) = .returned (.int k b) := by rw [h]
theorem ret_b {a b : Bool} (h : a = b) : Ending.returned (.bool a) = .returned (.bool b) := by rw [h]

set_option maxHeartbeats 400000 in
theorem In_any (n lo hi : Int) (w : World) : Calls Tryz.prog 10 #[.int .i64 n, .int .i64 lo, .int .i64 hi] w fun e w' => e = .returned (.bool (inB n lo hi)) ∧ w = w' := by
  go_enter Tryz.func10, Tryz.ntmps10
  go_wp2
  all_goals (go_ret; refine ⟨ret_b ?_, rfl⟩; unfold inB; rw [Bool.eq_iff_iff]; simp; try omega)
set_option maxHeartbeats 400000 in
theorem out_any (x v : Int) (w : World) (hv : 1 ≤ v ∧ v ≤ 256) : Calls Tryz.prog 149 #[.int .i64 x, .int .i64 v] w fun e w' => e = .returned (.bool (!inB x (-1048576) (1048576 - v))) ∧ w = w' := by
  obtain ⟨h1, h2⟩ := hv
  go_enter Tryz.func149, Tryz.ntmps149
  go_wp2
  all_goals (go_ret; refine ⟨ret_b ?_, rfl⟩; unfold inB; rw [Bool.eq_iff_iff]; simp; try omega)
set_option maxHeartbeats 400000 in
theorem CheckRegion_any (x y v h : Int) (w : World) : Calls Tryz.prog 131 #[.agg #[.int .i64 x, .int .i64 y, .int .i64 v, .int .i64 h]] w fun e w' => e = .returned (.int .i64 (regErr x y v h)) ∧ Below w.heap.size w w' := by
  by_cases hv : 1 ≤ v ∧ v ≤ 256 ∧ 1 ≤ h ∧ h ≤ 256
  · obtain ⟨h1, h2, h3, h4⟩ := hv
    have hp : 0 ≤ v * h := Int.mul_nonneg (by omega) (by omega)
    have hp2 : v * h ≤ 256 * 256 := Int.mul_le_mul h2 h4 (by omega) (by omega)
    go_enter Tryz.func131, Tryz.ntmps131
    go_wp2_with (first | (go_at_call 149; refine (out_any _ _ _ ⟨by omega, by omega⟩).mono ?_; rintro e w' ⟨rfl, rfl⟩))
    all_goals
      go_ret
      simp only [Bool.not_eq_true', inB_iff, Bool.eq_false_iff, ne_eq] at *
      refine ⟨ret_i ?_, (Below.refl _ _).alloc (Nat.le_refl _) _⟩
      unfold regErr; rw [if_neg (by omega)]; (repeat' split) <;> omega
  · by_cases h1 : v < 1
    · go_enter Tryz.func131, Tryz.ntmps131
      go_wp2_with fail
      go_ret
      exact ⟨ret_i (by unfold regErr; rw [if_pos (by omega)]), (Below.refl _ _).alloc (Nat.le_refl _) _⟩
    · by_cases h2 : 256 < v
      · go_enter Tryz.func131, Tryz.ntmps131
        go_wp2_with fail
        go_ret
        exact ⟨ret_i (by unfold regErr; rw [if_pos (by omega)]), (Below.refl _ _).alloc (Nat.le_refl _) _⟩
      · by_cases h3 : h < 1
        · go_enter Tryz.func131, Tryz.ntmps131
          go_wp2_with fail
          go_ret
          exact ⟨ret_i (by unfold regErr; rw [if_pos (by omega)]), (Below.refl _ _).alloc (Nat.le_refl _) _⟩
        · have h4 : 256 < h := by omega
          go_enter Tryz.func131, Tryz.ntmps131
          go_wp2_with fail
          go_ret
          exact ⟨ret_i (by unfold regErr; rw [if_pos (by omega)]), (Below.refl _ _).alloc (Nat.le_refl _) _⟩

end Go.Proofs.YthlomgbchmhjiaaGreatDoor

namespace Go.Proofs.YthlomgbchmhjiaaGreatDoor
open Go.RowKit

theorem heap_new (w : World) (o : Obj) (g : Nat) (hg : g = w.heap.size) : (w.alloc o).heap[g]? = some o := by subst hg; exact heap_alloc_new w o
end Go.Proofs.YthlomgbchmhjiaaGreatDoor

namespace Go.Proofs.YthlomgbchmhjiaaGreatDoor
open Go.RowKit

theorem pow_bd {d : Int} (h : 1 ≤ d ∧ d ≤ 16) : 2 ≤ (2 : Int) ^ d.toNat ∧ (2 : Int) ^ d.toNat ≤ 65536 := by
  obtain ⟨n, rfl⟩ := Int.eq_ofNat_of_zero_le (show 0 ≤ d by omega)
  have h1 : 2 ^ 1 ≤ 2 ^ n := Nat.pow_le_pow_right (by decide) (by omega)
  have h2 : 2 ^ n ≤ 2 ^ 16 := Nat.pow_le_pow_right (by decide) (by omega)
  have e : (2 : Int) ^ (Int.toNat (n : Int)) = ((2 ^ n : Nat) : Int) := by simp
  rw [e]; omega
/-- A quotient of numbers, the divisor not 0, is no NaN. -/
theorem quo_not_nan {k : FloatKind} {x y : Nat} (hx : isNum k x = true) (hy : isNum k y = true) (h0 : rung k.format y ≠ 0) : isN k (fop .quo k x y) = false := by
  obtain ⟨m, e, h1, -, -, -⟩ := decode_num hx
  obtain ⟨n, d, h2, h3, -, -⟩ := decode_num hy
  have hn : n ≠ 0 := by
    intro h
    rw [h] at h3
    simp at h3
    exact h0 (vq_inj k.format (by rw [← h3, vq_zero]))
  have hq : ∃ r, floatBits .quo k x y = some r := by
    have g1 : k.format.read x = _ := h1
    have g2 : k.format.read y = _ := h2
    unfold floatBits Ieee.Format.div
    simp only []
    rw [g1, g2]
    unfold Ieee.Datum.quotient
    simp only []
    rw [if_neg hn]
    exact ⟨_, rfl⟩
  obtain ⟨r, hr⟩ := hq
  unfold fop; rw [hr]; exact floatBits_not_nan hr
theorem FR.exact {k : FloatKind} {r s : Nat} (h : FR k r s) (hs : isN k s = false) : r = s := by
  have h1 := h.eq
  by_cases hr : isN k r = true
  · rw [cn_of_nan hr] at h1; rw [← h1, isN_nanOf] at hs; cases hs
  · rw [cn_of_not (by simpa using hr)] at h1; exact h1
theorem ofInt_nz32 {n : Int} (h : n.natAbs ≤ 2 ^ 24) (h0 : n ≠ 0) : rung FloatKind.f32.format (floatOfInt .f32 n) ≠ 0 := by
  intro hr
  have h1 := (ofInt_exact32 n h).2
  unfold val at h1
  rw [hr, vq_zero] at h1
  have h2 : ((0 : Int) : Rat) = (n : Rat) := by rw [← h1]; simp
  exact h0 (Rat.intCast_inj.1 h2).symm
/-- The value of a level. -/
def valueF (n d : Int) : Nat := fop .quo .f32 (floatOfInt .f32 n) (floatOfInt .f32 (2 ^ d.toNat - 1))
theorem valueF_not_nan {n d : Int} (hd : 1 ≤ d ∧ d ≤ 16) (hn : n.natAbs ≤ 2 ^ 24) : isN .f32 (valueF n d) = false := by
  have hb := pow_bd hd
  have h2 : ((2 : Int) ^ d.toNat - 1).natAbs ≤ 2 ^ 24 := by
    generalize (2 : Int) ^ d.toNat = q at *; omega
  refine quo_not_nan (ofInt_exact32 n hn).1 (ofInt_exact32 _ h2).1 (ofInt_nz32 h2 ?_)
  generalize (2 : Int) ^ d.toNat = q at *; omega

/-- No frame: a region of zeros and no values. -/
def noneB (x y v h : Int) (l : Nat) : Bool := decide (x = 0 ∧ y = 0 ∧ v = 0 ∧ h = 0 ∧ l = 0)
@[go_sem] theorem noneB_zero : noneB 0 0 0 0 0 = true := rfl
end Go.Proofs.YthlomgbchmhjiaaGreatDoor

namespace Go.Proofs.YthlomgbchmhjiaaGreatDoor
open Go.RowKit

theorem vq_le_iff (f : Ieee.Format) {r s : Nat} : vq f r ≤ vq f s ↔ r ≤ s := by
  have := vq_lt_iff f (r := s) (s := r)
  constructor
  · intro h; rcases Nat.lt_or_ge s r with h' | h'
    · have := this.2 h'; grind
    · exact h'
  · intro h; rcases Nat.lt_or_eq_of_le h with h' | h'
    · exact Rat.le_of_lt ((vq_lt_iff f).2 h')
    · rw [h']; exact Rat.le_refl
/-- The order of numbers' bits is that of the numbers. -/
theorem val_lt_key {k : FloatKind} {x y : Nat} : val k x < val k y ↔ key k.format x < key k.format y := by
  have p := vq_lt_iff k.format (r := rung k.format x) (s := rung k.format y)
  have q := vq_lt_iff k.format (r := rung k.format y) (s := rung k.format x)
  have a := vq_nonneg k.format (rung k.format x)
  have b := vq_nonneg k.format (rung k.format y)
  have c := vq_inj k.format (r := rung k.format x) (s := 0)
  have d := vq_inj k.format (r := rung k.format y) (s := 0)
  rw [vq_zero] at c d
  have c' : vq k.format (rung k.format x) = 0 ↔ rung k.format x = 0 := ⟨c, fun h => by rw [h, vq_zero]⟩
  have d' : vq k.format (rung k.format y) = 0 ↔ rung k.format y = 0 := ⟨d, fun h => by rw [h, vq_zero]⟩
  clear c d
  unfold val key
  generalize vq k.format (rung k.format x) = X at *
  generalize vq k.format (rung k.format y) = Y at *
  generalize rung k.format x = r at *
  generalize rung k.format y = s at *
  cases sgn k.format x <;> cases sgn k.format y <;> simp only [if_true, if_false, Bool.false_eq_true]
  · constructor
    · intro h; have := p.1 h; omega
    · intro h; exact p.2 (by omega)
  · constructor
    · intro h; exfalso; grind
    · intro h; omega
  · constructor
    · intro h
      have : ¬ (r = 0 ∧ s = 0) := fun ⟨h1, h2⟩ => by have := c'.2 h1; have := d'.2 h2; grind
      omega
    · intro h
      have : ¬ (X = 0 ∧ Y = 0) := fun ⟨h1, h2⟩ => by have := c'.1 h1; have := d'.1 h2; omega
      grind
  · constructor
    · intro h; have := q.1 (by grind); omega
    · intro h; have := q.2 (by omega); grind
theorem val_le_key {k : FloatKind} {x y : Nat} : val k x ≤ val k y ↔ key k.format x ≤ key k.format y := by
  have := val_lt_key (k := k) (x := y) (y := x)
  constructor
  · intro h; by_cases h' : key k.format y < key k.format x
    · have := this.2 h'; grind
    · omega
  · intro h; have h2 : ¬ val k y < val k x := fun h' => by have := this.1 h'; omega
    grind

theorem cut_zero (neg : Bool) (n drop : Nat) : Ieee.Toward.zero.cut neg n drop = n / 2 ^ drop := by
  unfold Ieee.Toward.cut
  simp only [Nat.one_shiftLeft, Bool.toNat_false, Nat.add_zero]
  by_cases h : drop ≤ n.log2 + 2
  · rw [Nat.min_eq_left h]
  · rw [Nat.min_eq_right (by omega)]
    have h1 : n < 2 ^ (n.log2 + 1) := Nat.lt_log2_self
    have h2 : 2 ^ (n.log2 + 2) = 2 * 2 ^ (n.log2 + 1) := by rw [Nat.pow_succ, Nat.mul_comm]
    have h3 : 2 ^ (n.log2 + 2) ≤ 2 ^ drop := Nat.pow_le_pow_right (by decide) (by omega)
    rw [Nat.div_eq_of_lt (by omega), Nat.div_eq_of_lt (by omega)]
/-- The integer of a number: cut towards 0. -/
theorem toInt_zero {k : FloatKind} {b : Nat} (h : isNum k b = true) : ∃ q : Nat, (k.decode b).toInt .zero = some (if sgn k.format b then -(q : Int) else (q : Int)) ∧ (q : Rat) ≤ vq k.format (rung k.format b) ∧ vq k.format (rung k.format b) < (q : Rat) + 1 := by
  obtain ⟨m, e, hd, hv, -, -⟩ := decode_num h
  rw [← hv]
  refine ⟨m <<< e.toNat / 2 ^ (-e).toNat, ?_, ?_⟩
  · rw [hd]
    simp only [Ieee.Datum.toInt, Ieee.Datum.integral, cut_zero, Ieee.signed, Nat.shiftLeft_zero]
  · rw [Nat.shiftLeft_eq]
    have hg : 0 < 2 ^ (-e).toNat := Nat.two_pow_pos _
    have h1 := Nat.div_add_mod (m * 2 ^ e.toNat) (2 ^ (-e).toNat)
    have h2 := Nat.mod_lt (m * 2 ^ e.toNat) hg
    have hc := zp_pos (-((-e).toNat : Int))
    have e1 : (m : Rat) * (2 : Rat) ^ e = ((m * 2 ^ e.toNat : Nat) : Rat) * (2 : Rat) ^ (-((-e).toNat : Int)) := by
      rw [Rat.natCast_mul, ← zp_nat, Rat.mul_assoc, ← zp_add]; congr 2; omega
    have e2 : ((2 ^ (-e).toNat : Nat) : Rat) * (2 : Rat) ^ (-((-e).toNat : Int)) = 1 := by
      rw [← zp_nat, ← zp_add]
      have : ((-e).toNat : Int) + -((-e).toNat : Int) = 0 := by omega
      rw [this, Rat.zpow_zero]
    rw [e1]
    generalize (2 : Rat) ^ (-((-e).toNat : Int)) = c at *
    generalize m * 2 ^ e.toNat = n at *
    generalize 2 ^ (-e).toNat = g at *
    generalize n / g = q at *
    generalize n % g = t at *
    have h3 : (n : Rat) = (g : Rat) * (q : Rat) + (t : Rat) := by rw [← h1]; push_cast; rfl
    have h4 : (0 : Rat) ≤ (t : Rat) := by exact_mod_cast Nat.zero_le t
    have h5 : (t : Rat) < (g : Rat) := Rat.natCast_lt_natCast.2 h2
    have h6 : (n : Rat) * c = (q : Rat) + (t : Rat) * c := by rw [h3]; grind
    have h7 : 0 ≤ (t : Rat) * c := Rat.mul_nonneg h4 (Rat.le_of_lt hc)
    have h8 : (t : Rat) * c < (g : Rat) * c := Rat.mul_lt_mul_of_pos_right h5 hc
    rw [h6]
    constructor <;> grind
theorem f2i_some {b : Nat} (h : isNum .f64 b = true) (hb : vq FloatKind.f64.format (rung FloatKind.f64.format b) ≤ ((2 ^ 62 : Nat) : Rat)) :
    ∃ q : Nat, floatToIntVal .f64 b .i64 = some (if sgn FloatKind.f64.format b then -(q : Int) else (q : Int)) ∧ (q : Rat) ≤ vq FloatKind.f64.format (rung FloatKind.f64.format b) ∧ vq FloatKind.f64.format (rung FloatKind.f64.format b) < (q : Rat) + 1 := by
  obtain ⟨q, h1, h2, h3⟩ := toInt_zero h
  refine ⟨q, ?_, h2, h3⟩
  have h4 : q ≤ 2 ^ 62 := Rat.natCast_le_natCast.1 (by grind)
  unfold floatToIntVal
  rw [h1]
  simp only []
  have e1 : IntKind.i64.min = -9223372036854775808 := by decide
  have e2 : IntKind.i64.max = 9223372036854775807 := by decide
  rw [if_pos]
  rw [e1, e2]
  split <;> omega

/-- The nearest integer within bounds (P3). -/
def nearOf (v : Nat) (lo hi : Int) : Int × Bool :=
  if isN .f32 v then (lo, false)
  else
    let x := fwhole .even (fcv .f32 .f64 v)
    if ford .f64 x (floatOfInt .f64 lo) == some .lt then (lo, false)
    else if ford .f64 x (floatOfInt .f64 hi) == some .gt then (hi, false)
    else ((floatToIntVal .f64 x .i64).getD 0, true)
theorem nearOf_cn (v : Nat) (lo hi : Int) : nearOf (cn .f32 v) lo hi = nearOf v lo hi := by
  unfold nearOf; rw [isN_cn, fcv_cn]
theorem near_some {x : Nat} {lo hi : Int} (hn : isN .f64 x = false) (hl : lo.natAbs ≤ 2 ^ 24) (hh : hi.natAbs ≤ 2 ^ 24)
    (h1 : (FloatKind.f64.format.order x (floatOfInt .f64 lo) == some .lt) = false) (h2 : (FloatKind.f64.format.order x (floatOfInt .f64 hi) == some .gt) = false) :
    isNum .f64 x = true ∧ (lo : Rat) ≤ val .f64 x ∧ val .f64 x ≤ (hi : Rat) ∧ ∃ n, floatToIntVal .f64 x .i64 = some n := by
  obtain ⟨a1, a2⟩ := ofInt_exact64 lo (by omega)
  obtain ⟨b1, b2⟩ := ofInt_exact64 hi (by omega)
  rw [ord_lt hn (isNum_not_nan a1)] at h1
  rw [ord_gt hn (isNum_not_nan b1)] at h2
  simp only [decide_eq_false_iff_not, Int.not_lt] at h1 h2
  have c1 : rung FloatKind.f64.format (floatOfInt .f64 lo) < FloatKind.f64.format.infRung := by simpa [isNum] using a1
  have c2 : rung FloatKind.f64.format (floatOfInt .f64 hi) < FloatKind.f64.format.infRung := by simpa [isNum] using b1
  have hx : isNum .f64 x = true := by
    unfold isNum
    simp only [decide_eq_true_eq]
    unfold key at h1 h2
    cases hs : sgn FloatKind.f64.format x <;> rw [hs] at h1 h2 <;> simp only [if_true, if_false, Bool.false_eq_true] at h1 h2
    · split at h2 <;> omega
    · split at h1 <;> omega
  have d1 := val_le_key.2 h1
  have d2 := val_le_key.2 h2
  rw [a2] at d1
  rw [b2] at d2
  refine ⟨hx, d1, d2, ?_⟩
  have e1 : (-((2 ^ 24 : Nat) : Rat)) ≤ (lo : Rat) := by
    have : (-(2 ^ 24 : Int)) ≤ lo := by omega
    have := Rat.intCast_le_intCast.2 this
    simpa using this
  have e2 : (hi : Rat) ≤ ((2 ^ 24 : Nat) : Rat) := by
    have : hi ≤ (2 ^ 24 : Int) := by omega
    have := Rat.intCast_le_intCast.2 this
    simpa using this
  have hb : vq FloatKind.f64.format (rung FloatKind.f64.format x) ≤ ((2 ^ 62 : Nat) : Rat) := by
    have e3 : ((2 ^ 24 : Nat) : Rat) ≤ ((2 ^ 62 : Nat) : Rat) := Rat.natCast_le_natCast.2 (by decide)
    unfold val at d1 d2
    split at d1 <;> grind
  obtain ⟨q, hq, -, -⟩ := f2i_some hx hb
  exact ⟨_, hq⟩

end Go.Proofs.YthlomgbchmhjiaaGreatDoor

namespace Go.Proofs.YthlomgbchmhjiaaGreatDoor
open Go.RowKit

theorem near_nan {v : Nat} {lo hi : Int} (h : (FloatKind.f32.format.order v v != some .eq) = true) : nearOf v lo hi = (lo, false) := by
  rw [ord_self_ne] at h; unfold nearOf; rw [if_pos h]
theorem near_x {v r s : Nat} (h1 : FR .f64 r (fcv .f32 .f64 (cn .f32 v))) (h2 : FR .f64 s (fwhole .even (cn .f64 r))) (h : (FloatKind.f32.format.order v v != some .eq) = false) : fwhole .even (fcv .f32 .f64 v) = s ∧ isN .f64 s = false := by
  rw [ord_self_ne] at h
  have e : cn .f64 s = fwhole .even (fcv .f32 .f64 v) := by rw [h2.eq, h1.eq, fcv_cn]
  have hn : isN .f64 (cn .f64 s) = false := by rw [e, isN_fwhole, isN_fcv]; exact h
  rw [isN_cn] at hn
  exact ⟨by rw [← e, cn_of_not hn], hn⟩
theorem near_lt {v r s : Nat} {lo hi : Int} (h1 : FR .f64 r (fcv .f32 .f64 (cn .f32 v))) (h2 : FR .f64 s (fwhole .even (cn .f64 r))) (h : (FloatKind.f32.format.order v v != some .eq) = false)
    (hl : (FloatKind.f64.format.order s (floatOfInt .f64 lo) == some .lt) = true) : nearOf v lo hi = (lo, false) := by
  obtain ⟨e, -⟩ := near_x h1 h2 h
  rw [ord_self_ne] at h
  unfold nearOf; rw [e, h]; simp only [Bool.false_eq_true, if_false]; unfold ford; rw [hl]; rfl
theorem near_gt {v r s : Nat} {lo hi : Int} (h1 : FR .f64 r (fcv .f32 .f64 (cn .f32 v))) (h2 : FR .f64 s (fwhole .even (cn .f64 r))) (h : (FloatKind.f32.format.order v v != some .eq) = false)
    (hl : (FloatKind.f64.format.order s (floatOfInt .f64 lo) == some .lt) = false) (hg : (FloatKind.f64.format.order s (floatOfInt .f64 hi) == some .gt) = true) : nearOf v lo hi = (hi, false) := by
  obtain ⟨e, -⟩ := near_x h1 h2 h
  rw [ord_self_ne] at h
  unfold nearOf; rw [e, h]; simp only [Bool.false_eq_true, if_false]; unfold ford; rw [hl, hg]; rfl
theorem near_in {v r s : Nat} {lo hi m : Int} (b1 : lo.natAbs ≤ 2 ^ 24) (b2 : hi.natAbs ≤ 2 ^ 24) (h1 : FR .f64 r (fcv .f32 .f64 (cn .f32 v))) (h2 : FR .f64 s (fwhole .even (cn .f64 r))) (h : (FloatKind.f32.format.order v v != some .eq) = false)
    (hl : (FloatKind.f64.format.order s (floatOfInt .f64 lo) == some .lt) = false) (hg : (FloatKind.f64.format.order s (floatOfInt .f64 hi) == some .gt) = false) (hm : F2I .f64 s .i64 m) : nearOf v lo hi = (m, true) := by
  obtain ⟨e, hn⟩ := near_x h1 h2 h
  obtain ⟨-, -, -, n, hv⟩ := near_some hn b1 b2 hl hg
  have em := hm _ hv
  rw [ord_self_ne] at h
  unfold nearOf; rw [e, h]; simp only [Bool.false_eq_true, if_false]; unfold ford; rw [hl, hg, hv, em]; rfl

end Go.Proofs.YthlomgbchmhjiaaGreatDoor

namespace Go.Proofs.YthlomgbchmhjiaaGreatDoor
open Go.RowKit

/-- The level of a value. -/
def levelOf (v o : Nat) (d : Int) : Int := (nearOf (fop .add .f32 (fop .mul .f32 v (floatOfInt .f32 (2 ^ d.toNat - 1))) o) 0 (2 ^ d.toNat - 1)).1
theorem near_FR {r s : Nat} (h : FR .f32 r s) (lo hi : Int) : nearOf r lo hi = nearOf s lo hi := by rw [← nearOf_cn r, h.eq]
theorem level_FR {v o r s : Nat} {d : Int} (h1 : FR .f32 r (fop .mul .f32 (cn .f32 v) (cn .f32 (floatOfInt .f32 (2 ^ d.toNat - 1))))) (h2 : FR .f32 s (fop .add .f32 (cn .f32 r) (cn .f32 o))) :
    (nearOf s 0 (2 ^ d.toNat - 1)).1 = levelOf v o d := by
  rw [near_FR h2, h1.eq, fop_cn_left, fop_cn_right, fop_cn_right]; rfl

theorem lev_half : levelOf 1056964608 0 8 = 128 := by decide +kernel
end Go.Proofs.YthlomgbchmhjiaaGreatDoor

namespace Go.Proofs.YthlomgbchmhjiaaGreatDoor
open Go.RowKit

theorem bcell {W w1 : World} (hb : Below W.heap.size W w1) : (∀ b o, b < W.heap.size → w1.cell? ⟨b, o, none⟩ = W.cell? ⟨b, o, none⟩) ∧ (∀ b o, b < W.heap.size → w1.frozen? ⟨b, o, none⟩ = W.frozen? ⟨b, o, none⟩) ∧ W.heap.size ≤ w1.heap.size :=
  ⟨fun b o h => hb.cell (p := ⟨b, o, none⟩) h, fun b o h => hb.frozen (p := ⟨b, o, none⟩) h, hb.size⟩
theorem regErr_ok {x y v h : Int} (he : regErr x y v h = 0) : 1 ≤ v ∧ v ≤ 256 ∧ 1 ≤ h ∧ h ≤ 256 ∧ v * h ≤ 16384 ∧ 1 ≤ v * h ∧ -1048576 ≤ x ∧ x ≤ 1048576 - v ∧ -1048576 ≤ y ∧ y ≤ 1048576 - h := by
  unfold regErr at he
  by_cases h1 : v < 1 ∨ 256 < v ∨ h < 1 ∨ 256 < h
  · rw [if_pos h1] at he; cases he
  · rw [if_neg h1] at he
    by_cases h2 : 16384 < v * h
    · rw [if_pos h2] at he; cases he
    · rw [if_neg h2] at he
      by_cases h3 : x < -1048576 ∨ 1048576 - v < x ∨ y < -1048576 ∨ 1048576 - h < y
      · rw [if_pos h3] at he; cases he
      · have hp : 1 * 1 ≤ v * h := Int.mul_le_mul (by omega) (by omega) (by decide) (by omega)
        exact ⟨by omega, by omega, by omega, by omega, by omega, by omega, by omega, by omega, by omega, by omega⟩
theorem cell_lt {w : World} {a : Addr} {v : Value} (h : w.cell? a = some v) : a.block < w.heap.size := by
  rcases Nat.lt_or_ge a.block w.heap.size with h' | h'
  · exact h'
  · simp [World.cell?, Array.getElem?_eq_none h'] at h
/-- A frame's variable at block n: the region, the row of values at block g. -/
structure FrameAt (w : World) (n : Nat) (x y v h : Int) (g len : Nat) : Prop where
  c0 : w.cell? ⟨n, 0, none⟩ = some (.int .i64 x)
  c1 : w.cell? ⟨n, 1, none⟩ = some (.int .i64 y)
  c2 : w.cell? ⟨n, 2, none⟩ = some (.int .i64 v)
  c3 : w.cell? ⟨n, 3, none⟩ = some (.int .i64 h)
  c4 : w.cell? ⟨n, 4, none⟩ = some (.slice (some ⟨g, 0, none⟩) len len)
/-- What Frame leaves: the frame, or, where level N is none, an error. -/
def FramePost (w : World) (x y v h d : Int) (zs : List Int) (N len : Nat) (e : Ending) (w' : World) : Prop :=
  (N = len ∧ ∃ g, e = .returned (.tuple #[.agg #[.int .i64 x, .int .i64 y, .int .i64 v, .int .i64 h, .slice (some ⟨g, 0, none⟩) len len], .int .i64 0]) ∧ w.heap.size ≤ g ∧ (∀ i, i < len → w'.cell? ⟨g, i, none⟩ = some (.float .f32 (valueF (zs.getD i 0) d))) ∧ Below w.heap.size w w') ∨
  (N < len ∧ e = .returned (.tuple #[.agg #[.int .i64 0, .int .i64 0, .int .i64 0, .int .i64 0, .slice none 0 0], .int .i64 3]) ∧ Below w.heap.size w w')
end Go.Proofs.YthlomgbchmhjiaaGreatDoor
