/- The mean over 64 equal steps of numbers rounded to whole numbers. Plain Lean, no program in sight. No condition. -/
import Derived.Test.YtcdcfkgdgimmcaaDoorBD
namespace Go.Proofs.YtcdcfkgdgimmcaaDoor
open Go.RowKit
def sumTo (f : Nat → Int) : Nat → Int
  | 0 => 0
  | n + 1 => sumTo f n + f n
theorem sum_one {g : Nat → Int} : ∀ n : Nat, (∀ M, M < n → g M = 0 ∨ g M = 1) → 0 ≤ sumTo g n ∧ sumTo g n ≤ n ∧ (1 ≤ sumTo g n → ∃ M, M < n ∧ (M : Int) ≤ n - sumTo g n ∧ g M = 1) ∧ (sumTo g n < n → ∃ M, M < n ∧ (n : Int) - 1 - sumTo g n ≤ M ∧ g M = 0)
  | 0, _ => ⟨by simp [sumTo], by simp [sumTo], fun h => by simp [sumTo] at h, fun h => by simp [sumTo] at h⟩
  | n + 1, h => by
    obtain ⟨i1, i2, i3, i4⟩ := sum_one n (fun M hM => h M (by omega))
    simp only [sumTo]
    rcases h n (by omega) with e | e
    · rw [e]
      refine ⟨by omega, by omega, fun hc => ?_, fun hc => ⟨n, by omega, by omega, e⟩⟩
      obtain ⟨M, m1, m2, m3⟩ := i3 (by omega)
      exact ⟨M, by omega, by omega, m3⟩
    · rw [e]
      refine ⟨by omega, by omega, fun hc => ?_, fun hc => ?_⟩
      · by_cases h1 : 1 ≤ sumTo g n
        · obtain ⟨M, m1, m2, m3⟩ := i3 h1
          exact ⟨M, by omega, by omega, m3⟩
        · exact ⟨n, by omega, by omega, e⟩
      · obtain ⟨M, m1, m2, m3⟩ := i4 (by omega)
        exact ⟨M, by omega, by omega, m3⟩
theorem sum_shift (N : Nat → Int) (J : Int) : ∀ n : Nat, sumTo N n = n * J + sumTo (fun M => N M - J) n
  | 0 => by simp [sumTo]
  | n + 1 => by
    simp only [sumTo]
    rw [sum_shift N J n]
    have : ((n + 1 : Nat) : Int) * J = n * J + J := by rw [Int.natCast_add, Int.add_mul]; simp
    omega
/-- The step's place: from -63/128 to 63/128. -/
def stepQ (M : Nat) : Rat := (2 * (M : Rat) - 63) / 128
theorem stepQ_bd {M : Nat} (h : M < 64) : -63 ≤ 128 * stepQ M ∧ 128 * stepQ M ≤ 63 ∧ 128 * stepQ M = 2 * (M : Rat) - 63 := by
  have h1 : (M : Rat) ≤ ((63 : Nat) : Rat) := Rat.natCast_le_natCast.2 (by omega)
  have h0 : (0 : Rat) ≤ (M : Rat) := Rat.natCast_nonneg
  have h2 : ((63 : Nat) : Rat) = 63 := rfl
  unfold stepQ
  refine ⟨?_, ?_, ?_⟩ <;> grind
theorem icast_le {a b : Int} (h : a ≤ b) : (a : Rat) ≤ (b : Rat) := Rat.intCast_le_intCast.2 h
theorem mean_core {t : Rat} {m : Int} {N : Nat → Int} (h0 : 0 ≤ t) (h1 : t ≤ (m : Rat)) (hb : ∀ M, M < 64 → 0 ≤ N M ∧ N M ≤ m)
    (hlo : ∀ M, M < 64 → 0 < N M → 2 * (N M : Rat) ≤ 2 * (t + stepQ M + 3 / 512) + 1)
    (hhi : ∀ M, M < 64 → N M < m → 2 * (t + stepQ M - 3 / 512) ≤ 2 * (N M : Rat) + 1) :
    (sumTo N 64 : Rat) ≤ 64 * t + 7 / 8 ∧ 64 * t ≤ (sumTo N 64 : Rat) + 7 / 8 := by
  have f1 := Rat.floor_le t
  have f2 := Rat.lt_floor_add_one t
  have f3 : (0 : Int) ≤ t.floor := Rat.le_floor_iff.2 (by simpa using h0)
  have f4 : t.floor ≤ m := Rat.intCast_le_intCast.1 (by grind)
  generalize t.floor = J at *
  rw [Rat.intCast_add] at f2
  have one : ((1 : Int) : Rat) = 1 := rfl
  rw [one] at f2
  -- each is J at least
  have hJ : ∀ M, M < 64 → J ≤ N M := fun M hM => by
    rcases Int.lt_or_le (N M) J with hc | hc
    · have a := hhi M hM (by omega)
      obtain ⟨s1, s2, -⟩ := stepQ_bd hM
      have b := icast_le (show N M + 1 ≤ J by omega)
      rw [Rat.intCast_add, one] at b
      grind
    · exact hc
  by_cases hm : J = m
  · have e : ∀ n, n ≤ 64 → sumTo N n = n * J := by
      intro n
      induction n with
      | zero => intro _; simp [sumTo]
      | succ n ih =>
        intro hn
        simp only [sumTo]
        rw [ih (by omega)]
        have a := hJ n (by omega)
        have b := hb n (by omega)
        have : ((n + 1 : Nat) : Int) * J = n * J + J := by rw [Int.natCast_add, Int.add_mul]; simp
        omega
    rw [e 64 (by omega)]
    have c : (((64 : Nat) : Int) * J : Int) = 64 * J := rfl
    rw [c, Rat.intCast_mul]
    have d : ((64 : Int) : Rat) = 64 := rfl
    rw [d]
    subst hm
    constructor <;> grind
  · have hT : ∀ M, M < 64 → N M ≤ J + 1 := fun M hM => by
      rcases Int.lt_or_le (J + 1) (N M) with hc | hc
      · have a := hlo M hM (by omega)
        obtain ⟨s1, s2, -⟩ := stepQ_bd hM
        have b := icast_le (show J + 2 ≤ N M by omega)
        rw [Rat.intCast_add] at b
        have two : ((2 : Int) : Rat) = 2 := rfl
        rw [two] at b
        grind
      · exact hc
    have hg : ∀ M, M < 64 → N M - J = 0 ∨ N M - J = 1 := fun M hM => by
      have a := hJ M hM; have b := hT M hM; omega
    obtain ⟨c1, c2, c3, c4⟩ := sum_one (g := fun M => N M - J) 64 hg
    have es := sum_shift N J 64
    have ec : (sumTo N 64 : Rat) = 64 * (J : Rat) + (sumTo (fun M => N M - J) 64 : Rat) := by
      rw [es, Rat.intCast_add]
      have c : (((64 : Nat) : Int) * J : Int) = 64 * J := rfl
      rw [c, Rat.intCast_mul]; rfl
    rw [ec]
    generalize sumTo (fun M => N M - J) 64 = C at *
    clear es ec
    constructor
    · by_cases h : 1 ≤ C
      · obtain ⟨M, m1, m2, m3⟩ := c3 h
        have e : N M = J + 1 := by omega
        have a := hlo M m1 (by omega)
        rw [e, Rat.intCast_add, one] at a
        obtain ⟨-, -, s⟩ := stepQ_bd m1
        have b := icast_le m2
        rw [Rat.intCast_sub] at b
        have x1 : ((M : Int) : Rat) = (M : Rat) := Rat.intCast_natCast M
        have x2 : (((64 : Nat) : Int) : Rat) = 64 := rfl
        rw [x1, x2] at b
        grind
      · have : C = 0 := by omega
        subst this
        have z : ((0 : Int) : Rat) = 0 := rfl
        rw [z]; grind
    · by_cases h : C < (64 : Nat)
      · obtain ⟨M, m1, m2, m3⟩ := c4 h
        have e : N M = J := by omega
        have a := hhi M m1 (by omega)
        rw [e] at a
        obtain ⟨-, -, s⟩ := stepQ_bd m1
        have b := icast_le m2
        rw [Rat.intCast_sub, Rat.intCast_sub] at b
        have x1 : ((M : Int) : Rat) = (M : Rat) := Rat.intCast_natCast M
        have x2 : (((64 : Nat) : Int) : Rat) = 64 := rfl
        rw [x1, x2, one] at b
        grind
      · have : C = 64 := by omega
        subst this
        have z : ((64 : Int) : Rat) = 64 := rfl
        rw [z]; grind
/-- The nearest integer within bounds, told of its value. -/
theorem near_bd {v : Nat} {lo hi : Int} (hv : isNum .f32 v = true) (hb : vq FloatKind.f32.format (rung FloatKind.f32.format v) ≤ ((2 ^ 40 : Nat) : Rat)) (hl : lo.natAbs ≤ 2 ^ 24) (hh : hi.natAbs ≤ 2 ^ 24) (hlh : lo ≤ hi) :
    lo ≤ (nearOf v lo hi).1 ∧ (nearOf v lo hi).1 ≤ hi ∧ (lo < (nearOf v lo hi).1 → 2 * ((nearOf v lo hi).1 : Rat) ≤ 2 * val .f32 v + 1) ∧ ((nearOf v lo hi).1 < hi → 2 * val .f32 v ≤ 2 * ((nearOf v lo hi).1 : Rat) + 1) := by
  obtain ⟨u1, u2, u3⟩ := up_exact hv
  have hvv : val .f64 (fcv .f32 .f64 v) = val .f32 v := by rw [val_sg, val_sg, u2, u3]
  obtain ⟨z, w1, w2, w3, w4⟩ := whole_near u1 (by rw [u3]; exact hb)
  rw [hvv] at w3 w4
  obtain ⟨a1, a2⟩ := ofInt_exact64 lo (by omega)
  obtain ⟨b1, b2⟩ := ofInt_exact64 hi (by omega)
  have e1 : (ford .f64 (fwhole .even (fcv .f32 .f64 v)) (floatOfInt .f64 lo) == some .lt) = decide (z < lo) := by
    unfold ford
    rw [ord_lt (isNum_not_nan w1) (isNum_not_nan a1)]
    refine decide_eq_decide.2 ?_
    rw [← val_lt_key, w2, a2]
    exact Rat.intCast_lt_intCast
  have e2 : (ford .f64 (fwhole .even (fcv .f32 .f64 v)) (floatOfInt .f64 hi) == some .gt) = decide (hi < z) := by
    unfold ford
    rw [ord_gt (isNum_not_nan w1) (isNum_not_nan b1)]
    refine decide_eq_decide.2 ?_
    rw [← val_lt_key, w2, b2]
    exact Rat.intCast_lt_intCast
  by_cases h1 : z < lo
  · have e : (nearOf v lo hi).1 = lo := by
      unfold nearOf; rw [isNum_not_nan hv]; simp [e1, h1]
    rw [e]
    have := icast_le (show z ≤ lo by omega)
    exact ⟨Int.le_refl _, hlh, fun h => absurd h (Int.lt_irrefl _), fun _ => by grind⟩
  · by_cases h2 : hi < z
    · have e : (nearOf v lo hi).1 = hi := by
        unfold nearOf; rw [isNum_not_nan hv]; simp [e1, e2, h1, h2]
      rw [e]
      have := icast_le (show hi ≤ z by omega)
      exact ⟨hlh, Int.le_refl _, fun _ => by grind, fun h => absurd h (Int.lt_irrefl _)⟩
    · have e : (nearOf v lo hi).1 = z := by
        unfold nearOf; rw [isNum_not_nan hv]; simp [e1, e2, h1, h2, f2i_int w1 w2 (by omega)]
      rw [e]
      exact ⟨by omega, by omega, fun _ => w3, fun _ => w4⟩
end Go.Proofs.YtcdcfkgdgimmcaaDoor
