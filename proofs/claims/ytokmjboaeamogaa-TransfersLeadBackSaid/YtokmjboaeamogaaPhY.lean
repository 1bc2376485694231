/- Powers of 2 of logarithms: how near they come. Plain Lean. Conditions: those named. -/
import Derived.Test.YtokmjboaeamogaaPhX
namespace Go.Proofs.Ytokmjboaeamogaa
open Go Go.RowKit
/-- The whole number that parts the two exponents turns by at most one. -/
theorem turn_of {k n : Int} (h1 : (-2 : Rat) < (k : Rat) - (n : Rat)) (h2 : (k : Rat) - (n : Rat) < 2) : ∃ c g : Rat, Turn c g ∧ (2 : Rat) ^ k = g * (2 : Rat) ^ n ∧ (c = 0 ∧ (k : Rat) - n = 0 ∨ c = -ln2q ∧ (k : Rat) - n = 1 ∨ c = ln2q ∧ (k : Rat) - n = -1) := by
  have a1 : n - 2 < k := by
    refine Rat.intCast_lt_intCast.1 ?_
    rw [Rat.intCast_sub]
    show (n : Rat) - 2 < k
    grind
  have a2 : k < n + 2 := by
    refine Rat.intCast_lt_intCast.1 ?_
    rw [Rat.intCast_add]
    show (k : Rat) < (n : Rat) + 2
    grind
  have two : (2 : Rat) ^ (1 : Int) = 2 := by decide +kernel
  have half : (2 : Rat) ^ (-1 : Int) = 1 / 2 := by decide +kernel
  rcases (show k = n ∨ k = n + 1 ∨ k = n + -1 by omega) with rfl | rfl | rfl
  · exact ⟨0, 1, .none, by grind, .inl ⟨rfl, by grind⟩⟩
  · refine ⟨-ln2q, 2, .up, by rw [zp_add, two]; grind, .inr (.inl ⟨rfl, ?_⟩)⟩
    rw [Rat.intCast_add]
    show (n : Rat) + 1 - n = 1
    grind
  · refine ⟨ln2q, 1 / 2, .down, by rw [zp_add, half]; grind, .inr (.inr ⟨rfl, ?_⟩)⟩
    rw [Rat.intCast_add]
    show (n : Rat) + -1 - n = -1
    grind
/-- Where r lies: near the turned sum of the logarithm, a times. -/
theorem r_near {c a l k n t r L e E : Rat} (ha : 0 ≤ a) (ha2 : a ≤ 2) (hl : Nr l (a * n + a * t) e) (ht : Nr (t * ln2c) L (1 / 17179869184)) (hr : Nr r ((l - k) * ln2c) (2 * uQ))
    (hj : c = 0 ∧ k - a * n = 0 ∨ c = -ln2q ∧ k - a * n = 1 ∨ c = ln2q ∧ k - a * n = -1) (hE : E = e * (694 / 1000) + 11 / 10000000000) : Nq r (c + a * L) E := by
  obtain ⟨⟨i1, i2⟩, c1, c2⟩ := ln2c_in
  unfold Nr uQ at *
  obtain ⟨m1, m2⟩ := mul_in (x := l - (a * n + a * t)) (y := ln2c) (b := e) (c := 694 / 1000) (by grind) (by grind) (by grind) (by grind)
  obtain ⟨m3, m4⟩ := mul_in (x := a) (y := t * ln2c - L) (b := 2) (c := 1 / 17179869184) (by grind) ha2 (by grind) (by grind)
  have q : (l - k) * ln2c = (l - (a * n + a * t)) * ln2c + a * (t * ln2c - L) + a * L - (k - a * n) * ln2c := by grind
  rw [q] at hr
  obtain ⟨r1, r2⟩ := hr
  unfold Nq
  rcases hj with ⟨rfl, hj⟩ | ⟨rfl, hj⟩ | ⟨rfl, hj⟩ <;> rw [hj] at r1 r2 <;> constructor <;> grind
/-- Back from the rounded logarithm. -/
theorem back_near {x d l V : Rat} (h : LogP x d) (hl : Nr l d (1 / 262144)) (hV : ExpP l V) : Nr V x (x * (1 / 85000)) := by
  obtain ⟨m, s, t, n, h1, h2, h3, h4, h5, h6, h7, h8, -, -⟩ := h
  obtain ⟨k, r, P, k1, k2, k3, k4, k5, k6⟩ := hV
  have b1 : sB = 8580 / 50000 := rfl
  have hl2 : Nr l (1 * (n : Rat) + 1 * t) (1 / 262144 + 1 / 35184372088832) := by unfold Nr at *; constructor <;> grind
  obtain ⟨c, g, T, p, j⟩ := turn_of (k := k) (n := n) (by unfold Nr at *; grind) (by unfold Nr at *; grind)
  have R := r_near (c := c) (a := 1) (k := (k : Rat)) (by grind) (by grind) hl2 h5 k4 (by rw [Rat.one_mul]; exact j) rfl
  have m0 : 7 / 10 ≤ m := by
    refine le_canc (show 0 < 1 - s by grind) ?_
    rw [h2]; grind
  have R' := R
  unfold Nq at R'
  obtain ⟨o1, o2⟩ := one_near T h3 h4 h2 (by grind) (by grind) (by grind) (by grind) R
  obtain ⟨g1, g2⟩ := T.pos
  unfold Nr uQ at k5
  obtain ⟨S, hS⟩ : ∃ S, S = pev expL r := ⟨_, rfl⟩
  rw [← hS] at k5 o1 o2
  obtain ⟨q1, q2⟩ := mul_in (x := g) (y := P - S) (b := 2) (c := 8 * (1 / 9007199254740992)) (by grind) g2 (by grind) (by grind)
  have z := zp_pos n
  have e1 : V = g * P * (2 : Rat) ^ n := by rw [k6, p]; grind
  rw [e1, h1]
  obtain ⟨Z, hZ⟩ : ∃ Z, Z = (2 : Rat) ^ n := ⟨_, rfl⟩
  rw [← hZ] at z ⊢
  have w1 : g * P ≤ m + m * (1 / 85000) := by clear h1 hZ p e1 k6 hS; grind
  have w2 : m ≤ g * P + m * (1 / 85000) := by clear h1 hZ p e1 k6 hS; grind
  have v1 := Rat.mul_le_mul_of_nonneg_right w1 (Rat.le_of_lt z)
  have v2 := Rat.mul_le_mul_of_nonneg_right w2 (Rat.le_of_lt z)
  unfold Nr
  constructor <;> grind
/-- The square by the doubled logarithm. -/
theorem square_near {x d l V : Rat} (h : LogP x d) (hl : Nr l (2 * d) (1 / 17592186044416)) (hV : ExpP l V) : Nr V (x * x) (x * x * (1 / 60000000)) := by
  obtain ⟨m, s, t, n, h1, h2, h3, h4, h5, h6, h7, h8, -, -⟩ := h
  obtain ⟨k, r, P, k1, k2, k3, k4, k5, k6⟩ := hV
  have b1 : sB = 8580 / 50000 := rfl
  have hl2 : Nr l (2 * (n : Rat) + 2 * t) (1 / 17592186044416 + 2 / 35184372088832) := by unfold Nr at *; constructor <;> grind
  have cast : (((2 * n : Int)) : Rat) = 2 * (n : Rat) := by rw [Rat.intCast_mul]; rfl
  obtain ⟨c, g, T, p, j⟩ := turn_of (k := k) (n := 2 * n) (by rw [cast]; unfold Nr at *; grind) (by rw [cast]; unfold Nr at *; grind)
  rw [cast] at j
  have R := r_near (c := c) (a := 2) (k := (k : Rat)) (by grind) (by grind) hl2 h5 k4 j rfl
  have m0 : 7 / 10 ≤ m := by
    refine le_canc (show 0 < 1 - s by grind) ?_
    rw [h2]; grind
  have R' := R
  unfold Nq at R'
  obtain ⟨o1, o2⟩ := two_near T h3 h4 h2 (by grind) (by grind) (by grind) (by grind) R
  obtain ⟨g1, g2⟩ := T.pos
  unfold Nr uQ at k5
  obtain ⟨S, hS⟩ : ∃ S, S = pev expL r := ⟨_, rfl⟩
  rw [← hS] at k5 o1 o2
  obtain ⟨q1, q2⟩ := mul_in (x := g) (y := P - S) (b := 2) (c := 8 * (1 / 9007199254740992)) (by grind) g2 (by grind) (by grind)
  have z := zp_pos (2 * n)
  have e1 : V = g * P * (2 : Rat) ^ (2 * n) := by rw [k6, p]; grind
  have e2 : x * x = m * m * (2 : Rat) ^ (2 * n) := by rw [h1, show 2 * n = n + n by omega, zp_add]; grind
  rw [e1, e2]
  obtain ⟨Z, hZ⟩ : ∃ Z, Z = (2 : Rat) ^ (2 * n) := ⟨_, rfl⟩
  obtain ⟨M, hM⟩ : ∃ M, M = m * m := ⟨_, rfl⟩
  have M0 : 49 / 100 ≤ M := by
    have := Rat.mul_nonneg (show 0 ≤ m - 7 / 10 by grind) (show 0 ≤ m + 7 / 10 by grind)
    rw [hM]; grind
  rw [← hM] at o1 o2 ⊢
  rw [← hZ] at z ⊢
  clear h2 hM
  have w1 : g * P ≤ M + M * (1 / 60000000) := by clear h1 hZ p e1 e2 k6 hS; grind
  have w2 : M ≤ g * P + M * (1 / 60000000) := by clear h1 hZ p e1 e2 k6 hS; grind
  have v1 := Rat.mul_le_mul_of_nonneg_right w1 (Rat.le_of_lt z)
  have v2 := Rat.mul_le_mul_of_nonneg_right w2 (Rat.le_of_lt z)
  unfold Nr
  constructor <;> grind
end Go.Proofs.Ytokmjboaeamogaa
