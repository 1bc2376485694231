/- Powers of 2 and logarithms, both ways: plain Lean. Conditions: those named. (with: TfB, TfD, TfG) -/
import Derived.Test.YtokmjboaeamogaaPhY
import Derived.Test.YtokmjboaeamogaaPiK
namespace Go.Proofs.Ytokmjboaeamogaa
open Go Go.RowKit
/-- Back from a logarithm that is near. -/
theorem back_gen {x d l V e : Rat} (h : LogP x d) (he : e ≤ 1 / 100) (hl : Nr l d e) (hV : ExpP l V) : Nr V x (x * (3 * e + 1 / 50000000)) := by
  obtain ⟨m, s, t, n, h1, h2, h3, h4, h5, h6, h7, h8, -, -⟩ := h
  obtain ⟨k, r, P, k1, k2, k3, k4, k5, k6⟩ := hV
  have b1 : sB = 8580 / 50000 := rfl
  have e0 : 0 ≤ e := by unfold Nr at hl; grind
  have hl2 : Nr l (1 * (n : Rat) + 1 * t) (e + 1 / 35184372088832) := by unfold Nr at *; constructor <;> grind
  obtain ⟨c, g, T, p, j⟩ := turn_of (k := k) (n := n) (by unfold Nr at *; grind) (by unfold Nr at *; grind)
  have R := r_near (c := c) (a := 1) (k := (k : Rat)) (by grind) (by grind) hl2 h5 k4 (by rw [Rat.one_mul]; exact j) rfl
  have m0 : 7 / 10 ≤ m := by
    refine le_canc (show 0 < 1 - s by grind) ?_
    rw [h2]; grind
  have R' := R
  unfold Nq at R'
  obtain ⟨o1, o2⟩ := one_near T h3 h4 h2 (by grind) (by grind) (by grind) (by grind) R
  obtain ⟨g1, g2⟩ := T.pos
  unfold Nr uQ at k5
  obtain ⟨S, hS⟩ : ∃ S, S = pev expL r := ⟨_, rfl⟩
  rw [← hS] at k5 o1 o2
  obtain ⟨q1, q2⟩ := mul_in (x := g) (y := P - S) (b := 2) (c := 8 * (1 / 9007199254740992)) (by grind) g2 (by grind) (by grind)
  have z := zp_pos n
  have e1 : V = g * P * (2 : Rat) ^ n := by rw [k6, p]; grind
  rw [e1, h1]
  obtain ⟨Z, hZ⟩ : ∃ Z, Z = (2 : Rat) ^ n := ⟨_, rfl⟩
  rw [← hZ] at z ⊢
  obtain ⟨me, hme⟩ : ∃ me, me = m * e := ⟨_, rfl⟩
  have me0 : 0 ≤ me := by rw [hme]; exact Rat.mul_nonneg (by grind) e0
  have w1 : g * P ≤ m + m * (3 * e + 1 / 50000000) := by clear h1 hZ p e1 k6 hS; grind
  have w2 : m ≤ g * P + m * (3 * e + 1 / 50000000) := by clear h1 hZ p e1 k6 hS; grind
  have v1 := Rat.mul_le_mul_of_nonneg_right w1 (Rat.le_of_lt z)
  have v2 := Rat.mul_le_mul_of_nonneg_right w2 (Rat.le_of_lt z)
  unfold Nr
  constructor <;> grind
def expT : List Rat := [0, 0, 1/2, 1/6, 1/24, 1/120, 1/720, 1/5040, 1/40320, 1/362880, 1/3628800, 1/39916800, 1/479001600, 1/6227020800, 1/87178291200]
theorem expT_lip : pdif expT (2 / 5) ≤ 1 / 2 := by decide +kernel
theorem exp_split (x : Rat) : pev expL x = 1 + x + pev expT x := by
  unfold expL expT
  simp only [pev]
  grind
/-- The sum grows. -/
theorem exp_grow {x y : Rat} (x1 : -(2 / 5) ≤ x) (x2 : x ≤ 2 / 5) (y1 : -(2 / 5) ≤ y) (y2 : y ≤ 2 / 5) (h : x ≤ y) : y - x ≤ 2 * (pev expL y - pev expL x) := by
  obtain ⟨l1, l2⟩ := pev_lip expT (d := y - x) y1 y2 x1 x2 (by grind) (by grind)
  have p1 : (y - x) * pdif expT (2 / 5) ≤ (y - x) * (1 / 2) := Rat.mul_le_mul_of_nonneg_left expT_lip (by grind)
  rw [exp_split x, exp_split y]
  grind
theorem half_gap : pabs (padd (pscale 2 (pcomp expL [-ln2q, 1])) (pscale (-1) expL)) (2 / 5) ≤ 1 / 100000000 := by decide +kernel
theorem half_near {x : Rat} (h1 : -(2 / 5) ≤ x) (h2 : x ≤ 2 / 5) : Nr (2 * pev expL (x - ln2q)) (pev expL x) (1 / 100000000) := by
  obtain ⟨q1, q2⟩ := pev_bd (padd (pscale 2 (pcomp expL [-ln2q, 1])) (pscale (-1) expL)) h1 h2
  have hg := half_gap
  rw [pev_add, pev_scale, pev_scale, pev_comp] at q1 q2
  have e : pev [-ln2q, 1] x = x - ln2q := by show -ln2q + x * (1 + x * 0) = x - ln2q; grind
  rw [e] at q1 q2
  unfold Nr
  constructor <;> grind
theorem exp_32 : 7260 / 10000 ≤ pev expL (-(8 / 25)) := by decide +kernel
/-- A power for each exponent. -/
theorem exp_ex (d : Rat) : ∃ V, ExpP d V := by
  obtain ⟨k, hk1, hk2⟩ : ∃ k : Int, d - 1 / 2 ≤ (k : Rat) ∧ (k : Rat) ≤ d + 1 / 2 := by
    refine ⟨(d + 1 / 2).floor, ?_, ?_⟩
    · have := Rat.lt_floor_add_one (d + 1 / 2)
      rw [Rat.intCast_add] at this
      have e : ((1 : Int) : Rat) = 1 := rfl
      rw [e] at this
      grind
    · exact Rat.floor_le (d + 1 / 2)
  obtain ⟨-, c1, c2⟩ := ln2c_in
  obtain ⟨m1, m2⟩ := mul_in (x := d - k) (y := ln2c) (b := 1 / 2) (c := 69314719 / 100000000) (by grind) (by grind) (by grind) (by grind)
  refine ⟨_, k, (d - k) * ln2c, pev expL ((d - k) * ln2c), ?_, by grind, by grind, ?_, ?_, rfl⟩
  · unfold Nr; constructor <;> grind
  · unfold Nr uQ; constructor <;> grind
  · unfold Nr uQ; constructor <;> grind
/-- Where the power is not greater, the exponent is not much greater. -/
theorem exp_back {a b V W δ : Rat} (hV : ExpP a V) (hW : ExpP b W) (d0 : 0 ≤ δ) (d1 : δ ≤ 1 / 1000) (h : W ≤ V * (1 + δ)) : b ≤ a + 5 * δ + 1 / 10000000 := by
  obtain ⟨k, r, P, k1, k2, k3, k4, k5, k6⟩ := hV
  obtain ⟨n, s, Q, n1, n2, n3, n4, n5, n6⟩ := hW
  obtain ⟨⟨i1, i2⟩, c1, c2⟩ := ln2c_in
  have x1 := exp_in k2 k3
  have x2 := exp_in n2 n3
  rw [k6, n6] at h
  unfold Nr uQ at *
  have two : (2 : Rat) ^ (1 : Int) = 2 := by decide +kernel
  have four : (2 : Rat) ^ (2 : Int) = 4 := by decide +kernel
  rcases (show n ≤ k - 1 ∨ n = k ∨ n = k + 1 ∨ k + 2 ≤ n by omega) with hn | rfl | rfl | hn
  · have e : (n : Rat) ≤ (k : Rat) - 1 := by
      have := Rat.intCast_le_intCast.2 hn
      rw [Rat.intCast_sub] at this
      exact this
    grind
  · have z := zp_pos n
    have hQ : Q ≤ P * (1 + δ) := by
      refine le_canc z ?_
      grind
    by_cases hrs : s ≤ r
    · have : b - a ≤ 1 / 10000000 := by
        refine le_canc (show 0 < ln2c by grind) ?_
        grind
      grind
    · have g1 := exp_grow (x := r) (y := s) (by grind) (by grind) (by grind) (by grind) (by grind)
      obtain ⟨S, hS⟩ : ∃ S, S = pev expL r := ⟨_, rfl⟩
      obtain ⟨T, hT⟩ : ∃ T, T = pev expL s := ⟨_, rfl⟩
      rw [← hS] at k5 g1 x1
      rw [← hT] at n5 g1 x2
      have hPd : P * δ ≤ 145 / 100 * δ := Rat.mul_le_mul_of_nonneg_right (by grind) d0
      have : b - a ≤ 5 * δ + 1 / 10000000 := by
        refine le_canc (show 0 < ln2c by grind) ?_
        have hd : (5 * δ) * (69 / 100) ≤ (5 * δ) * ln2c := Rat.mul_le_mul_of_nonneg_left (by grind) (by grind)
        grind
      grind
  · have z := zp_pos k
    rw [zp_add, two] at h
    have hQ : 2 * Q ≤ P * (1 + δ) := by
      refine le_canc z ?_
      grind
    rw [Rat.intCast_add] at n1 n4
    have e1 : ((1 : Int) : Rat) = 1 := rfl
    rw [e1] at n1 n4
    obtain ⟨S, hS⟩ : ∃ S, S = pev expL r := ⟨_, rfl⟩
    obtain ⟨T, hT⟩ : ∃ T, T = pev expL s := ⟨_, rfl⟩
    have hPd : P * δ ≤ 145 / 100 * δ := Rat.mul_le_mul_of_nonneg_right (by rw [← hS] at x1 k5; grind) d0
    have hT2 : T ≤ 7209 / 10000 := by rw [← hS] at x1 k5; rw [← hT] at n5; grind
    have hs : s ≤ -(8 / 25) := by
      by_cases hs : s ≤ -(8 / 25)
      · exact hs
      · exfalso
        have g1 := exp_grow (x := -(8 / 25)) (y := s) (by grind) (by grind) (by grind) (by grind) (by grind)
        have := exp_32
        rw [← hT] at g1
        grind
    have hl : ln2q = 744261118 / 1073741824 := rfl
    obtain ⟨y, hy⟩ : ∃ y, y = s + ln2q := ⟨_, rfl⟩
    have hh := half_near (x := y) (by rw [hl] at hy; grind) (by rw [hl] at hy; grind)
    rw [show y - ln2q = s by grind, ← hT] at hh
    unfold Nr at hh
    obtain ⟨Y, hY⟩ : ∃ Y, Y = pev expL y := ⟨_, rfl⟩
    rw [← hY] at hh
    by_cases hrs : y ≤ r
    · have : b - a ≤ 1 / 10000000 := by
        refine le_canc (show 0 < ln2c by grind) ?_
        grind
      grind
    · have g1 := exp_grow (x := r) (y := y) (by grind) (by grind) (by grind) (by rw [hl] at hy; grind) (by grind)
      rw [← hS, ← hY] at g1
      rw [← hS] at k5 x1
      rw [← hT] at n5
      have : b - a ≤ 5 * δ + 1 / 10000000 := by
        refine le_canc (show 0 < ln2c by grind) ?_
        have hd : (5 * δ) * (69 / 100) ≤ (5 * δ) * ln2c := Rat.mul_le_mul_of_nonneg_left (by grind) (by grind)
        grind
      grind
  · exfalso
    have z := zp_pos k
    obtain ⟨j, hj⟩ : ∃ j : Nat, n = k + 2 + (j : Int) := ⟨(n - k - 2).toNat, by omega⟩
    have pj : (1 : Rat) ≤ (2 : Rat) ^ (j : Int) := by
      rw [Rat.zpow_natCast]
      have : (1 : Rat) ≤ ((2 ^ j : Nat) : Rat) := by
        have := Nat.one_le_two_pow (n := j)
        exact_mod_cast this
      simpa using this
    rw [hj, zp_add, zp_add, four] at h
    obtain ⟨J, hJ⟩ : ∃ J, J = (2 : Rat) ^ (j : Int) := ⟨_, rfl⟩
    rw [← hJ] at pj h
    obtain ⟨Z, hZ⟩ : ∃ Z, Z = (2 : Rat) ^ k := ⟨_, rfl⟩
    rw [← hZ] at z h
    obtain ⟨S, hS⟩ : ∃ S, S = pev expL r := ⟨_, rfl⟩
    obtain ⟨T, hT⟩ : ∃ T, T = pev expL s := ⟨_, rfl⟩
    rw [← hS] at k5 x1
    rw [← hT] at n5 x2
    have hPd : P * δ ≤ 145 / 100 * δ := Rat.mul_le_mul_of_nonneg_right (by grind) d0
    have h4 : 4 * Q * J ≤ P * (1 + δ) := by
      refine le_canc z ?_
      grind
    have h5 : 4 * Q * 1 ≤ 4 * Q * J := Rat.mul_le_mul_of_nonneg_left pj (by grind)
    grind
/-- .. two powers that are near have exponents that are near. -/
theorem exp_near {a b V W δ : Rat} (hV : ExpP a V) (hW : ExpP b W) (d0 : 0 ≤ δ) (d1 : δ ≤ 1 / 1000) (h : Nr W V (V * δ)) (h2 : Nr V W (W * δ)) : Nr b a (5 * δ + 1 / 10000000) := by
  unfold Nr at *
  have e1 := exp_back hV hW d0 d1 (by grind)
  have e2 := exp_back hW hV d0 d1 (by grind)
  constructor <;> grind
/-- There and back by two exponents whose product is near 1. -/
theorem there_back {v D M V w D' M' X p A : Rat} (hD : LogP v D) (v0 : 0 < v) (d0 : -150 ≤ D) (d1 : D ≤ 1) (hM : Nr M (D * p) (1 / 1099511627776)) (hV : ExpP M V) (hw : Nr w V (V * (1 / 16600000))) (hD' : LogP w D') (hM' : Nr M' (D' * A) (1 / 1099511627776)) (hX : ExpP M' X)
    (hp : Nr (p * A) 1 (1 / 8000000)) (a0 : 1 / 8 ≤ A) (a1 : A ≤ 8) : Nr X v (v * (1 / 10000)) ∧ Nr M' D (1 / 40000) := by
  have vpos : ∀ {d Y : Rat}, ExpP d Y → 0 < Y := fun {d Y} h => by
    obtain ⟨k, r, P, -, k2, k3, -, k5, k6⟩ := h
    have x1 := exp_in k2 k3
    unfold Nr uQ at k5
    rw [k6]
    exact Rat.mul_pos (by grind) (zp_pos k)
  have V0 := vpos hV
  obtain ⟨Z, hZ⟩ := exp_ex D'
  have Z0 := vpos hZ
  have hb := back_gen hD' (e := 0) (by grind) (by unfold Nr; constructor <;> grind) hZ
  have hw' := hw
  unfold Nr at hb hw'
  have w0 : 0 < w := by grind
  have hn := exp_near (δ := 1 / 11000000) hV hZ (by grind) (by grind) (by unfold Nr; constructor <;> grind) (by unfold Nr; constructor <;> grind)
  unfold Nr at hn hM hM' hp
  obtain ⟨m1, m2⟩ := mul_in (x := D) (y := p * A - 1) (b := 150) (c := 1 / 8000000) (by grind) (by grind) (by grind) (by grind)
  obtain ⟨m3, m4⟩ := mul_in (x := D' - M) (y := A) (b := 5 * (1 / 11000000) + 1 / 10000000) (c := 8) (by grind) (by grind) (by grind) a1
  obtain ⟨m5, m6⟩ := mul_in (x := M - D * p) (y := A) (b := 1 / 1099511627776) (c := 8) (by grind) (by grind) (by grind) a1
  have e1 : M' - D = (M' - D' * A) + (D' - M) * A + (M - D * p) * A + D * (p * A - 1) := by grind
  have hl : Nr M' D (1 / 40000) := by
    unfold Nr
    constructor <;> grind
  refine ⟨?_, hl⟩
  have hf := back_gen hD (by grind) hl hX
  unfold Nr at hf ⊢
  constructor <;> grind
end Go.Proofs.Ytokmjboaeamogaa

namespace Go.Proofs.Ytokmjboaeamogaa
open Go Go.RowKit
def eQ : Rat := 1 / 16777216
def tQ : Rat := 1 / 1267650600228229401496703205376
section
variable {v A s q0 q u1 w m n x0 : Rat}
theorem quo_a (v0 : 0 ≤ v) (a0 : 1 / 64 ≤ A) (hs : Nr s (v + A) (66 * eQ * (v + A))) (hq0 : q0 * s = v) : 0 < s ∧ 0 ≤ q0 ∧ q0 ≤ 10001 / 10000 := by
  unfold Nr eQ at *
  have s0 : 0 < s := by grind
  exact ⟨s0, le_canc s0 (by grind), le_canc s0 (by grind)⟩
/-- The code: w. -/
theorem quo_b (v0 : 0 ≤ v) (v1 : v ≤ 1) (a0 : 1 / 64 ≤ A) (a1 : A ≤ 64)
    (hs : Nr s (v + A) ((v + A) * eQ)) (hq0 : q0 * s = v) (hq : Nr q q0 (3 * eQ)) (hu : Nr u1 (1 + A) ((1 + A) * eQ)) (hw : Nr w (q * u1) (2 * (1 + A) * eQ)) :
    Nr (w * (v + A)) (v * (1 + A)) (8 * eQ * ((1 + A) * (1 + A))) ∧ -(1 / 10000) ≤ w ∧ w ≤ 1001 / 1000 ∧ 99 / 100 * A ≤ u1 - w ∧ (1 + A) * (1 + A) ≤ 67 * A := by
  obtain ⟨s0, q1, q2⟩ := quo_a v0 a0 (by unfold Nr eQ at *; grind) hq0
  unfold Nr eQ at *
  obtain ⟨a, ha⟩ : ∃ a, a = v + A := ⟨_, rfl⟩
  obtain ⟨B, hB⟩ : ∃ B, B = 1 + A := ⟨_, rfl⟩
  obtain ⟨C, hC⟩ : ∃ C, C = B * B := ⟨_, rfl⟩
  have hAA := Rat.mul_nonneg (show 0 ≤ A - 1 / 64 by grind) (show 0 ≤ 64 - A by grind)
  have hC2 : C ≤ 67 * A := by rw [hC, hB]; grind
  have hCB : B ≤ C := by
    have := Rat.mul_nonneg (show 0 ≤ B by grind) (show 0 ≤ B - 1 by grind)
    rw [hC]; grind
  rw [← ha] at hs ⊢
  rw [← hB] at hu hw ⊢
  rw [← hC]
  have a2 : a ≤ B := by grind
  have a3 : 1 / 64 ≤ a := by grind
  have sB2 : s ≤ 2 * B := by grind
  -- q * a near v
  obtain ⟨p1, p2⟩ := mul_in (x := q - q0) (y := s) (b := 3 * (1 / 16777216)) (c := 101 / 100 * B) (by grind) (by grind) (by grind) (by grind)
  obtain ⟨p3, p4⟩ := mul_in (x := q) (y := a - s) (b := 10002 / 10000) (c := B * (1 / 16777216)) (by grind) (by grind) (by grind) (by grind)
  have e1 : q * a - v = (q - q0) * s + q * (a - s) := by grind
  obtain ⟨y, hy⟩ : ∃ y, y = q * a - v := ⟨_, rfl⟩
  rw [← hy] at e1
  have y1 : y ≤ 41 / 10 * (1 / 16777216) * B := by grind
  have y2 : -(41 / 10 * (1 / 16777216) * B) ≤ y := by grind
  -- w * a near v * B
  have u2 : u1 ≤ 101 / 100 * B := by grind
  have u0 : -(101 / 100 * B) ≤ u1 := by grind
  obtain ⟨r1, r2⟩ := mul_in (x := y) (y := u1) (b := 41 / 10 * (1 / 16777216) * B) (c := 101 / 100 * B) y2 y1 u0 u2
  obtain ⟨r3, r4⟩ := mul_in (x := v) (y := u1 - B) (b := 1) (c := B * (1 / 16777216)) (by grind) v1 (by grind) (by grind)
  obtain ⟨r5, r6⟩ := mul_in (x := w - q * u1) (y := a) (b := 2 * B * (1 / 16777216)) (c := B) (by grind) (by grind) (by grind) a2
  have e2 : w * a - v * B = (w - q * u1) * a + y * u1 + v * (u1 - B) := by rw [hy]; grind
  have e3 : 41 / 10 * (1 / 16777216) * B * (101 / 100 * B) = 4141 / 1000 * (1 / 16777216) * C := by rw [hC]; grind
  have e4 : 2 * B * (1 / 16777216) * B = 2 * (1 / 16777216) * C := by rw [hC]; grind
  rw [e3] at r1 r2
  rw [e4] at r5 r6
  have k1 : w * a ≤ v * B + 8 * (1 / 16777216) * C := by grind
  have k2 : v * B ≤ w * a + 8 * (1 / 16777216) * C := by grind
  have ap : 0 < a := by grind
  have Aa : A ≤ a := by grind
  have vB : v * B ≤ a := by
    have := Rat.mul_nonneg (show 0 ≤ A by grind) (show 0 ≤ 1 - v by grind)
    rw [hB, ha]; grind
  have vB0 : 0 ≤ v * B := Rat.mul_nonneg v0 (by grind)
  have w1 : w ≤ 1001 / 1000 := le_canc ap (by grind)
  have w0 : -(1 / 10000) ≤ w := le_canc ap (by grind)
  refine ⟨⟨k1, k2⟩, w0, w1, ?_, hC2⟩
  refine le_canc ap ?_
  -- (99/100 A) a ≤ (u1 - w) a
  obtain ⟨t1, t2⟩ := mul_in (x := u1 - B) (y := a) (b := B * (1 / 16777216)) (c := B) (by grind) (by grind) (by grind) a2
  have e5 : B * (1 / 16777216) * B = (1 / 16777216) * C := by rw [hC]; grind
  rw [e5] at t1 t2
  have e6 : B * a - v * B = B * A := by rw [ha]; grind
  have e7 : A * a ≤ B * A := by
    have := Rat.mul_nonneg (show 0 ≤ A by grind) (show 0 ≤ B - a by grind)
    grind
  have e8 : A * (1 / 64) ≤ A * a := Rat.mul_le_mul_of_nonneg_left a3 (by grind)
  have e9 : (u1 - w) * a = (u1 - B) * a + B * a - w * a := by grind
  rw [e9]
  grind
/-- And back. -/
theorem quo_c (v0 : 0 ≤ v) (v1 : v ≤ 1) (a0 : 1 / 64 ≤ A) (a1 : A ≤ 64)
    (hs : Nr s (v + A) ((v + A) * eQ)) (hq0 : q0 * s = v) (hq : Nr q q0 (3 * eQ)) (hu : Nr u1 (1 + A) ((1 + A) * eQ)) (hw : Nr w (q * u1) (2 * (1 + A) * eQ)) (hm : Nr m (w * A) (2 * A * eQ))
    (hn : Nr n (u1 - w) ((u1 - w) * eQ)) (hx0 : x0 * n = m) : 0 < n ∧ -1 ≤ x0 ∧ x0 ≤ 11 / 10 ∧ Nr x0 v (1 / 10000) := by
  obtain ⟨⟨k1, k2⟩, w0, w1, hg, hC2⟩ := quo_b v0 v1 a0 a1 hs hq0 hq hu hw
  unfold Nr eQ at *
  obtain ⟨C, hC⟩ : ∃ C, C = (1 + A) * (1 + A) := ⟨_, rfl⟩
  rw [← hC] at k1 k2 hC2
  obtain ⟨g, hgg⟩ : ∃ g, g = u1 - w := ⟨_, rfl⟩
  rw [← hgg] at hn hg
  have Ap : 0 < A := by grind
  have np : 0 < n := by grind
  have wA1 : w * A ≤ 1001 / 1000 * A := Rat.mul_le_mul_of_nonneg_right w1 (by grind)
  have wA0 : -(1 / 10000) * A ≤ w * A := Rat.mul_le_mul_of_nonneg_right w0 (by grind)
  have x1 : x0 ≤ 11 / 10 := le_canc np (by grind)
  have x2 : -(1 / 100) ≤ x0 := le_canc np (by grind)
  refine ⟨np, by grind, x1, ?_⟩
  have gp : 0 < g := by grind
  obtain ⟨t1, t2⟩ := mul_in (x := x0) (y := g - n) (b := 11 / 10) (c := g * (1 / 16777216)) (by grind) x1 (by grind) (by grind)
  -- x0 * g near w * A, which is near v * g
  have e1 : x0 * g = m + x0 * (g - n) := by rw [← hx0]; grind
  obtain ⟨r3, r4⟩ := mul_in (x := v) (y := u1 - (1 + A)) (b := 1) (c := (1 + A) * (1 / 16777216)) (by grind) v1 (by grind) (by grind)
  have e2 : w * A - v * g = (w * (v + A) - v * (1 + A)) - v * (u1 - (1 + A)) := by rw [hgg]; grind
  constructor
  · refine le_canc gp ?_
    grind
  · refine le_canc gp ?_
    grind
end
end Go.Proofs.Ytokmjboaeamogaa

namespace Go.Proofs.Ytokmjboaeamogaa
open Go Go.RowKit
theorem logp_11 {x d : Rat} (h : LogP x d) (h1 : (2 : Rat) ^ (-11 : Int) ≤ x) (h2 : x ≤ (2 : Rat) ^ (11 : Int)) : -12 ≤ d ∧ d ≤ 12 := by
  obtain ⟨m, s, t, n, e1, e2, e3, e4, e5, e6, e7, e8, -, -⟩ := h
  have b1 : sB = 8580 / 50000 := rfl
  have m0 : 7 / 10 ≤ m := by
    refine le_canc (show 0 < 1 - s by grind) ?_
    rw [e2]; grind
  have m1 : m ≤ 3 / 2 := by
    refine le_canc (show 0 < 1 - s by grind) ?_
    rw [e2]; grind
  have z := zp_pos n
  have two : (2 : Rat) ^ (1 : Int) = 2 := by decide +kernel
  have a1 : (2 : Rat) ^ n < (2 : Rat) ^ (12 : Int) := by
    have := Rat.mul_le_mul_of_nonneg_right m0 (Rat.le_of_lt z)
    rw [show (12 : Int) = 11 + 1 by rfl, zp_add, two]
    have := zp_pos 11
    grind
  have a2 : (2 : Rat) ^ (-12 : Int) < (2 : Rat) ^ n := by
    have := Rat.mul_le_mul_of_nonneg_right m1 (Rat.le_of_lt z)
    have h3 : (2 : Rat) ^ (-11 : Int) = (2 : Rat) ^ (-12 : Int) * 2 := by
      rw [show (-11 : Int) = -12 + 1 by rfl, zp_add, two]
    have := zp_pos (-12)
    grind
  have b2 := zp_lt_iff a1
  have b3 := zp_lt_iff a2
  have c1 : ((-11 : Int) : Rat) ≤ (n : Rat) := Rat.intCast_le_intCast.2 (by omega)
  have c2 : (n : Rat) ≤ ((11 : Int) : Rat) := Rat.intCast_le_intCast.2 (by omega)
  have c1 : (-11 : Rat) ≤ (n : Rat) := c1
  have c2 : (n : Rat) ≤ 11 := c2
  unfold Nr at e8
  constructor <;> grind
/-- Above 1.0009 a logarithm is at least 0.001. -/
theorem log_low {x d : Rat} (h : LogP x d) (h1 : 10009 / 10000 ≤ x) : 1 / 1000 ≤ d := by
  obtain ⟨m, s, t, n, e1, e2, e3, e4, e5, e6, e7, e8, -, -⟩ := h
  have b1 : sB = 8580 / 50000 := rfl
  obtain ⟨-, c1, c2⟩ := ln2c_in
  have m0 : 7 / 10 ≤ m := by
    refine le_canc (show 0 < 1 - s by grind) ?_
    rw [e2]; grind
  have m1 : m ≤ 3 / 2 := by
    refine le_canc (show 0 < 1 - s by grind) ?_
    rw [e2]; grind
  have z := zp_pos n
  unfold Nr at e5 e8
  rcases (show 1 ≤ n ∨ n = 0 ∨ n ≤ -1 by omega) with hn | rfl | hn
  · have : ((1 : Int) : Rat) ≤ (n : Rat) := Rat.intCast_le_intCast.2 hn
    have e : ((1 : Int) : Rat) = 1 := rfl
    rw [e] at this
    grind
  · have e0 : ((0 : Int) : Rat) = 0 := rfl
    rw [e0] at e8
    have hx : x = m := by rw [e1]; have : (2 : Rat) ^ (0 : Int) = 1 := by decide +kernel
                          rw [this]; grind
    rw [hx] at h1
    have k1 : s * (m + 1) = m - 1 := by grind
    have s0 : 0 ≤ s := le_canc (show 0 < m + 1 by grind) (by rw [k1]; grind)
    have s1 : 36 / 100000 ≤ s := le_canc (show 0 < m + 1 by grind) (by rw [k1]; grind)
    have k2 : 2 * s ≤ pev logL s := by
      have e : pev logL s = 2 * s + s * s * s * (2 / 3 + s * s * (2 / 5 + s * s * (2 / 7 + s * s * (2 / 9 + s * s * (2 / 11))))) := by
        unfold logL
        simp only [pev]
        grind
      have ss := Rat.mul_nonneg s0 s0
      have p1 := Rat.mul_nonneg ss (show (0 : Rat) ≤ 2 / 11 by grind)
      have p2 := Rat.mul_nonneg ss (show 0 ≤ 2 / 9 + s * s * (2 / 11) by grind)
      have p3 := Rat.mul_nonneg ss (show 0 ≤ 2 / 7 + s * s * (2 / 9 + s * s * (2 / 11)) by grind)
      have p4 := Rat.mul_nonneg ss (show 0 ≤ 2 / 5 + s * s * (2 / 7 + s * s * (2 / 9 + s * s * (2 / 11))) by grind)
      have p5 := Rat.mul_nonneg (Rat.mul_nonneg ss s0) (show 0 ≤ 2 / 3 + s * s * (2 / 5 + s * s * (2 / 7 + s * s * (2 / 9 + s * s * (2 / 11)))) by grind)
      rw [e]
      grind
    have k3 : 1001 / 1000000 * 1 ≤ t := by
      refine le_canc (show 0 < ln2c by grind) ?_
      grind
    grind
  · exfalso
    have half : (2 : Rat) ^ (-1 : Int) = 1 / 2 := by decide +kernel
    obtain ⟨j, hj⟩ : ∃ j : Nat, -1 = n + (j : Int) := ⟨(-1 - n).toNat, by omega⟩
    have pj : (1 : Rat) ≤ (2 : Rat) ^ (j : Int) := by
      rw [Rat.zpow_natCast]
      have : (1 : Rat) ≤ ((2 ^ j : Nat) : Rat) := by
        have := Nat.one_le_two_pow (n := j)
        exact_mod_cast this
      simpa using this
    rw [hj, zp_add] at half
    have k : (2 : Rat) ^ n * 1 ≤ (2 : Rat) ^ n * (2 : Rat) ^ (j : Int) := Rat.mul_le_mul_of_nonneg_left pj (Rat.le_of_lt z)
    rw [half] at k
    have k2 : m * (2 : Rat) ^ n ≤ 3 / 2 * (2 : Rat) ^ n := Rat.mul_le_mul_of_nonneg_right m1 (Rat.le_of_lt z)
    rw [e1] at h1
    obtain ⟨Z, hZ⟩ : ∃ Z, Z = (2 : Rat) ^ n := ⟨_, rfl⟩
    rw [← hZ] at k k2 h1
    clear e1 e2 e3 e4 e5 e6 e7 e8 z hj half pj
    grind
theorem log_back {v A B a d L l w q V E y x0 : Rat} (v0 : 0 ≤ v) (v1 : v ≤ 1) (a0 : 1 ≤ A) (b1 : B ≤ 1) (ha : Nr a (v * A + B) (3 * eQ * (A + 1))) (hd : LogP a d) (hL : Nr L d (1 / 262144))
    (hw : Nr (w * l) L (28 * eQ)) (hq : Nr q (w * l) (14 * eQ)) (hV : ExpP q V) (hE : Nr E V (V * (1 / 16600000))) (hy : Nr y (E - B) (3 * A * eQ)) (hx : x0 * A = y) : Nr x0 v (1 / 10000) := by
  unfold Nr eQ at *
  have hf := back_gen hd (e := 1 / 100000) (by grind) (by unfold Nr; constructor <;> grind) hV
  unfold Nr at hf
  have vA0 : 0 ≤ v * A := Rat.mul_nonneg v0 (by grind)
  have vA1 : v * A ≤ 1 * A := Rat.mul_le_mul_of_nonneg_right v1 (by grind)
  have Ap : 0 < A := by grind
  constructor
  · refine le_canc Ap ?_
    grind
  · refine le_canc Ap ?_
    grind
end Go.Proofs.Ytokmjboaeamogaa

namespace Go.Proofs.Ytokmjboaeamogaa
open Go Go.RowKit
/-- w is the power of x by p, as it is reckoned. -/
def PowR (x p w : Rat) : Prop := (x = 0 ∧ w = 0) ∨ ∃ D M, LogP x D ∧ Nr M (D * p) (1 / 1099511627776) ∧ ((M ≤ -199 ∧ w = 0) ∨ ∃ V, ExpP M V ∧ (((2 : Rat) ^ (-126 : Int) * (99 / 100) ≤ V ∧ Nr w V (V * (1 / 16600000))) ∨ (V ≤ (2 : Rat) ^ (-126 : Int) * (99 / 100) ∧ 0 ≤ w ∧ Nr w V ((2 : Rat) ^ (-149 : Int)))))
theorem logp_pos {x d : Rat} (h : LogP x d) : 0 < x := by
  obtain ⟨m, s, t, n, e1, e2, e3, e4, -⟩ := h
  have b1 : sB = 8580 / 50000 := rfl
  have m0 : 7 / 10 ≤ m := by
    refine le_canc (show 0 < 1 - s by grind) ?_
    rw [e2]; grind
  rw [e1]
  exact Rat.mul_pos (by grind) (zp_pos n)
theorem exp_pos {d V : Rat} (h : ExpP d V) : 0 < V := by
  obtain ⟨k, r, P, -, k2, k3, -, k5, k6⟩ := h
  have x1 := exp_in k2 k3
  unfold Nr uQ at k5
  rw [k6]
  exact Rat.mul_pos (by grind) (zp_pos k)
/-- Logarithms below a whole number are those of small numbers. -/
theorem logp_low {x d : Rat} (N : Int) (h : LogP x d) (hd : d ≤ (N : Rat)) : x ≤ 3 / 2 * (2 : Rat) ^ N := by
  obtain ⟨m, s, t, n, e1, e2, e3, e4, e5, e6, e7, e8, -, -⟩ := h
  have b1 : sB = 8580 / 50000 := rfl
  have m0 : 7 / 10 ≤ m := by
    refine le_canc (show 0 < 1 - s by grind) ?_
    rw [e2]; grind
  have m1 : m ≤ 3 / 2 := by
    refine le_canc (show 0 < 1 - s by grind) ?_
    rw [e2]; grind
  unfold Nr at e8
  have hn : n ≤ N := by
    have : (n : Rat) < ((N + 1 : Int) : Rat) := by
      rw [Rat.intCast_add]
      have e : ((1 : Int) : Rat) = 1 := rfl
      rw [e]; grind
    have := Rat.intCast_lt_intCast.1 this
    omega
  have z := zp_pos n
  have k1 := Rat.mul_le_mul_of_nonneg_right m1 (Rat.le_of_lt z)
  have k2 : (2 : Rat) ^ n ≤ (2 : Rat) ^ N := zp_le hn
  rw [e1]
  grind
/-- .. and small numbers have logarithms below. -/
theorem logp_high {x d : Rat} (N : Int) (h : LogP x d) (hx : x ≤ 7 / 10 * (2 : Rat) ^ N) : d ≤ (N : Rat) + 52 / 100 := by
  obtain ⟨m, s, t, n, e1, e2, e3, e4, e5, e6, e7, e8, -, -⟩ := h
  have b1 : sB = 8580 / 50000 := rfl
  have m0 : 7 / 10 ≤ m := by
    refine le_canc (show 0 < 1 - s by grind) ?_
    rw [e2]; grind
  unfold Nr at e8
  have z := zp_pos n
  have k1 := Rat.mul_le_mul_of_nonneg_right m0 (Rat.le_of_lt z)
  have hn : n ≤ N := by
    rcases Int.lt_or_le N n with h | h
    · exfalso
      have k2 : (2 : Rat) ^ (N + 1) ≤ (2 : Rat) ^ n := zp_le (by omega)
      rw [zp_add, show (2 : Rat) ^ (1 : Int) = 2 by decide +kernel] at k2
      have zN := zp_pos N
      rw [e1] at hx
      grind
    · exact h
  have := Rat.intCast_le_intCast.2 hn
  grind
/-- Powers of small exponents are small. -/
theorem expp_low {d V : Rat} (N : Int) (h : ExpP d V) (hd : d ≤ (N : Rat) + 49 / 100) : V ≤ 145 / 100 * (2 : Rat) ^ N := by
  obtain ⟨k, r, P, k1, k2, k3, -, k5, k6⟩ := h
  have x1 := exp_in k2 k3
  unfold Nr uQ at *
  have hk : k ≤ N := by
    have : (k : Rat) < ((N + 1 : Int) : Rat) := by
      rw [Rat.intCast_add]
      have e : ((1 : Int) : Rat) = 1 := rfl
      rw [e]; grind
    have := Rat.intCast_lt_intCast.1 this
    omega
  have z := zp_pos k
  have p1 := Rat.mul_le_mul_of_nonneg_right (show P ≤ 145 / 100 by grind) (Rat.le_of_lt z)
  have p2 : (2 : Rat) ^ k ≤ (2 : Rat) ^ N := zp_le hk
  rw [k6]
  grind
theorem exp_small {d V : Rat} (h : ExpP d V) (hV : V ≤ (2 : Rat) ^ (-126 : Int) * (99 / 100)) : d ≤ -125 := by
  obtain ⟨k, r, P, k1, k2, k3, -, k5, k6⟩ := h
  have x1 := exp_in k2 k3
  unfold Nr uQ at *
  have z := zp_pos k
  have p1 := Rat.mul_le_mul_of_nonneg_right (show 55 / 100 ≤ P by grind) (Rat.le_of_lt z)
  have hk : k ≤ -126 := by
    rcases Int.lt_or_le (-126) k with h | h
    · exfalso
      have k2 : (2 : Rat) ^ (-125 : Int) ≤ (2 : Rat) ^ k := zp_le (by omega)
      have e : (2 : Rat) ^ (-125 : Int) = (2 : Rat) ^ (-126 : Int) * 2 := by decide +kernel
      have z2 := zp_pos (-126)
      rw [k6] at hV
      grind
    · exact h
  have := Rat.intCast_le_intCast.2 hk
  have e : ((-126 : Int) : Rat) = -126 := rfl
  rw [e] at this
  grind
theorem log_one {x d : Rat} (h : LogP x d) (h1 : x ≤ 1) : d ≤ 1 / 100000 := by
  obtain ⟨Z, hZ⟩ := exp_ex d
  have hb := back_gen h (e := 0) (by grind) (by unfold Nr; constructor <;> grind) hZ
  have hone : ExpP 0 1 := by
    refine ⟨0, 0, 1, ?_, by grind, by grind, ?_, ?_, ?_⟩
    · unfold Nr; decide +kernel
    · unfold Nr uQ; constructor <;> grind
    · unfold Nr uQ; decide +kernel
    · decide +kernel
  unfold Nr at hb
  have := exp_back (δ := 1 / 1000000) hone hZ (by grind) (by grind) (by grind)
  grind
theorem logp_least {x d : Rat} (N : Int) (h : LogP x d) (hx : (2 : Rat) ^ N ≤ x) : (N : Rat) - 52 / 100 ≤ d := by
  obtain ⟨m, s, t, n, e1, e2, e3, e4, e5, e6, e7, e8, -, -⟩ := h
  have b1 : sB = 8580 / 50000 := rfl
  have m1 : m ≤ 3 / 2 := by
    refine le_canc (show 0 < 1 - s by grind) ?_
    rw [e2]; grind
  unfold Nr at e8
  have z := zp_pos n
  have k1 := Rat.mul_le_mul_of_nonneg_right m1 (Rat.le_of_lt z)
  have hn : N ≤ n := by
    rcases Int.lt_or_le n N with h | h
    · exfalso
      have k2 : (2 : Rat) ^ (n + 1) ≤ (2 : Rat) ^ N := zp_le (by omega)
      rw [zp_add, show (2 : Rat) ^ (1 : Int) = 2 by decide +kernel] at k2
      rw [e1] at hx
      grind
    · exact h
  have := Rat.intCast_le_intCast.2 hn
  grind
theorem pow_zero {p w : Rat} (h : PowR 0 p w) : w = 0 := by
  rcases h with ⟨-, h⟩ | ⟨D, M, hD, -⟩
  · exact h
  · have := logp_pos hD; grind
theorem gamma_back {v p w A x : Rat} (h1 : PowR v p w) (h2 : PowR w A x) (v0 : 0 ≤ v) (v1 : v ≤ 1) (vl : v = 0 ∨ (2 : Rat) ^ (-149 : Int) ≤ v) (hp : Nr (p * A) 1 (1 / 8000000)) (p0 : 1 / 9 ≤ p) (p1 : p ≤ 801 / 100) (a0 : 1 / 8 ≤ A) (a1 : A ≤ 8) : Nr x v (1 / 8192) := by
  have t149 : (2 : Rat) ^ (-149 : Int) ≤ 1 / 1000000 := by decide +kernel
  have t149p := zp_pos (-149)
  rcases h1 with ⟨rfl, rfl⟩ | ⟨D, M, hD, hM, h1⟩
  · rw [pow_zero h2]
    unfold Nr; constructor <;> grind
  · have vp := logp_pos hD
    have d1 := log_one hD v1
    have d0 : -150 ≤ D := by
      rcases vl with h | h
      · grind
      · have := logp_least (-149) hD h
        have e : ((-149 : Int) : Rat) = -149 := rfl
        rw [e] at this
        grind
    have hM' := hM
    unfold Nr at hM'
    rcases h1 with ⟨hM2, rfl⟩ | ⟨V, hV, h1⟩
    · rw [pow_zero h2]
      have dl : D ≤ -22 := by
        by_cases h : D ≤ -22
        · exact h
        · exfalso
          have k : (-22) * p ≤ D * p := Rat.mul_le_mul_of_nonneg_right (by grind) (by grind)
          grind
      have := logp_low (-22) hD dl
      have e : (3 / 2 : Rat) * (2 : Rat) ^ (-22 : Int) ≤ 1 / 8192 := by decide +kernel
      unfold Nr; constructor <;> grind
    · rcases h1 with ⟨hV1, hw⟩ | ⟨hV1, w0, hw⟩
      · have Vp := exp_pos hV
        have hw' := hw
        unfold Nr at hw'
        have wp : 0 < w := by grind
        rcases h2 with ⟨h2, -⟩ | ⟨D', M', hD', hM'', h2⟩
        · grind
        · obtain ⟨X0, hX0⟩ := exp_ex M'
          obtain ⟨-, tb⟩ := there_back hD vp d0 (by grind) hM hV hw hD' hM'' hX0 hp a0 a1
          unfold Nr at tb
          rcases h2 with ⟨hM2, -⟩ | ⟨X, hX, h2⟩
          · exfalso; grind
          · obtain ⟨tx, -⟩ := there_back hD vp d0 (by grind) hM hV hw hD' hM'' hX hp a0 a1
            have Xp := exp_pos hX
            unfold Nr at tx
            rcases h2 with ⟨-, hx⟩ | ⟨-, -, hx⟩
            · unfold Nr at *; constructor <;> grind
            · unfold Nr at *; constructor <;> grind
      · have mm := exp_small hV hV1
        have dl : D ≤ -15 := by
          by_cases h : D ≤ -15
          · exact h
          · exfalso
            have k : (-15) * p ≤ D * p := Rat.mul_le_mul_of_nonneg_right (by grind) (by grind)
            grind
        have vs := logp_low (-15) hD dl
        have e15 : (3 / 2 : Rat) * (2 : Rat) ^ (-15 : Int) ≤ 1 / 20000 := by decide +kernel
        have ws : w ≤ 7 / 10 * (2 : Rat) ^ (-125 : Int) := by
          have e : (2 : Rat) ^ (-125 : Int) = (2 : Rat) ^ (-126 : Int) * 2 := by decide +kernel
          have e2 : (2 : Rat) ^ (-149 : Int) ≤ (2 : Rat) ^ (-126 : Int) * (1 / 1000) := by decide +kernel
          unfold Nr at hw
          have := zp_pos (-126)
          grind
        have goal : 0 ≤ x ∧ x ≤ 1 / 20000 := by
          rcases h2 with ⟨-, rfl⟩ | ⟨D', M', hD', hM'', h2⟩
          · constructor <;> grind
          · have dh := logp_high (-125) hD' ws
            have e : ((-125 : Int) : Rat) = -125 := rfl
            rw [e] at dh
            have k : (1 / 8) * (124) ≤ A * (-D') := by
              have k1 : (1 / 8) * (-D') ≤ A * (-D') := Rat.mul_le_mul_of_nonneg_right a0 (by grind)
              grind
            have hM3 : M' ≤ -15 := by unfold Nr at hM''; grind
            rcases h2 with ⟨-, rfl⟩ | ⟨X, hX, h2⟩
            · constructor <;> grind
            · have e5 : ((-15 : Int) : Rat) = -15 := rfl
              have xs := expp_low (-15) hX (by rw [e5]; grind)
              have Xp := exp_pos hX
              have e6 : (145 / 100 : Rat) * (2 : Rat) ^ (-15 : Int) ≤ 46 / 1000000 := by decide +kernel
              rcases h2 with ⟨-, hx⟩ | ⟨-, hx0, hx⟩
              · unfold Nr at hx; constructor <;> grind
              · unfold Nr at hx; constructor <;> grind
        unfold Nr
        constructor <;> grind
end Go.Proofs.Ytokmjboaeamogaa
