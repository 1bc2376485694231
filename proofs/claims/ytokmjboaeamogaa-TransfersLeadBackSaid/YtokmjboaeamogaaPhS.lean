/- Double operations by bounds, and the two Horner sums. Plain Lean. Conditions: those named. -/
import Derived.Test.YtokmjboaeamogaaPhR
import Derived.Test.YtokmjboaeamogaaHlA
namespace Go.Proofs.Ytokmjboaeamogaa
open Go.RowKit
/-- The rounding unit of doubles. -/
def uQ : Rat := 1 / 9007199254740992
theorem wide64 {q B : Rat} (hB2 : B < (2 : Rat) ^ (99 : Int)) (h1 : -B ≤ q) (h2 : q ≤ B) : -((2 : Rat) ^ (99 : Int)) < q ∧ q < (2 : Rat) ^ (99 : Int) := by
  constructor <;> grind
theorem add64 {x y : Nat} (B : Rat) (hx : isNum .f64 x = true) (hy : isNum .f64 y = true) (hB : (2 : Rat) ^ (-101 : Int) ≤ B) (hB2 : B < (2 : Rat) ^ (99 : Int)) (h1 : -B ≤ val .f64 x + val .f64 y) (h2 : val .f64 x + val .f64 y ≤ B) :
    isNum .f64 (fop .add .f64 x y) = true ∧ Nr (val .f64 (fop .add .f64 x y)) (val .f64 x + val .f64 y) (B * uQ) := by
  obtain ⟨a, b⟩ := wide64 hB2 h1 h2
  have h := fop_add_num hx hy 99 (by decide) (by decide) a b
  exact ⟨h.num, rn_bd64 h hB hB2 h1 h2⟩
theorem sub64 {x y : Nat} (B : Rat) (hx : isNum .f64 x = true) (hy : isNum .f64 y = true) (hB : (2 : Rat) ^ (-101 : Int) ≤ B) (hB2 : B < (2 : Rat) ^ (99 : Int)) (h1 : -B ≤ val .f64 x - val .f64 y) (h2 : val .f64 x - val .f64 y ≤ B) :
    isNum .f64 (fop .sub .f64 x y) = true ∧ Nr (val .f64 (fop .sub .f64 x y)) (val .f64 x - val .f64 y) (B * uQ) := by
  obtain ⟨a, b⟩ := wide64 hB2 h1 h2
  have h := fop_sub_num hx hy 99 (by decide) (by decide) a b
  exact ⟨h.num, rn_bd64 h hB hB2 h1 h2⟩
theorem mul64 {x y : Nat} (B : Rat) (hx : isNum .f64 x = true) (hy : isNum .f64 y = true) (hB : (2 : Rat) ^ (-101 : Int) ≤ B) (hB2 : B < (2 : Rat) ^ (99 : Int)) (h1 : -B ≤ val .f64 x * val .f64 y) (h2 : val .f64 x * val .f64 y ≤ B) :
    isNum .f64 (fop .mul .f64 x y) = true ∧ Nr (val .f64 (fop .mul .f64 x y)) (val .f64 x * val .f64 y) (B * uQ) := by
  obtain ⟨a, b⟩ := wide64 hB2 h1 h2
  have h := fop_mul_num hx hy 99 (by decide) (by decide) a b
  exact ⟨h.num, rn_bd64 h hB hB2 h1 h2⟩
theorem rq_bd64 {q B : Rat} {b : Nat} (h : Rq .f64 q b) (hB : (2 : Rat) ^ (-101 : Int) ≤ B) (hB2 : B < (2 : Rat) ^ (99 : Int)) (h1 : -B ≤ q) (h2 : q ≤ B) : Nr (val .f64 b) q (B * (2 * uQ)) := by
  obtain ⟨K, a, b1, c, d⟩ := pow_find hB 200 hB2
  have nr := h.near K (by rw [show FloatKind.f64.format.leastPlace + (FloatKind.f64.format.fractionBits : Int) + 1 = -1021 by decide +kernel]; omega) (by show K < 1024; omega) (by grind) (by grind)
  have e : (2 : Rat) ^ (K - 1 - (FloatKind.f64.format.fractionBits : Int)) = (2 : Rat) ^ (K - 1) * (1 / 4503599627370496) := by
    rw [show K - 1 - (FloatKind.f64.format.fractionBits : Int) = K - 1 + -52 by rfl, zp_add, show (2 : Rat) ^ (-52 : Int) = 1 / 4503599627370496 by decide +kernel]
  rw [e] at nr
  unfold Nr uQ
  constructor <;> grind
theorem quo64 {x y : Nat} {q : Rat} (B : Rat) (hx : isNum .f64 x = true) (hy : isNum .f64 y = true) (hy0 : val .f64 y ≠ 0) (hq : q * val .f64 y = val .f64 x) (hB : (2 : Rat) ^ (-101 : Int) ≤ B) (hB2 : B < (2 : Rat) ^ (99 : Int)) (h1 : -B ≤ q) (h2 : q ≤ B) :
    isNum .f64 (fop .quo .f64 x y) = true ∧ Nr (val .f64 (fop .quo .f64 x y)) q (B * (2 * uQ)) := by
  obtain ⟨a, b⟩ := wide64 hB2 h1 h2
  have h := fop_quo_num hx hy hy0 hq 99 (by decide) (by decide) a b
  exact ⟨h.num, rq_bd64 h hB hB2 h1 h2⟩
/-- The logarithm's sum behind n steps. -/
def hL (Q : Rat) : Nat → Rat
  | 0 => 1 / 21
  | n + 1 => 1 / (19 - 2 * (n : Rat)) + hL Q n * Q
/-- The exponential's sum behind n steps. -/
def eL (r : Rat) : Nat → Rat
  | 0 => 1
  | n + 1 => 1 + eL r n * r / (14 - (n : Rat))
theorem eL_end (r : Rat) : eL r 14 = pev expL r := by
  simp only [eL, pev, expL]
  grind
theorem hL_in {Q : Rat} (h0 : -(1 / 25) ≤ Q) (h1 : Q ≤ 1 / 25) (n : Nat) (hn : n ≤ 10) : -(11 / 10) ≤ hL Q n ∧ hL Q n ≤ 11 / 10 := by
  induction n with
  | zero => exact ⟨by show -(11 / 10 : Rat) ≤ 1 / 21; grind, by show (1 : Rat) / 21 ≤ 11 / 10; grind⟩
  | succ n ih =>
    obtain ⟨a, b⟩ := ih (by omega)
    obtain ⟨m1, m2⟩ := mul_in a b h0 h1
    have e : 0 ≤ 1 / (19 - 2 * (n : Rat)) ∧ 1 / (19 - 2 * (n : Rat)) ≤ 1 := by
      have : ∀ k : Fin 10, 0 ≤ 1 / (19 - 2 * (k.val : Rat)) ∧ 1 / (19 - 2 * (k.val : Rat)) ≤ 1 := by decide +kernel
      exact this ⟨n, by omega⟩
    show -(11 / 10) ≤ 1 / (19 - 2 * (n : Rat)) + hL Q n * Q ∧ 1 / (19 - 2 * (n : Rat)) + hL Q n * Q ≤ 11 / 10
    constructor <;> grind
theorem eL_in {r : Rat} (h0 : -(9 / 25) ≤ r) (h1 : r ≤ 9 / 25) (n : Nat) (hn : n ≤ 14) : -(8 / 5) ≤ eL r n ∧ eL r n ≤ 8 / 5 := by
  induction n with
  | zero => exact ⟨by show -(8 / 5 : Rat) ≤ 1; grind, by show (1 : Rat) ≤ 8 / 5; grind⟩
  | succ n ih =>
    obtain ⟨a, b⟩ := ih (by omega)
    have e : 0 ≤ 1 / (14 - (n : Rat)) ∧ 1 / (14 - (n : Rat)) ≤ 1 := by
      have : ∀ k : Fin 14, 0 ≤ 1 / (14 - (k.val : Rat)) ∧ 1 / (14 - (k.val : Rat)) ≤ 1 := by decide +kernel
      exact this ⟨n, by omega⟩
    obtain ⟨m1, m2⟩ := mul_in a b h0 h1
    obtain ⟨k1, k2⟩ := mul_in m1 m2 (show -(1 : Rat) ≤ 1 / (14 - (n : Rat)) by grind) e.2
    have e2 : eL r n * r / (14 - (n : Rat)) = eL r n * r * (1 / (14 - (n : Rat))) := by grind
    show -(8 / 5) ≤ 1 + eL r n * r / (14 - (n : Rat)) ∧ 1 + eL r n * r / (14 - (n : Rat)) ≤ 8 / 5
    rw [e2]
    constructor <;> grind
/-- One step of the logarithm's sum. -/
theorem hL_step {p q k : Nat} {n : Nat} {Q : Rat} (hn : n < 10) (hp : isNum .f64 p = true) (hq : isNum .f64 q = true) (hk : isNum .f64 k = true) (hQ : val .f64 q = Q) (q0 : -(1 / 25) ≤ Q) (q1 : Q ≤ 1 / 25)
    (hP : Nr (val .f64 p) (hL Q n) (8 * uQ)) (hK : Nr (val .f64 k) (1 / (19 - 2 * (n : Rat))) (2 * uQ)) :
    isNum .f64 (fop .mul .f64 p q) = true ∧ isNum .f64 (fop .add .f64 (fop .mul .f64 p q) k) = true ∧ Nr (val .f64 (fop .add .f64 (fop .mul .f64 p q) k)) (hL Q (n + 1)) (8 * uQ) := by
  obtain ⟨a1, a2⟩ := hL_in q0 q1 n (by omega)
  obtain ⟨b1, b2⟩ := hL_in q0 q1 (n + 1) (by omega)
  unfold uQ at *
  obtain ⟨p1, p2⟩ := hP
  obtain ⟨k1, k2⟩ := hK
  obtain ⟨P, eP⟩ : ∃ P, P = val .f64 p := ⟨_, rfl⟩
  rw [← eP] at p1 p2
  obtain ⟨t1, t2⟩ := mul_in (x := P - hL Q n) (y := Q) (b := 8 * (1 / 9007199254740992)) (c := 1 / 25) (by grind) (by grind) q0 q1
  obtain ⟨t3, t4⟩ := mul_in a1 a2 q0 q1
  have t6 : -(1 / 20) ≤ P * Q ∧ P * Q ≤ 1 / 20 := by
    clear k1 k2 hk hp hq hQ eP
    constructor <;> grind
  obtain ⟨m1, m2⟩ := mul64 (x := p) (y := q) (1 / 20) hp hq (by decide +kernel) (by decide +kernel) (by rw [hQ, ← eP]; exact t6.1) (by rw [hQ, ← eP]; exact t6.2)
  rw [hQ, ← eP] at m2
  unfold uQ at m2
  obtain ⟨m2, m3⟩ := m2
  obtain ⟨M, eM⟩ : ∃ M, M = val .f64 (fop .mul .f64 p q) := ⟨_, rfl⟩
  rw [← eM] at m2 m3
  have c1 : hL Q (n + 1) = 1 / (19 - 2 * (n : Rat)) + hL Q n * Q := rfl
  obtain ⟨C, eC⟩ : ∃ C, C = 1 / (19 - 2 * (n : Rat)) := ⟨_, rfl⟩
  rw [← eC] at c1 k1 k2
  obtain ⟨H, eH⟩ : ∃ H, H = hL Q n * Q := ⟨_, rfl⟩
  have c2 : 0 ≤ C ∧ C ≤ 1 := by
    have : ∀ k : Fin 10, 0 ≤ 1 / (19 - 2 * (k.val : Rat)) ∧ 1 / (19 - 2 * (k.val : Rat)) ≤ 1 := by decide +kernel
    have := this ⟨n, by omega⟩
    rw [eC]; exact this
  have t7 : -(6 / 5) ≤ M + val .f64 k ∧ M + val .f64 k ≤ 6 / 5 := by
    clear eC eH eM
    constructor <;> grind
  obtain ⟨s1, s2⟩ := add64 (x := fop .mul .f64 p q) (y := k) (6 / 5) m1 hk (by decide +kernel) (by decide +kernel) (by rw [← eM]; exact t7.1) (by rw [← eM]; exact t7.2)
  refine ⟨m1, s1, ?_⟩
  rw [← eM] at s2
  unfold uQ at s2
  obtain ⟨s2, s3⟩ := s2
  constructor <;> grind
theorem one64 : isNum .f64 4607182418800017408 = true ∧ val .f64 4607182418800017408 = 1 := by decide +kernel
/-- One step of the exponential's sum. -/
theorem eL_step {p r k : Nat} {n : Nat} {R : Rat} (hn : n < 14) (hp : isNum .f64 p = true) (hr : isNum .f64 r = true) (hk : isNum .f64 k = true) (hR : val .f64 r = R) (r0 : -(9 / 25) ≤ R) (r1 : R ≤ 9 / 25)
    (hP : Nr (val .f64 p) (eL R n) (8 * uQ)) (hK : val .f64 k = 14 - (n : Rat)) :
    isNum .f64 (fop .mul .f64 p r) = true ∧ isNum .f64 (fop .quo .f64 (fop .mul .f64 p r) k) = true ∧ isNum .f64 (fop .add .f64 4607182418800017408 (fop .quo .f64 (fop .mul .f64 p r) k)) = true ∧ Nr (val .f64 (fop .add .f64 4607182418800017408 (fop .quo .f64 (fop .mul .f64 p r) k))) (eL R (n + 1)) (8 * uQ) := by
  obtain ⟨a1, a2⟩ := eL_in r0 r1 n (by omega)
  unfold uQ at *
  obtain ⟨p1, p2⟩ := hP
  obtain ⟨P, eP⟩ : ∃ P, P = val .f64 p := ⟨_, rfl⟩
  obtain ⟨E, eE⟩ : ∃ E, E = eL R n := ⟨_, rfl⟩
  have c1 : eL R (n + 1) = 1 + eL R n * R / (14 - (n : Rat)) := rfl
  rw [← eP] at p1 p2
  rw [← eE] at p1 p2 a1 a2 c1
  obtain ⟨i, ei⟩ : ∃ i, i = 1 / (14 - (n : Rat)) := ⟨_, rfl⟩
  have c2 : 0 ≤ i ∧ i ≤ 1 ∧ i * (14 - (n : Rat)) = 1 ∧ 14 - (n : Rat) ≠ 0 := by
    have : ∀ k : Fin 14, 0 ≤ 1 / (14 - (k.val : Rat)) ∧ 1 / (14 - (k.val : Rat)) ≤ 1 ∧ 1 / (14 - (k.val : Rat)) * (14 - (k.val : Rat)) = 1 ∧ 14 - (k.val : Rat) ≠ 0 := by decide +kernel
    have := this ⟨n, by omega⟩
    rw [ei]; exact this
  obtain ⟨c2, c3, c4, c5⟩ := c2
  have c6 : E * R / (14 - (n : Rat)) = E * R * i := by rw [ei]; grind
  rw [c6] at c1
  obtain ⟨d1, d2⟩ := mul_in (x := P - E) (y := R) (b := 8 * (1 / 9007199254740992)) (c := 9 / 25) (by grind) (by grind) r0 r1
  obtain ⟨d3, d4⟩ := mul_in (x := E) (y := R) a1 a2 r0 r1
  have t6 : -(3 / 5) ≤ P * R ∧ P * R ≤ 3 / 5 := by
    clear hk hp hr hR eP eE
    constructor <;> grind
  obtain ⟨m1, m2⟩ := mul64 (x := p) (y := r) (3 / 5) hp hr (by decide +kernel) (by decide +kernel) (by rw [hR, ← eP]; exact t6.1) (by rw [hR, ← eP]; exact t6.2)
  rw [hR, ← eP] at m2
  unfold uQ at m2
  obtain ⟨m2, m3⟩ := m2
  obtain ⟨M, eM⟩ : ∃ M, M = val .f64 (fop .mul .f64 p r) := ⟨_, rfl⟩
  rw [← eM] at m2 m3
  obtain ⟨d5, d6⟩ := mul_in (x := M - E * R) (y := i) (b := 4 * (1 / 9007199254740992)) (c := 1) (by grind) (by grind) (by grind) c3
  obtain ⟨d7, d8⟩ := mul_in (x := E * R) (y := i) d3 d4 (show -(1 : Rat) ≤ i by grind) c3
  have t7 : -(3 / 5) ≤ M * i ∧ M * i ≤ 3 / 5 := by
    clear hk hp hr hR eP eE eM
    constructor <;> grind
  obtain ⟨q1, q2⟩ := quo64 (x := fop .mul .f64 p r) (y := k) (q := M * i) (3 / 5) m1 hk (by rw [hK]; exact c5) (by rw [hK, ← eM]; grind) (by decide +kernel) (by decide +kernel) t7.1 t7.2
  unfold uQ at q2
  obtain ⟨q2, q3⟩ := q2
  obtain ⟨D, eD⟩ : ∃ D, D = val .f64 (fop .quo .f64 (fop .mul .f64 p r) k) := ⟨_, rfl⟩
  rw [← eD] at q2 q3
  have t8 : -2 ≤ 1 + D ∧ 1 + D ≤ 2 := by
    clear hk hp hr hR eP eE eM eD
    constructor <;> grind
  obtain ⟨s1, s2⟩ := add64 (x := 4607182418800017408) (y := fop .quo .f64 (fop .mul .f64 p r) k) 2 one64.1 q1 (by decide +kernel) (by decide +kernel) (by rw [one64.2, ← eD]; exact t8.1) (by rw [one64.2, ← eD]; exact t8.2)
  refine ⟨m1, q1, s1, ?_⟩
  rw [one64.2, ← eD] at s2
  unfold uQ at s2
  obtain ⟨s2, s3⟩ := s2
  obtain ⟨F, eF⟩ : ∃ F, F = val .f64 (fop .add .f64 4607182418800017408 (fop .quo .f64 (fop .mul .f64 p r) k)) := ⟨_, rfl⟩
  rw [← eF] at s2 s3 ⊢
  rw [c1]
  clear hk hp hr hR eP eE eM eD eF s1 q1 m1
  constructor <;> grind
end Go.Proofs.Ytokmjboaeamogaa
