/- The logarithm's sum is the series but for a small tail. Plain Lean. Conditions: those named. -/
import Derived.Test.YtokmjboaeamogaaPhS
namespace Go.Proofs.Ytokmjboaeamogaa
open Go.RowKit
def tailL : List Rat := [0, 0, 0, 0, 0, 0, 0, 0, 0, 0, 0, 0, 0, 2 / 13, 0, 2 / 15, 0, 2 / 17, 0, 2 / 19, 0, 2 / 21]
def oddL : List Rat := [1, 1 / 3, 1 / 5, 1 / 7, 1 / 9, 1 / 11, 1 / 13, 1 / 15, 1 / 17, 1 / 19, 1 / 21]
theorem tail_bd : pabs tailL sB ≤ 1 / 34359738368 := by decide +kernel
theorem log_bd : pabs logL sB ≤ 34664 / 100000 := by decide +kernel
theorem odd_lip : pdif oddL (1 / 25) ≤ 2 / 5 := by decide +kernel
theorem hL_odd (Q : Rat) : hL Q 10 = pev oddL Q := by
  simp only [hL, pev, oddL]
  grind
theorem odd_log (s : Rat) : 2 * s * pev oddL (s * s) = pev logL s + pev tailL s := by
  simp only [pev, oddL, logL, tailL]
  grind
/-- What the chain of the logarithm's roundings reaches: S near s, q near its square, P the sum, A = 2 S, B = A P. -/
theorem log_chain {s S q P A B : Rat} (s1 : -sB ≤ s) (s2 : s ≤ sB) (hS : Nr S s (5 * uQ)) (hq : Nr q (S * S) (1 / 25 * uQ)) (hP : Nr P (hL q 10) (8 * uQ)) (hA : Nr A (2 * S) (1 / 2 * uQ)) (hB : Nr B (A * P) (1 / 2 * uQ)) :
    Nr B (pev logL s) (1 / 34359738368 + 20 * uQ) := by
  have b1 : sB = 8580 / 50000 := rfl
  unfold uQ at *
  unfold Nr at *
  obtain ⟨hS1, hS2⟩ := hS
  obtain ⟨hq1, hq2⟩ := hq
  obtain ⟨hP1, hP2⟩ := hP
  obtain ⟨hA1, hA2⟩ := hA
  obtain ⟨hB1, hB2⟩ := hB
  obtain ⟨a1, a2⟩ := mul_in (x := S - s) (y := S + s) (b := 5 * (1 / 9007199254740992)) (c := 2 / 5) (by grind) (by grind) (by grind) (by grind)
  obtain ⟨a3, a4⟩ := mul_in (x := s) (y := s) (b := 8580 / 50000) (c := 8580 / 50000) (by grind) (by grind) (by grind) (by grind)
  obtain ⟨Z, hZ⟩ : ∃ Z, Z = s * s := ⟨_, rfl⟩
  have e1 : (S - s) * (S + s) = S * S - Z := by rw [hZ]; grind
  rw [e1] at a1 a2
  rw [← hZ] at a3 a4
  have g1 : -(21 / 10 * (1 / 9007199254740992)) ≤ q - Z ∧ q - Z ≤ 21 / 10 * (1 / 9007199254740992) := by constructor <;> grind
  have g2 : -(1 / 25) ≤ q ∧ q ≤ 1 / 25 := by constructor <;> grind
  have g3 : -(1 / 25) ≤ Z ∧ Z ≤ 1 / 25 := by constructor <;> grind
  obtain ⟨l1, l2⟩ := pev_lip oddL g2.1 g2.2 g3.1 g3.2 g1.1 g1.2
  have l3 := odd_lip
  rw [← hL_odd] at l1 l2
  have od := odd_log s
  rw [← hZ] at od
  obtain ⟨h1, h2⟩ := hL_in g3.1 g3.2 10 (by omega)
  rw [hL_odd] at h1 h2
  obtain ⟨H, hH⟩ : ∃ H, H = pev oddL Z := ⟨_, rfl⟩
  obtain ⟨G, hG⟩ : ∃ G, G = hL q 10 := ⟨_, rfl⟩
  rw [← hH] at l1 l2 od h1 h2
  rw [← hG] at l1 l2 hP1 hP2
  have p1 : -(9 * (1 / 9007199254740992)) ≤ P - H ∧ P - H ≤ 9 * (1 / 9007199254740992) := by constructor <;> grind
  have p2 : -(6 / 5) ≤ P ∧ P ≤ 6 / 5 := by constructor <;> grind
  obtain ⟨m1, m2⟩ := mul_in (x := A - 2 * s) (y := P) (b := 21 / 2 * (1 / 9007199254740992)) (c := 6 / 5) (by grind) (by grind) p2.1 p2.2
  obtain ⟨m3, m4⟩ := mul_in (x := 2 * s) (y := P - H) (b := 2 / 5) (c := 9 * (1 / 9007199254740992)) (by grind) (by grind) p1.1 p1.2
  obtain ⟨t1, t2⟩ := pev_bd tailL s1 s2
  have t3 := tail_bd
  have e2 : A * P = (A - 2 * s) * P + 2 * s * (P - H) + 2 * s * H := by grind
  rw [e2, od] at hB1 hB2
  constructor <;> grind
end Go.Proofs.Ytokmjboaeamogaa
