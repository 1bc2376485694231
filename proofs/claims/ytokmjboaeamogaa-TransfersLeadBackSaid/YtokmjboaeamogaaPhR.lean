/- Powers by the two series: what is got is near the power. Plain Lean. Conditions: those named. -/
import Derived.Test.YtokmjboaeamogaaPhQ
namespace Go.Proofs.Ytokmjboaeamogaa
/-- x lies within e of y. -/
def Nq (x y e : Rat) : Prop := -e ≤ x - y ∧ x - y ≤ e
/-- The three turns by a whole number: what the logarithm's sum is shifted by, and the power of 2 that makes up for it. -/
inductive Turn : Rat → Rat → Prop
  | none : Turn 0 1
  | up : Turn (-ln2q) 2
  | down : Turn ln2q (1 / 2)
theorem Turn.gap1 {c g : Rat} (h : Turn c g) : pabs (gapL 1 c g [1, -1] [1, 1]) sB ≤ 1 / 268435456 := by
  cases h
  · exact gap10
  · exact gap1p
  · exact gap1m
theorem Turn.gap2 {c g : Rat} (h : Turn c g) : pabs (gapL 2 c g [1, -2, 1] [1, 2, 1]) sB ≤ 1 / 268435456 := by
  cases h
  · exact gap20
  · exact gap2p
  · exact gap2m
theorem Turn.pos {c g : Rat} (h : Turn c g) : 0 < g ∧ g ≤ 2 := by cases h <;> constructor <;> grind
theorem expL_lip : pdif expL (2 / 5) ≤ 3 / 2 := by decide +kernel
theorem gap_near {a c g s r e D : Rat} {d u : List Rat} (hg : pabs (gapL a c g d u) sB ≤ 1 / 268435456) (s1 : -sB ≤ s) (s2 : s ≤ sB) (r1 : -(2 / 5) ≤ r) (r2 : r ≤ 2 / 5)
    (t1 : -(2 / 5) ≤ c + a * pev logL s) (t2 : c + a * pev logL s ≤ 2 / 5) (hr : Nq r (c + a * pev logL s) e) (h0 : 0 < g) (g2 : g ≤ 2) (hD : -D ≤ pev d s ∧ pev d s ≤ D) :
    Nq (g * pev expL r * pev d s) (pev u s) (1 / 268435456 + 3 * D * e) := by
  have e0 : 0 ≤ e := by have := hr.1; have := hr.2; grind
  have D0 : 0 ≤ D := by have := hD.1; have := hD.2; grind
  obtain ⟨q1, q2⟩ := pev_bd (gapL a c g d u) s1 s2
  rw [gapL_ev] at q1 q2
  obtain ⟨l1, l2⟩ := pev_lip expL r1 r2 t1 t2 hr.1 hr.2
  obtain ⟨T, hT⟩ : ∃ T, T = pev expL (c + a * pev logL s) := ⟨_, rfl⟩
  obtain ⟨S, hS⟩ : ∃ S, S = pev expL r := ⟨_, rfl⟩
  rw [← hT] at q1 q2 l1 l2
  rw [← hS] at l1 l2 ⊢
  have p1 : e * pdif expL (2 / 5) ≤ e * (3 / 2) := Rat.mul_le_mul_of_nonneg_left expL_lip e0
  obtain ⟨m1, m2⟩ := mul_in (x := S - T) (y := g) (b := e * (3 / 2)) (c := 2) (by grind) (by grind) (by grind) g2
  obtain ⟨n1, n2⟩ := mul_in (x := (S - T) * g) (y := pev d s) (b := e * (3 / 2) * 2) (c := D) m1 m2 hD.1 hD.2
  obtain ⟨P, hP⟩ : ∃ P, P = pev d s := ⟨_, rfl⟩
  rw [← hP] at q1 q2 n1 n2 ⊢
  have e1 : g * S * P - pev u s = (S - T) * g * P + (g * T * P - pev u s) := by grind
  constructor
  · rw [e1]; grind
  · rw [e1]; grind
theorem le_canc {x c s : Rat} (hs : 0 < s) (h : x * s ≤ c * s) : x ≤ c := by
  by_cases hx : x ≤ c
  · exact hx
  · exfalso
    have h1 : 0 < x - c := by grind
    have := Rat.mul_pos h1 hs
    grind
/-- The first power. -/
theorem one_near {c g s r e m : Rat} (h : Turn c g) (s1 : -sB ≤ s) (s2 : s ≤ sB) (hm : m * (1 - s) = 1 + s) (r1 : -(2 / 5) ≤ r) (r2 : r ≤ 2 / 5)
    (t1 : -(2 / 5) ≤ c + 1 * pev logL s) (t2 : c + 1 * pev logL s ≤ 2 / 5) (hr : Nq r (c + 1 * pev logL s) e) : Nq (g * pev expL r) m (m * (1 / 200000000 + 4273 / 1000 * e)) := by
  have e0 : 0 ≤ e := by have := hr.1; have := hr.2; grind
  have b1 : sB = 8580 / 50000 := rfl
  have v1 : pev [1, -1] s = 1 - s := by show 1 + s * (-1 + s * 0) = 1 - s; grind
  have v2 : pev [1, 1] s = 1 + s := by show 1 + s * (1 + s * 0) = 1 + s; grind
  obtain ⟨n1, n2⟩ := gap_near (D := 5858 / 5000) h.gap1 s1 s2 r1 r2 t1 t2 hr h.pos.1 h.pos.2 (by rw [v1]; constructor <;> grind)
  rw [v1, v2] at n1 n2
  have hs : 0 < 1 - s := by grind
  obtain ⟨X, hX⟩ : ∃ X, X = g * pev expL r := ⟨_, rfl⟩
  rw [← hX] at n1 n2 ⊢
  obtain ⟨w, hw⟩ : ∃ w, w = 1 / 200000000 + 4273 / 1000 * e := ⟨_, rfl⟩
  rw [← hw]
  have w0 : 0 ≤ w := by grind
  have k1 := Rat.mul_nonneg (show 0 ≤ (1 + s) - 8284 / 10000 by grind) w0
  have k2 : m * w * (1 - s) = (1 + s) * w := by grind
  constructor
  · refine le_canc hs ?_
    grind
  · refine le_canc hs ?_
    grind
/-- The second power. -/
theorem two_near {c g s r e m : Rat} (h : Turn c g) (s1 : -sB ≤ s) (s2 : s ≤ sB) (hm : m * (1 - s) = 1 + s) (r1 : -(2 / 5) ≤ r) (r2 : r ≤ 2 / 5)
    (t1 : -(2 / 5) ≤ c + 2 * pev logL s) (t2 : c + 2 * pev logL s ≤ 2 / 5) (hr : Nq r (c + 2 * pev logL s) e) : Nq (g * pev expL r) (m * m) (m * m * (1 / 150000000 + 7 * e)) := by
  have e0 : 0 ≤ e := by have := hr.1; have := hr.2; grind
  have b1 : sB = 8580 / 50000 := rfl
  have v1 : pev [1, -2, 1] s = (1 - s) * (1 - s) := by show 1 + s * (-2 + s * (1 + s * 0)) = _; grind
  have v2 : pev [1, 2, 1] s = (1 + s) * (1 + s) := by show 1 + s * (2 + s * (1 + s * 0)) = _; grind
  have hs : 0 < 1 - s := by grind
  have hs2 := Rat.mul_pos hs hs
  have q1 := Rat.mul_nonneg (show 0 ≤ 5858 / 5000 - (1 - s) by grind) (show 0 ≤ 5858 / 5000 + (1 - s) by grind)
  have q2 := Rat.mul_nonneg (show 0 ≤ (1 + s) - 8284 / 10000 by grind) (show 0 ≤ (1 + s) + 8284 / 10000 by grind)
  obtain ⟨n1, n2⟩ := gap_near (D := 5858 / 5000 * (5858 / 5000)) h.gap2 s1 s2 r1 r2 t1 t2 hr h.pos.1 h.pos.2 (by rw [v1]; constructor <;> grind)
  rw [v1, v2] at n1 n2
  obtain ⟨X, hX⟩ : ∃ X, X = g * pev expL r := ⟨_, rfl⟩
  rw [← hX] at n1 n2 ⊢
  obtain ⟨w, hw⟩ : ∃ w, w = 1 / 150000000 + 7 * e := ⟨_, rfl⟩
  rw [← hw]
  have w0 : 0 ≤ w := by grind
  obtain ⟨U, hU⟩ : ∃ U, U = (1 + s) * (1 + s) := ⟨_, rfl⟩
  obtain ⟨V, hV⟩ : ∃ V, V = (1 - s) * (1 - s) := ⟨_, rfl⟩
  have hM : m * m * V = U := by rw [hU, hV, ← hm]; grind
  rw [← hU, ← hV] at n1 n2
  rw [← hV] at hs2
  have u0 : 8284 / 10000 * (8284 / 10000) ≤ U := by rw [hU]; grind
  have k1 := Rat.mul_nonneg (show 0 ≤ U - 8284 / 10000 * (8284 / 10000) by grind) w0
  obtain ⟨M, hMM⟩ : ∃ M, M = m * m := ⟨_, rfl⟩
  rw [← hMM] at hM ⊢
  have k2 : M * w * V = U * w := by rw [← hM]; grind
  clear hU hV hMM hm hX v1 v2 q1 q2
  constructor
  · refine le_canc hs2 ?_
    grind
  · refine le_canc hs2 ?_
    grind
end Go.Proofs.Ytokmjboaeamogaa
