/- Small floats in natural numbers: the numbers of the codes, one by one. Plain Lean. Conditions: those named. -/
import Derived.Test.YtefjkelakecanaaMnB
namespace Go.Proofs.Ytefjkelakecanaa
/-- The number of a code, times 2 ^ (B + F - 1). -/
def svN (F k : Nat) : Nat := if k / 2 ^ F = 0 then k % 2 ^ F else (2 ^ F + k % 2 ^ F) * 2 ^ (k / 2 ^ F - 1)
theorem svN_succ (F k : Nat) : svN F (k + 1) = svN F k + 2 ^ (k / 2 ^ F - 1) := by
  have f0 : 0 < 2 ^ F := Nat.pow_pos (by decide)
  have hm := Nat.mod_lt k f0
  have hk := Nat.div_add_mod k (2 ^ F)
  unfold svN
  generalize (2 : Nat) ^ F = N at *
  obtain ⟨e, he⟩ : ∃ e, e = k / N := ⟨_, rfl⟩
  obtain ⟨m, hm'⟩ : ∃ m, m = k % N := ⟨_, rfl⟩
  rw [← he, ← hm'] at hk ⊢
  rw [← hm'] at hm
  by_cases h : m + 1 < N
  · have d : (k + 1) / N = e := by
      rw [← hk, Nat.add_assoc, Nat.mul_add_div f0, Nat.div_eq_of_lt h, Nat.add_zero]
    have r : (k + 1) % N = m + 1 := by
      rw [← hk, Nat.add_assoc, Nat.mul_add_mod, Nat.mod_eq_of_lt h]
    rw [d, r]
    by_cases h0 : e = 0
    · rw [if_pos h0, if_pos h0, h0]
    · rw [if_neg h0, if_neg h0, ← Nat.add_assoc, Nat.add_mul (N + m) 1, Nat.one_mul]
  · have hm2 : m + 1 = N := by omega
    have hk1 : k + 1 = N * (e + 1) := by rw [Nat.mul_add, ← hk]; omega
    have d : (k + 1) / N = e + 1 := by rw [hk1, Nat.mul_div_cancel_left _ f0]
    have r : (k + 1) % N = 0 := by rw [hk1, Nat.mul_mod_right]
    rw [d, r, if_neg (by omega), Nat.add_zero, Nat.add_sub_cancel]
    by_cases h0 : e = 0
    · rw [if_pos h0, h0]; simp; omega
    · rw [if_neg h0]
      obtain ⟨j, rfl⟩ : ∃ j, e = j + 1 := ⟨e - 1, by omega⟩
      rw [Nat.add_sub_cancel, ← Nat.succ_mul]
      show N * 2 ^ (j + 1) = (N + m + 1) * 2 ^ j
      rw [Nat.add_assoc, hm2, Nat.pow_succ, ← Nat.two_mul, Nat.mul_comm (2 ^ j) 2, ← Nat.mul_assoc, Nat.mul_comm N 2]
theorem svN_lt {F : Nat} {a b : Nat} (h : a < b) : svN F a < svN F b := by
  induction b with
  | zero => omega
  | succ b ih =>
    have hp : 0 < 2 ^ (b / 2 ^ F - 1) := Nat.pow_pos (by decide)
    rw [svN_succ]
    rcases Nat.lt_or_ge a b with h1 | h1
    · have := ih h1; omega
    · obtain rfl : a = b := by omega
      omega
theorem svN_zero (F : Nat) : svN F 0 = 0 := by unfold svN; simp
theorem svQ_N (X F k : Nat) : svQ X F k = (svN F k : Rat) * (2 : Rat) ^ ((1 : Int) - (2 ^ (X - 1) - 1) - F) := by
  unfold svQ svN svI svP
  by_cases h : k / 2 ^ F = 0
  · rw [if_pos h, if_pos h, if_pos h]
  · rw [if_neg h, if_neg h, if_neg h]
    generalize k / 2 ^ F = e at *
    obtain ⟨j, rfl⟩ : ∃ j, e = j + 1 := ⟨e - 1, by omega⟩
    rw [Nat.add_sub_cancel, show ((j + 1 : Nat) : Int) - (2 ^ (X - 1) - 1) - F = (j : Int) + ((1 : Int) - (2 ^ (X - 1) - 1) - F) by push_cast; omega, zp_add, zp_nat, Rat.natCast_mul, Rat.mul_assoc]
theorem svN_code {F j n : Nat} (h : j = 0 ∨ 2 ^ F ≤ n) (hn : n ≤ 2 ^ (F + 1)) : svN F (j * 2 ^ F + n) = n * 2 ^ j := by
  have f0 : 0 < 2 ^ F := Nat.pow_pos (by decide)
  rw [Nat.pow_succ] at hn
  unfold svN
  generalize (2 : Nat) ^ F = N at *
  rcases Nat.lt_or_ge n N with h1 | h1
  · obtain rfl : j = 0 := by omega
    rw [Nat.zero_mul, Nat.zero_add, Nat.div_eq_of_lt h1, if_pos rfl, Nat.mod_eq_of_lt h1, Nat.pow_zero, Nat.mul_one]
  · rcases Nat.lt_or_ge n (N * 2) with h2 | h2
    · have e1 : j * N + n = N * (j + 1) + (n - N) := by rw [Nat.mul_add, Nat.mul_comm N j]; omega
      rw [e1, Nat.mul_add_div f0, Nat.div_eq_of_lt (by omega), Nat.mul_add_mod, Nat.mod_eq_of_lt (by omega), if_neg (by omega)]
      rw [show N + (n - N) = n by omega, show j + 1 + 0 - 1 = j by omega]
    · have e1 : j * N + n = N * (j + 2) := by rw [Nat.mul_add, Nat.mul_comm N j]; omega
      rw [e1, Nat.mul_div_cancel_left _ f0, Nat.mul_mod_right, if_neg (by omega), Nat.add_zero, show j + 2 - 1 = j + 1 by omega, Nat.pow_succ, show n = N * 2 by omega]
      rw [Nat.mul_assoc, Nat.mul_comm 2 (2 ^ j)]
/-- The code next to A, to the even one of two. -/
def nearK (F : Nat) (A : Rat) (k : Nat) : Prop :=
  ∃ low, (svN F low : Rat) ≤ A ∧ A < (svN F (low + 1) : Rat) ∧
    ((k = low + 1 ∧ ((svN F (low + 1) : Rat) - A < A - (svN F low : Rat) ∨ ((svN F (low + 1) : Rat) - A = A - (svN F low : Rat) ∧ low % 2 = 1))) ∨
     (k = low ∧ ¬ ((svN F (low + 1) : Rat) - A < A - (svN F low : Rat) ∨ ((svN F (low + 1) : Rat) - A = A - (svN F low : Rat) ∧ low % 2 = 1))))
theorem low_one {F : Nat} {A : Rat} {a b : Nat} (h1 : (svN F a : Rat) ≤ A) (h2 : A < (svN F (a + 1) : Rat)) (h3 : (svN F b : Rat) ≤ A) (h4 : A < (svN F (b + 1) : Rat)) : a = b := by
  have key : ∀ x y, (svN F x : Rat) ≤ A → A < (svN F (y + 1) : Rat) → x ≤ y := fun x y hx hy => by
    have h : (svN F x : Rat) < (svN F (y + 1) : Rat) := by grind
    have h' : svN F x < svN F (y + 1) := by exact_mod_cast h
    rcases Nat.lt_or_ge y x with h5 | h5
    · rcases Nat.lt_or_ge (y + 1) x with h6 | h6
      · have := svN_lt (F := F) h6; omega
      · obtain rfl : x = y + 1 := by omega
        omega
    · exact h5
  have := key a b h1 h4
  have := key b a h3 h2
  omega
theorem nearK_one {F : Nat} {A : Rat} {a b : Nat} (ha : nearK F A a) (hb : nearK F A b) : a = b := by
  obtain ⟨l, h1, h2, h⟩ := ha
  obtain ⟨m, h3, h4, h'⟩ := hb
  obtain rfl := low_one h1 h2 h3 h4
  rcases h with ⟨rfl, h⟩ | ⟨rfl, h⟩ <;> rcases h' with ⟨rfl, h'⟩ | ⟨rfl, h'⟩
  · rfl
  · exact absurd h h'
  · exact absurd h' h
  · rfl
theorem nat_floor {t : Rat} (h0 : 0 ≤ t) (N : Nat) (h : t < (N : Rat)) : ∃ q : Nat, (q : Rat) ≤ t ∧ t < ((q + 1 : Nat) : Rat) := by
  induction N with
  | zero => exfalso; simp at h; grind
  | succ N ih =>
    by_cases h1 : t < (N : Rat)
    · exact ih h1
    · exact ⟨N, by grind, h⟩
theorem near_of_even {F j n : Nat} {t : Rat} (hF : 1 ≤ F) (h0 : 0 ≤ t) (hj : j = 0 ∨ ((2 ^ F : Nat) : Rat) ≤ t) (ht : t < ((2 ^ (F + 1) : Nat) : Rat)) (h1 : 2 * (n : Rat) ≤ 2 * t + 1) (h2 : 2 * t ≤ 2 * (n : Rat) + 1)
    (h3 : 2 * (n : Rat) = 2 * t + 1 ∨ 2 * t = 2 * (n : Rat) + 1 → n % 2 = 0) : nearK F (t * ((2 ^ j : Nat) : Rat)) (j * 2 ^ F + n) := by
  obtain ⟨q, q1, q2⟩ := nat_floor h0 _ ht
  have hq : q < 2 ^ (F + 1) := by
    have : (q : Rat) < ((2 ^ (F + 1) : Nat) : Rat) := by grind
    exact_mod_cast this
  have hqj : j = 0 ∨ 2 ^ F ≤ q := by
    rcases hj with h | h
    · exact .inl h
    · right
      have h5 : ((2 ^ F : Nat) : Rat) < ((q + 1 : Nat) : Rat) := by grind
      have h6 : 2 ^ F < q + 1 := by exact_mod_cast h5
      omega
  have hqj2 : j = 0 ∨ 2 ^ F ≤ q + 1 := by omega
  have e1 := svN_code hqj (Nat.le_of_lt hq)
  have e2 := svN_code hqj2 (show q + 1 ≤ 2 ^ (F + 1) by omega)
  rw [← Nat.add_assoc] at e2
  have par : (j * 2 ^ F + q) % 2 = q % 2 := by
    obtain ⟨f, rfl⟩ : ∃ f, F = f + 1 := ⟨F - 1, by omega⟩
    rw [Nat.pow_succ, ← Nat.mul_assoc]; omega
  have hnq : n = q ∨ n = q + 1 := by
    have c : ((q + 1 : Nat) : Rat) = (q : Rat) + 1 := by push_cast; rfl
    rw [c] at q2
    have a1 : (n : Rat) < ((q + 2 : Nat) : Rat) := by
      have c2 : ((q + 2 : Nat) : Rat) = (q : Rat) + 2 := by push_cast; rfl
      rw [c2]; grind
    have a2 : (q : Rat) < ((n + 1 : Nat) : Rat) := by
      have c2 : ((n + 1 : Nat) : Rat) = (n : Rat) + 1 := by push_cast; rfl
      rw [c2]; grind
    have a1' : n < q + 2 := by exact_mod_cast a1
    have a2' : q < n + 1 := by exact_mod_cast a2
    omega
  have c : ((q + 1 : Nat) : Rat) = (q : Rat) + 1 := by push_cast; rfl
  have P0 : (0 : Rat) < ((2 ^ j : Nat) : Rat) := by
    have : 0 < 2 ^ j := Nat.pow_pos (by decide)
    exact_mod_cast this
  refine ⟨j * 2 ^ F + q, ?_, ?_, ?_⟩
  · rw [e1, Rat.natCast_mul]; exact Rat.mul_le_mul_of_nonneg_right q1 (Rat.le_of_lt P0)
  · rw [e2, Rat.natCast_mul]; exact Rat.mul_lt_mul_of_pos_right q2 P0
  · rw [e1, e2, par, Rat.natCast_mul, Rat.natCast_mul, c]
    rw [c] at q2
    generalize ((2 ^ j : Nat) : Rat) = P at *
    have k1 : ((q : Rat) + 1) * P - t * P < t * P - (q : Rat) * P ↔ (q : Rat) + 1 - t < t - q := by
      rw [show ((q : Rat) + 1) * P - t * P = ((q : Rat) + 1 - t) * P by grind, show t * P - (q : Rat) * P = (t - q) * P by grind]
      exact Rat.mul_lt_mul_right P0
    have k2 : ((q : Rat) + 1) * P - t * P = t * P - (q : Rat) * P ↔ (q : Rat) + 1 - t = t - q := by
      rw [show ((q : Rat) + 1) * P - t * P = ((q : Rat) + 1 - t) * P by grind, show t * P - (q : Rat) * P = (t - q) * P by grind]
      exact ⟨fun h => rat_cancel P0 h, fun h => by rw [h]⟩
    rw [k1, k2]
    rcases hnq with rfl | rfl
    · right
      refine ⟨rfl, ?_⟩
      rintro (h | ⟨h, h'⟩)
      · grind
      · have := h3 (.inr (by grind)); omega
    · left
      refine ⟨by omega, ?_⟩
      rw [c] at h1 h2 h3
      by_cases h : (q : Rat) + 1 - t < t - q
      · exact .inl h
      · right
        have h5 : (q : Rat) + 1 - t = t - q := by grind
        refine ⟨h5, ?_⟩
        have := h3 (.inl (by grind)); omega
end Go.Proofs.Ytefjkelakecanaa
