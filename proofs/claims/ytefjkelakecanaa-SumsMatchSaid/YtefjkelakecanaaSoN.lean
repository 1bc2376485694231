/- The middle of a row by counting: the element that has half of the others ahead of it is the middle of the row in order. Plain Lean. Conditions: those named. -/
import Derived.Test.YtefjkelakecanaaSoQ
namespace Go.Proofs.Ytefjkelakecanaa
section
variable {α : Type}
/-- How many of the first elements lie ahead of element i. -/
def moN (K : α → Int) (f : Nat → α) (i : Nat) : Nat → Nat
  | 0 => 0
  | j + 1 => moN K f i j + (if K (f j) < K (f i) ∨ (K (f j) = K (f i) ∧ j < i) then 1 else 0)
theorem moN_eq (K : α → Int) (f : Nat → α) (i n : Nat) : moN K f i n = cn0 (fun v => decide (K v < K (f i))) f 0 n + cn0 (fun v => decide (K v = K (f i))) f 0 (min i n) := by
  induction n with
  | zero => simp [moN, cn0]
  | succ n ih =>
    show moN K f i n + (if K (f n) < K (f i) ∨ (K (f n) = K (f i) ∧ n < i) then 1 else 0) = cn0 _ f 0 n + (decide (K (f (0 + n)) < K (f i))).toNat + _
    rw [ih, Nat.zero_add]
    by_cases h1 : K (f n) < K (f i)
    · rw [if_pos (.inl h1), decide_eq_true h1]
      have h2 : cn0 (fun v => decide (K v = K (f i))) f 0 (min i (n + 1)) = cn0 (fun v => decide (K v = K (f i))) f 0 (min i n) := by
        rcases Nat.lt_or_ge n i with h | h
        · rw [Nat.min_eq_right (by omega), Nat.min_eq_right (by omega)]
          show cn0 _ f 0 n + (decide (K (f (0 + n)) = K (f i))).toNat = _
          rw [Nat.zero_add, decide_eq_false (by omega)]; rfl
        · rw [Nat.min_eq_left h, Nat.min_eq_left (by omega)]
      rw [h2]
      show _ + _ + 1 = _ + 1 + _
      omega
    · rw [decide_eq_false h1]
      by_cases h3 : K (f n) = K (f i) ∧ n < i
      · rw [if_pos (.inr h3), Nat.min_eq_right (by omega), Nat.min_eq_right (by omega)]
        show _ + _ + 1 = _ + 0 + (cn0 _ f 0 n + (decide (K (f (0 + n)) = K (f i))).toNat)
        rw [Nat.zero_add, decide_eq_true h3.1]
        show _ + _ + 1 = _ + 0 + (_ + 1)
        omega
      · rw [if_neg (by rintro (h | h) <;> contradiction)]
        have h2 : cn0 (fun v => decide (K v = K (f i))) f 0 (min i (n + 1)) = cn0 (fun v => decide (K v = K (f i))) f 0 (min i n) := by
          rcases Nat.lt_or_ge n i with h | h
          · rw [Nat.min_eq_right (by omega), Nat.min_eq_right (by omega)]
            show cn0 _ f 0 n + (decide (K (f (0 + n)) = K (f i))).toNat = _
            rw [Nat.zero_add, decide_eq_false (fun e => h3 ⟨e, h⟩)]; rfl
          · rw [Nat.min_eq_left h, Nat.min_eq_left (by omega)]
        rw [h2]; rfl
theorem cn0_none {P : α → Bool} {q : Nat → α} {a k : Nat} (h : ∀ i, i < k → P (q (a + i)) = false) : cn0 P q a k = 0 := by
  induction k with
  | zero => rfl
  | succ k ih =>
    show cn0 P q a k + (P (q (a + k))).toNat = 0
    rw [ih (fun i hi => h i (by omega)), h k (by omega)]; rfl
theorem cn0_lt {P : α → Bool} {q : Nat → α} {i n : Nat} (hi : i < n) (h : P (q i) = true) : cn0 P q 0 i < cn0 P q 0 n := by
  have e : n = i + (1 + (n - i - 1)) := by omega
  rw [e, cn0_split, cn0_split, cn0_one, Nat.zero_add, h]
  show _ < _ + (1 + _)
  omega
theorem cn0_sum (K : α → Int) (q : Nat → α) (r : Int) (n : Nat) : cn0 (fun v => decide (K v ≤ r)) q 0 n = cn0 (fun v => decide (K v < r)) q 0 n + cn0 (fun v => decide (K v = r)) q 0 n := by
  induction n with
  | zero => rfl
  | succ n ih =>
    show cn0 _ q 0 n + (decide (K (q (0 + n)) ≤ r)).toNat = cn0 _ q 0 n + (decide (K (q (0 + n)) < r)).toNat + (cn0 _ q 0 n + (decide (K (q (0 + n)) = r)).toNat)
    rw [ih, Nat.zero_add]
    rcases Int.lt_trichotomy (K (q n)) r with h | h | h
    · rw [decide_eq_true (Int.le_of_lt h), decide_eq_true h, decide_eq_false (by omega)]
      show _ + _ + 1 = _ + 1 + (_ + 0); omega
    · rw [decide_eq_true (Int.le_of_eq h), decide_eq_false (by omega), decide_eq_true h]
      show _ + _ + 1 = _ + 0 + (_ + 1); omega
    · rw [decide_eq_false (by omega), decide_eq_false (by omega), decide_eq_false (by omega)]
      show _ + _ + 0 = _ + 0 + (_ + 0); omega
/-- In a row in order: fewer than m + 1 elements are below the one at m, more than m are not above it; and it is the only key so. -/
theorem mid_key {K : α → Int} {q : Nat → α} {m n : Nat} {r : Int} (so : SoR K 0 n q) (hm : m < n) (h1 : cn0 (fun v => decide (K v < r)) q 0 n ≤ m) (h2 : m < cn0 (fun v => decide (K v ≤ r)) q 0 n) : K (q m) = r := by
  have e : n = (m + 1) + (n - m - 1) := by omega
  have e' : n = m + (n - m) := by omega
  rcases Int.lt_trichotomy (K (q m)) r with h | h | h
  · exfalso
    have a : cn0 (fun v => decide (K v < r)) q 0 (m + 1) = m + 1 := cn0_all.2 (fun i hi => by
      rw [decide_eq_true_eq, Nat.zero_add]
      have := so i m (by omega) (by omega) hm
      omega)
    rw [e, cn0_split] at h1
    omega
  · exact h
  · exfalso
    have a : cn0 (fun v => decide (K v ≤ r)) q (0 + m) (n - m) = 0 := cn0_none (fun i hi => by
      rw [decide_eq_false_iff_not]
      have := so m (0 + m + i) (by omega) (by omega) (by omega)
      omega)
    rw [e', cn0_split, a] at h2
    have := cn0_le (fun v => decide (K v ≤ r)) q 0 m
    omega
/-- Whoever has m elements ahead of it has the key of the middle. -/
theorem mid_found {K : α → Int} {f q : Nat → α} {m n i : Nat} (p : PmR 0 n f q) (so : SoR K 0 n q) (hi : i < n) (h : moN K f i n = m) : m < n ∧ K (q m) = K (f i) := by
  rw [moN_eq, Nat.min_eq_left (by omega)] at h
  have l1 := cn0_lt (P := fun v => decide (K v = K (f i))) (q := f) hi (by simp)
  have l2 := cn0_sum K f (K (f i)) n
  have c1 := p.cn (fun v => decide (K v < K (f i)))
  have c2 := p.cn (fun v => decide (K v ≤ K (f i)))
  rw [Nat.sub_zero] at c1 c2
  have l3 := cn0_le (fun v => decide (K v ≤ K (f i))) f 0 n
  have hm : m < n := by omega
  exact ⟨hm, mid_key so hm (by omega) (by omega)⟩
/-- Somebody has. -/
theorem mid_some {K : α → Int} {f q : Nat → α} {m n : Nat} (p : PmR 0 n f q) (so : SoR K 0 n q) (hm : m < n) : ∃ i, i < n ∧ moN K f i n = m := by
  obtain ⟨r, hr⟩ : ∃ r, r = K (q m) := ⟨_, rfl⟩
  have a1 : cn0 (fun v => decide (K v < r)) q 0 n ≤ m := by
    have e : n = m + (n - m) := by omega
    rw [e, cn0_split, cn0_none (a := 0 + m) (fun i hi => by
      rw [decide_eq_false_iff_not]
      have := so m (0 + m + i) (by omega) (by omega) (by omega)
      omega)]
    have := cn0_le (fun v => decide (K v < r)) q 0 m
    omega
  have a2 : m < cn0 (fun v => decide (K v ≤ r)) q 0 n := by
    have e : n = (m + 1) + (n - m - 1) := by omega
    have a : cn0 (fun v => decide (K v ≤ r)) q 0 (m + 1) = m + 1 := cn0_all.2 (fun i (hi : i < m + 1) => (by
      rw [decide_eq_true_eq, Nat.zero_add]
      have := so i m (by omega) (by omega) hm
      omega))
    rw [e, cn0_split, a]; omega
  have c1 := p.cn (fun v => decide (K v < r))
  have c2 := p.cn (fun v => decide (K v ≤ r))
  rw [Nat.sub_zero] at c1 c2
  have s := cn0_sum K f r n
  obtain ⟨d, hd⟩ : ∃ d, d = m - cn0 (fun v => decide (K v < r)) f 0 n := ⟨_, rfl⟩
  have hdn : d < cn0 (fun v => decide (K v = r)) f 0 n := by omega
  -- the element of that key with d of its key ahead of it
  have key : ∀ k, d < cn0 (fun v => decide (K v = r)) f 0 k → ∃ i, i < k ∧ K (f i) = r ∧ cn0 (fun v => decide (K v = r)) f 0 i = d := by
    intro k
    induction k with
    | zero => intro h; exact absurd h (Nat.not_lt_zero _)
    | succ k ih =>
      intro h
      by_cases h1 : d < cn0 (fun v => decide (K v = r)) f 0 k
      · obtain ⟨i, i1, i2⟩ := ih h1
        exact ⟨i, by omega, i2⟩
      · have h2 : d < cn0 (fun v => decide (K v = r)) f 0 k + (decide (K (f (0 + k)) = r)).toNat := h
        rw [Nat.zero_add] at h2
        cases hb : decide (K (f k) = r)
        · rw [hb] at h2
          have : d < cn0 (fun v => decide (K v = r)) f 0 k + 0 := h2
          omega
        · rw [hb] at h2
          have : d < cn0 (fun v => decide (K v = r)) f 0 k + 1 := h2
          exact ⟨k, by omega, by simpa using hb, by omega⟩
  obtain ⟨i, i1, i2, i3⟩ := key n hdn
  refine ⟨i, i1, ?_⟩
  rw [moN_eq, Nat.min_eq_left (by omega), i2, i3]
  omega
end
end Go.Proofs.Ytefjkelakecanaa
