/- Rows that change places: counts of elements, swaps, rotations; sorted rows and what insertion and merging do. Plain Lean, over any elements with a whole number as key. No condition but what each theorem names. -/
namespace Go.Proofs.Ytkadinjhfldokaa
section
variable {α : Type}
/-- How many of the k elements from a on are so. -/
def cn0 (P : α → Bool) (q : Nat → α) (a : Nat) : Nat → Nat
  | 0 => 0
  | k + 1 => cn0 P q a k + (P (q (a + k))).toNat
theorem cn0_split (P : α → Bool) (q : Nat → α) (a k l : Nat) : cn0 P q a (k + l) = cn0 P q a k + cn0 P q (a + k) l := by
  induction l with
  | zero => rfl
  | succ l ih =>
    show cn0 P q a (k + l) + (P (q (a + (k + l)))).toNat = cn0 P q a k + (cn0 P q (a + k) l + (P (q (a + k + l))).toNat)
    rw [ih, Nat.add_assoc a k l]; omega
theorem cn0_congr {P : α → Bool} {q q' : Nat → α} {a a' k : Nat} (h : ∀ i, i < k → q (a + i) = q' (a' + i)) : cn0 P q a k = cn0 P q' a' k := by
  induction k with
  | zero => rfl
  | succ k ih =>
    show cn0 P q a k + (P (q (a + k))).toNat = cn0 P q' a' k + (P (q' (a' + k))).toNat
    rw [ih (fun i hi => h i (by omega)), h k (by omega)]
theorem cn0_le (P : α → Bool) (q : Nat → α) (a k : Nat) : cn0 P q a k ≤ k := by
  induction k with
  | zero => exact Nat.le_refl _
  | succ k ih =>
    show cn0 P q a k + (P (q (a + k))).toNat ≤ k + 1
    have : (P (q (a + k))).toNat ≤ 1 := Bool.toNat_le _
    omega
theorem cn0_all {P : α → Bool} {q : Nat → α} {a k : Nat} : cn0 P q a k = k ↔ ∀ i, i < k → P (q (a + i)) = true := by
  induction k with
  | zero => exact ⟨fun _ i hi => by omega, fun _ => rfl⟩
  | succ k ih =>
    have hl := cn0_le P q a k
    have e : cn0 P q a (k + 1) = cn0 P q a k + (P (q (a + k))).toNat := rfl
    have hb : (P (q (a + k))).toNat ≤ 1 := Bool.toNat_le _
    constructor
    · intro h i hi
      rw [e] at h
      rcases Nat.lt_or_ge i k with h1 | h1
      · exact ih.1 (by omega) i h1
      · obtain rfl : i = k := by omega
        cases hp : P (q (a + i))
        · rw [hp] at h; simp at h; omega
        · rfl
    · intro h
      rw [e, ih.2 (fun i hi => h i (by omega)), h k (by omega)]; rfl
/-- The elements from a to b have changed places among themselves. -/
structure PmR (a b : Nat) (q q' : Nat → α) : Prop where
  out : ∀ j, (j < a ∨ b ≤ j) → q' j = q j
  cn : ∀ P : α → Bool, cn0 P q' a (b - a) = cn0 P q a (b - a)
theorem PmR.refl (a b : Nat) (q : Nat → α) : PmR a b q q := ⟨fun _ _ => rfl, fun _ => rfl⟩
theorem PmR.trans {a b : Nat} {q q' q'' : Nat → α} (h : PmR a b q q') (h' : PmR a b q' q'') : PmR a b q q'' :=
  ⟨fun j hj => (h'.out j hj).trans (h.out j hj), fun P => (h'.cn P).trans (h.cn P)⟩
theorem PmR.wide {a b a' b' : Nat} {q q' : Nat → α} (h : PmR a b q q') (h1 : a' ≤ a) (h2 : a ≤ b) (h3 : b ≤ b') : PmR a' b' q q' := by
  refine ⟨fun j hj => h.out j (by omega), fun P => ?_⟩
  have e : b' - a' = (a - a') + ((b - a) + (b' - b)) := by omega
  rw [e, cn0_split, cn0_split, cn0_split, cn0_split]
  have e1 : a' + (a - a') = a := by omega
  have e2 : a + (b - a) = b := by omega
  rw [e1, e2, h.cn P, cn0_congr (q := q') (q' := q) (a := a') (a' := a') (fun i hi => h.out _ (by omega)), cn0_congr (q := q') (q' := q) (a := b) (a' := b) (fun i hi => h.out _ (by omega))]
theorem PmR.all {a b : Nat} {q q' : Nat → α} (h : PmR a b q q') {P : α → Bool} (hp : ∀ j, a ≤ j → j < b → P (q j) = true) : ∀ j, a ≤ j → j < b → P (q' j) = true := fun j h1 h2 => by
  have e := h.cn P
  rw [cn0_all.2 (fun i hi => hp (a + i) (by omega) (by omega))] at e
  have := cn0_all.1 e (j - a) (by omega)
  rwa [show a + (j - a) = j by omega] at this
/-- Two elements change places. -/
def swp (q : Nat → α) (i j : Nat) : Nat → α := fun x => if x = j then q i else if x = i then q j else q x
theorem cn0_one (P : α → Bool) (q : Nat → α) (a : Nat) : cn0 P q a 1 = (P (q a)).toNat := by
  show 0 + (P (q (a + 0))).toNat = _; rw [Nat.zero_add, Nat.add_zero]
theorem PmR.swap_lt {a b i j : Nat} (q : Nat → α) (h1 : a ≤ i) (h2 : i < j) (h3 : j < b) : PmR a b q (swp q i j) ∧ PmR a b q (swp q j i) := by
  have e : b - a = (i - a) + (1 + ((j - i - 1) + (1 + (b - j - 1)))) := by omega
  have key : ∀ q' : Nat → α, q' i = q j → q' j = q i → (∀ x, x ≠ i → x ≠ j → q' x = q x) → PmR a b q q' := fun q' k1 k2 k3 => by
    refine ⟨fun x hx => k3 x (by omega) (by omega), fun P => ?_⟩
    rw [e]
    simp only [cn0_split, cn0_one]
    have e1 : a + (i - a) = i := by omega
    have e2 : i + 1 + (j - i - 1) = j := by omega
    rw [e1, e2, k1, k2, cn0_congr (q := q') (q' := q) (a := a) (a' := a) (fun y hy => k3 _ (by omega) (by omega)), cn0_congr (q := q') (q' := q) (a := i + 1) (a' := i + 1) (fun y hy => k3 _ (by omega) (by omega)), cn0_congr (q := q') (q' := q) (a := j + 1) (a' := j + 1) (fun y hy => k3 _ (by omega) (by omega))]
    omega
  constructor
  · refine key _ ?_ ?_ ?_
    · unfold swp; rw [if_neg (by omega), if_pos rfl]
    · unfold swp; rw [if_pos rfl]
    · intro x hx hy; unfold swp; rw [if_neg hy, if_neg hx]
  · refine key _ ?_ ?_ ?_
    · unfold swp; rw [if_pos rfl]
    · unfold swp; rw [if_neg (by omega), if_pos rfl]
    · intro x hx hy; unfold swp; rw [if_neg hx, if_neg hy]
/-- The elements from a to m and those from m to b change places. -/
def rot (q : Nat → α) (a m b : Nat) : Nat → α := fun x => if a ≤ x ∧ x < a + (b - m) then q (x - a + m) else if a + (b - m) ≤ x ∧ x < b then q (x - (b - m)) else q x
theorem PmR.rot {a m b : Nat} (q : Nat → α) (h1 : a ≤ m) (h2 : m ≤ b) : PmR a b q (rot q a m b) := by
  refine ⟨fun x hx => ?_, fun P => ?_⟩
  · unfold Go.Proofs.Ytkadinjhfldokaa.rot; rw [if_neg (by omega), if_neg (by omega)]
  · have e1 : b - a = (b - m) + (m - a) := by omega
    have e2 : b - a = (m - a) + (b - m) := by omega
    rw [e1, cn0_split, ← e1, e2, cn0_split, Nat.add_comm]
    congr 1
    · refine cn0_congr fun i hi => ?_
      unfold Go.Proofs.Ytkadinjhfldokaa.rot; rw [if_neg (by omega), if_pos (by omega)]; congr 1; omega
    · refine cn0_congr fun i hi => ?_
      unfold Go.Proofs.Ytkadinjhfldokaa.rot; rw [if_pos (by omega)]; congr 1; omega
/-- Two rows of n elements change places. -/
def swr (q : Nat → α) (a b n : Nat) : Nat → α := fun x => if a ≤ x ∧ x < a + n then q (x - a + b) else if b ≤ x ∧ x < b + n then q (x - b + a) else q x
theorem swr_step (q : Nat → α) {a b n : Nat} (h : a + (n + 1) ≤ b) : swp (swr q a b n) (a + n) (b + n) = swr q a b (n + 1) := by
  funext x
  unfold swp swr
  (repeat' split) <;> first | rfl | (exfalso; omega) | (congr 1; omega)
theorem rot_big (q : Nat → α) {m i j : Nat} (hi : i ≤ m) (h : j < i) : rot (swr q (m - i) m j) (m - (i - j)) m (m + j) = rot q (m - i) m (m + j) := by
  funext x
  unfold rot swr
  (repeat' split) <;> first | rfl | (exfalso; omega) | (congr 1; omega)
theorem rot_small (q : Nat → α) {m i j : Nat} (hi : i ≤ m) (h : i < j) : rot (swr q (m - i) (m + j - i) i) (m - i) m (m + (j - i)) = rot q (m - i) m (m + j) := by
  funext x
  unfold rot swr
  (repeat' split) <;> first | rfl | (exfalso; omega) | (congr 1; omega)
theorem rot_same (q : Nat → α) {m i : Nat} (hi : i ≤ m) : swr q (m - i) m i = rot q (m - i) m (m + i) := by
  funext x
  unfold rot swr
  (repeat' split) <;> first | rfl | (exfalso; omega) | (congr 1; omega)
/-- The elements from a to b are in order. -/
def SoR (K : α → Int) (a b : Nat) (q : Nat → α) : Prop := ∀ i j, a ≤ i → i ≤ j → j < b → K (q i) ≤ K (q j)
/-- .. but for the one at j, which may be too small. -/
def InsI (K : α → Int) (a i j : Nat) (q : Nat → α) : Prop := ∀ x y, a ≤ x → x ≤ y → y ≤ i → y ≠ j → K (q x) ≤ K (q y)
theorem InsI.start {K : α → Int} {a i : Nat} {q : Nat → α} (h : SoR K a i q) : InsI K a i i q := fun x y h1 h2 h3 h4 => h x y h1 h2 (by omega)
theorem InsI.step {K : α → Int} {a i j : Nat} {q q' : Nat → α} (h : InsI K a i j q) (hj : a < j) (hji : j ≤ i) (hk : K (q j) < K (q (j - 1))) (e1 : q' j = q (j - 1)) (e2 : q' (j - 1) = q j) (e3 : ∀ x, x ≠ j → x ≠ j - 1 → q' x = q x) : InsI K a i (j - 1) q' := fun x y h1 h2 h3 h4 => by
  by_cases hy : y = j
  · rw [hy, e1]
    by_cases hx : x = j
    · rw [hx, e1]; exact Int.le_refl _
    · by_cases hx2 : x = j - 1
      · rw [hx2, e2]; omega
      · rw [e3 x hx hx2]; exact h x (j - 1) h1 (by omega) (by omega) (by omega)
  · rw [e3 y hy h4]
    by_cases hx : x = j
    · rw [hx, e1]; exact h (j - 1) y (by omega) (by omega) h3 hy
    · by_cases hx2 : x = j - 1
      · rw [hx2, e2]; exact h j y (by omega) (by omega) h3 hy
      · rw [e3 x hx hx2]; exact h x y h1 h2 h3 hy
theorem InsI.done {K : α → Int} {a i j : Nat} {q : Nat → α} (h : InsI K a i j q) (haj : a ≤ j) (hd : j = a ∨ ¬ K (q j) < K (q (j - 1))) : SoR K a (i + 1) q := fun x y h1 h2 h3 => by
  by_cases hy : y = j
  · subst hy
    by_cases hx : x = y
    · rw [hx]; exact Int.le_refl _
    · rcases hd with hd | hd
      · omega
      · have := h x (y - 1) h1 (by omega) (by omega) (by omega)
        omega
  · exact h x y h1 h2 (by omega) hy
/-- The first element moved behind those up to i: its place is k so far. -/
def shl (q : Nat → α) (a k : Nat) : Nat → α := fun x => if x = k then q a else if a ≤ x ∧ x < k then q (x + 1) else q x
def shr (q : Nat → α) (m k : Nat) : Nat → α := fun x => if x = k then q m else if k < x ∧ x ≤ m then q (x - 1) else q x
theorem shl_zero (q : Nat → α) (a : Nat) : shl q a a = q := by
  funext x; unfold shl; (repeat' split) <;> first | rfl | (exfalso; omega) | (congr 1; omega)
theorem shr_zero (q : Nat → α) (m : Nat) : shr q m m = q := by
  funext x; unfold shr; (repeat' split) <;> first | rfl | (exfalso; omega) | (congr 1; omega)
theorem shl_next (q : Nat → α) {a k : Nat} (h : a ≤ k) : swp (shl q a k) k (k + 1) = shl q a (k + 1) ∧ swp (shl q a k) (k + 1) k = shl q a (k + 1) := by
  constructor <;> (funext x; unfold swp shl; (repeat' split) <;> first | rfl | (exfalso; omega) | (congr 1; omega))
theorem shr_next (q : Nat → α) {m k : Nat} (h : k < m) : swp (shr q m (k + 1)) k (k + 1) = shr q m k ∧ swp (shr q m (k + 1)) (k + 1) k = shr q m k := by
  constructor <;> (funext x; unfold swp shr; (repeat' split) <;> first | rfl | (exfalso; omega) | (congr 1; omega))
theorem PmR.shl {a k b : Nat} (q : Nat → α) (h1 : a ≤ k) (h2 : k < b) : PmR a b q (shl q a k) := by
  induction k with
  | zero => obtain rfl : a = 0 := by omega
            rw [shl_zero]; exact PmR.refl _ _ _
  | succ k ih =>
    rcases Nat.lt_or_ge k a with h | h
    · obtain rfl : a = k + 1 := by omega
      rw [shl_zero]; exact PmR.refl _ _ _
    · refine (ih h (by omega)).trans ?_
      rw [← (shl_next q h).1]
      exact (PmR.swap_lt _ h (by omega) h2).1
theorem PmR.shr {a k m b : Nat} (q : Nat → α) (h0 : a ≤ k) (h1 : k ≤ m) (h2 : m < b) : PmR a b q (shr q m k) := by
  obtain ⟨d, rfl⟩ : ∃ d, m = k + d := ⟨m - k, by omega⟩
  induction d generalizing k with
  | zero => rw [Nat.add_zero, shr_zero]; exact PmR.refl _ _ _
  | succ d ih =>
    have h := ih (k := k + 1) (by omega) (by omega) (by omega)
    rw [show k + 1 + d = k + (d + 1) by omega] at h
    refine h.trans ?_
    rw [← (shr_next q (m := k + (d + 1)) (k := k) (by omega)).1]
    exact (PmR.swap_lt _ h0 (by omega) (by omega)).1
/-- One element ahead of a row in order. -/
theorem SoR.shl {K : α → Int} {a i b : Nat} {q : Nat → α} (h : SoR K (a + 1) b q) (h1 : a + 1 ≤ i) (h2 : i ≤ b) (h3 : ∀ x, a + 1 ≤ x → x < i → K (q x) < K (q a)) (h4 : ∀ x, i ≤ x → x < b → ¬ K (q x) < K (q a)) : SoR K a b (shl q a (i - 1)) := fun x y k1 k2 k3 => by
  have e : ∀ z, a ≤ z → (Go.Proofs.Ytkadinjhfldokaa.shl q a (i - 1) z = if z = i - 1 then q a else if z < i - 1 then q (z + 1) else q z) := fun z hz => by
    unfold Go.Proofs.Ytkadinjhfldokaa.shl; (repeat' split) <;> first | rfl | (exfalso; omega)
  rw [e x k1, e y (by omega)]
  by_cases y1 : y = i - 1
  · rw [if_pos y1]
    by_cases x1 : x = i - 1
    · rw [if_pos x1]; exact Int.le_refl _
    · rw [if_neg x1, if_pos (by omega)]; exact Int.le_of_lt (h3 _ (by omega) (by omega))
  · rw [if_neg y1]
    by_cases y2 : y < i - 1
    · rw [if_pos y2, if_neg (by omega), if_pos (by omega)]; exact h _ _ (by omega) (by omega) (by omega)
    · rw [if_neg y2]
      by_cases x1 : x = i - 1
      · rw [if_pos x1]; exact Int.not_lt.1 (h4 _ (by omega) k3)
      · rw [if_neg x1]
        by_cases x2 : x < i - 1
        · rw [if_pos x2]; exact h _ _ (by omega) (by omega) k3
        · rw [if_neg x2]; exact h _ _ (by omega) k2 k3
/-- One element behind a row in order. -/
theorem SoR.shr {K : α → Int} {a i m : Nat} {q : Nat → α} (h : SoR K a m q) (h1 : a ≤ i) (h2 : i ≤ m) (h3 : ∀ x, a ≤ x → x < i → ¬ K (q m) < K (q x)) (h4 : ∀ x, i ≤ x → x < m → K (q m) < K (q x)) : SoR K a (m + 1) (shr q m i) := fun x y k1 k2 k3 => by
  have e : ∀ z, z ≤ m → (Go.Proofs.Ytkadinjhfldokaa.shr q m i z = if z = i then q m else if i < z then q (z - 1) else q z) := fun z hz => by
    unfold Go.Proofs.Ytkadinjhfldokaa.shr; (repeat' split) <;> first | rfl | (exfalso; omega)
  rw [e x (by omega), e y (by omega)]
  by_cases y1 : y = i
  · rw [if_pos y1]
    by_cases x1 : x = i
    · rw [if_pos x1]; exact Int.le_refl _
    · rw [if_neg x1, if_neg (by omega)]; exact Int.not_lt.1 (h3 _ k1 (by omega))
  · rw [if_neg y1]
    by_cases y2 : i < y
    · rw [if_pos y2]
      by_cases x1 : x = i
      · rw [if_pos x1]; exact Int.le_of_lt (h4 _ (by omega) (by omega))
      · rw [if_neg x1]
        by_cases x2 : i < x
        · rw [if_pos x2]; exact h _ _ (by omega) (by omega) (by omega)
        · rw [if_neg x2]; exact h _ _ k1 (by omega) (by omega)
    · rw [if_neg y2, if_neg (by omega), if_neg (by omega)]; exact h _ _ k1 k2 (by omega)
/-- Both halves in order, and none of the first above one of the second. -/
theorem SoR.join {K : α → Int} {a c b : Nat} {q : Nat → α} (h1 : SoR K a c q) (h2 : SoR K c b q) (h : ∀ x y, a ≤ x → x < c → c ≤ y → y < b → K (q x) ≤ K (q y)) : SoR K a b q := fun x y k1 k2 k3 => by
  by_cases hy : y < c
  · exact h1 x y k1 k2 hy
  · by_cases hx : x < c
    · exact h x y k1 hx (by omega) k3
    · exact h2 x y (by omega) k2 k3
end
end Go.Proofs.Ytkadinjhfldokaa
