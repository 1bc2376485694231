/- Work on machines, in plain words: what holds of the runs in order. Plain Lean. Conditions: what is given is right. -/
import Derived.Test.YtkadinjhfldokaaSiI
import Derived.Test.YtkadinjhfldokaaSiS
namespace Go.Proofs.Ytkadinjhfldokaa
section
variable {α : Type}
theorem cn0_pos {P : α → Bool} {q : Nat → α} {k : Nat} : 0 < cn0 P q 0 k ↔ ∃ i, i < k ∧ P (q i) = true := by
  induction k with
  | zero => exact ⟨fun h => absurd h (Nat.lt_irrefl _), fun ⟨i, h, _⟩ => by omega⟩
  | succ k ih =>
    have e : cn0 P q 0 (k + 1) = cn0 P q 0 k + (P (q (0 + k))).toNat := rfl
    rw [Nat.zero_add] at e
    constructor
    · intro h
      cases hp : P (q k) with
      | true => exact ⟨k, by omega, hp⟩
      | false =>
        rw [e, hp] at h
        obtain ⟨i, h1, h2⟩ := ih.1 h
        exact ⟨i, by omega, h2⟩
    · rintro ⟨i, h1, h2⟩
      rw [e]
      rcases Nat.lt_or_ge i k with h3 | h3
      · have := ih.2 ⟨i, h3, h2⟩; omega
      · obtain rfl : i = k := by omega
        rw [h2]; show 0 < _ + 1; omega
theorem cn0_two {P : α → Bool} {q : Nat → α} {k : Nat} : 1 < cn0 P q 0 k ↔ ∃ i j, i < j ∧ j < k ∧ P (q i) = true ∧ P (q j) = true := by
  induction k with
  | zero => exact ⟨fun h => (by cases h), fun ⟨i, j, _, h, _⟩ => by omega⟩
  | succ k ih =>
    have e : cn0 P q 0 (k + 1) = cn0 P q 0 k + (P (q (0 + k))).toNat := rfl
    rw [Nat.zero_add] at e
    constructor
    · intro h
      cases hp : P (q k) with
      | true =>
        rw [e, hp] at h
        have h' : 0 < cn0 P q 0 k := by have : (true).toNat = 1 := rfl; omega
        obtain ⟨i, h1, h2⟩ := cn0_pos.1 h'
        exact ⟨i, k, h1, by omega, h2, hp⟩
      | false =>
        rw [e, hp] at h
        obtain ⟨i, j, h1, h2, h3⟩ := ih.1 h
        exact ⟨i, j, h1, by omega, h3⟩
    · rintro ⟨i, j, h1, h2, h3, h4⟩
      rw [e]
      rcases Nat.lt_or_ge j k with h5 | h5
      · have := ih.2 ⟨i, j, h1, h5, h3, h4⟩; omega
      · obtain rfl : j = k := by omega
        have := cn0_pos.2 ⟨i, h1, h3⟩
        rw [h4]; show 1 < _ + 1; omega
theorem PmR.ex {k : Nat} {q q' : Nat → α} (h : PmR 0 k q q') {i : Nat} (hi : i < k) : ∃ j, j < k ∧ q' j = q i := by
  classical
  have h1 := h.cn (fun z => decide (z = q i))
  rw [Nat.sub_zero] at h1
  have h2 : 0 < cn0 (fun z => decide (z = q i)) q 0 k := cn0_pos.2 ⟨i, hi, by simp⟩
  rw [← h1] at h2
  obtain ⟨j, h3, h4⟩ := cn0_pos.1 h2
  exact ⟨j, h3, by simpa using h4⟩
theorem PmR.symm {k : Nat} {q q' : Nat → α} (h : PmR 0 k q q') : PmR 0 k q' q := ⟨fun j hj => (h.out j hj).symm, fun P => (h.cn P).symm⟩
theorem PmR.two {k : Nat} {q q' : Nat → α} (h : PmR 0 k q q') {i j : Nat} (hi : i < k) (hj : j < k) (hij : i ≠ j) : ∃ a b, a < k ∧ b < k ∧ a ≠ b ∧ q a = q' i ∧ q b = q' j := by
  classical
  by_cases e : q' i = q' j
  · have h1 := h.cn (fun z => decide (z = q' i))
    rw [Nat.sub_zero] at h1
    have h2 : 1 < cn0 (fun z => decide (z = q' i)) q' 0 k := by
      rcases Nat.lt_or_ge i j with h3 | h3
      · exact cn0_two.2 ⟨i, j, h3, hj, by simp, by simp [e]⟩
      · exact cn0_two.2 ⟨j, i, by omega, hi, by simp [e], by simp⟩
    rw [h1] at h2
    obtain ⟨a, b, h3, h4, h5, h6⟩ := cn0_two.1 h2
    exact ⟨a, b, by omega, h4, by omega, by simpa using h5, by rw [← e]; simpa using h6⟩
  · obtain ⟨a, h1, h2⟩ := h.symm.ex hi
    obtain ⟨b, h3, h4⟩ := h.symm.ex hj
    exact ⟨a, b, h1, h3, fun hab => e (by rw [← h2, ← h4, hab]), h2, h4⟩
end
/-- What the statement asks of the runs. -/
structure TwR (D : SimD) (k : Nat) (q : Nat → RunV) : Prop where
  a : ∀ i, i < k → (∃ n : Nat, (q i).mc = (n : Int) ∧ n < D.nm) ∧ (∃ n : Nat, (q i).wk = (n : Int) ∧ n < D.nw) ∧ PrR (q i)
  once : ∀ i j, i < k → j < k → (q i).fl = false → (q j).fl = false → (q i).wk = (q j).wk → i = j
  lap : ∀ i j, i < k → j < k → i ≠ j → (q i).mc = (q j).mc → ¬ ((q i).fr < (q j).to ∧ (q j).fr < (q i).to)
  clear : ∀ i, i < k → ClearR (D.M (q i).mc.toNat) (q i)
  beh : ∀ i, i < k → ∀ j, j < (D.W (q i).wk.toNat).an → ∃ x, x < k ∧ (q x).wk = (D.W (q i).wk.toNat).az j ∧ (q x).fl = false ∧ (q x).to ≤ (q i).fr
  simple : SimpleD D → k = D.nw ∧ (∀ i, i < k → (q i).fl = false) ∧ ∀ most : Int, (∀ n, n < D.nw → (D.W n).cost ≤ most) → ∀ i, i < k → (q i).to * D.nm ≤ sumI (fun w => (D.W w).cost) D.nw + most * D.nm
theorem twR_of {D : SimD} (g : GoodD D) {S : SimS} {q : Nat → RunV} (h : SimR D true S) (hst : bestW D S.st D.nw < 0 ∨ bestM D S D.nm < 0) (hn : nextT D S = none) (p : PmR 0 S.k S.q q) : TwR D S.k q := by
  have hv : InvS D S D.nm := h.inv g
  have hd := h.invD g
  have hnl := hv.nowle g
  have hle : ∀ a b, a < S.k → b < S.k → a ≠ b → (S.q a).mc = (S.q b).mc → (S.q a).to ≤ (S.q b).fr ∨ (S.q b).to ≤ (S.q a).fr := fun a b ha hb hab he => by
    rcases Nat.lt_or_ge a b with h1 | h1
    · exact .inl (hv.ord a b h1 hb he)
    · exact .inr (hv.ord b a (by omega) ha he.symm)
  refine ⟨fun i hi => ?_, fun i j hi hj hf hf' he => ?_, fun i j hi hj hij he hc => ?_, fun i hi => ?_, fun i hi j hj => ?_, fun s => ?_⟩
  · obtain ⟨a, ha, e⟩ := p.symm.ex hi
    obtain ⟨⟨n, n1, n2⟩, h2, h3, h4, h5⟩ := hv.done a ha
    rw [← e]
    exact ⟨⟨n, n1, n2⟩, h2, ⟨by omega, by omega⟩, ⟨by omega, by omega⟩, by omega, by have := g.mach.1.2; omega⟩
  · rcases Nat.decEq i j with hij | hij
    · obtain ⟨a, b, ha, hb, hab, e1, e2⟩ := p.two hi hj hij
      rw [← e1, ← e2] at he
      rw [← e1] at hf
      rw [← e2] at hf'
      exact absurd (hd.dn2 a b ha hb hf hf' he) hab
    · exact hij
  · obtain ⟨a, b, ha, hb, hab, e1, e2⟩ := p.two hi hj hij
    rw [← e1, ← e2] at he hc
    rcases hle a b ha hb hab he with h1 | h1
    · omega
    · omega
  · obtain ⟨a, ha, e⟩ := p.symm.ex hi
    rw [← e]; exact hd.clq a ha
  · obtain ⟨a, ha, e⟩ := p.symm.ex hi
    rw [← e] at hj ⊢
    obtain ⟨x, x1, x2, x3, x4⟩ := hd.beq a ha j hj
    obtain ⟨y, y1, y2⟩ := p.ex x1
    exact ⟨y, y1, by rw [y2]; exact x2, by rw [y2]; exact x3, by rw [y2]; exact x4⟩
  · obtain ⟨h1, h2, h3⟩ := h.simple g s hst hn
    refine ⟨h1, fun i hi => ?_, fun most hm i hi => ?_⟩
    · obtain ⟨a, ha, e⟩ := p.symm.ex hi
      rw [← e]; exact h2 a ha
    · obtain ⟨a, ha, e⟩ := p.symm.ex hi
      rw [← e]; exact h3 most hm a ha
end Go.Proofs.Ytkadinjhfldokaa
