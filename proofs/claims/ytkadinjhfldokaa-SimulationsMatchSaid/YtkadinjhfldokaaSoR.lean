/- Rows in order block by block: one more block; all of them. Plain Lean. Conditions: those named. -/
import Derived.Test.YtkadinjhfldokaaSoQ
namespace Go.Proofs.Ytkadinjhfldokaa
section
variable {α : Type}
/-- One more block in order. -/
theorem BlkS.add {K : α → Int} {s t a c : Nat} {q q' : Nat → α} (hs : 0 < s) (ha : a = s * t) (h : BlkS K s a q) (p : PmR a c q q') (so : SoR K a c q') : BlkS K s c q' := fun i j h1 h2 h3 => by
  by_cases hi : i < a
  · have hj : j < a := by
      have e2 := (div_in hs).1 h3.symm
      have : i / s < t := (Nat.div_lt_iff_lt_mul hs).2 (by rw [Nat.mul_comm]; omega)
      have : s * (i / s + 1) ≤ s * t := Nat.mul_le_mul_left _ this
      rw [Nat.mul_add, Nat.mul_one] at this
      omega
    rw [p.out i (by omega), p.out j (by omega)]
    exact h i j h1 hj h3
  · exact so i j (by omega) h1 h2
theorem MixS.full {K : α → Int} {s a n : Nat} {q : Nat → α} (h : MixS K s a n q) (hn : n ≤ a) : BlkS K (2 * s) n q := fun i j h1 h2 h3 => h i j h1 h2 (by rw [if_pos (by omega)]; exact h3)
theorem PmR.cnt {n : Nat} {q q' : Nat → α} (h : PmR 0 n q q') (P : α → Bool) : cn0 P q' 0 n = cn0 P q 0 n := h.cn P
end
end Go.Proofs.Ytkadinjhfldokaa
