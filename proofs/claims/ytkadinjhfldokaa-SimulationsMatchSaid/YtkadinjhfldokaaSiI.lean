/- Work on machines, the farm's: the whole. Conditions: what each theorem names. -/
import Derived.Test.YtkadinjhfldokaaSiG
import Derived.Test.YtkadinjhfldokaaSiH
import Derived.Test.YtkadinjhfldokaaSiQ
import Derived.Test.YtkadinjhfldokaaSrF
import Derived.Deep.LoopGhost
namespace Go.Proofs.Ytkadinjhfldokaa
open Go Go.RowKit
theorem VecV.made (w : World) (z : Value) (n : Nat) (t : TypeId) : VecV (w.alloc (.cells (madeCells #[z] n) t)) w.heap.size n (fun _ => z) := by
  have k : Blk (w.alloc (.cells (madeCells #[z] n).toList.toArray t)) w.heap.size (madeCells #[z] n).toList := Blk.new _ _ _ _ rfl
  rw [Array.toArray_toList] at k
  refine ⟨k.lt, fun j hj => k.c j z ?_, k.f⟩
  rw [Array.getElem?_toList]
  simp [madeCells, hj, Nat.mod_one]
theorem own_vecR {w : World} {base : Nat} {rv : Value} {k : Nat} {q : Nat → RunV} (h : w.ownsRow base 36 5 rv k (accL (fun i => runL (q i)) k)) (h0 : 0 < k) : ∃ g c, rv = .slice (some ⟨g, 0, none⟩) k c ∧ base ≤ g ∧ k ≤ c ∧ c ≤ 9223372036854775807 ∧ VecR w g k q := by
  obtain ⟨g, c, h1, h2, h3, h4⟩ := own_cells h (m := 5) (fun _ => rfl) h0
  obtain ⟨g', c', e1, -, -, e4, e5⟩ := own_form h h0
  rw [h1] at e1
  have ec : c' = c := by injection e1 with _ _ e; exact e.symm
  rw [ec] at e4 e5
  have hcell : ∀ j i v, j < k → (runL (q j))[i]? = some v → w.cell? ⟨g, j * 5 + i, none⟩ = some v := fun j i v hj hv => by
    have := h4 j i v hj hv
    rw [Nat.mul_comm] at this; exact this
  refine ⟨g, c, h1, h2, e4, e5, h3, fun j hj => hcell j 0 _ hj rfl, fun j hj => hcell j 1 _ hj rfl, fun j hj => hcell j 2 _ hj rfl, fun j hj => hcell j 3 _ hj rfl, fun j hj => hcell j 4 _ hj rfl, fun o => ?_⟩
  rcases h.2 with ⟨hv, h9⟩ | ⟨g2, c2, cur, f1, -, f3, -⟩
  · omega
  · rw [h1] at f1
    injection f1 with f1
    injection f1 with f1
    injection f1 with f1
    subst f1
    simp [World.frozen?, f3]
theorem own_vecR0 {w : World} {base : Nat} {rv : Value} {k : Nat} {q : Nat → RunV} (h : w.ownsRow base 36 5 rv k (accL (fun i => runL (q i)) k)) : (k = 0 ∧ rv = .slice none 0 0) ∨ ∃ g c, rv = .slice (some ⟨g, 0, none⟩) k c ∧ base ≤ g ∧ k ≤ c ∧ c ≤ 9223372036854775807 ∧ VecR w g k q := by
  rcases Nat.eq_zero_or_pos k with h0 | h0
  · subst h0
    rcases h.2 with ⟨h1, -⟩ | ⟨g, c, cur, f1, f2, f3, f4, f5, -⟩
    · exact .inl ⟨rfl, h1⟩
    · refine .inr ⟨g, c, f1, f2, f4, by unfold maxLen at f5; omega, ?_, fun j hj => by omega, fun j hj => by omega, fun j hj => by omega, fun j hj => by omega, fun j hj => by omega, fun o => by simp [World.frozen?, f3]⟩
      rcases Nat.lt_or_ge g w.heap.size with h' | h'
      · exact h'
      · rw [Array.getElem?_eq_none h'] at f3; cases f3
  · exact .inr (own_vecR h h0)
/-- What is handed back: the runs, in order. -/
def SimOut (D : SimD) (lo : Nat) (w : World) (rv : Value) : Prop := ∃ (S : SimS) (q : Nat → RunV), SimR D true S ∧ (bestW D S.st D.nw < 0 ∨ bestM D S D.nm < 0) ∧ nextT D S = none ∧ PmR 0 S.k S.q q ∧ SoR keyR 0 S.k q ∧
  ((S.k = 0 ∧ rv = .slice none 0 0) ∨ (∃ g c, rv = .slice (some ⟨g, 0, none⟩) S.k c ∧ lo ≤ g ∧ S.k ≤ c ∧ c ≤ 9223372036854775807 ∧ VecR w g S.k q))
section
variable {aw : Option Addr} {cw : Nat} {am : Option Addr} {cm : Nat} {D : SimD}
theorem Simulate_no1 (tv : Value) (w : World) (hW : IsWorks w aw D.nw cw D.W) (hE : wkErr D.nw D.W ≠ 0) :
    Calls Try.prog 5 #[.slice aw D.nw cw, .slice am D.nm cm, tv] w fun e w' => e = .returned (.tuple #[.slice none 0 0, .int .i64 (wkErr D.nw D.W)]) ∧ Below w.heap.size w w' := by
  have HC := Lib.hid (CheckWork_any aw D.nw cw D.W w hW)
  generalize wkErr D.nw D.W = E at *
  have hb : (E != 0) = true := by simpa using hE
  clear hW hE
  go_enter Try.func5, Try.ntmps5
  go_wp2_with fail
  refine (HC.out).mono ?_
  rintro e w1 ⟨rfl, hB⟩
  have HB := Lib.hid hB
  clear hB
  go_wp2_with fail
  go_ret2
  exact ⟨rfl, HB.out⟩
theorem Simulate_no2 (tv : Value) (w : World) (hW : IsWorks w aw D.nw cw D.W) (hM : IsMachines w am D.nm cm D.M) (hE0 : wkErr D.nw D.W = 0) (hE : mcErr D.nm D.M ≠ 0) :
    Calls Try.prog 5 #[.slice aw D.nw cw, .slice am D.nm cm, tv] w fun e w' => e = .returned (.tuple #[.slice none 0 0, .int .i64 (mcErr D.nm D.M)]) ∧ Below w.heap.size w w' := by
  have HC := Lib.hid (CheckWork_any aw D.nw cw D.W w hW)
  have HD := Lib.hid (fun w1 (hb : Below w.heap.size w w1) => CheckMachines_any am D.nm cm D.M w1 (hM.below hb))
  rw [hE0] at HC
  generalize mcErr D.nm D.M = E at *
  have hb : (E != 0) = true := by simpa using hE
  clear hW hE hM hE0
  go_enter Try.func5, Try.ntmps5
  go_wp2_with fail
  refine (HC.out).mono ?_
  rintro e w1 ⟨rfl, hB⟩
  have HB := Lib.hid hB
  clear hB
  go_wp2_with fail
  refine (HD.out w1 HB.out).mono ?_
  rintro e w2 ⟨rfl, hB⟩
  have HB2 := Lib.hid (HB.out.trans (hB.mono HB.out.size))
  clear hB
  go_wp2_with fail
  go_ret2
  exact ⟨rfl, HB2.out⟩
theorem Simulate_no3 (t : Int) (w : World) (hW : IsWorks w aw D.nw cw D.W) (hM : IsMachines w am D.nm cm D.M) (hE0 : wkErr D.nw D.W = 0) (hE : mcErr D.nm D.M = 0) (ht : t < 1 ∨ 10 < t) :
    Calls Try.prog 5 #[.slice aw D.nw cw, .slice am D.nm cm, .int .i64 t] w fun e w' => e = .returned (.tuple #[.slice none 0 0, .int .i64 3]) ∧ Below w.heap.size w w' := by
  have HC := Lib.hid (CheckWork_any aw D.nw cw D.W w hW)
  have HD := Lib.hid (fun w1 (hb : Below w.heap.size w w1) => CheckMachines_any am D.nm cm D.M w1 (hM.below hb))
  rw [hE0] at HC
  rw [hE] at HD
  have ht' : t < 1 ∨ (¬ t < 1 ∧ 10 < t) := by omega
  clear hW hE hM hE0 ht
  go_enter Try.func5, Try.ntmps5
  go_wp2_with fail
  refine (HC.out).mono ?_
  rintro e w1 ⟨rfl, hB⟩
  have HB := Lib.hid hB
  clear hB
  go_wp2_with fail
  refine (HD.out w1 HB.out).mono ?_
  rintro e w2 ⟨rfl, hB⟩
  have HB2 := Lib.hid (HB.out.trans (hB.mono HB.out.size))
  clear hB
  rcases ht' with q1 | ⟨q1, q2⟩
  all_goals
    go_wp2_with fail
    go_ret2
    exact ⟨rfl, HB2.out⟩
end
end Go.Proofs.Ytkadinjhfldokaa
