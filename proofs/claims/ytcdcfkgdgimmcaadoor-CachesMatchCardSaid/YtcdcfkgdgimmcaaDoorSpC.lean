/- Tasks of frames: farm.Split. Conditions: what each theorem names. -/
import Derived.Test.YtcdcfkgdgimmcaaDoorSpB
import Derived.Test.YtcdcfkgdgimmcaaDoorCA
namespace Go.Proofs.YtcdcfkgdgimmcaaDoor
open Go Go.RowKit
/-- The first q elements' cells, element by element. -/
def accL (f : Nat → List Value) : Nat → List Value
  | 0 => []
  | q + 1 => accL f q ++ f q
theorem accL_len {f : Nat → List Value} {m : Nat} (hm : ∀ q, (f q).length = m) (q : Nat) : (accL f q).length = m * q := by
  induction q with
  | zero => rfl
  | succ q ih => unfold accL; rw [List.length_append, ih, hm, Nat.mul_add, Nat.mul_one]
theorem accL_get {f : Nat → List Value} {m : Nat} (hm : ∀ q, (f q).length = m) {q N c : Nat} (hq : q < N) (hc : c < m) : (accL f N)[m * q + c]? = (f q)[c]? := by
  induction N with
  | zero => omega
  | succ N ih =>
    unfold accL
    rcases Nat.lt_or_ge q N with h | h
    · have : m * q + c < (accL f N).length := by
        rw [accL_len hm]
        have h1 : m * (q + 1) ≤ m * N := Nat.mul_le_mul_left _ h
        rw [Nat.mul_add, Nat.mul_one] at h1
        omega
      rw [List.getElem?_append_left this]
      exact ih h
    · obtain rfl : q = N := by omega
      rw [List.getElem?_append_right (by rw [accL_len hm]; omega), accL_len hm]
      congr 1
      omega
/-- A row of structs that grows: its cells so far. -/
structure AcR (t : TypeId) (m : Nat) (w wr : World) (u : Value) (f : Nat → List Value) (q : Nat) : Prop where
  own : wr.ownsRow w.heap.size t m u q (accL f q)
  bel : Below w.heap.size w wr
theorem AcR.nil (t : TypeId) (m : Nat) (w : World) (f : Nat → List Value) : AcR t m w w (.slice none 0 0) f 0 := ⟨World.ownsRow_nil _ _ _ _, Below.refl _ _⟩
theorem AcR.past {t : TypeId} {m : Nat} {w wr wy : World} {u : Value} {f : Nat → List Value} {q : Nat} (k : AcR t m w wr u f q) (h : Below wr.heap.size wr wy) : AcR t m w wy u f q := ⟨own_past k.own h, k.bel.trans (h.mono k.bel.size)⟩
theorem AcR.app {t : TypeId} {m : Nat} {w wr wa w1 : World} {u u' : Value} {f : Nat → List Value} {q : Nat} {vs : List Value} (k0 : AcR t m w wr u f q) (hb : Below wr.heap.size wr wa) (hv : vs = f q) (hown : w1.ownsRow w.heap.size t m u' (q + 1) (accL f q ++ vs)) (hg : wa.grownBy w1 u.ownBlock) : AcR t m w w1 u' f (q + 1) := by
  have k := k0.past hb
  refine ⟨by unfold accL; rw [← hv]; exact hown, k.bel.grown hg k.bel.size (fun j hj => ?_)⟩
  exact (k.own.lt j hj).1
/-- Its cells, where it has any. -/
theorem own_cells {t : TypeId} {m base : Nat} {wr : World} {u : Value} {f : Nat → List Value} {N : Nat} (k : wr.ownsRow base t m u N (accL f N)) (hm : ∀ q, (f q).length = m) (h0 : 0 < N) : ∃ (g c : Nat), u = .slice (some ⟨g, 0, none⟩) N c ∧ base ≤ g ∧ g < wr.heap.size ∧ ∀ q j v, q < N → (f q)[j]? = some v → wr.cell? ⟨g, m * q + j, none⟩ = some v := by
  obtain ⟨g, c, rfl, h1, h2, -, -⟩ := own_form k h0
  have hc := k.cells (g := g) rfl
  refine ⟨g, c, rfl, h1, h2, fun q j v hq hv => ?_⟩
  have hj : j < m := by
    rw [← hm q]
    rcases Nat.lt_or_ge j (f q).length with h | h
    · exact h
    · rw [List.getElem?_eq_none h] at hv; cases hv
  have := hc (m * q + j) v (by rw [accL_get hm hq hj]; exact hv)
  rw [Go.WideShapes.add_plain] at this
  simpa using this
theorem AcR.cells {t : TypeId} {m : Nat} {w wr : World} {u : Value} {f : Nat → List Value} {N : Nat} (k : AcR t m w wr u f N) (hm : ∀ q, (f q).length = m) (h0 : 0 < N) : ∃ (g c : Nat), u = .slice (some ⟨g, 0, none⟩) N c ∧ w.heap.size ≤ g ∧ g < wr.heap.size ∧ ∀ q j v, q < N → (f q)[j]? = some v → wr.cell? ⟨g, m * q + j, none⟩ = some v := own_cells k.own hm h0
theorem tlL_acc (X Y W H s : Int) (q : Nat) : tlL X Y W H s q = accL (fun p => tlV X Y W H s (p % tlN X W s) (p / tlN X W s)) q := by
  induction q with
  | zero => rfl
  | succ q ih => unfold tlL accL; rw [ih]
/-- A task: its number and its tile. -/
def tkV (X Y W H s first : Int) (N q : Nat) : List Value := .int .i64 (first + (q / N : Nat)) :: tlV X Y W H s (q % N % tlN X W s) (q % N / tlN X W s)
end Go.Proofs.YtcdcfkgdgimmcaaDoor
