/- Frames put together: frame.offset, frame.Inside, frame.Common. Conditions: what each theorem names. -/
import Derived.Test.YtcdcfkgdgimmcaaDoorSpC
namespace Go.Proofs.YtcdcfkgdgimmcaaDoor
open Go Go.RowKit
/-- A later world whose older blocks stand, but for one. -/
structure OneB (g : Nat) (w w' : World) : Prop where
  os : w'.os = w.os
  tape : w'.tape = w.tape
  output : w'.output = w.output
  size : w.heap.size ≤ w'.heap.size
  block : ∀ k, k < w.heap.size → k ≠ g → w'.heap[k]? = w.heap[k]?
theorem OneB.refl (g : Nat) (w : World) : OneB g w w := ⟨rfl, rfl, rfl, Nat.le_refl _, fun _ _ _ => rfl⟩
theorem OneB.trans {g : Nat} {a b c : World} (h : OneB g a b) (k : OneB g b c) : OneB g a c := ⟨k.os.trans h.os, k.tape.trans h.tape, k.output.trans h.output, Nat.le_trans h.size k.size, fun i hi hg => (k.block i (Nat.lt_of_lt_of_le hi h.size) hg).trans (h.block i hi hg)⟩
theorem OneB.of_below {g : Nat} {w w' : World} (h : Below w.heap.size w w') : OneB g w w' := ⟨h.os, h.tape, h.output, h.size, fun k hk _ => h.block k hk⟩
theorem OneB.setCell {g k : Nat} {w w' : World} {v : Value} (h : OneB g w w') : OneB g w (w'.setCell ⟨g, k, none⟩ v) := h.trans ⟨rfl, rfl, rfl, by simp [World.setCell], fun _ _ hk => Below.heap_setCell _ _ _ _ hk⟩
theorem OneB.below {g N : Nat} {w w' : World} (h : OneB g w w') (hg : N ≤ g) (hN : N ≤ w.heap.size) : Below N w w' := ⟨h.os, h.tape, h.output, h.size, fun k hk => h.block k (by omega) (by omega)⟩
theorem Blk.one {g n : Nat} {w w' : World} {vs : List Value} (k : Blk w n vs) (h : OneB g w w') (hn : n ≠ g) : Blk w' n vs := k.block h.size (h.block n k.lt hn)
end Go.Proofs.YtcdcfkgdgimmcaaDoor
