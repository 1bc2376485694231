/- Rows of integers or singles by their place, for walks with an index that is a variable. Over any program. No condition. -/
import Derived.Test.YtfmdnibfeckmaaaBG
namespace Go.Proofs.Ytfmdnibfeckmaaa
open Go Go.RowKit
/-- n cells of a block, by their place; none is frozen. -/
structure VecI (w : World) (b n : Nat) (f : Nat → Int) : Prop where
  lt : b < w.heap.size
  c : ∀ j, j < n → w.cell? ⟨b, j, none⟩ = some (.int .i64 (f j))
  f : ∀ o, w.frozen? ⟨b, o, none⟩ = false
structure VecF (w : World) (b n : Nat) (g : Nat → Nat) : Prop where
  lt : b < w.heap.size
  c : ∀ j, j < n → w.cell? ⟨b, j, none⟩ = some (.float .f32 (g j))
  f : ∀ o, w.frozen? ⟨b, o, none⟩ = false
theorem VecI.block {W w : World} {b n : Nat} {f : Nat → Int} (k : VecI W b n f) (hs : W.heap.size ≤ w.heap.size) (hb : w.heap[b]? = W.heap[b]?) : VecI w b n f :=
  ⟨Nat.lt_of_lt_of_le k.lt hs, fun j hj => (World.cell?_of_block hb).trans (k.c j hj), fun o => (World.frozen?_of_block hb).trans (k.f o)⟩
theorem VecF.block {W w : World} {b n : Nat} {f : Nat → Nat} (k : VecF W b n f) (hs : W.heap.size ≤ w.heap.size) (hb : w.heap[b]? = W.heap[b]?) : VecF w b n f :=
  ⟨Nat.lt_of_lt_of_le k.lt hs, fun j hj => (World.cell?_of_block hb).trans (k.c j hj), fun o => (World.frozen?_of_block hb).trans (k.f o)⟩
theorem VecI.past {W w : World} {b n : Nat} {f : Nat → Int} (k : VecI W b n f) (h : Below W.heap.size W w) : VecI w b n f := k.block h.size (h.block b k.lt)
theorem VecF.past {W w : World} {b n : Nat} {f : Nat → Nat} (k : VecF W b n f) (h : Below W.heap.size W w) : VecF w b n f := k.block h.size (h.block b k.lt)
theorem VecI.far {w : World} {b n : Nat} {f : Nat → Int} (k : VecI w b n f) (q : Addr) (t : Value) (hq : q.block ≠ b) : VecI (w.setCell q t) b n f := k.block (by simp [World.setCell]) (Below.heap_setCell _ _ _ _ (Ne.symm hq))
theorem VecF.far {w : World} {b n : Nat} {f : Nat → Nat} (k : VecF w b n f) (q : Addr) (t : Value) (hq : q.block ≠ b) : VecF (w.setCell q t) b n f := k.block (by simp [World.setCell]) (Below.heap_setCell _ _ _ _ (Ne.symm hq))
theorem VecI.set {w : World} {b n : Nat} {f : Nat → Int} (k : VecI w b n f) (i : Nat) (x : Int) (hi : i < n) : VecI (w.setCell ⟨b, i, none⟩ (.int .i64 x)) b n (fun j => if j = i then x else f j) := by
  refine ⟨by have := k.lt; simpa [World.setCell] using this, fun j hj => ?_, fun o => (World.frozen?_setCell _ _ _ _).trans (k.f o)⟩
  by_cases e : j = i
  · subst e; rw [if_pos rfl]; exact World.cell?_setCell_same _ _ _ (k.c j hj)
  · rw [if_neg e, World.cell?_setCell_other _ _ _ _ (by first | (simp; omega) | (simp; done) | omega)]; exact k.c j hj
theorem VecF.set {w : World} {b n : Nat} {f : Nat → Nat} (k : VecF w b n f) (i : Nat) (x : Nat) (hi : i < n) : VecF (w.setCell ⟨b, i, none⟩ (.float .f32 x)) b n (fun j => if j = i then x else f j) := by
  refine ⟨by have := k.lt; simpa [World.setCell] using this, fun j hj => ?_, fun o => (World.frozen?_setCell _ _ _ _).trans (k.f o)⟩
  by_cases e : j = i
  · subst e; rw [if_pos rfl]; exact World.cell?_setCell_same _ _ _ (k.c j hj)
  · rw [if_neg e, World.cell?_setCell_other _ _ _ _ (by first | (simp; omega) | (simp; done) | omega)]; exact k.c j hj
theorem VecI.of3 {w : World} {b : Nat} {f : Nat → Int} (k : Blk w b [.int .i64 (f 0), .int .i64 (f 1), .int .i64 (f 2)]) : VecI w b 3 f :=
  ⟨k.lt, fun j hj => k.c j _ (by rcases (show j = 0 ∨ j = 1 ∨ j = 2 by omega) with rfl | rfl | rfl <;> rfl), k.f⟩
theorem VecF.of3 {w : World} {b : Nat} {f : Nat → Nat} (k : Blk w b [.float .f32 (f 0), .float .f32 (f 1), .float .f32 (f 2)]) : VecF w b 3 f :=
  ⟨k.lt, fun j hj => k.c j _ (by rcases (show j = 0 ∨ j = 1 ∨ j = 2 by omega) with rfl | rfl | rfl <;> rfl), k.f⟩
theorem VecF.of4 {w : World} {b : Nat} {f : Nat → Nat} (k : Blk w b [.float .f32 (f 0), .float .f32 (f 1), .float .f32 (f 2), .float .f32 (f 3)]) : VecF w b 4 f :=
  ⟨k.lt, fun j hj => k.c j _ (by rcases (show j = 0 ∨ j = 1 ∨ j = 2 ∨ j = 3 by omega) with rfl | rfl | rfl | rfl <;> rfl), k.f⟩
end Go.Proofs.Ytfmdnibfeckmaaa
