/- Matrices of doubles: Multiply. Conditions: those named. -/
import Derived.Test.YtfmdnibfeckmaaaDoorTcB
import Derived.Test.YtfmdnibfeckmaaaDoorTcM
namespace Go.Proofs.YtfmdnibfeckmaaaDoor
open Go Go.RowKit
/-- The product of two matrices. -/
def mulF (A B : Nat → Nat) (i : Nat) : Nat := dotF (A (i / 3 * 3)) (A (i / 3 * 3 + 1)) (A (i / 3 * 3 + 2)) (B (i % 3)) (B (i % 3 + 3)) (B (i % 3 + 6))
structure MuR (w wr : World) (r v g : Nat → Nat) : Prop where
  r : VecD wr w.heap.size 9 r
  v : VecD wr (w.heap.size + 1) 9 v
  z : VecD wr (w.heap.size + 2) 9 (fun _ => 0)
  g : VecD wr (w.heap.size + 3) 9 g
  b : Below w.heap.size w wr
theorem MuR.past {w wr wy : World} {r v g : Nat → Nat} (k : MuR w wr r v g) (h : Below wr.heap.size wr wy) : MuR w wy r v g :=
  ⟨k.r.past h, k.v.past h, k.z.past h, k.g.past h, k.b.trans (h.mono k.b.size)⟩
theorem MuR.set {w wr : World} {r v g : Nat → Nat} (k : MuR w wr r v g) (m : Nat) (hm : m < 9) (x : Nat) : MuR w (wr.setCell ⟨w.heap.size + 3, m, none⟩ (.float .f64 x)) r v (fun j => if j = m then x else g j) :=
  ⟨k.r.far _ _ (by simp), k.v.far _ _ (by simp), k.z.far _ _ (by simp), k.g.set m x hm, k.b.setCell (by simp) _⟩
end Go.Proofs.YtfmdnibfeckmaaaDoor
