/- node.forms: the operations. No condition. -/
import Derived.Test.YtjcakbikpficbaaGreatDoorProg
import Derived.WalkKit
import Derived.WalkSpells
import Derived.BigQuiet
import Derived.Deep.DeepCutAuto
namespace Go.Proofs.YtjcakbikpficbaaGreatDoor
open Go Go.RowKit
theorem form_any (name : ByteArray) (out ints reals : Int) (a : Option Addr) (n c : Nat) (w : World) : Calls Tryz.prog 90 #[.string name, .int .i64 out, .int .i64 ints, .int .i64 reals, .slice a n c] w fun e w' => e = .returned (.agg #[.string name, .slice a n c, .int .i64 out, .int .i64 ints, .int .i64 reals, .bool false]) ∧ Below w.heap.size w w' := by
  go_enter Tryz.func90, Tryz.ntmps90
  go_wp2_with fail
  refine bodyPost_ret (results_cell_row Tryz.results90 _ _ w.heap.size 27 _ _ _ rfl (heap_alloc_new _ _) Tryz.underlying27 rfl (by kernel_rfl)) rfl ?_
  exact ⟨rfl, by (repeat (first | exact Below.refl _ _ | assumption | (refine Below.setCell ?_ (by first | (simp; done) | (simp; omega) | omega) _) | (refine Below.drew ?_) | (refine below_drewN ?_ _) | (refine Below.alloc ?_ (by first | (simp; done) | (simp; omega) | omega) _) | (refine Below.trans ?_ (Below.mono (by assumption) (by first | (simp; done) | (simp; omega) | omega)))))⟩
end Go.Proofs.YtjcakbikpficbaaGreatDoor
