/- Work on machines at the one work and the one machine that dyelaw2.farms asks for: the checks. Conditions: what each theorem names. -/
import Derived.Test.YtcdcfkgdgimmcaaGreatDoorBG
import Derived.BigQuiet
import Derived.Deep.RegionLaw
namespace Go.Proofs.YtcdcfkgdgimmcaaGreatDoor
open Go Go.RowKit
set_option maxRecDepth 100000 in
set_option maxHeartbeats 1600000 in
theorem CheckWork_one (gw : Nat) (w : World) (h : Blk w gw [.int .i64 2, .int .i64 0, .slice none 0 0]) :
    Calls Tryz.prog 27 #[.slice (some ⟨gw, 0, none⟩) 1 1] w fun e w' => e = .returned (.int .i64 0) ∧ Below w.heap.size w w' := by
  have c0 := h.c 0 _ rfl; have c1 := h.c 1 _ rfl; have c2 := h.c 2 _ rfl; have cl := h.lt
  clear h
  go_enter Tryz.func27, Tryz.ntmps27
  go_wp2_with fail
  refine wp_loop_rounds 2 ?_
  go_wp2_with (simp only [rounds_succ])
  refine wp_loop_rounds 1 ?_
  go_wp2_with (simp only [rounds_succ])
  go_ret
  refine ⟨rfl, ?_⟩
  (repeat (first | exact Below.refl _ _ | assumption | (refine Below.setCell ?_ (by first | (simp; done) | (simp; omega) | omega) _) | (refine Below.drew ?_) | (refine below_drewN ?_ _) | (refine Below.alloc ?_ (by first | (simp; done) | (simp; omega) | omega) _) | (refine Below.trans ?_ (Below.mono (by assumption) (by first | (simp; done) | (simp; omega) | omega)))))
set_option maxRecDepth 100000 in
set_option maxHeartbeats 1600000 in
theorem CheckMachines_one (gm : Nat) (w : World) (h : Blk w gm [.int .i64 1, .slice none 0 0]) :
    Calls Tryz.prog 38 #[.slice (some ⟨gm, 0, none⟩) 1 1] w fun e w' => e = .returned (.int .i64 0) ∧ Below w.heap.size w w' := by
  have c0 := h.c 0 _ rfl; have c1 := h.c 1 _ rfl; have cl := h.lt
  clear h
  go_enter Tryz.func38, Tryz.ntmps38
  go_wp2_with fail
  refine wp_loop_rounds 2 ?_
  go_wp2_with (simp only [rounds_succ])
  refine wp_loop_rounds 1 ?_
  go_wp2_with (simp only [rounds_succ])
  go_ret
  refine ⟨rfl, ?_⟩
  (repeat (first | exact Below.refl _ _ | assumption | (refine Below.setCell ?_ (by first | (simp; done) | (simp; omega) | omega) _) | (refine Below.drew ?_) | (refine below_drewN ?_ _) | (refine Below.alloc ?_ (by first | (simp; done) | (simp; omega) | omega) _) | (refine Below.trans ?_ (Below.mono (by assumption) (by first | (simp; done) | (simp; omega) | omega)))))
end Go.Proofs.YtcdcfkgdgimmcaaGreatDoor
