/- Whether a graph is right: node.CheckGraph. Conditions: the nodes can be read. -/
import Derived.Test.YtbaocallhnehfaaGreatDoorQI
import Derived.Deep.QuietTactic
import Derived.BigQuiet
namespace Go.Proofs.YtbaocallhnehfaaGreatDoor
open Go Go.RowKit
set_option maxRecDepth 100000 in
set_option maxHeartbeats 1600000 in
theorem outKind_2 (w : World) : Calls Tryz.prog 31 #[.int .i64 2] w fun e w' => e = .returned (.int .i64 12) ∧ w = w' := by
  go_enter Tryz.func31, Tryz.ntmps31
  go_wp2_with fail
  go_ret
  exact ⟨rfl, rfl⟩
theorem outKind_at {k : Int} (hk : k = 1 ∨ k = 2) (w : World) : Calls Tryz.prog 31 #[.int .i64 k] w fun e w' => e = .returned (.int .i64 (if k = 2 then 12 else 0)) ∧ w = w' := by
  rcases hk with rfl | rfl
  · exact outKind_1 w
  · exact outKind_2 w
/-- The kinds of the nodes before node i. -/
def kzV (ns : List NodeD) (i : Nat) : Nat → Value := fun j => if j < i then .int .i64 (kdO ns j) else .int .i64 0
end Go.Proofs.YtbaocallhnehfaaGreatDoor
