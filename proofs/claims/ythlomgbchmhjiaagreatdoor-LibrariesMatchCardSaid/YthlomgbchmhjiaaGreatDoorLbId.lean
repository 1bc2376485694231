/- grade.CheckGrade. Condition: the grade's curves can be read. -/
import Derived.Test.YthlomgbchmhjiaaGreatDoorLE
import Derived.Test.YthlomgbchmhjiaaGreatDoorLbIb
namespace Go.Proofs.YthlomgbchmhjiaaGreatDoor
open Go Go.RowKit
theorem CheckGrade_any (g : GradeD) (w : World) (hg : GradeAt w g) : Calls Tryz.prog 14 #[gradeV g] w fun e w' => e = .returned (.int .i64 (grE g)) ∧ Below w.heap.size w w' := by
  by_cases k1 : g.k = 1
  · exact CheckGrade_1 g k1 w
  by_cases k2 : g.k = 2
  · exact CheckGrade_2 g k2 w
  by_cases k3 : g.k = 3
  · exact CheckGrade_3 g k3 w hg
  by_cases k4 : g.k = 4
  · exact CheckGrade_4 g k4 w
  by_cases k5 : g.k = 5
  · exact CheckGrade_5 g k5 w
  by_cases k6 : g.k = 6
  · exact CheckGrade_6 g k6 w
  exact CheckGrade_0 g k1 k2 k3 k4 k5 k6 w
end Go.Proofs.YthlomgbchmhjiaaGreatDoor
