/- Tiles: frame.floorDiv, frame.Common. Conditions: what each theorem names. -/
import Derived.Test.YtcdcfkgdgimmcaaDoorBG
namespace Go.Proofs.YtcdcfkgdgimmcaaDoor
open Go Go.RowKit
theorem sp_exit {next : Act → World → Prop} {Q : Exit → Act → World → Prop} {e : Exit} {a : Act} {w : World} (h : ∀ W, W = w → Exit.then next Q e a W) : Exit.then next Q e a w := h w rfl
theorem tdivS (a : Int) {b : Int} (hb : 1 ≤ b) : b * a.tdiv b + a.tmod b = a ∧ -b < a.tmod b ∧ a.tmod b < b := by
  refine ⟨Int.mul_tdiv_add_tmod a b, ?_, ?_⟩
  · have := Int.lt_tmod_of_pos a (show 0 < b by omega); omega
  · exact Int.tmod_lt_of_pos a (by omega)
theorem floorS {a b q r : Int} (hb : 1 ≤ b) (h : b * q + r = a) (h0 : 0 ≤ r) (h1 : r < b) : q = a / b ∧ r = a % b := by
  have e : q = a / b := by
    symm
    rw [← h, Int.mul_add_ediv_left _ _ (by omega), Int.ediv_eq_zero_of_lt h0 h1, Int.add_zero]
  refine ⟨e, ?_⟩
  have := Int.mul_ediv_add_emod a b
  rw [← e] at this
  omega
end Go.Proofs.YtcdcfkgdgimmcaaDoor
