/- The nodes of a graph that came in, opened. Plain laws of the form. No condition. -/
import Derived.Test.YtbaocallhnehfaaGreatDoorQF
import Derived.Test.YtbaocallhnehfaaGreatDoorBO
namespace Go.Proofs.YtbaocallhnehfaaGreatDoor
open Go Go.RowKit Go.ChangeShapes Go.WideShapes Go.ChangeAt
section
variable {H : Type} {enc : TypeId × Value → H} {P : Program} {w : World} {base : Nat} {spare : Nat → Bool} {held : Bool} {t : TypeId} {fuel : Nat} {cs : List Value} {x : DataW H × List MemPlace}
theorem tr_i64 (ht : P.underlying t = some (.int .i64)) (h : DataW.trod enc P w base spare held fuel t cs = some x) : ∃ n, cs = [.int .i64 n] ∧ IntKind.i64.min ≤ n ∧ n ≤ IntKind.i64.max := by
  obtain ⟨n, h1, -, h2⟩ := DataW.trod_int ht h
  exact ⟨n, h1, by simpa [Lit.wf] using h2⟩
theorem is_slice {e : TypeId} {c : Value} (hts : P.underlying t = some (.slice e)) (h : DataW.trod enc P w base (fun _ => true) held fuel t [c] = some x) : ∃ a l n, c = .slice a l n := by
  rcases Go.Deep.open_slice hts h with ⟨hcs, -⟩ | ⟨_, _, _, _, _, _, _, hcs, -⟩
  · simp at hcs; exact ⟨_, _, _, hcs⟩
  · simp at hcs; exact ⟨_, _, _, hcs⟩
end
end Go.Proofs.YtbaocallhnehfaaGreatDoor
