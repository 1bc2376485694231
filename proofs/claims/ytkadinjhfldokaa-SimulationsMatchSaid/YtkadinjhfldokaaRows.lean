/-
  No cell of these rows narrows 'for every input' (looked for: loops, veiled, ifaces, maps, wideKeys, modest, calm, conditions, laid).
  DERIVED. THE GIVEN ROWS OF THIS SEAT. 2 by the template 'for every input the law returns true; each argument reads behind the call as it read before'; 0 by the template 'total and deterministic' (their statements: YtkadinjhfldokaaTotals.lean).
  GIVEN WITH THE SEED: the statements are not yours to turn. If you find one false, say at which input.
  Laid BY PROGRAM, IN A SANDBOX (cutbox-rows.mjs): the forced cells as the released guide's own fill.sh prints them over the translation 457bc32c7d9160c6… (all of the seat's roots in one cut). By AI agents, Wed Nov 11 2026. No macro, syntax, notation, axiom, sorry.
-/
import Derived.Test.YtkadinjhfldokaaChecked
import GoSem.Claim
import GoSem.ClaimJoined
import GoSem.ClaimMapViews
import Derived.JoinedTies
import Derived.KernelRfl
namespace Go.Proofs.Ytkadinjhfldokaa
/- THE CELL 'sum', in the pinned program and in every row, IS THE sha256 OF THE DUMP (.gsa) THAT YtkadinjhfldokaaProg.lean LOADS. Nothing in Lean hashes anything: it is a label: what it is worth is what the hold of that sum in a sandbox is worth. -/
noncomputable def Try.pinned : Pinned := { name := "ytkadinjhfldokaa", sum := "457bc32c7d9160c6c979a29dffe98cff9c0f21e7a99fe1a0489cdd3eee9c7764", checked := Try.checked }
namespace Rows
def none {H : Type} : Left H := { results := [], args := [] }

/-- 'dyelaw2.SimulationsMatch': WHATEVER THE INPUT: true; the input reads as it did. -/
def simulationsMatchSpec : ChangeSpec := { name := "simulationsMatch", fn := fun _ => fun
  | [d1, d2, d3] => { results := [.lit (.bool true)], args := [d1, d2, d3] }
  | _ => none }
def simulationsMatchRow : OpenClaim := { program := "ytkadinjhfldokaa", sum := "457bc32c7d9160c6c979a29dffe98cff9c0f21e7a99fe1a0489cdd3eee9c7764", func := "dyehouse/dyelaw2.SimulationsMatch", spec := "simulationsMatch", unfollowed := true, recurses := true, apart := false }
def SimulationsMatchSaid : Prop := simulationsMatchRow.holds Try.pinned (OpenSpec.ofChange simulationsMatchSpec)

/-- ITS FALSE NEIGHBOUR: 'it returns false'. Refute it at one input. -/
def simulationsMatchWrong : ChangeSpec := { name := "simulationsMatch", fn := fun _ => fun
  | [d1, d2, d3] => { results := [.lit (.bool false)], args := [d1, d2, d3] }
  | _ => none }
def SimulationsMatchWrongFalsely : Prop := simulationsMatchRow.holds Try.pinned (OpenSpec.ofChange simulationsMatchWrong)

/-- 'dyetop.TopWorks': WHATEVER THE INPUT: true; the input reads as it did. -/
def topWorksSpec : ChangeSpec := { name := "topWorks", fn := fun _ => fun
  | [d1, d2, d3] => { results := [.lit (.bool true)], args := [d1, d2, d3] }
  | _ => none }
def topWorksRow : OpenClaim := { program := "ytkadinjhfldokaa", sum := "457bc32c7d9160c6c979a29dffe98cff9c0f21e7a99fe1a0489cdd3eee9c7764", func := "dyehouse/dyetop.TopWorks", spec := "topWorks", inPlace := ["math.Float32frombits", "math.Float32bits"], unfollowed := true, recurses := true, apart := false }
def TopWorksSaid : Prop := topWorksRow.holds Try.pinned (OpenSpec.ofChange topWorksSpec)

/-- ITS FALSE NEIGHBOUR: 'it returns false'. Refute it at one input. -/
def topWorksWrong : ChangeSpec := { name := "topWorks", fn := fun _ => fun
  | [d1, d2, d3] => { results := [.lit (.bool false)], args := [d1, d2, d3] }
  | _ => none }
def TopWorksWrongFalsely : Prop := topWorksRow.holds Try.pinned (OpenSpec.ofChange topWorksWrong)

/- THE SECOND FORM. 'bulk': how many values and letters a reading holds, each counted each time it is reached (what is shared counts as often as it is met; a slice's spare places count too). A statement '..UptoSaid' is the law's where the arguments, and the package variables that the reading takes, are together of bulk at most 1048576: NARROWER than '..Said'. Prove '..Said' where nothing that the law and all that it calls make is longer than what came in: it says more and counts as full. Else prove '..UptoSaid'. A law counts once. -/
mutual
def uptoBulk {H : Type} : DataW H → Nat
  | .lit (.string bytes) => bytes.length + 1
  | .lit _ => 1
  | .nil => 1
  | .ptr d => uptoBulk d + 1
  | .slice elems spare => uptoBulkAll elems + uptoBulkAll spare + 1
  | .agg parts => uptoBulkAll parts + 1
  | .iface _ d => uptoBulk d + 1
  | .map entries => uptoBulkEntries entries + 1
  | .held _ => 1
def uptoBulkAll {H : Type} : List (DataW H) → Nat
  | [] => 0
  | d :: r => uptoBulk d + uptoBulkAll r
def uptoBulkEntries {H : Type} : List (Lit × DataW H) → Nat
  | [] => 0
  | x :: r => uptoBulkEntry x + uptoBulkEntries r
def uptoBulkEntry {H : Type} : Lit × DataW H → Nat
  | (.string bytes, d) => bytes.length + uptoBulk d + 1
  | (_, d) => uptoBulk d + 1
 end
def uptoSmall : (H : Type) → List (DataW H) → Bool := fun _ ds => decide (uptoBulkAll ds ≤ 1048576)
def OpenSpec.upto (s : _root_.Go.ChangeSpec) : _root_.Go.OpenSpec := { _root_.Go.OpenSpec.ofChange s with cond := some uptoSmall }

/-- 'dyelaw2.SimulationsMatch', WHERE WHAT IT READS IS OF BULK AT MOST 1048576: true; the input reads as it did. -/
def simulationsMatchUptoRow : OpenClaim := { program := "ytkadinjhfldokaa", sum := "457bc32c7d9160c6c979a29dffe98cff9c0f21e7a99fe1a0489cdd3eee9c7764", func := "dyehouse/dyelaw2.SimulationsMatch", spec := "simulationsMatch", unfollowed := true, recurses := true, apart := false, narrowed := true }
def SimulationsMatchUptoSaid : Prop := simulationsMatchUptoRow.holds Try.pinned (OpenSpec.upto simulationsMatchSpec)

/-- 'dyetop.TopWorks', WHERE WHAT IT READS IS OF BULK AT MOST 1048576: true; the input reads as it did. -/
def topWorksUptoRow : OpenClaim := { program := "ytkadinjhfldokaa", sum := "457bc32c7d9160c6c979a29dffe98cff9c0f21e7a99fe1a0489cdd3eee9c7764", func := "dyehouse/dyetop.TopWorks", spec := "topWorks", inPlace := ["math.Float32frombits", "math.Float32bits"], unfollowed := true, recurses := true, apart := false, narrowed := true }
def TopWorksUptoSaid : Prop := topWorksUptoRow.holds Try.pinned (OpenSpec.upto topWorksSpec)

end Rows
end Go.Proofs.Ytkadinjhfldokaa
