/-
  No cell of these rows narrows 'for every input' (looked for: loops, veiled, ifaces, maps, wideKeys, modest, calm, conditions, laid).
  DERIVED. THE GIVEN ROWS OF THIS SEAT. 5 by the template 'for every input the law returns true; each argument reads behind the call as it read before'; 0 by the template 'total and deterministic' (their statements: YtlomlhdkcpncjaaTotals.lean).
  GIVEN WITH THE SEED: the statements are not yours to turn. If you find one false, say at which input.
  Laid BY PROGRAM, IN A SANDBOX (cutbox-rows.mjs): the forced cells as the released guide's own fill.sh prints them over the translation 05936ee8650efae2… (all of the seat's roots in one cut). By AI agents, Wed Nov 11 2026. No macro, syntax, notation, axiom, sorry.
-/
import Derived.Test.YtlomlhdkcpncjaaChecked
import GoSem.Claim
import GoSem.ClaimJoined
import GoSem.ClaimMapViews
import Derived.JoinedTies
import Derived.KernelRfl
namespace Go.Proofs.Ytlomlhdkcpncjaa
/- THE CELL 'sum', in the pinned program and in every row, IS THE sha256 OF THE DUMP (.gsa) THAT YtlomlhdkcpncjaaProg.lean LOADS. Nothing in Lean hashes anything: it is a label: what it is worth is what the hold of that sum in a sandbox is worth. -/
noncomputable def Try.pinned : Pinned := { name := "ytlomlhdkcpncjaa", sum := "05936ee8650efae2ab26b7a94fe28d4ccd4ca20e0b62f5ac722dfe1475c5578b", checked := Try.checked }
namespace Rows
def none {H : Type} : Left H := { results := [], args := [] }

/-- 'dyelaw2.HashesMatch': WHATEVER THE INPUT: true; the input reads as it did. -/
def hashesMatchSpec : ChangeSpec := { name := "hashesMatch", fn := fun _ => fun
  | [d1, d2, d3, d4] => { results := [.lit (.bool true)], args := [d1, d2, d3, d4] }
  | _ => none }
def hashesMatchRow : OpenClaim := { program := "ytlomlhdkcpncjaa", sum := "05936ee8650efae2ab26b7a94fe28d4ccd4ca20e0b62f5ac722dfe1475c5578b", func := "dyehouse/dyelaw2.HashesMatch", spec := "hashesMatch", inPlace := ["math.Float32frombits", "math.Float64bits", "math.Float64frombits", "math.archFloor", "math.archTrunc"], unfollowed := true, recurses := true, apart := false }
def HashesMatchSaid : Prop := hashesMatchRow.holds Try.pinned (OpenSpec.ofChange hashesMatchSpec)

/-- ITS FALSE NEIGHBOUR: 'it returns false'. Refute it at one input. -/
def hashesMatchWrong : ChangeSpec := { name := "hashesMatch", fn := fun _ => fun
  | [d1, d2, d3, d4] => { results := [.lit (.bool false)], args := [d1, d2, d3, d4] }
  | _ => none }
def HashesMatchWrongFalsely : Prop := hashesMatchRow.holds Try.pinned (OpenSpec.ofChange hashesMatchWrong)

/-- 'dyelaw2.BitsMatch': WHATEVER THE INPUT: true; the input reads as it did. -/
def bitsMatchSpec : ChangeSpec := { name := "bitsMatch", fn := fun _ => fun
  | [d1, d2] => { results := [.lit (.bool true)], args := [d1, d2] }
  | _ => none }
def bitsMatchRow : OpenClaim := { program := "ytlomlhdkcpncjaa", sum := "05936ee8650efae2ab26b7a94fe28d4ccd4ca20e0b62f5ac722dfe1475c5578b", func := "dyehouse/dyelaw2.BitsMatch", spec := "bitsMatch", inPlace := ["math.Float32frombits", "math.Float64bits", "math.Float64frombits", "math.archFloor", "math.archTrunc", "math.Float32bits"], unfollowed := true, recurses := true, apart := false }
def BitsMatchSaid : Prop := bitsMatchRow.holds Try.pinned (OpenSpec.ofChange bitsMatchSpec)

/-- ITS FALSE NEIGHBOUR: 'it returns false'. Refute it at one input. -/
def bitsMatchWrong : ChangeSpec := { name := "bitsMatch", fn := fun _ => fun
  | [d1, d2] => { results := [.lit (.bool false)], args := [d1, d2] }
  | _ => none }
def BitsMatchWrongFalsely : Prop := bitsMatchRow.holds Try.pinned (OpenSpec.ofChange bitsMatchWrong)

/-- 'dyelaw2.MixesMatch': WHATEVER THE INPUT: true; the input reads as it did. -/
def mixesMatchSpec : ChangeSpec := { name := "mixesMatch", fn := fun _ => fun
  | [d1, d2, d3] => { results := [.lit (.bool true)], args := [d1, d2, d3] }
  | _ => none }
def mixesMatchRow : OpenClaim := { program := "ytlomlhdkcpncjaa", sum := "05936ee8650efae2ab26b7a94fe28d4ccd4ca20e0b62f5ac722dfe1475c5578b", func := "dyehouse/dyelaw2.MixesMatch", spec := "mixesMatch", inPlace := ["math.Float32frombits", "math.Float64bits", "math.Float64frombits", "math.archFloor", "math.archTrunc", "math.Float32bits"], unfollowed := true, recurses := true, apart := false }
def MixesMatchSaid : Prop := mixesMatchRow.holds Try.pinned (OpenSpec.ofChange mixesMatchSpec)

/-- ITS FALSE NEIGHBOUR: 'it returns false'. Refute it at one input. -/
def mixesMatchWrong : ChangeSpec := { name := "mixesMatch", fn := fun _ => fun
  | [d1, d2, d3] => { results := [.lit (.bool false)], args := [d1, d2, d3] }
  | _ => none }
def MixesMatchWrongFalsely : Prop := mixesMatchRow.holds Try.pinned (OpenSpec.ofChange mixesMatchWrong)

/-- 'dyelaw2.OrdersMatch': WHATEVER THE INPUT: true; the input reads as it did. -/
def ordersMatchSpec : ChangeSpec := { name := "ordersMatch", fn := fun _ => fun
  | [d1, d2] => { results := [.lit (.bool true)], args := [d1, d2] }
  | _ => none }
def ordersMatchRow : OpenClaim := { program := "ytlomlhdkcpncjaa", sum := "05936ee8650efae2ab26b7a94fe28d4ccd4ca20e0b62f5ac722dfe1475c5578b", func := "dyehouse/dyelaw2.OrdersMatch", spec := "ordersMatch", inPlace := ["math.Float32bits", "math.Float32frombits", "math.Float64bits", "math.Float64frombits", "math.archFloor", "math.archTrunc"], unfollowed := true, recurses := true, apart := false }
def OrdersMatchSaid : Prop := ordersMatchRow.holds Try.pinned (OpenSpec.ofChange ordersMatchSpec)

/-- ITS FALSE NEIGHBOUR: 'it returns false'. Refute it at one input. -/
def ordersMatchWrong : ChangeSpec := { name := "ordersMatch", fn := fun _ => fun
  | [d1, d2] => { results := [.lit (.bool false)], args := [d1, d2] }
  | _ => none }
def OrdersMatchWrongFalsely : Prop := ordersMatchRow.holds Try.pinned (OpenSpec.ofChange ordersMatchWrong)

/-- 'dyelaw2.NearMatches': WHATEVER THE INPUT: true; the input reads as it did. -/
def nearMatchesSpec : ChangeSpec := { name := "nearMatches", fn := fun _ => fun
  | [d1, d2, d3] => { results := [.lit (.bool true)], args := [d1, d2, d3] }
  | _ => none }
def nearMatchesRow : OpenClaim := { program := "ytlomlhdkcpncjaa", sum := "05936ee8650efae2ab26b7a94fe28d4ccd4ca20e0b62f5ac722dfe1475c5578b", func := "dyehouse/dyelaw2.NearMatches", spec := "nearMatches", inPlace := ["math.RoundToEven", "math.Float32frombits", "math.Float64bits", "math.Float64frombits", "math.archFloor", "math.archTrunc"], unfollowed := true, recurses := true, apart := false }
def NearMatchesSaid : Prop := nearMatchesRow.holds Try.pinned (OpenSpec.ofChange nearMatchesSpec)

/-- ITS FALSE NEIGHBOUR: 'it returns false'. Refute it at one input. -/
def nearMatchesWrong : ChangeSpec := { name := "nearMatches", fn := fun _ => fun
  | [d1, d2, d3] => { results := [.lit (.bool false)], args := [d1, d2, d3] }
  | _ => none }
def NearMatchesWrongFalsely : Prop := nearMatchesRow.holds Try.pinned (OpenSpec.ofChange nearMatchesWrong)

/- THE SECOND FORM. 'bulk': how many values and letters a reading holds, each counted each time it is reached (what is shared counts as often as it is met; a slice's spare places count too). A statement '..UptoSaid' is the law's where the arguments, and the package variables that the reading takes, are together of bulk at most 1048576: NARROWER than '..Said'. Prove '..Said' where nothing that the law and all that it calls make is longer than what came in: it says more and counts as full. Else prove '..UptoSaid'. A law counts once. -/
mutual
def uptoBulk {H : Type} : DataW H → Nat
  | .lit (.string bytes) => bytes.length + 1
  | .lit _ => 1
  | .nil => 1
  | .ptr d => uptoBulk d + 1
  | .slice elems spare => uptoBulkAll elems + uptoBulkAll spare + 1
  | .agg parts => uptoBulkAll parts + 1
  | .iface _ d => uptoBulk d + 1
  | .map entries => uptoBulkEntries entries + 1
  | .held _ => 1
def uptoBulkAll {H : Type} : List (DataW H) → Nat
  | [] => 0
  | d :: r => uptoBulk d + uptoBulkAll r
def uptoBulkEntries {H : Type} : List (Lit × DataW H) → Nat
  | [] => 0
  | x :: r => uptoBulkEntry x + uptoBulkEntries r
def uptoBulkEntry {H : Type} : Lit × DataW H → Nat
  | (.string bytes, d) => bytes.length + uptoBulk d + 1
  | (_, d) => uptoBulk d + 1
 end
def uptoSmall : (H : Type) → List (DataW H) → Bool := fun _ ds => decide (uptoBulkAll ds ≤ 1048576)
def OpenSpec.upto (s : _root_.Go.ChangeSpec) : _root_.Go.OpenSpec := { _root_.Go.OpenSpec.ofChange s with cond := some uptoSmall }

/-- 'dyelaw2.HashesMatch', WHERE WHAT IT READS IS OF BULK AT MOST 1048576: true; the input reads as it did. -/
def hashesMatchUptoRow : OpenClaim := { program := "ytlomlhdkcpncjaa", sum := "05936ee8650efae2ab26b7a94fe28d4ccd4ca20e0b62f5ac722dfe1475c5578b", func := "dyehouse/dyelaw2.HashesMatch", spec := "hashesMatch", inPlace := ["math.Float32frombits", "math.Float64bits", "math.Float64frombits", "math.archFloor", "math.archTrunc"], unfollowed := true, recurses := true, apart := false, narrowed := true }
def HashesMatchUptoSaid : Prop := hashesMatchUptoRow.holds Try.pinned (OpenSpec.upto hashesMatchSpec)

/-- 'dyelaw2.BitsMatch', WHERE WHAT IT READS IS OF BULK AT MOST 1048576: true; the input reads as it did. -/
def bitsMatchUptoRow : OpenClaim := { program := "ytlomlhdkcpncjaa", sum := "05936ee8650efae2ab26b7a94fe28d4ccd4ca20e0b62f5ac722dfe1475c5578b", func := "dyehouse/dyelaw2.BitsMatch", spec := "bitsMatch", inPlace := ["math.Float32frombits", "math.Float64bits", "math.Float64frombits", "math.archFloor", "math.archTrunc", "math.Float32bits"], unfollowed := true, recurses := true, apart := false, narrowed := true }
def BitsMatchUptoSaid : Prop := bitsMatchUptoRow.holds Try.pinned (OpenSpec.upto bitsMatchSpec)

/-- 'dyelaw2.MixesMatch', WHERE WHAT IT READS IS OF BULK AT MOST 1048576: true; the input reads as it did. -/
def mixesMatchUptoRow : OpenClaim := { program := "ytlomlhdkcpncjaa", sum := "05936ee8650efae2ab26b7a94fe28d4ccd4ca20e0b62f5ac722dfe1475c5578b", func := "dyehouse/dyelaw2.MixesMatch", spec := "mixesMatch", inPlace := ["math.Float32frombits", "math.Float64bits", "math.Float64frombits", "math.archFloor", "math.archTrunc", "math.Float32bits"], unfollowed := true, recurses := true, apart := false, narrowed := true }
def MixesMatchUptoSaid : Prop := mixesMatchUptoRow.holds Try.pinned (OpenSpec.upto mixesMatchSpec)

/-- 'dyelaw2.OrdersMatch', WHERE WHAT IT READS IS OF BULK AT MOST 1048576: true; the input reads as it did. -/
def ordersMatchUptoRow : OpenClaim := { program := "ytlomlhdkcpncjaa", sum := "05936ee8650efae2ab26b7a94fe28d4ccd4ca20e0b62f5ac722dfe1475c5578b", func := "dyehouse/dyelaw2.OrdersMatch", spec := "ordersMatch", inPlace := ["math.Float32bits", "math.Float32frombits", "math.Float64bits", "math.Float64frombits", "math.archFloor", "math.archTrunc"], unfollowed := true, recurses := true, apart := false, narrowed := true }
def OrdersMatchUptoSaid : Prop := ordersMatchUptoRow.holds Try.pinned (OpenSpec.upto ordersMatchSpec)

/-- 'dyelaw2.NearMatches', WHERE WHAT IT READS IS OF BULK AT MOST 1048576: true; the input reads as it did. -/
def nearMatchesUptoRow : OpenClaim := { program := "ytlomlhdkcpncjaa", sum := "05936ee8650efae2ab26b7a94fe28d4ccd4ca20e0b62f5ac722dfe1475c5578b", func := "dyehouse/dyelaw2.NearMatches", spec := "nearMatches", inPlace := ["math.RoundToEven", "math.Float32frombits", "math.Float64bits", "math.Float64frombits", "math.archFloor", "math.archTrunc"], unfollowed := true, recurses := true, apart := false, narrowed := true }
def NearMatchesUptoSaid : Prop := nearMatchesUptoRow.holds Try.pinned (OpenSpec.upto nearMatchesSpec)

end Rows
end Go.Proofs.Ytlomlhdkcpncjaa
