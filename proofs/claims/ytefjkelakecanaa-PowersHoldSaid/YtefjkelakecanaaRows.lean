/-
  No cell of these rows narrows 'for every input' (looked for: loops, veiled, ifaces, maps, wideKeys, modest, calm, conditions, laid).
  DERIVED. THE GIVEN ROWS OF THIS SEAT. 3 by the template 'for every input the law returns true; each argument reads behind the call as it read before'; 0 by the template 'total and deterministic' (their statements: YtefjkelakecanaaTotals.lean).
  GIVEN WITH THE SEED: the statements are not yours to turn. If you find one false, say at which input.
  Laid BY PROGRAM, IN A SANDBOX (cutbox-rows.mjs): the forced cells as the released guide's own fill.sh prints them over the translation ea4d3eec68ea0f1f… (all of the seat's roots in one cut). By AI agents, Wed Nov 11 2026. No macro, syntax, notation, axiom, sorry.
-/
import Derived.Test.YtefjkelakecanaaChecked
import GoSem.Claim
import GoSem.ClaimJoined
import GoSem.ClaimMapViews
import Derived.JoinedTies
import Derived.KernelRfl
namespace Go.Proofs.Ytefjkelakecanaa
/- THE CELL 'sum', in the pinned program and in every row, IS THE sha256 OF THE DUMP (.gsa) THAT YtefjkelakecanaaProg.lean LOADS. Nothing in Lean hashes anything: it is a label: what it is worth is what the hold of that sum in a sandbox is worth. -/
noncomputable def Try.pinned : Pinned := { name := "ytefjkelakecanaa", sum := "ea4d3eec68ea0f1f7e877082feb61041f0a999a594b24e6c6cc5df3d2f6fdfab", checked := Try.checked }
namespace Rows
def none {H : Type} : Left H := { results := [], args := [] }

/-- 'dyelaw2.PowersHold': WHATEVER THE INPUT: true; the input reads as it did. -/
def powersHoldSpec : ChangeSpec := { name := "powersHold", fn := fun _ => fun
  | [d1, d2] => { results := [.lit (.bool true)], args := [d1, d2] }
  | _ => none }
def powersHoldRow : OpenClaim := { program := "ytefjkelakecanaa", sum := "ea4d3eec68ea0f1f7e877082feb61041f0a999a594b24e6c6cc5df3d2f6fdfab", func := "dyehouse/dyelaw2.PowersHold", spec := "powersHold", inPlace := ["math.Float32frombits", "math.Float64bits", "math.Float64frombits", "math.archFloor", "math.archTrunc", "math.Float32bits"], unfollowed := true, recurses := true, apart := false }
def PowersHoldSaid : Prop := powersHoldRow.holds Try.pinned (OpenSpec.ofChange powersHoldSpec)

/-- ITS FALSE NEIGHBOUR: 'it returns false'. Refute it at one input. -/
def powersHoldWrong : ChangeSpec := { name := "powersHold", fn := fun _ => fun
  | [d1, d2] => { results := [.lit (.bool false)], args := [d1, d2] }
  | _ => none }
def PowersHoldWrongFalsely : Prop := powersHoldRow.holds Try.pinned (OpenSpec.ofChange powersHoldWrong)

/-- 'dyelaw2.MinisMatch': WHATEVER THE INPUT: true; the input reads as it did. -/
def minisMatchSpec : ChangeSpec := { name := "minisMatch", fn := fun _ => fun
  | [d1, d2, d3, d4] => { results := [.lit (.bool true)], args := [d1, d2, d3, d4] }
  | _ => none }
def minisMatchRow : OpenClaim := { program := "ytefjkelakecanaa", sum := "ea4d3eec68ea0f1f7e877082feb61041f0a999a594b24e6c6cc5df3d2f6fdfab", func := "dyehouse/dyelaw2.MinisMatch", spec := "minisMatch", inPlace := ["math.Float32bits", "math.Float64bits", "math.Float64frombits", "math.RoundToEven", "math.Float32frombits", "math.archFloor", "math.archTrunc"], unfollowed := true, recurses := true, apart := false }
def MinisMatchSaid : Prop := minisMatchRow.holds Try.pinned (OpenSpec.ofChange minisMatchSpec)

/-- ITS FALSE NEIGHBOUR: 'it returns false'. Refute it at one input. -/
def minisMatchWrong : ChangeSpec := { name := "minisMatch", fn := fun _ => fun
  | [d1, d2, d3, d4] => { results := [.lit (.bool false)], args := [d1, d2, d3, d4] }
  | _ => none }
def MinisMatchWrongFalsely : Prop := minisMatchRow.holds Try.pinned (OpenSpec.ofChange minisMatchWrong)

/-- 'dyelaw2.SumsMatch': WHATEVER THE INPUT: true; the input reads as it did. -/
def sumsMatchSpec : ChangeSpec := { name := "sumsMatch", fn := fun _ => fun
  | [d] => { results := [.lit (.bool true)], args := [d] }
  | _ => none }
def sumsMatchRow : OpenClaim := { program := "ytefjkelakecanaa", sum := "ea4d3eec68ea0f1f7e877082feb61041f0a999a594b24e6c6cc5df3d2f6fdfab", func := "dyehouse/dyelaw2.SumsMatch", spec := "sumsMatch", inPlace := ["math.Float32frombits", "math.Float64bits", "math.Float64frombits", "math.archFloor", "math.archTrunc", "math.Float32bits"], unfollowed := true, recurses := true, apart := false }
def SumsMatchSaid : Prop := sumsMatchRow.holds Try.pinned (OpenSpec.ofChange sumsMatchSpec)

/-- ITS FALSE NEIGHBOUR: 'it returns false'. Refute it at one input. -/
def sumsMatchWrong : ChangeSpec := { name := "sumsMatch", fn := fun _ => fun
  | [d] => { results := [.lit (.bool false)], args := [d] }
  | _ => none }
def SumsMatchWrongFalsely : Prop := sumsMatchRow.holds Try.pinned (OpenSpec.ofChange sumsMatchWrong)

/- THE SECOND FORM. 'bulk': how many values and letters a reading holds, each counted each time it is reached (what is shared counts as often as it is met; a slice's spare places count too). A statement '..UptoSaid' is the law's where the arguments, and the package variables that the reading takes, are together of bulk at most 1048576: NARROWER than '..Said'. Prove '..Said' where nothing that the law and all that it calls make is longer than what came in: it says more and counts as full. Else prove '..UptoSaid'. A law counts once. -/
mutual
def uptoBulk {H : Type} : DataW H → Nat
  | .lit (.string bytes) => bytes.length + 1
  | .lit _ => 1
  | .nil => 1
  | .ptr d => uptoBulk d + 1
  | .slice elems spare => uptoBulkAll elems + uptoBulkAll spare + 1
  | .agg parts => uptoBulkAll parts + 1
  | .iface _ d => uptoBulk d + 1
  | .map entries => uptoBulkEntries entries + 1
  | .held _ => 1
def uptoBulkAll {H : Type} : List (DataW H) → Nat
  | [] => 0
  | d :: r => uptoBulk d + uptoBulkAll r
def uptoBulkEntries {H : Type} : List (Lit × DataW H) → Nat
  | [] => 0
  | x :: r => uptoBulkEntry x + uptoBulkEntries r
def uptoBulkEntry {H : Type} : Lit × DataW H → Nat
  | (.string bytes, d) => bytes.length + uptoBulk d + 1
  | (_, d) => uptoBulk d + 1
 end
def uptoSmall : (H : Type) → List (DataW H) → Bool := fun _ ds => decide (uptoBulkAll ds ≤ 1048576)
def OpenSpec.upto (s : _root_.Go.ChangeSpec) : _root_.Go.OpenSpec := { _root_.Go.OpenSpec.ofChange s with cond := some uptoSmall }

/-- 'dyelaw2.PowersHold', WHERE WHAT IT READS IS OF BULK AT MOST 1048576: true; the input reads as it did. -/
def powersHoldUptoRow : OpenClaim := { program := "ytefjkelakecanaa", sum := "ea4d3eec68ea0f1f7e877082feb61041f0a999a594b24e6c6cc5df3d2f6fdfab", func := "dyehouse/dyelaw2.PowersHold", spec := "powersHold", inPlace := ["math.Float32frombits", "math.Float64bits", "math.Float64frombits", "math.archFloor", "math.archTrunc", "math.Float32bits"], unfollowed := true, recurses := true, apart := false, narrowed := true }
def PowersHoldUptoSaid : Prop := powersHoldUptoRow.holds Try.pinned (OpenSpec.upto powersHoldSpec)

/-- 'dyelaw2.MinisMatch', WHERE WHAT IT READS IS OF BULK AT MOST 1048576: true; the input reads as it did. -/
def minisMatchUptoRow : OpenClaim := { program := "ytefjkelakecanaa", sum := "ea4d3eec68ea0f1f7e877082feb61041f0a999a594b24e6c6cc5df3d2f6fdfab", func := "dyehouse/dyelaw2.MinisMatch", spec := "minisMatch", inPlace := ["math.Float32bits", "math.Float64bits", "math.Float64frombits", "math.RoundToEven", "math.Float32frombits", "math.archFloor", "math.archTrunc"], unfollowed := true, recurses := true, apart := false, narrowed := true }
def MinisMatchUptoSaid : Prop := minisMatchUptoRow.holds Try.pinned (OpenSpec.upto minisMatchSpec)

/-- 'dyelaw2.SumsMatch', WHERE WHAT IT READS IS OF BULK AT MOST 1048576: true; the input reads as it did. -/
def sumsMatchUptoRow : OpenClaim := { program := "ytefjkelakecanaa", sum := "ea4d3eec68ea0f1f7e877082feb61041f0a999a594b24e6c6cc5df3d2f6fdfab", func := "dyehouse/dyelaw2.SumsMatch", spec := "sumsMatch", inPlace := ["math.Float32frombits", "math.Float64bits", "math.Float64frombits", "math.archFloor", "math.archTrunc", "math.Float32bits"], unfollowed := true, recurses := true, apart := false, narrowed := true }
def SumsMatchUptoSaid : Prop := sumsMatchUptoRow.holds Try.pinned (OpenSpec.upto sumsMatchSpec)

end Rows
end Go.Proofs.Ytefjkelakecanaa
