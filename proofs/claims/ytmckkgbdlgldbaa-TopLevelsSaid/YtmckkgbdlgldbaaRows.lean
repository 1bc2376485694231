/-
  No cell of these rows narrows 'for every input' (looked for: loops, veiled, ifaces, maps, wideKeys, modest, calm, conditions, laid).
  DERIVED. THE GIVEN ROWS OF THIS SEAT. 15 by the template 'for every input the law returns true; each argument reads behind the call as it read before'; 0 by the template 'total and deterministic' (their statements: YtmckkgbdlgldbaaTotals.lean).
  GIVEN WITH THE SEED: the statements are not yours to turn. If you find one false, say at which input.
  Laid BY PROGRAM, IN A SANDBOX (cutbox-rows.mjs): the forced cells as the released guide's own fill.sh prints them over the translation 1bd593114fe873d5… (all of the seat's roots in one cut). By AI agents, Wed Nov 11 2026. No macro, syntax, notation, axiom, sorry.
-/
import Derived.Test.YtmckkgbdlgldbaaChecked
import GoSem.Claim
import GoSem.ClaimJoined
import GoSem.ClaimMapViews
import Derived.JoinedTies
import Derived.KernelRfl
namespace Go.Proofs.Ytmckkgbdlgldbaa
/- THE CELL 'sum', in the pinned program and in every row, IS THE sha256 OF THE DUMP (.gsa) THAT YtmckkgbdlgldbaaProg.lean LOADS. Nothing in Lean hashes anything: it is a label: what it is worth is what the hold of that sum in a sandbox is worth. -/
noncomputable def Try.pinned : Pinned := { name := "ytmckkgbdlgldbaa", sum := "1bd593114fe873d57eeb2d9f8e6a885f1216bc6d3f705f8f9414e1a97a367e7b", checked := Try.checked }
namespace Rows
def none {H : Type} : Left H := { results := [], args := [] }

/-- 'dyelaw2.LevelsAsFrames': WHATEVER THE INPUT: true; the input reads as it did. -/
def levelsAsFramesSpec : ChangeSpec := { name := "levelsAsFrames", fn := fun _ => fun
  | [d1, d2, d3] => { results := [.lit (.bool true)], args := [d1, d2, d3] }
  | _ => none }
def levelsAsFramesRow : OpenClaim := { program := "ytmckkgbdlgldbaa", sum := "1bd593114fe873d57eeb2d9f8e6a885f1216bc6d3f705f8f9414e1a97a367e7b", func := "dyehouse/dyelaw2.LevelsAsFrames", spec := "levelsAsFrames", inPlace := ["math.RoundToEven", "math.Float32bits"], unfollowed := true, recurses := true, apart := false }
def LevelsAsFramesSaid : Prop := levelsAsFramesRow.holds Try.pinned (OpenSpec.ofChange levelsAsFramesSpec)

/-- ITS FALSE NEIGHBOUR: 'it returns false'. Refute it at one input. -/
def levelsAsFramesWrong : ChangeSpec := { name := "levelsAsFrames", fn := fun _ => fun
  | [d1, d2, d3] => { results := [.lit (.bool false)], args := [d1, d2, d3] }
  | _ => none }
def LevelsAsFramesWrongFalsely : Prop := levelsAsFramesRow.holds Try.pinned (OpenSpec.ofChange levelsAsFramesWrong)

/-- 'dyelaw2.LevelsMatch': WHATEVER THE INPUT: true; the input reads as it did. -/
def levelsMatchSpec : ChangeSpec := { name := "levelsMatch", fn := fun _ => fun
  | [d1, d2, d3, d4, d5, d6, d7, d8, d9] => { results := [.lit (.bool true)], args := [d1, d2, d3, d4, d5, d6, d7, d8, d9] }
  | _ => none }
def levelsMatchRow : OpenClaim := { program := "ytmckkgbdlgldbaa", sum := "1bd593114fe873d57eeb2d9f8e6a885f1216bc6d3f705f8f9414e1a97a367e7b", func := "dyehouse/dyelaw2.LevelsMatch", spec := "levelsMatch", inPlace := ["math.RoundToEven", "math.Float32bits"], apart := false }
def LevelsMatchSaid : Prop := levelsMatchRow.holds Try.pinned (OpenSpec.ofChange levelsMatchSpec)

/-- ITS FALSE NEIGHBOUR: 'it returns false'. Refute it at one input. -/
def levelsMatchWrong : ChangeSpec := { name := "levelsMatch", fn := fun _ => fun
  | [d1, d2, d3, d4, d5, d6, d7, d8, d9] => { results := [.lit (.bool false)], args := [d1, d2, d3, d4, d5, d6, d7, d8, d9] }
  | _ => none }
def LevelsMatchWrongFalsely : Prop := levelsMatchRow.holds Try.pinned (OpenSpec.ofChange levelsMatchWrong)

/-- 'dyelaw2.CubesSmooth': WHATEVER THE INPUT: true; the input reads as it did. -/
def cubesSmoothSpec : ChangeSpec := { name := "cubesSmooth", fn := fun _ => fun
  | [d1, d2] => { results := [.lit (.bool true)], args := [d1, d2] }
  | _ => none }
def cubesSmoothRow : OpenClaim := { program := "ytmckkgbdlgldbaa", sum := "1bd593114fe873d57eeb2d9f8e6a885f1216bc6d3f705f8f9414e1a97a367e7b", func := "dyehouse/dyelaw2.CubesSmooth", spec := "cubesSmooth", inPlace := ["math.Float32frombits", "math.Float32bits"], unfollowed := true, recurses := true, apart := false }
def CubesSmoothSaid : Prop := cubesSmoothRow.holds Try.pinned (OpenSpec.ofChange cubesSmoothSpec)

/-- ITS FALSE NEIGHBOUR: 'it returns false'. Refute it at one input. -/
def cubesSmoothWrong : ChangeSpec := { name := "cubesSmooth", fn := fun _ => fun
  | [d1, d2] => { results := [.lit (.bool false)], args := [d1, d2] }
  | _ => none }
def CubesSmoothWrongFalsely : Prop := cubesSmoothRow.holds Try.pinned (OpenSpec.ofChange cubesSmoothWrong)

/-- 'dyelaw2.GamutsMatch': WHATEVER THE INPUT: true; the input reads as it did. -/
def gamutsMatchSpec : ChangeSpec := { name := "gamutsMatch", fn := fun _ => fun
  | [d1, d2, d3, d4] => { results := [.lit (.bool true)], args := [d1, d2, d3, d4] }
  | _ => none }
def gamutsMatchRow : OpenClaim := { program := "ytmckkgbdlgldbaa", sum := "1bd593114fe873d57eeb2d9f8e6a885f1216bc6d3f705f8f9414e1a97a367e7b", func := "dyehouse/dyelaw2.GamutsMatch", spec := "gamutsMatch", inPlace := ["math.Float32frombits", "math.RoundToEven", "math.Float32bits"], unfollowed := true, recurses := true, apart := false }
def GamutsMatchSaid : Prop := gamutsMatchRow.holds Try.pinned (OpenSpec.ofChange gamutsMatchSpec)

/-- ITS FALSE NEIGHBOUR: 'it returns false'. Refute it at one input. -/
def gamutsMatchWrong : ChangeSpec := { name := "gamutsMatch", fn := fun _ => fun
  | [d1, d2, d3, d4] => { results := [.lit (.bool false)], args := [d1, d2, d3, d4] }
  | _ => none }
def GamutsMatchWrongFalsely : Prop := gamutsMatchRow.holds Try.pinned (OpenSpec.ofChange gamutsMatchWrong)

/-- 'dyelaw2.PacksMatch': WHATEVER THE INPUT: true; the input reads as it did. -/
def packsMatchSpec : ChangeSpec := { name := "packsMatch", fn := fun _ => fun
  | [d1, d2, d3, d4] => { results := [.lit (.bool true)], args := [d1, d2, d3, d4] }
  | _ => none }
def packsMatchRow : OpenClaim := { program := "ytmckkgbdlgldbaa", sum := "1bd593114fe873d57eeb2d9f8e6a885f1216bc6d3f705f8f9414e1a97a367e7b", func := "dyehouse/dyelaw2.PacksMatch", spec := "packsMatch", inPlace := ["math.RoundToEven"], apart := false }
def PacksMatchSaid : Prop := packsMatchRow.holds Try.pinned (OpenSpec.ofChange packsMatchSpec)

/-- ITS FALSE NEIGHBOUR: 'it returns false'. Refute it at one input. -/
def packsMatchWrong : ChangeSpec := { name := "packsMatch", fn := fun _ => fun
  | [d1, d2, d3, d4] => { results := [.lit (.bool false)], args := [d1, d2, d3, d4] }
  | _ => none }
def PacksMatchWrongFalsely : Prop := packsMatchRow.holds Try.pinned (OpenSpec.ofChange packsMatchWrong)

/-- 'dyelaw2.CubesMeasure': WHATEVER THE INPUT: true; the input reads as it did. -/
def cubesMeasureSpec : ChangeSpec := { name := "cubesMeasure", fn := fun _ => fun
  | [d1, d2] => { results := [.lit (.bool true)], args := [d1, d2] }
  | _ => none }
def cubesMeasureRow : OpenClaim := { program := "ytmckkgbdlgldbaa", sum := "1bd593114fe873d57eeb2d9f8e6a885f1216bc6d3f705f8f9414e1a97a367e7b", func := "dyehouse/dyelaw2.CubesMeasure", spec := "cubesMeasure", inPlace := ["math.Float32frombits", "math.Float32bits", "math.Float64frombits"], unfollowed := true, recurses := true, apart := false }
def CubesMeasureSaid : Prop := cubesMeasureRow.holds Try.pinned (OpenSpec.ofChange cubesMeasureSpec)

/-- ITS FALSE NEIGHBOUR: 'it returns false'. Refute it at one input. -/
def cubesMeasureWrong : ChangeSpec := { name := "cubesMeasure", fn := fun _ => fun
  | [d1, d2] => { results := [.lit (.bool false)], args := [d1, d2] }
  | _ => none }
def CubesMeasureWrongFalsely : Prop := cubesMeasureRow.holds Try.pinned (OpenSpec.ofChange cubesMeasureWrong)

/-- 'dyelaw2.SharpensAsSaid': WHATEVER THE INPUT: true; the input reads as it did. -/
def sharpensAsSaidSpec : ChangeSpec := { name := "sharpensAsSaid", fn := fun _ => fun
  | [d1, d2, d3] => { results := [.lit (.bool true)], args := [d1, d2, d3] }
  | _ => none }
def sharpensAsSaidRow : OpenClaim := { program := "ytmckkgbdlgldbaa", sum := "1bd593114fe873d57eeb2d9f8e6a885f1216bc6d3f705f8f9414e1a97a367e7b", func := "dyehouse/dyelaw2.SharpensAsSaid", spec := "sharpensAsSaid", inPlace := ["math.Float64bits", "math.Float64frombits", "math.Float32frombits", "math.RoundToEven", "math.Float32bits"], unfollowed := true, recurses := true, apart := false }
def SharpensAsSaidSaid : Prop := sharpensAsSaidRow.holds Try.pinned (OpenSpec.ofChange sharpensAsSaidSpec)

/-- ITS FALSE NEIGHBOUR: 'it returns false'. Refute it at one input. -/
def sharpensAsSaidWrong : ChangeSpec := { name := "sharpensAsSaid", fn := fun _ => fun
  | [d1, d2, d3] => { results := [.lit (.bool false)], args := [d1, d2, d3] }
  | _ => none }
def SharpensAsSaidWrongFalsely : Prop := sharpensAsSaidRow.holds Try.pinned (OpenSpec.ofChange sharpensAsSaidWrong)

/-- 'dyelaw2.GrainsMatch': WHATEVER THE INPUT: true; the input reads as it did. -/
def grainsMatchSpec : ChangeSpec := { name := "grainsMatch", fn := fun _ => fun
  | [d1, d2, d3, d4, d5, d6] => { results := [.lit (.bool true)], args := [d1, d2, d3, d4, d5, d6] }
  | _ => none }
def grainsMatchRow : OpenClaim := { program := "ytmckkgbdlgldbaa", sum := "1bd593114fe873d57eeb2d9f8e6a885f1216bc6d3f705f8f9414e1a97a367e7b", func := "dyehouse/dyelaw2.GrainsMatch", spec := "grainsMatch", inPlace := ["math.Float32frombits", "math.RoundToEven", "math.Float32bits"], unfollowed := true, recurses := true, apart := false }
def GrainsMatchSaid : Prop := grainsMatchRow.holds Try.pinned (OpenSpec.ofChange grainsMatchSpec)

/-- ITS FALSE NEIGHBOUR: 'it returns false'. Refute it at one input. -/
def grainsMatchWrong : ChangeSpec := { name := "grainsMatch", fn := fun _ => fun
  | [d1, d2, d3, d4, d5, d6] => { results := [.lit (.bool false)], args := [d1, d2, d3, d4, d5, d6] }
  | _ => none }
def GrainsMatchWrongFalsely : Prop := grainsMatchRow.holds Try.pinned (OpenSpec.ofChange grainsMatchWrong)

/-- 'dyelaw2.FramesOfLevels': WHATEVER THE INPUT: true; the input reads as it did. -/
def framesOfLevelsSpec : ChangeSpec := { name := "framesOfLevels", fn := fun _ => fun
  | [d1, d2, d3, d4] => { results := [.lit (.bool true)], args := [d1, d2, d3, d4] }
  | _ => none }
def framesOfLevelsRow : OpenClaim := { program := "ytmckkgbdlgldbaa", sum := "1bd593114fe873d57eeb2d9f8e6a885f1216bc6d3f705f8f9414e1a97a367e7b", func := "dyehouse/dyelaw2.FramesOfLevels", spec := "framesOfLevels", inPlace := ["math.RoundToEven"], unfollowed := true, recurses := true, apart := false }
def FramesOfLevelsSaid : Prop := framesOfLevelsRow.holds Try.pinned (OpenSpec.ofChange framesOfLevelsSpec)

/-- ITS FALSE NEIGHBOUR: 'it returns false'. Refute it at one input. -/
def framesOfLevelsWrong : ChangeSpec := { name := "framesOfLevels", fn := fun _ => fun
  | [d1, d2, d3, d4] => { results := [.lit (.bool false)], args := [d1, d2, d3, d4] }
  | _ => none }
def FramesOfLevelsWrongFalsely : Prop := framesOfLevelsRow.holds Try.pinned (OpenSpec.ofChange framesOfLevelsWrong)

/-- 'dyelaw2.HuesLeadBack': WHATEVER THE INPUT: true; the input reads as it did. -/
def huesLeadBackSpec : ChangeSpec := { name := "huesLeadBack", fn := fun _ => fun
  | [d] => { results := [.lit (.bool true)], args := [d] }
  | _ => none }
def huesLeadBackRow : OpenClaim := { program := "ytmckkgbdlgldbaa", sum := "1bd593114fe873d57eeb2d9f8e6a885f1216bc6d3f705f8f9414e1a97a367e7b", func := "dyehouse/dyelaw2.HuesLeadBack", spec := "huesLeadBack", inPlace := ["math.Float64bits", "math.Float64frombits", "math.Float32frombits", "math.archFloor", "math.archTrunc", "math.Float32bits"], apart := false }
def HuesLeadBackSaid : Prop := huesLeadBackRow.holds Try.pinned (OpenSpec.ofChange huesLeadBackSpec)

/-- ITS FALSE NEIGHBOUR: 'it returns false'. Refute it at one input. -/
def huesLeadBackWrong : ChangeSpec := { name := "huesLeadBack", fn := fun _ => fun
  | [d] => { results := [.lit (.bool false)], args := [d] }
  | _ => none }
def HuesLeadBackWrongFalsely : Prop := huesLeadBackRow.holds Try.pinned (OpenSpec.ofChange huesLeadBackWrong)

/-- 'dyelaw2.VignettesMatch': WHATEVER THE INPUT: true; the input reads as it did. -/
def vignettesMatchSpec : ChangeSpec := { name := "vignettesMatch", fn := fun _ => fun
  | [d1, d2] => { results := [.lit (.bool true)], args := [d1, d2] }
  | _ => none }
def vignettesMatchRow : OpenClaim := { program := "ytmckkgbdlgldbaa", sum := "1bd593114fe873d57eeb2d9f8e6a885f1216bc6d3f705f8f9414e1a97a367e7b", func := "dyehouse/dyelaw2.VignettesMatch", spec := "vignettesMatch", inPlace := ["math.sqrt", "math.Float32frombits", "math.RoundToEven", "math.Float32bits"], unfollowed := true, recurses := true, apart := false }
def VignettesMatchSaid : Prop := vignettesMatchRow.holds Try.pinned (OpenSpec.ofChange vignettesMatchSpec)

/-- ITS FALSE NEIGHBOUR: 'it returns false'. Refute it at one input. -/
def vignettesMatchWrong : ChangeSpec := { name := "vignettesMatch", fn := fun _ => fun
  | [d1, d2] => { results := [.lit (.bool false)], args := [d1, d2] }
  | _ => none }
def VignettesMatchWrongFalsely : Prop := vignettesMatchRow.holds Try.pinned (OpenSpec.ofChange vignettesMatchWrong)

/-- 'dyelaw2.CubesMatch': WHATEVER THE INPUT: true; the input reads as it did. -/
def cubesMatchSpec : ChangeSpec := { name := "cubesMatch", fn := fun _ => fun
  | [d1, d2, d3, d4, d5] => { results := [.lit (.bool true)], args := [d1, d2, d3, d4, d5] }
  | _ => none }
def cubesMatchRow : OpenClaim := { program := "ytmckkgbdlgldbaa", sum := "1bd593114fe873d57eeb2d9f8e6a885f1216bc6d3f705f8f9414e1a97a367e7b", func := "dyehouse/dyelaw2.CubesMatch", spec := "cubesMatch", inPlace := ["math.Float32frombits", "math.archFloor", "math.Float64bits", "math.Float64frombits", "math.archTrunc", "math.Float32bits"], unfollowed := true, recurses := true, apart := false }
def CubesMatchSaid : Prop := cubesMatchRow.holds Try.pinned (OpenSpec.ofChange cubesMatchSpec)

/-- ITS FALSE NEIGHBOUR: 'it returns false'. Refute it at one input. -/
def cubesMatchWrong : ChangeSpec := { name := "cubesMatch", fn := fun _ => fun
  | [d1, d2, d3, d4, d5] => { results := [.lit (.bool false)], args := [d1, d2, d3, d4, d5] }
  | _ => none }
def CubesMatchWrongFalsely : Prop := cubesMatchRow.holds Try.pinned (OpenSpec.ofChange cubesMatchWrong)

/-- 'dyelaw2.CubesSearch': WHATEVER THE INPUT: true; the input reads as it did. -/
def cubesSearchSpec : ChangeSpec := { name := "cubesSearch", fn := fun _ => fun
  | [d1, d2, d3] => { results := [.lit (.bool true)], args := [d1, d2, d3] }
  | _ => none }
def cubesSearchRow : OpenClaim := { program := "ytmckkgbdlgldbaa", sum := "1bd593114fe873d57eeb2d9f8e6a885f1216bc6d3f705f8f9414e1a97a367e7b", func := "dyehouse/dyelaw2.CubesSearch", spec := "cubesSearch", inPlace := ["math.archFloor", "math.Float64bits", "math.Float64frombits", "math.archTrunc", "math.Float32frombits", "math.Float32bits"], unfollowed := true, recurses := true, apart := false }
def CubesSearchSaid : Prop := cubesSearchRow.holds Try.pinned (OpenSpec.ofChange cubesSearchSpec)

/-- ITS FALSE NEIGHBOUR: 'it returns false'. Refute it at one input. -/
def cubesSearchWrong : ChangeSpec := { name := "cubesSearch", fn := fun _ => fun
  | [d1, d2, d3] => { results := [.lit (.bool false)], args := [d1, d2, d3] }
  | _ => none }
def CubesSearchWrongFalsely : Prop := cubesSearchRow.holds Try.pinned (OpenSpec.ofChange cubesSearchWrong)

/-- 'dyetop.TopLevels': WHATEVER THE INPUT: true; the input reads as it did. -/
def topLevelsSpec : ChangeSpec := { name := "topLevels", fn := fun _ => fun
  | [d1, d2, d3, d4] => { results := [.lit (.bool true)], args := [d1, d2, d3, d4] }
  | _ => none }
def topLevelsRow : OpenClaim := { program := "ytmckkgbdlgldbaa", sum := "1bd593114fe873d57eeb2d9f8e6a885f1216bc6d3f705f8f9414e1a97a367e7b", func := "dyehouse/dyetop.TopLevels", spec := "topLevels", inPlace := ["math.Float32frombits", "math.Float32bits", "math.RoundToEven", "math.Float64bits", "math.Float64frombits"], unfollowed := true, recurses := true, apart := false }
def TopLevelsSaid : Prop := topLevelsRow.holds Try.pinned (OpenSpec.ofChange topLevelsSpec)

/-- ITS FALSE NEIGHBOUR: 'it returns false'. Refute it at one input. -/
def topLevelsWrong : ChangeSpec := { name := "topLevels", fn := fun _ => fun
  | [d1, d2, d3, d4] => { results := [.lit (.bool false)], args := [d1, d2, d3, d4] }
  | _ => none }
def TopLevelsWrongFalsely : Prop := topLevelsRow.holds Try.pinned (OpenSpec.ofChange topLevelsWrong)

/-- 'dyelaw2.CubesCompose': WHATEVER THE INPUT: true; the input reads as it did. -/
def cubesComposeSpec : ChangeSpec := { name := "cubesCompose", fn := fun _ => fun
  | [d1, d2, d3, d4] => { results := [.lit (.bool true)], args := [d1, d2, d3, d4] }
  | _ => none }
def cubesComposeRow : OpenClaim := { program := "ytmckkgbdlgldbaa", sum := "1bd593114fe873d57eeb2d9f8e6a885f1216bc6d3f705f8f9414e1a97a367e7b", func := "dyehouse/dyelaw2.CubesCompose", spec := "cubesCompose", inPlace := ["math.archFloor", "math.Float64bits", "math.Float64frombits", "math.archTrunc", "math.Float32frombits", "math.Float32bits"], unfollowed := true, recurses := true, apart := false }
def CubesComposeSaid : Prop := cubesComposeRow.holds Try.pinned (OpenSpec.ofChange cubesComposeSpec)

/-- ITS FALSE NEIGHBOUR: 'it returns false'. Refute it at one input. -/
def cubesComposeWrong : ChangeSpec := { name := "cubesCompose", fn := fun _ => fun
  | [d1, d2, d3, d4] => { results := [.lit (.bool false)], args := [d1, d2, d3, d4] }
  | _ => none }
def CubesComposeWrongFalsely : Prop := cubesComposeRow.holds Try.pinned (OpenSpec.ofChange cubesComposeWrong)

/- THE SECOND FORM. 'bulk': how many values and letters a reading holds, each counted each time it is reached (what is shared counts as often as it is met; a slice's spare places count too). A statement '..UptoSaid' is the law's where the arguments, and the package variables that the reading takes, are together of bulk at most 1048576: NARROWER than '..Said'. Prove '..Said' where nothing that the law and all that it calls make is longer than what came in: it says more and counts as full. Else prove '..UptoSaid'. A law counts once. -/
mutual
def uptoBulk {H : Type} : DataW H → Nat
  | .lit (.string bytes) => bytes.length + 1
  | .lit _ => 1
  | .nil => 1
  | .ptr d => uptoBulk d + 1
  | .slice elems spare => uptoBulkAll elems + uptoBulkAll spare + 1
  | .agg parts => uptoBulkAll parts + 1
  | .iface _ d => uptoBulk d + 1
  | .map entries => uptoBulkEntries entries + 1
  | .held _ => 1
def uptoBulkAll {H : Type} : List (DataW H) → Nat
  | [] => 0
  | d :: r => uptoBulk d + uptoBulkAll r
def uptoBulkEntries {H : Type} : List (Lit × DataW H) → Nat
  | [] => 0
  | x :: r => uptoBulkEntry x + uptoBulkEntries r
def uptoBulkEntry {H : Type} : Lit × DataW H → Nat
  | (.string bytes, d) => bytes.length + uptoBulk d + 1
  | (_, d) => uptoBulk d + 1
 end
def uptoSmall : (H : Type) → List (DataW H) → Bool := fun _ ds => decide (uptoBulkAll ds ≤ 1048576)
def OpenSpec.upto (s : _root_.Go.ChangeSpec) : _root_.Go.OpenSpec := { _root_.Go.OpenSpec.ofChange s with cond := some uptoSmall }

/-- 'dyelaw2.LevelsAsFrames', WHERE WHAT IT READS IS OF BULK AT MOST 1048576: true; the input reads as it did. -/
def levelsAsFramesUptoRow : OpenClaim := { program := "ytmckkgbdlgldbaa", sum := "1bd593114fe873d57eeb2d9f8e6a885f1216bc6d3f705f8f9414e1a97a367e7b", func := "dyehouse/dyelaw2.LevelsAsFrames", spec := "levelsAsFrames", inPlace := ["math.RoundToEven", "math.Float32bits"], unfollowed := true, recurses := true, apart := false, narrowed := true }
def LevelsAsFramesUptoSaid : Prop := levelsAsFramesUptoRow.holds Try.pinned (OpenSpec.upto levelsAsFramesSpec)

/-- 'dyelaw2.LevelsMatch', WHERE WHAT IT READS IS OF BULK AT MOST 1048576: true; the input reads as it did. -/
def levelsMatchUptoRow : OpenClaim := { program := "ytmckkgbdlgldbaa", sum := "1bd593114fe873d57eeb2d9f8e6a885f1216bc6d3f705f8f9414e1a97a367e7b", func := "dyehouse/dyelaw2.LevelsMatch", spec := "levelsMatch", inPlace := ["math.RoundToEven", "math.Float32bits"], apart := false, narrowed := true }
def LevelsMatchUptoSaid : Prop := levelsMatchUptoRow.holds Try.pinned (OpenSpec.upto levelsMatchSpec)

/-- 'dyelaw2.CubesSmooth', WHERE WHAT IT READS IS OF BULK AT MOST 1048576: true; the input reads as it did. -/
def cubesSmoothUptoRow : OpenClaim := { program := "ytmckkgbdlgldbaa", sum := "1bd593114fe873d57eeb2d9f8e6a885f1216bc6d3f705f8f9414e1a97a367e7b", func := "dyehouse/dyelaw2.CubesSmooth", spec := "cubesSmooth", inPlace := ["math.Float32frombits", "math.Float32bits"], unfollowed := true, recurses := true, apart := false, narrowed := true }
def CubesSmoothUptoSaid : Prop := cubesSmoothUptoRow.holds Try.pinned (OpenSpec.upto cubesSmoothSpec)

/-- 'dyelaw2.GamutsMatch', WHERE WHAT IT READS IS OF BULK AT MOST 1048576: true; the input reads as it did. -/
def gamutsMatchUptoRow : OpenClaim := { program := "ytmckkgbdlgldbaa", sum := "1bd593114fe873d57eeb2d9f8e6a885f1216bc6d3f705f8f9414e1a97a367e7b", func := "dyehouse/dyelaw2.GamutsMatch", spec := "gamutsMatch", inPlace := ["math.Float32frombits", "math.RoundToEven", "math.Float32bits"], unfollowed := true, recurses := true, apart := false, narrowed := true }
def GamutsMatchUptoSaid : Prop := gamutsMatchUptoRow.holds Try.pinned (OpenSpec.upto gamutsMatchSpec)

/-- 'dyelaw2.PacksMatch', WHERE WHAT IT READS IS OF BULK AT MOST 1048576: true; the input reads as it did. -/
def packsMatchUptoRow : OpenClaim := { program := "ytmckkgbdlgldbaa", sum := "1bd593114fe873d57eeb2d9f8e6a885f1216bc6d3f705f8f9414e1a97a367e7b", func := "dyehouse/dyelaw2.PacksMatch", spec := "packsMatch", inPlace := ["math.RoundToEven"], apart := false, narrowed := true }
def PacksMatchUptoSaid : Prop := packsMatchUptoRow.holds Try.pinned (OpenSpec.upto packsMatchSpec)

/-- 'dyelaw2.CubesMeasure', WHERE WHAT IT READS IS OF BULK AT MOST 1048576: true; the input reads as it did. -/
def cubesMeasureUptoRow : OpenClaim := { program := "ytmckkgbdlgldbaa", sum := "1bd593114fe873d57eeb2d9f8e6a885f1216bc6d3f705f8f9414e1a97a367e7b", func := "dyehouse/dyelaw2.CubesMeasure", spec := "cubesMeasure", inPlace := ["math.Float32frombits", "math.Float32bits", "math.Float64frombits"], unfollowed := true, recurses := true, apart := false, narrowed := true }
def CubesMeasureUptoSaid : Prop := cubesMeasureUptoRow.holds Try.pinned (OpenSpec.upto cubesMeasureSpec)

/-- 'dyelaw2.SharpensAsSaid', WHERE WHAT IT READS IS OF BULK AT MOST 1048576: true; the input reads as it did. -/
def sharpensAsSaidUptoRow : OpenClaim := { program := "ytmckkgbdlgldbaa", sum := "1bd593114fe873d57eeb2d9f8e6a885f1216bc6d3f705f8f9414e1a97a367e7b", func := "dyehouse/dyelaw2.SharpensAsSaid", spec := "sharpensAsSaid", inPlace := ["math.Float64bits", "math.Float64frombits", "math.Float32frombits", "math.RoundToEven", "math.Float32bits"], unfollowed := true, recurses := true, apart := false, narrowed := true }
def SharpensAsSaidUptoSaid : Prop := sharpensAsSaidUptoRow.holds Try.pinned (OpenSpec.upto sharpensAsSaidSpec)

/-- 'dyelaw2.GrainsMatch', WHERE WHAT IT READS IS OF BULK AT MOST 1048576: true; the input reads as it did. -/
def grainsMatchUptoRow : OpenClaim := { program := "ytmckkgbdlgldbaa", sum := "1bd593114fe873d57eeb2d9f8e6a885f1216bc6d3f705f8f9414e1a97a367e7b", func := "dyehouse/dyelaw2.GrainsMatch", spec := "grainsMatch", inPlace := ["math.Float32frombits", "math.RoundToEven", "math.Float32bits"], unfollowed := true, recurses := true, apart := false, narrowed := true }
def GrainsMatchUptoSaid : Prop := grainsMatchUptoRow.holds Try.pinned (OpenSpec.upto grainsMatchSpec)

/-- 'dyelaw2.FramesOfLevels', WHERE WHAT IT READS IS OF BULK AT MOST 1048576: true; the input reads as it did. -/
def framesOfLevelsUptoRow : OpenClaim := { program := "ytmckkgbdlgldbaa", sum := "1bd593114fe873d57eeb2d9f8e6a885f1216bc6d3f705f8f9414e1a97a367e7b", func := "dyehouse/dyelaw2.FramesOfLevels", spec := "framesOfLevels", inPlace := ["math.RoundToEven"], unfollowed := true, recurses := true, apart := false, narrowed := true }
def FramesOfLevelsUptoSaid : Prop := framesOfLevelsUptoRow.holds Try.pinned (OpenSpec.upto framesOfLevelsSpec)

/-- 'dyelaw2.HuesLeadBack', WHERE WHAT IT READS IS OF BULK AT MOST 1048576: true; the input reads as it did. -/
def huesLeadBackUptoRow : OpenClaim := { program := "ytmckkgbdlgldbaa", sum := "1bd593114fe873d57eeb2d9f8e6a885f1216bc6d3f705f8f9414e1a97a367e7b", func := "dyehouse/dyelaw2.HuesLeadBack", spec := "huesLeadBack", inPlace := ["math.Float64bits", "math.Float64frombits", "math.Float32frombits", "math.archFloor", "math.archTrunc", "math.Float32bits"], apart := false, narrowed := true }
def HuesLeadBackUptoSaid : Prop := huesLeadBackUptoRow.holds Try.pinned (OpenSpec.upto huesLeadBackSpec)

/-- 'dyelaw2.VignettesMatch', WHERE WHAT IT READS IS OF BULK AT MOST 1048576: true; the input reads as it did. -/
def vignettesMatchUptoRow : OpenClaim := { program := "ytmckkgbdlgldbaa", sum := "1bd593114fe873d57eeb2d9f8e6a885f1216bc6d3f705f8f9414e1a97a367e7b", func := "dyehouse/dyelaw2.VignettesMatch", spec := "vignettesMatch", inPlace := ["math.sqrt", "math.Float32frombits", "math.RoundToEven", "math.Float32bits"], unfollowed := true, recurses := true, apart := false, narrowed := true }
def VignettesMatchUptoSaid : Prop := vignettesMatchUptoRow.holds Try.pinned (OpenSpec.upto vignettesMatchSpec)

/-- 'dyelaw2.CubesMatch', WHERE WHAT IT READS IS OF BULK AT MOST 1048576: true; the input reads as it did. -/
def cubesMatchUptoRow : OpenClaim := { program := "ytmckkgbdlgldbaa", sum := "1bd593114fe873d57eeb2d9f8e6a885f1216bc6d3f705f8f9414e1a97a367e7b", func := "dyehouse/dyelaw2.CubesMatch", spec := "cubesMatch", inPlace := ["math.Float32frombits", "math.archFloor", "math.Float64bits", "math.Float64frombits", "math.archTrunc", "math.Float32bits"], unfollowed := true, recurses := true, apart := false, narrowed := true }
def CubesMatchUptoSaid : Prop := cubesMatchUptoRow.holds Try.pinned (OpenSpec.upto cubesMatchSpec)

/-- 'dyelaw2.CubesSearch', WHERE WHAT IT READS IS OF BULK AT MOST 1048576: true; the input reads as it did. -/
def cubesSearchUptoRow : OpenClaim := { program := "ytmckkgbdlgldbaa", sum := "1bd593114fe873d57eeb2d9f8e6a885f1216bc6d3f705f8f9414e1a97a367e7b", func := "dyehouse/dyelaw2.CubesSearch", spec := "cubesSearch", inPlace := ["math.archFloor", "math.Float64bits", "math.Float64frombits", "math.archTrunc", "math.Float32frombits", "math.Float32bits"], unfollowed := true, recurses := true, apart := false, narrowed := true }
def CubesSearchUptoSaid : Prop := cubesSearchUptoRow.holds Try.pinned (OpenSpec.upto cubesSearchSpec)

/-- 'dyetop.TopLevels', WHERE WHAT IT READS IS OF BULK AT MOST 1048576: true; the input reads as it did. -/
def topLevelsUptoRow : OpenClaim := { program := "ytmckkgbdlgldbaa", sum := "1bd593114fe873d57eeb2d9f8e6a885f1216bc6d3f705f8f9414e1a97a367e7b", func := "dyehouse/dyetop.TopLevels", spec := "topLevels", inPlace := ["math.Float32frombits", "math.Float32bits", "math.RoundToEven", "math.Float64bits", "math.Float64frombits"], unfollowed := true, recurses := true, apart := false, narrowed := true }
def TopLevelsUptoSaid : Prop := topLevelsUptoRow.holds Try.pinned (OpenSpec.upto topLevelsSpec)

/-- 'dyelaw2.CubesCompose', WHERE WHAT IT READS IS OF BULK AT MOST 1048576: true; the input reads as it did. -/
def cubesComposeUptoRow : OpenClaim := { program := "ytmckkgbdlgldbaa", sum := "1bd593114fe873d57eeb2d9f8e6a885f1216bc6d3f705f8f9414e1a97a367e7b", func := "dyehouse/dyelaw2.CubesCompose", spec := "cubesCompose", inPlace := ["math.archFloor", "math.Float64bits", "math.Float64frombits", "math.archTrunc", "math.Float32frombits", "math.Float32bits"], unfollowed := true, recurses := true, apart := false, narrowed := true }
def CubesComposeUptoSaid : Prop := cubesComposeUptoRow.holds Try.pinned (OpenSpec.upto cubesComposeSpec)

end Rows
end Go.Proofs.Ytmckkgbdlgldbaa
