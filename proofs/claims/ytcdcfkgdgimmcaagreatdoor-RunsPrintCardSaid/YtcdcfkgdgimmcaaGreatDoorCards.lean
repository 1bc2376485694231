/-
  DERIVED. GIVEN WITH THE SEED: THE CARDS: each row of YtcdcfkgdgimmcaaGreatDoorRows.lean that lists a variable, with what it lists TIED to the program's text (the seventh form; the later family's looks); each row that meets fmt, with fmt's text TOLD by the authors' own Lean function (tested against real Go, not proved from fmt's source: count such statements apart). THE CARD IS WHAT COUNTS. Prove the row's statement (the work); the ties are given (YtcdcfkgdgimmcaaGreatDoorTie.lean); close each card by the builder's one call (the guide's Derived/Test/ToyasCard.lean, 'card_holds'). Laid BY PROGRAM, IN A SANDBOX (cutbox-door.mjs). By AI agents, Wed Nov 11 2026. No macro, syntax, notation, axiom, sorry.
-/
import Derived.Test.YtcdcfkgdgimmcaaGreatDoorRows
import GoSem.ClaimSeven
namespace Go.Proofs.YtcdcfkgdgimmcaaGreatDoor
namespace Rows

/-- THE TIED CARD OF 'dyelaw2.RunsPrint'. -/
def runsPrintCard : Claim7 := { stood := { row := runsPrintRow, standIns := [], harness := (true, "9a9c77a6ae37c1ce6da2eff61ec53b4462c9712e25ea74e862b5621416567e3d"), looks := true }, kinds := [], alts := [], laidByText := true, laidKinds := [.data, .data, .data, .data, .sentinel, .sentinel, .pinned], laidTests := true, laidLooks := .later }
def RunsPrintCardSaid : Prop := Claim7.holds Tryz.pinned (.plain (OpenSpec.ofChange runsPrintSpec)) runsPrintCard

/-- THE SECOND FORM's CARD OF 'dyelaw2.RunsPrint'. -/
def runsPrintUptoCard : Claim7 := { stood := { row := runsPrintUptoRow, standIns := [], harness := (true, "9a9c77a6ae37c1ce6da2eff61ec53b4462c9712e25ea74e862b5621416567e3d"), looks := true }, kinds := [], alts := [], laidByText := true, laidKinds := [.data, .data, .data, .data, .sentinel, .sentinel, .pinned], laidTests := true, laidLooks := .later }
def RunsPrintUptoCardSaid : Prop := Claim7.holds Tryz.pinned (.plain (OpenSpec.upto runsPrintSpec)) runsPrintUptoCard
end Rows
end Go.Proofs.YtcdcfkgdgimmcaaGreatDoor
