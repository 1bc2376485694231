/-
  DERIVED. GIVEN WITH THE SEED: THE CARDS: each row of YthlomgbchmhjiaaGreatDoorRows.lean that lists a variable, with what it lists TIED to the program's text (the seventh form; the later family's looks); each row that meets fmt, with fmt's text TOLD by the authors' own Lean function (tested against real Go, not proved from fmt's source: count such statements apart). THE CARD IS WHAT COUNTS. Prove the row's statement (the work); the ties are given (YthlomgbchmhjiaaGreatDoorTie.lean); close each card by the builder's one call (the guide's Derived/Test/ToyasCard.lean, 'card_holds'). Laid BY PROGRAM, IN A SANDBOX (cutbox-door.mjs). By AI agents, Wed Nov 11 2026. No macro, syntax, notation, axiom, sorry.
-/
import Derived.Test.YthlomgbchmhjiaaGreatDoorRows
import GoSem.ClaimSeven
namespace Go.Proofs.YthlomgbchmhjiaaGreatDoor
namespace Rows

/-- THE TIED CARD OF 'dyelaw2.LibrariesMatch'. -/
def librariesMatchCard : Claim7 := { stood := { row := librariesMatchRow, standIns := [], harness := (true, "f54f238d1fb3667abb077b5ddf78fd48c6572ae396d99fc2da18f35f66f77eff"), looks := true }, kinds := [], alts := [], laidByText := true, laidKinds := [.data, .data, .widerDeep, .widerDeep, .data, .data, .data, .data, .data, .data, .sentinel, .sentinel, .pinned, .pinned, .pinned], laidTests := true, laidLooks := .later }
def LibrariesMatchCardSaid : Prop := Claim7.holds Tryz.pinned (.plain (OpenSpec.ofChange librariesMatchSpec)) librariesMatchCard

/-- THE SECOND FORM's CARD OF 'dyelaw2.LibrariesMatch'. -/
def librariesMatchUptoCard : Claim7 := { stood := { row := librariesMatchUptoRow, standIns := [], harness := (true, "f54f238d1fb3667abb077b5ddf78fd48c6572ae396d99fc2da18f35f66f77eff"), looks := true }, kinds := [], alts := [], laidByText := true, laidKinds := [.data, .data, .widerDeep, .widerDeep, .data, .data, .data, .data, .data, .data, .sentinel, .sentinel, .pinned, .pinned, .pinned], laidTests := true, laidLooks := .later }
def LibrariesMatchUptoCardSaid : Prop := Claim7.holds Tryz.pinned (.plain (OpenSpec.upto librariesMatchSpec)) librariesMatchUptoCard
end Rows
end Go.Proofs.YthlomgbchmhjiaaGreatDoor
