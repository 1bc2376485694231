/-
  DERIVED. GIVEN WITH THE SEED: THE CARDS: each row of YtbaocallhnehfaaGreatDoorRows.lean that lists a variable, with what it lists TIED to the program's text (the seventh form; the later family's looks); each row that meets fmt, with fmt's text TOLD by the authors' own Lean function (tested against real Go, not proved from fmt's source: count such statements apart). THE CARD IS WHAT COUNTS. Prove the row's statement (the work); the ties are given (YtbaocallhnehfaaGreatDoorTie.lean); close each card by the builder's one call (the guide's Derived/Test/ToyasCard.lean, 'card_holds'). Laid BY PROGRAM, IN A SANDBOX (cutbox-door.mjs). By AI agents, Wed Nov 11 2026. No macro, syntax, notation, axiom, sorry.
-/
import Derived.Test.YtbaocallhnehfaaGreatDoorRows
import GoSem.ClaimSeven
namespace Go.Proofs.YtbaocallhnehfaaGreatDoor
namespace Rows

/-- THE TIED CARD OF 'dyelaw2.CompilesAsSaid'. -/
def compilesAsSaidCard : Claim7 := { stood := { row := compilesAsSaidRow, standIns := [], harness := (true, "8060fe71c6d88646d810a8cfc6056f74fe1f0081683d09e1d9fac16ad510a58e"), looks := true }, kinds := [], alts := [], laidByText := true, laidKinds := [.data, .data, .widerDeep, .widerDeep, .data, .data, .data, .data, .data, .data, .sentinel, .sentinel, .pinned, .pinned, .pinned], laidTests := true, laidLooks := .later }
def CompilesAsSaidCardSaid : Prop := Claim7.holds Tryz.pinned (.plain (OpenSpec.ofChange compilesAsSaidSpec)) compilesAsSaidCard

/-- THE SECOND FORM's CARD OF 'dyelaw2.CompilesAsSaid'. -/
def compilesAsSaidUptoCard : Claim7 := { stood := { row := compilesAsSaidUptoRow, standIns := [], harness := (true, "8060fe71c6d88646d810a8cfc6056f74fe1f0081683d09e1d9fac16ad510a58e"), looks := true }, kinds := [], alts := [], laidByText := true, laidKinds := [.data, .data, .widerDeep, .widerDeep, .data, .data, .data, .data, .data, .data, .sentinel, .sentinel, .pinned, .pinned, .pinned], laidTests := true, laidLooks := .later }
def CompilesAsSaidUptoCardSaid : Prop := Claim7.holds Tryz.pinned (.plain (OpenSpec.upto compilesAsSaidSpec)) compilesAsSaidUptoCard
end Rows
end Go.Proofs.YtbaocallhnehfaaGreatDoor
