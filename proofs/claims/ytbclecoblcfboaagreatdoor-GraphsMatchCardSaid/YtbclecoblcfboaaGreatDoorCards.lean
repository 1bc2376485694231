/-
  DERIVED. GIVEN WITH THE SEED: THE CARDS: each row of YtbclecoblcfboaaGreatDoorRows.lean that lists a variable, with what it lists TIED to the program's text (the seventh form; the later family's looks); each row that meets fmt, with fmt's text TOLD by the authors' own Lean function (tested against real Go, not proved from fmt's source: count such statements apart). THE CARD IS WHAT COUNTS. Prove the row's statement (the work); the ties are given (YtbclecoblcfboaaGreatDoorTie.lean); close each card by the builder's one call (the guide's Derived/Test/ToyasCard.lean, 'card_holds'). Laid BY PROGRAM, IN A SANDBOX (cutbox-door.mjs). By AI agents, Wed Nov 11 2026. No macro, syntax, notation, axiom, sorry.
-/
import Derived.Test.YtbclecoblcfboaaGreatDoorRows
import GoSem.ClaimSeven
namespace Go.Proofs.YtbclecoblcfboaaGreatDoor
namespace Rows

/-- THE TIED CARD OF 'dyelaw2.CutsMatch'. -/
def cutsMatchCard : Claim7 := { stood := { row := cutsMatchRow, standIns := [], harness := (true, "1753797cb941ad96a41dd67fc9e11bde51dd8a448c4a06dcdc564bdf1f782614"), looks := true }, kinds := [], alts := [], laidByText := true, laidKinds := [.data, .data, .widerDeep, .widerDeep, .data, .data, .data, .data, .data, .data, .sentinel, .sentinel, .pinned, .pinned, .pinned], laidTests := true, laidLooks := .later }
def CutsMatchCardSaid : Prop := Claim7.holds Tryz.pinned (.plain (OpenSpec.ofChange cutsMatchSpec)) cutsMatchCard

/-- THE TIED CARD OF 'dyelaw2.GraphsMatch'. -/
def graphsMatchCard : Claim7 := { stood := { row := graphsMatchRow, standIns := [], harness := (true, "1753797cb941ad96a41dd67fc9e11bde51dd8a448c4a06dcdc564bdf1f782614"), looks := true }, kinds := [], alts := [], laidByText := true, laidKinds := [.data, .data, .widerDeep, .widerDeep, .data, .data, .data, .data, .data, .data, .sentinel, .sentinel, .pinned, .pinned, .pinned], laidTests := true, laidLooks := .later }
def GraphsMatchCardSaid : Prop := Claim7.holds Tryz.pinned (.plain (OpenSpec.ofChange graphsMatchSpec)) graphsMatchCard

/-- THE SECOND FORM's CARD OF 'dyelaw2.CutsMatch'. -/
def cutsMatchUptoCard : Claim7 := { stood := { row := cutsMatchUptoRow, standIns := [], harness := (true, "1753797cb941ad96a41dd67fc9e11bde51dd8a448c4a06dcdc564bdf1f782614"), looks := true }, kinds := [], alts := [], laidByText := true, laidKinds := [.data, .data, .widerDeep, .widerDeep, .data, .data, .data, .data, .data, .data, .sentinel, .sentinel, .pinned, .pinned, .pinned], laidTests := true, laidLooks := .later }
def CutsMatchUptoCardSaid : Prop := Claim7.holds Tryz.pinned (.plain (OpenSpec.upto cutsMatchSpec)) cutsMatchUptoCard

/-- THE SECOND FORM's CARD OF 'dyelaw2.GraphsMatch'. -/
def graphsMatchUptoCard : Claim7 := { stood := { row := graphsMatchUptoRow, standIns := [], harness := (true, "1753797cb941ad96a41dd67fc9e11bde51dd8a448c4a06dcdc564bdf1f782614"), looks := true }, kinds := [], alts := [], laidByText := true, laidKinds := [.data, .data, .widerDeep, .widerDeep, .data, .data, .data, .data, .data, .data, .sentinel, .sentinel, .pinned, .pinned, .pinned], laidTests := true, laidLooks := .later }
def GraphsMatchUptoCardSaid : Prop := Claim7.holds Tryz.pinned (.plain (OpenSpec.upto graphsMatchSpec)) graphsMatchUptoCard
end Rows
end Go.Proofs.YtbclecoblcfboaaGreatDoor
