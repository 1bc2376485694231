/-
  DERIVED. GIVEN WITH THE SEED: THE CARDS: each row of YtjcakbikpficbaaGreatDoorRows.lean that lists a variable, with what it lists TIED to the program's text (the seventh form; the later family's looks); each row that meets fmt, with fmt's text TOLD by the authors' own Lean function (tested against real Go, not proved from fmt's source: count such statements apart). THE CARD IS WHAT COUNTS. Prove the row's statement (the work); the ties are given (YtjcakbikpficbaaGreatDoorTie.lean); close each card by the builder's one call (the guide's Derived/Test/ToyasCard.lean, 'card_holds'). Laid BY PROGRAM, IN A SANDBOX (cutbox-door.mjs). By AI agents, Wed Nov 11 2026. No macro, syntax, notation, axiom, sorry.
-/
import Derived.Test.YtjcakbikpficbaaGreatDoorRows
import GoSem.ClaimSeven
namespace Go.Proofs.YtjcakbikpficbaaGreatDoor
namespace Rows

/-- THE TIED CARD OF 'dyelaw2.OpsMatch'. -/
def opsMatchCard : Claim7 := { stood := { row := opsMatchRow, standIns := [], harness := (true, "2611ee15ad4f11a4f7a7aef05373c0c602d84054cf778d2d4cbeb6295c2f3e76"), looks := true }, kinds := [], alts := [], laidByText := true, laidKinds := [.data, .data, .widerDeep, .widerDeep, .data, .data, .data, .data, .data, .data, .sentinel, .sentinel, .pinned, .pinned, .pinned], laidTests := true, laidLooks := .later }
def OpsMatchCardSaid : Prop := Claim7.holds Tryz.pinned (.plain (OpenSpec.ofChange opsMatchSpec)) opsMatchCard

/-- THE TIED CARD OF 'dyelaw2.CompilesAsSaid'. -/
def compilesAsSaidCard : Claim7 := { stood := { row := compilesAsSaidRow, standIns := [], harness := (true, "2611ee15ad4f11a4f7a7aef05373c0c602d84054cf778d2d4cbeb6295c2f3e76"), looks := true }, kinds := [], alts := [], laidByText := true, laidKinds := [.data, .data, .widerDeep, .widerDeep, .data, .data, .data, .data, .data, .data, .sentinel, .sentinel, .pinned, .pinned, .pinned], laidTests := true, laidLooks := .later }
def CompilesAsSaidCardSaid : Prop := Claim7.holds Tryz.pinned (.plain (OpenSpec.ofChange compilesAsSaidSpec)) compilesAsSaidCard

/-- THE TIED CARD OF 'dyelaw2.CutsMatch'. -/
def cutsMatchCard : Claim7 := { stood := { row := cutsMatchRow, standIns := [], harness := (true, "2611ee15ad4f11a4f7a7aef05373c0c602d84054cf778d2d4cbeb6295c2f3e76"), looks := true }, kinds := [], alts := [], laidByText := true, laidKinds := [.data, .data, .widerDeep, .widerDeep, .data, .data, .data, .data, .data, .data, .sentinel, .sentinel, .pinned, .pinned, .pinned], laidTests := true, laidLooks := .later }
def CutsMatchCardSaid : Prop := Claim7.holds Tryz.pinned (.plain (OpenSpec.ofChange cutsMatchSpec)) cutsMatchCard

/-- THE TIED CARD OF 'dyelaw2.GraphsMatch'. -/
def graphsMatchCard : Claim7 := { stood := { row := graphsMatchRow, standIns := [], harness := (true, "2611ee15ad4f11a4f7a7aef05373c0c602d84054cf778d2d4cbeb6295c2f3e76"), looks := true }, kinds := [], alts := [], laidByText := true, laidKinds := [.data, .data, .widerDeep, .widerDeep, .data, .data, .data, .data, .data, .data, .sentinel, .sentinel, .pinned, .pinned, .pinned], laidTests := true, laidLooks := .later }
def GraphsMatchCardSaid : Prop := Claim7.holds Tryz.pinned (.plain (OpenSpec.ofChange graphsMatchSpec)) graphsMatchCard

/-- THE TIED CARD OF 'dyelaw2.LibrariesMatch'. -/
def librariesMatchCard : Claim7 := { stood := { row := librariesMatchRow, standIns := [], harness := (true, "2611ee15ad4f11a4f7a7aef05373c0c602d84054cf778d2d4cbeb6295c2f3e76"), looks := true }, kinds := [], alts := [], laidByText := true, laidKinds := [.data, .data, .widerDeep, .widerDeep, .data, .data, .data, .data, .data, .data, .sentinel, .sentinel, .pinned, .pinned, .pinned], laidTests := true, laidLooks := .later }
def LibrariesMatchCardSaid : Prop := Claim7.holds Tryz.pinned (.plain (OpenSpec.ofChange librariesMatchSpec)) librariesMatchCard

/-- THE SECOND FORM's CARD OF 'dyelaw2.OpsMatch'. -/
def opsMatchUptoCard : Claim7 := { stood := { row := opsMatchUptoRow, standIns := [], harness := (true, "2611ee15ad4f11a4f7a7aef05373c0c602d84054cf778d2d4cbeb6295c2f3e76"), looks := true }, kinds := [], alts := [], laidByText := true, laidKinds := [.data, .data, .widerDeep, .widerDeep, .data, .data, .data, .data, .data, .data, .sentinel, .sentinel, .pinned, .pinned, .pinned], laidTests := true, laidLooks := .later }
def OpsMatchUptoCardSaid : Prop := Claim7.holds Tryz.pinned (.plain (OpenSpec.upto opsMatchSpec)) opsMatchUptoCard

/-- THE SECOND FORM's CARD OF 'dyelaw2.CompilesAsSaid'. -/
def compilesAsSaidUptoCard : Claim7 := { stood := { row := compilesAsSaidUptoRow, standIns := [], harness := (true, "2611ee15ad4f11a4f7a7aef05373c0c602d84054cf778d2d4cbeb6295c2f3e76"), looks := true }, kinds := [], alts := [], laidByText := true, laidKinds := [.data, .data, .widerDeep, .widerDeep, .data, .data, .data, .data, .data, .data, .sentinel, .sentinel, .pinned, .pinned, .pinned], laidTests := true, laidLooks := .later }
def CompilesAsSaidUptoCardSaid : Prop := Claim7.holds Tryz.pinned (.plain (OpenSpec.upto compilesAsSaidSpec)) compilesAsSaidUptoCard

/-- THE SECOND FORM's CARD OF 'dyelaw2.CutsMatch'. -/
def cutsMatchUptoCard : Claim7 := { stood := { row := cutsMatchUptoRow, standIns := [], harness := (true, "2611ee15ad4f11a4f7a7aef05373c0c602d84054cf778d2d4cbeb6295c2f3e76"), looks := true }, kinds := [], alts := [], laidByText := true, laidKinds := [.data, .data, .widerDeep, .widerDeep, .data, .data, .data, .data, .data, .data, .sentinel, .sentinel, .pinned, .pinned, .pinned], laidTests := true, laidLooks := .later }
def CutsMatchUptoCardSaid : Prop := Claim7.holds Tryz.pinned (.plain (OpenSpec.upto cutsMatchSpec)) cutsMatchUptoCard

/-- THE SECOND FORM's CARD OF 'dyelaw2.GraphsMatch'. -/
def graphsMatchUptoCard : Claim7 := { stood := { row := graphsMatchUptoRow, standIns := [], harness := (true, "2611ee15ad4f11a4f7a7aef05373c0c602d84054cf778d2d4cbeb6295c2f3e76"), looks := true }, kinds := [], alts := [], laidByText := true, laidKinds := [.data, .data, .widerDeep, .widerDeep, .data, .data, .data, .data, .data, .data, .sentinel, .sentinel, .pinned, .pinned, .pinned], laidTests := true, laidLooks := .later }
def GraphsMatchUptoCardSaid : Prop := Claim7.holds Tryz.pinned (.plain (OpenSpec.upto graphsMatchSpec)) graphsMatchUptoCard

/-- THE SECOND FORM's CARD OF 'dyelaw2.LibrariesMatch'. -/
def librariesMatchUptoCard : Claim7 := { stood := { row := librariesMatchUptoRow, standIns := [], harness := (true, "2611ee15ad4f11a4f7a7aef05373c0c602d84054cf778d2d4cbeb6295c2f3e76"), looks := true }, kinds := [], alts := [], laidByText := true, laidKinds := [.data, .data, .widerDeep, .widerDeep, .data, .data, .data, .data, .data, .data, .sentinel, .sentinel, .pinned, .pinned, .pinned], laidTests := true, laidLooks := .later }
def LibrariesMatchUptoCardSaid : Prop := Claim7.holds Tryz.pinned (.plain (OpenSpec.upto librariesMatchSpec)) librariesMatchUptoCard
end Rows
end Go.Proofs.YtjcakbikpficbaaGreatDoor
