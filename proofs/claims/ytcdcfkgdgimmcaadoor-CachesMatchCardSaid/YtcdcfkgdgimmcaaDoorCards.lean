/-
  DERIVED. GIVEN WITH THE SEED: THE CARDS: each row of YtcdcfkgdgimmcaaDoorRows.lean that lists a variable, with what it lists TIED to the program's text (the seventh form; the later family's looks); each row that meets fmt, with fmt's text TOLD by the authors' own Lean function (tested against real Go, not proved from fmt's source: count such statements apart). THE CARD IS WHAT COUNTS. Prove the row's statement (the work); the ties are given (YtcdcfkgdgimmcaaDoorTie.lean); close each card by the builder's one call (the guide's Derived/Test/ToyasCard.lean, 'card_holds'). Laid BY PROGRAM, IN A SANDBOX (cutbox-door.mjs). By AI agents, Wed Nov 11 2026. No macro, syntax, notation, axiom, sorry.
-/
import Derived.Test.YtcdcfkgdgimmcaaDoorRows
import GoSem.ClaimSeven
namespace Go.Proofs.YtcdcfkgdgimmcaaDoor
namespace Rows

/-- THE TIED CARD OF 'dyelaw2.CachesMatch'. -/
def cachesMatchCard : Claim7 := { stood := { row := cachesMatchRow, standIns := [], harness := (true, "2cb8f75ec417080d3ea8335714d09d98e3e26ca310f948ee066b0799fe9b3056"), looks := true }, kinds := [], alts := [], laidByText := true, laidKinds := [.data, .pinned], laidTests := true, laidLooks := .later }
def CachesMatchCardSaid : Prop := Claim7.holds Tryd.pinned (.plain (OpenSpec.ofChange cachesMatchSpec)) cachesMatchCard

/-- THE TIED CARD OF 'dyelaw2.PicturesRead'. -/
def picturesReadCard : Claim7 := { stood := { row := picturesReadRow, standIns := [], harness := (true, "2cb8f75ec417080d3ea8335714d09d98e3e26ca310f948ee066b0799fe9b3056"), looks := true }, kinds := [], alts := [], laidByText := true, laidKinds := [.data, .data, .data, .data, .sentinel, .sentinel, .pinned], laidTests := true, laidLooks := .later }
def PicturesReadCardSaid : Prop := Claim7.holds Tryd.pinned (.plain (OpenSpec.ofChange picturesReadSpec)) picturesReadCard

/-- THE TIED CARD OF 'dyelaw2.PicturesMatch'. -/
def picturesMatchCard : Claim7 := { stood := { row := picturesMatchRow, standIns := [], harness := (true, "2cb8f75ec417080d3ea8335714d09d98e3e26ca310f948ee066b0799fe9b3056"), looks := true }, kinds := [], alts := [], laidByText := true, laidKinds := [.data, .data, .data, .data, .sentinel, .sentinel, .pinned], laidTests := true, laidLooks := .later }
def PicturesMatchCardSaid : Prop := Claim7.holds Tryd.pinned (.plain (OpenSpec.ofChange picturesMatchSpec)) picturesMatchCard

/-- THE TIED CARD OF 'dyelaw2.RunsRead'. -/
def runsReadCard : Claim7 := { stood := { row := runsReadRow, standIns := [], harness := (true, "2cb8f75ec417080d3ea8335714d09d98e3e26ca310f948ee066b0799fe9b3056"), looks := true }, kinds := [], alts := [], laidByText := true, laidKinds := [.data, .data, .data, .data, .sentinel, .sentinel, .pinned], laidTests := true, laidLooks := .later }
def RunsReadCardSaid : Prop := Claim7.holds Tryd.pinned (.plain (OpenSpec.ofChange runsReadSpec)) runsReadCard

/-- THE SECOND FORM's CARD OF 'dyelaw2.CachesMatch'. -/
def cachesMatchUptoCard : Claim7 := { stood := { row := cachesMatchUptoRow, standIns := [], harness := (true, "2cb8f75ec417080d3ea8335714d09d98e3e26ca310f948ee066b0799fe9b3056"), looks := true }, kinds := [], alts := [], laidByText := true, laidKinds := [.data, .pinned], laidTests := true, laidLooks := .later }
def CachesMatchUptoCardSaid : Prop := Claim7.holds Tryd.pinned (.plain (OpenSpec.upto cachesMatchSpec)) cachesMatchUptoCard

/-- THE SECOND FORM's CARD OF 'dyelaw2.PicturesRead'. -/
def picturesReadUptoCard : Claim7 := { stood := { row := picturesReadUptoRow, standIns := [], harness := (true, "2cb8f75ec417080d3ea8335714d09d98e3e26ca310f948ee066b0799fe9b3056"), looks := true }, kinds := [], alts := [], laidByText := true, laidKinds := [.data, .data, .data, .data, .sentinel, .sentinel, .pinned], laidTests := true, laidLooks := .later }
def PicturesReadUptoCardSaid : Prop := Claim7.holds Tryd.pinned (.plain (OpenSpec.upto picturesReadSpec)) picturesReadUptoCard

/-- THE SECOND FORM's CARD OF 'dyelaw2.PicturesMatch'. -/
def picturesMatchUptoCard : Claim7 := { stood := { row := picturesMatchUptoRow, standIns := [], harness := (true, "2cb8f75ec417080d3ea8335714d09d98e3e26ca310f948ee066b0799fe9b3056"), looks := true }, kinds := [], alts := [], laidByText := true, laidKinds := [.data, .data, .data, .data, .sentinel, .sentinel, .pinned], laidTests := true, laidLooks := .later }
def PicturesMatchUptoCardSaid : Prop := Claim7.holds Tryd.pinned (.plain (OpenSpec.upto picturesMatchSpec)) picturesMatchUptoCard

/-- THE SECOND FORM's CARD OF 'dyelaw2.RunsRead'. -/
def runsReadUptoCard : Claim7 := { stood := { row := runsReadUptoRow, standIns := [], harness := (true, "2cb8f75ec417080d3ea8335714d09d98e3e26ca310f948ee066b0799fe9b3056"), looks := true }, kinds := [], alts := [], laidByText := true, laidKinds := [.data, .data, .data, .data, .sentinel, .sentinel, .pinned], laidTests := true, laidLooks := .later }
def RunsReadUptoCardSaid : Prop := Claim7.holds Tryd.pinned (.plain (OpenSpec.upto runsReadSpec)) runsReadUptoCard
end Rows
end Go.Proofs.YtcdcfkgdgimmcaaDoor
