/-
  DERIVED. GIVEN WITH THE SEED: THE CARDS: each row of YtfmdnibfeckmaaaDoorRows.lean that lists a variable, with what it lists TIED to the program's text (the seventh form; the later family's looks); each row that meets fmt, with fmt's text TOLD by the authors' own Lean function (tested against real Go, not proved from fmt's source: count such statements apart). THE CARD IS WHAT COUNTS. Prove the row's statement (the work); the ties are given (YtfmdnibfeckmaaaDoorTie.lean); close each card by the builder's one call (the guide's Derived/Test/ToyasCard.lean, 'card_holds'). Laid BY PROGRAM, IN A SANDBOX (cutbox-door.mjs). By AI agents, Wed Nov 11 2026. No macro, syntax, notation, axiom, sorry.
-/
import Derived.Test.YtfmdnibfeckmaaaDoorRows
import GoSem.ClaimSeven
namespace Go.Proofs.YtfmdnibfeckmaaaDoor
namespace Rows

/-- THE TIED CARD OF 'dyelaw2.SpacesMatch'. -/
def spacesMatchCard : Claim7 := { stood := { row := spacesMatchRow, standIns := [], harness := (true, "65e9ab1665888b383f509638317a1cc3ecceadd95d684554ca69f38bd18481e7"), looks := false }, kinds := [], alts := [], laidByText := true, laidKinds := [.data, .pinned], laidTests := true, laidLooks := .later }
def SpacesMatchCardSaid : Prop := Claim7.holds Tryd.pinned (.plain (OpenSpec.ofChange spacesMatchSpec)) spacesMatchCard

/-- THE SECOND FORM's CARD OF 'dyelaw2.SpacesMatch'. -/
def spacesMatchUptoCard : Claim7 := { stood := { row := spacesMatchUptoRow, standIns := [], harness := (true, "65e9ab1665888b383f509638317a1cc3ecceadd95d684554ca69f38bd18481e7"), looks := false }, kinds := [], alts := [], laidByText := true, laidKinds := [.data, .pinned], laidTests := true, laidLooks := .later }
def SpacesMatchUptoCardSaid : Prop := Claim7.holds Tryd.pinned (.plain (OpenSpec.upto spacesMatchSpec)) spacesMatchUptoCard
end Rows
end Go.Proofs.YtfmdnibfeckmaaaDoor
