/- Four numbers by their place. Plain Lean. -/
import Derived.Test.YtmckkgbdlgldbaaCB
namespace Go.Proofs.Ytmckkgbdlgldbaa
/-- Four numbers by their place. -/
def p4 (a b c d : Nat) : Nat → Nat := fun x => if x = 0 then a else if x = 1 then b else if x = 2 then c else d
end Go.Proofs.Ytmckkgbdlgldbaa
