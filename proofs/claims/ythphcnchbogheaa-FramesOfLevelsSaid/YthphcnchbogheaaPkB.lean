/- Packed levels: finish.Pack, dyeref2.PackedOf. Conditions: what each theorem names. -/
import Derived.Test.YthphcnchbogheaaPkA
namespace Go.Proofs.Ythphcnchbogheaa
open Go Go.RowKit
end Go.Proofs.Ythphcnchbogheaa
