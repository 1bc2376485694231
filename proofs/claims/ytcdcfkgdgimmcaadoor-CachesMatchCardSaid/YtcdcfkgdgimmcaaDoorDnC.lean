/- Whether work is right, in the statements: dyelaw2.workError. Conditions: what each theorem names. -/
import Derived.Test.YtcdcfkgdgimmcaaDoorDnB
namespace Go.Proofs.YtcdcfkgdgimmcaaDoor
open Go Go.RowKit
end Go.Proofs.YtcdcfkgdgimmcaaDoor
