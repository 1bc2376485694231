/- CachesMatch: the walk of the statement, all ways together. Conditions: what the arguments are. -/
import Derived.Test.YtcdcfkgdgimmcaaDoorLawKd
import Derived.Test.YtcdcfkgdgimmcaaDoorOpK
namespace Go.Proofs.YtcdcfkgdgimmcaaDoor
open Go Go.RowKit
theorem kc_walk (most : Int) (ca : Option Addr) (ncl cc : Nat) (z0 z1 : Nat → Int) (na : Option Addr) (nn nc : Nat) (ss : Nat → ByteArray) (fa : Option Addr) (fn fc : Nat) (fr : Nat → Fr) (w : World) (_ : IntKind.i64.min ≤ most ∧ most ≤ IntKind.i64.max) (hC : IsPairs w ca ncl cc z0 z1) (hN : IsNames w na nn nc ss) (hF : IsFrames w fa fn fr ∧ ∀ q, q < fn → (fr q).an ≤ (fr q).ac ∧ (fr q).ac ≤ maxLen) :
    Calls Tryd.prog 3 #[.int .i64 most, .slice ca ncl cc, .slice na nn nc, .slice fa fn fc] w fun e w' => e = .returned (.bool true) ∧ Below w.heap.size w w' := by
  by_cases hm : 1 ≤ most ∧ most ≤ 16777216
  · by_cases hf : nn = 0 ∨ fn = 0 ∨ 100 < ncl
    · exact kc_few most ca na fa ncl nn fn cc nc fc w hm hf
    · exact kc_main most ca na fa ncl nn fn cc nc fc z0 z1 ss fr w hm hC hN hF.1 hF.2 (by omega) (by omega) (by omega)
  · exact kc_range most ca na fa ncl nn fn cc nc fc w hm
end Go.Proofs.YtcdcfkgdgimmcaaDoor
