/- The text that strconv.Itoa hands back, as a value of its arguments. No condition. -/
import Derived.Test.YtcdcfkgdgimmcaaGreatDoorDoor
import Derived.Lib.ItoaLen
namespace Go.Proofs.YtcdcfkgdgimmcaaGreatDoor
open Go Go.RowKit
/-- The text that strconv.Itoa hands back. -/
def itoaB : Array Value → ByteArray
  | #[.int _ v] => ⟨(Lib.itoa v).toArray⟩
  | _ => ⟨#[]⟩
theorem itoaB_eq (v : Int) : itoaB #[.int .i64 v] = ⟨(Lib.itoa v).toArray⟩ := rfl
theorem itoaB_size (v : Int) (h0 : -9223372036854775808 ≤ v) (h1 : v ≤ 9223372036854775807) : (itoaB #[.int .i64 v]).size ≤ 21 := by
  rw [itoaB_eq, Lib.size_eq]
  exact Lib.itoa_length_le v h0 h1
end Go.Proofs.YtcdcfkgdgimmcaaGreatDoor
