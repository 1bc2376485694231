/- Packed levels of ten bits: finish.Pack, dyeref2.PackedOf. Conditions: what each theorem names. -/
import Derived.Test.YtcdcfkgdgimmcaaDoorPkA
namespace Go.Proofs.YtcdcfkgdgimmcaaDoor
open Go Go.RowKit
theorem or_nat {a z c : Nat} (h : z < 2 ^ c) (hb : a * 2 ^ c + z < 4611686018427387904) : bits .or .i64 ((a * 2 ^ c : Nat) : Int) (z : Int) = ((a * 2 ^ c + z : Nat) : Int) := by
  have e : (BitVec.ofInt 64 ((a * 2 ^ c : Nat) : Int) ||| BitVec.ofInt 64 (z : Int)).toNat = a * 2 ^ c + z := by
    rw [BitVec.toNat_or, BitVec.ofInt_natCast, BitVec.toNat_ofNat, BitVec.ofInt_natCast, BitVec.toNat_ofNat, Nat.mod_eq_of_lt (by omega), Nat.mod_eq_of_lt (by omega), ← Nat.shiftLeft_eq, ← Nat.shiftLeft_add_eq_or_of_lt h]
  show IntKind.i64.wrap (((BitVec.ofInt 64 ((a * 2 ^ c : Nat) : Int) ||| BitVec.ofInt 64 (z : Int)).toNat : Nat) : Int) = _
  rw [e, IntKind.wrap_i64]
  omega
theorem or10 {a z : Int} (a0 : 0 ≤ a) (a1 : a < 1099511627776) (z0 : 0 ≤ z) (z1 : z < 1024) : bits .or .i64 (a * 1024) z = a * 1024 + z := by
  obtain ⟨x, rfl⟩ : ∃ x : Nat, a = x := ⟨a.toNat, by omega⟩
  obtain ⟨y, rfl⟩ : ∃ y : Nat, z = y := ⟨z.toNat, by omega⟩
  have h := or_nat (a := x) (z := y) (c := 10) (by omega) (by omega)
  rw [show ((x * 2 ^ 10 : Nat) : Int) = (x : Int) * 1024 by omega, show ((x * 2 ^ 10 + y : Nat) : Int) = (x : Int) * 1024 + y by omega] at h
  exact h
def acc10 (zs : Nat → Int) (N i : Nat) : Nat → Int
  | 0 => 0
  | m + 1 => acc10 zs N i m * 1024 + at10 zs N (i + m)
theorem at10_bd {zs : Nat → Int} {N : Nat} (hz : ∀ i, i < N → 0 ≤ zs i ∧ zs i ≤ 1023) (i : Nat) : 0 ≤ at10 zs N i ∧ at10 zs N i ≤ 1023 := by
  unfold at10; split
  · rename_i h; exact hz i h
  · omega
theorem acc10_bd {zs : Nat → Int} {N : Nat} (hz : ∀ i, i < N → 0 ≤ zs i ∧ zs i ≤ 1023) (i m : Nat) (hm : m ≤ 3) : 0 ≤ acc10 zs N i m ∧ acc10 zs N i m ≤ 1073741823 := by
  have b0 := at10_bd hz (i + 0); rw [Nat.add_zero] at b0; have b1 := at10_bd hz (i + 1); have b2 := at10_bd hz (i + 2)
  rcases (show m = 0 ∨ m = 1 ∨ m = 2 ∨ m = 3 by omega) with rfl | rfl | rfl | rfl <;> simp only [acc10, Nat.add_zero] <;> omega
theorem w10_acc (zs : Nat → Int) (N k : Nat) : w10 zs N k = acc10 zs N (3 * k) 3 * 4 := by
  simp only [acc10, w10, Nat.add_zero]; omega
end Go.Proofs.YtcdcfkgdgimmcaaDoor
