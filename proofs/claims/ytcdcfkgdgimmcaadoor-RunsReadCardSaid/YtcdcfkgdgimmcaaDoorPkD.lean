/- Packed levels: finish.Unpack at 8 and 16 bits. Conditions: what each theorem names. -/
import Derived.Test.YtcdcfkgdgimmcaaDoorPkC
namespace Go.Proofs.YtcdcfkgdgimmcaaDoor
open Go Go.RowKit Go.Maps
theorem lawInt : Keyed Tryd.prog 3 := int_keyed Tryd.underlying3
theorem zeroInt (w : World) : (zeroValue 3).run Tryd.prog w = .ok (.int .i64 0) w := by kernel_rfl
theorem infoI64 : (Tryd.prog.info? 3).map (fun i => (i.zero, i.size, i.bytes)) = some (some (.int .i64 0), 1, 8) := by kernel_rfl
/-- What stands of the levels so far. -/
def valsI (f : Nat → Int) (n : Nat) : List Value := (List.range n).map (fun i => Value.int .i64 (f i))
theorem valsI_succ (f : Nat → Int) (n : Nat) : valsI f (n + 1) = valsI f n ++ [.int .i64 (f n)] := by unfold valsI; rw [List.range_succ, List.map_append]; rfl
structure UnR (w wr : World) (u : Value) (f : Nat → Int) (n : Nat) : Prop where
  own : wr.ownsRow w.heap.size 3 1 u n (valsI f n)
  bel : Below w.heap.size w wr
theorem UnR.past {w wr wy : World} {u : Value} {f : Nat → Int} {n : Nat} (k : UnR w wr u f n) (h : Below wr.heap.size wr wy) : UnR w wy u f n := ⟨own_past k.own h, k.bel.trans (h.mono k.bel.size)⟩
theorem UnR.app {w wr wa w1 : World} {u u' : Value} {f : Nat → Int} {n : Nat} {x : Int} (k0 : UnR w wr u f n) (hb : Below wr.heap.size wr wa) (hx : x = f n) (hown : w1.ownsRow w.heap.size 3 1 u' (n + 1) (valsI f n ++ [.int .i64 x])) (hg : wa.grownBy w1 u.ownBlock) : UnR w w1 u' f (n + 1) := by
  have k := k0.past hb
  refine ⟨by rw [valsI_succ, ← hx]; exact hown, k.bel.grown hg k.bel.size (fun j hj => ?_)⟩
  have := k.own.lt j hj
  omega
theorem or8 {a z : Int} (a0 : 0 ≤ a) (a1 : a < 1099511627776) (z0 : 0 ≤ z) (z1 : z < 256) : bits .or .i64 (a * 256) z = a * 256 + z := by
  obtain ⟨x, rfl⟩ : ∃ x : Nat, a = x := ⟨a.toNat, by omega⟩
  obtain ⟨y, rfl⟩ : ∃ y : Nat, z = y := ⟨z.toNat, by omega⟩
  have h := or_nat (a := x) (z := y) (c := 8) (by omega) (by omega)
  rw [show ((x * 2 ^ 8 : Nat) : Int) = (x : Int) * 256 by omega, show ((x * 2 ^ 8 + y : Nat) : Int) = (x : Int) * 256 + y by omega] at h
  exact h
/-- The byte at a place, and the number that a few of them make. -/
def btI (t : ByteArray) (i : Nat) : Int := if h : i < t.size then ((t[i]'h).toNat : Int) else 0
theorem btI_in {t : ByteArray} {i : Nat} (h : i < t.size) : wrap64 (((t[i]'h).toNat : Nat) : Int) = btI t i := by
  unfold btI; rw [dif_pos h]
  have := (t[i]'h).toNat_lt
  exact Go.IntWalk.wrap64_in _ (by omega)
theorem btI_bd (t : ByteArray) (i : Nat) : 0 ≤ btI t i ∧ btI t i ≤ 255 := by
  unfold btI; split
  · rename_i h; have := (t[i]'h).toNat_lt; omega
  · omega
def wdI (t : ByteArray) (i : Nat) : Nat → Int
  | 0 => 0
  | m + 1 => wdI t i m * 256 + btI t (i + m)
theorem wdI_bd (t : ByteArray) (i m : Nat) (hm : m ≤ 4) : 0 ≤ wdI t i m ∧ wdI t i m ≤ 4294967295 := by
  have b0 := btI_bd t (i + 0); have b1 := btI_bd t (i + 1); have b2 := btI_bd t (i + 2); have b3 := btI_bd t (i + 3)
  rw [Nat.add_zero] at b0
  rcases (show m = 0 ∨ m = 1 ∨ m = 2 ∨ m = 3 ∨ m = 4 by omega) with rfl | rfl | rfl | rfl | rfl <;> simp only [wdI, Nat.add_zero] <;> omega
end Go.Proofs.YtcdcfkgdgimmcaaDoor
