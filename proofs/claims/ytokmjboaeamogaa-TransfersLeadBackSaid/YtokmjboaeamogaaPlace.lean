/- The order of singles as integers: num.place, at, Next, Apart and what the document says of them. No condition. -/
import Derived.Test.YtokmjboaeamogaaCount
import Derived.Test.YtokmjboaeamogaaBO
namespace Go.Proofs.Ytokmjboaeamogaa
open Go.RowKit
theorem and_nat (k : IntKind) (hk : k = .i64 ∨ k = .u64 ∨ k = .u32) (x y : Nat) (hx : x < 2 ^ 32) (hy : y < 2 ^ 32) : bits .and k (x : Int) (y : Int) = ((x &&& y : Nat) : Int) := by
  have key : ∀ W : Nat, 32 ≤ W → (BitVec.ofInt W (x : Int) &&& BitVec.ofInt W (y : Int)).toNat = x &&& y := fun W hW => by
    have h3 : (2 : Nat) ^ 32 ≤ 2 ^ W := Nat.pow_le_pow_right (by decide) hW
    rw [BitVec.toNat_and, BitVec.ofInt_natCast, BitVec.ofInt_natCast, BitVec.toNat_ofNat, BitVec.toNat_ofNat, Nat.mod_eq_of_lt (by omega), Nat.mod_eq_of_lt (by omega)]
  have h : x &&& y < 2 ^ 32 := Nat.and_lt_two_pow _ hy
  rcases hk with rfl | rfl | rfl <;> unfold bits <;> simp only <;> rw [key _ (by decide)] <;> simp only [IntKind.wrap_i64, IntKind.wrap_u64, IntKind.wrap_u32] <;> omega
theorem or_nat (k : IntKind) (hk : k = .i64 ∨ k = .u64 ∨ k = .u32) (x y : Nat) (hx : x < 2 ^ 32) (hy : y < 2 ^ 32) : bits .or k (x : Int) (y : Int) = ((x ||| y : Nat) : Int) := by
  have key : ∀ W : Nat, 32 ≤ W → (BitVec.ofInt W (x : Int) ||| BitVec.ofInt W (y : Int)).toNat = x ||| y := fun W hW => by
    have h3 : (2 : Nat) ^ 32 ≤ 2 ^ W := Nat.pow_le_pow_right (by decide) hW
    rw [BitVec.toNat_or, BitVec.ofInt_natCast, BitVec.ofInt_natCast, BitVec.toNat_ofNat, BitVec.toNat_ofNat, Nat.mod_eq_of_lt (by omega), Nat.mod_eq_of_lt (by omega)]
  have h : x ||| y < 2 ^ 32 := Nat.or_lt_two_pow hx hy
  rcases hk with rfl | rfl | rfl <;> unfold bits <;> simp only <;> rw [key _ (by decide)] <;> simp only [IntKind.wrap_i64, IntKind.wrap_u64, IntKind.wrap_u32] <;> omega
theorem and_bit (x : Nat) (hx : x < 2 ^ 32) : x &&& 2 ^ 31 = if x < 2 ^ 31 then 0 else 2 ^ 31 := by
  apply Nat.eq_of_testBit_eq
  intro i
  rw [Nat.testBit_and, Nat.testBit_two_pow]
  by_cases h : 31 = i
  · subst h
    rw [Nat.testBit_eq_decide_div_mod_eq]
    split
    · rw [Nat.div_eq_of_lt (by omega)]; rfl
    · have e : x / 2 ^ 31 = 1 := by omega
      rw [e]; decide
  · rw [decide_eq_false h, Bool.and_false]
    split
    · rw [Nat.zero_testBit]
    · rw [Nat.testBit_two_pow, decide_eq_false h]
theorem and_top (x : Nat) (hx : x < 2 ^ 32) : bits .and .i64 (x : Int) 2147483648 = if x < 2147483648 then 0 else 2147483648 := by
  have := and_nat .i64 (.inl rfl) x 2147483648 hx (by decide)
  rw [show ((2147483648 : Nat) : Int) = 2147483648 from rfl] at this
  rw [this, show (2147483648 : Nat) = 2 ^ 31 from rfl, and_bit x hx]
  split <;> rfl
theorem and_rest (x : Nat) (hx : x < 2 ^ 32) : bits .and .i64 (x : Int) 2147483647 = ((x % 2147483648 : Nat) : Int) := by
  have := and_nat .i64 (.inl rfl) x 2147483647 hx (by decide)
  rw [show ((2147483647 : Nat) : Int) = 2147483647 from rfl] at this
  rw [this, show (2147483647 : Nat) = 2 ^ 31 - 1 from rfl, Nat.and_two_pow_sub_one_eq_mod]
theorem or_top (x : Nat) (hx : x < 2 ^ 31) : bits .or .u32 (x : Int) 2147483648 = (x : Int) + 2147483648 := by
  have := or_nat .u32 (.inr (.inr rfl)) x 2147483648 (by omega) (by decide)
  rw [show ((2147483648 : Nat) : Int) = 2147483648 from rfl] at this
  have e := Nat.two_pow_add_eq_or_of_lt (i := 31) (b := x) (by omega) 1
  rw [Nat.or_comm] at e
  rw [this, show (2147483648 : Nat) = 2 ^ 31 * 1 from rfl, ← e]
  omega
/-- Where a single stands in the order. -/
def placeZ (v : Nat) : Int := if v < 2147483648 then (v : Int) else 2147483647 - (v : Int)
/-- The single at a place. -/
def atF (n : Int) : Nat := if n < 0 then (2147483647 - n).toNat else n.toNat
theorem at_place {v : Nat} (hv : v < 2 ^ FloatKind.f32.format.width) : atF (placeZ v) = v := by
  have hv : v < 4294967296 := hv
  unfold atF placeZ; split <;> split <;> omega
theorem place_bd {v : Nat} (hv : v < 2 ^ FloatKind.f32.format.width) (hn : isN .f32 v = false) : -2139095041 ≤ placeZ v ∧ placeZ v ≤ 2139095040 := by
  have hv : v < 4294967296 := hv
  rw [isN_rung, f32_ir] at hn
  simp only [decide_eq_false_iff_not] at hn
  unfold placeZ
  have : rung FloatKind.f32.format v = v % 2147483648 := rfl
  rw [this] at hn
  split <;> omega
theorem place_rng {v : Nat} (hv : v < 2 ^ FloatKind.f32.format.width) : -2147483648 ≤ placeZ v ∧ placeZ v ≤ 2147483647 := by
  have hv : v < 4294967296 := hv
  unfold placeZ; split <;> omega
/-- The neighbour above; below. -/
def nextF (v : Nat) : Nat := if isN .f32 v then 2143289344 else if placeZ v < 2139095040 then atF (placeZ v + 1) else v
def prevF (v : Nat) : Nat := if isN .f32 v then 2143289344 else if -2139095041 < placeZ v then atF (placeZ v - 1) else v
theorem nan_of {v : Nat} (h : (FloatKind.f32.format.order v v != some .eq) = true) : isN .f32 v = true := by rw [← ord_self_ne]; exact h
theorem not_of {v : Nat} (h : (FloatKind.f32.format.order v v != some .eq) = false) : isN .f32 v = false := by rw [← ord_self_ne]; exact h
def stepF (v : Nat) (up : Bool) : Nat := if up then nextF v else prevF v
def apartZ (a b : Nat) : Int := if isN .f32 a || isN .f32 b then 0 else placeZ b - placeZ a
end Go.Proofs.Ytokmjboaeamogaa
