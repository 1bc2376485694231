/- The order of singles as integers: num.place, at, Next, Apart and what the document says of them. No condition. -/
import Derived.Test.YtlomlhdkcpncjaaCount
import Derived.Test.YtlomlhdkcpncjaaOpen
namespace Go.Proofs.Ytlomlhdkcpncjaa
open Go.RowKit
theorem and_nat (k : IntKind) (hk : k = .i64 ∨ k = .u64 ∨ k = .u32) (x y : Nat) (hx : x < 2 ^ 32) (hy : y < 2 ^ 32) : bits .and k (x : Int) (y : Int) = ((x &&& y : Nat) : Int) := by
  have key : ∀ W : Nat, 32 ≤ W → (BitVec.ofInt W (x : Int) &&& BitVec.ofInt W (y : Int)).toNat = x &&& y := fun W hW => by
    have h3 : (2 : Nat) ^ 32 ≤ 2 ^ W := Nat.pow_le_pow_right (by decide) hW
    rw [BitVec.toNat_and, BitVec.ofInt_natCast, BitVec.ofInt_natCast, BitVec.toNat_ofNat, BitVec.toNat_ofNat, Nat.mod_eq_of_lt (by omega), Nat.mod_eq_of_lt (by omega)]
  have h : x &&& y < 2 ^ 32 := Nat.and_lt_two_pow _ hy
  rcases hk with rfl | rfl | rfl <;> unfold bits <;> simp only <;> rw [key _ (by decide)] <;> simp only [IntKind.wrap_i64, IntKind.wrap_u64, IntKind.wrap_u32] <;> omega
theorem or_nat (k : IntKind) (hk : k = .i64 ∨ k = .u64 ∨ k = .u32) (x y : Nat) (hx : x < 2 ^ 32) (hy : y < 2 ^ 32) : bits .or k (x : Int) (y : Int) = ((x ||| y : Nat) : Int) := by
  have key : ∀ W : Nat, 32 ≤ W → (BitVec.ofInt W (x : Int) ||| BitVec.ofInt W (y : Int)).toNat = x ||| y := fun W hW => by
    have h3 : (2 : Nat) ^ 32 ≤ 2 ^ W := Nat.pow_le_pow_right (by decide) hW
    rw [BitVec.toNat_or, BitVec.ofInt_natCast, BitVec.ofInt_natCast, BitVec.toNat_ofNat, BitVec.toNat_ofNat, Nat.mod_eq_of_lt (by omega), Nat.mod_eq_of_lt (by omega)]
  have h : x ||| y < 2 ^ 32 := Nat.or_lt_two_pow hx hy
  rcases hk with rfl | rfl | rfl <;> unfold bits <;> simp only <;> rw [key _ (by decide)] <;> simp only [IntKind.wrap_i64, IntKind.wrap_u64, IntKind.wrap_u32] <;> omega
theorem and_bit (x : Nat) (hx : x < 2 ^ 32) : x &&& 2 ^ 31 = if x < 2 ^ 31 then 0 else 2 ^ 31 := by
  apply Nat.eq_of_testBit_eq
  intro i
  rw [Nat.testBit_and, Nat.testBit_two_pow]
  by_cases h : 31 = i
  · subst h
    rw [Nat.testBit_eq_decide_div_mod_eq]
    split
    · rw [Nat.div_eq_of_lt (by omega)]; rfl
    · have e : x / 2 ^ 31 = 1 := by omega
      rw [e]; decide
  · rw [decide_eq_false h, Bool.and_false]
    split
    · rw [Nat.zero_testBit]
    · rw [Nat.testBit_two_pow, decide_eq_false h]
theorem and_top (x : Nat) (hx : x < 2 ^ 32) : bits .and .i64 (x : Int) 2147483648 = if x < 2147483648 then 0 else 2147483648 := by
  have := and_nat .i64 (.inl rfl) x 2147483648 hx (by decide)
  rw [show ((2147483648 : Nat) : Int) = 2147483648 from rfl] at this
  rw [this, show (2147483648 : Nat) = 2 ^ 31 from rfl, and_bit x hx]
  split <;> rfl
theorem and_rest (x : Nat) (hx : x < 2 ^ 32) : bits .and .i64 (x : Int) 2147483647 = ((x % 2147483648 : Nat) : Int) := by
  have := and_nat .i64 (.inl rfl) x 2147483647 hx (by decide)
  rw [show ((2147483647 : Nat) : Int) = 2147483647 from rfl] at this
  rw [this, show (2147483647 : Nat) = 2 ^ 31 - 1 from rfl, Nat.and_two_pow_sub_one_eq_mod]
theorem or_top (x : Nat) (hx : x < 2 ^ 31) : bits .or .u32 (x : Int) 2147483648 = (x : Int) + 2147483648 := by
  have := or_nat .u32 (.inr (.inr rfl)) x 2147483648 (by omega) (by decide)
  rw [show ((2147483648 : Nat) : Int) = 2147483648 from rfl] at this
  have e := Nat.two_pow_add_eq_or_of_lt (i := 31) (b := x) (by omega) 1
  rw [Nat.or_comm] at e
  rw [this, show (2147483648 : Nat) = 2 ^ 31 * 1 from rfl, ← e]
  omega
/-- Where a single stands in the order. -/
def placeZ (v : Nat) : Int := if v < 2147483648 then (v : Int) else 2147483647 - (v : Int)
/-- The single at a place. -/
def atF (n : Int) : Nat := if n < 0 then (2147483647 - n).toNat else n.toNat
theorem at_place {v : Nat} (hv : v < 2 ^ FloatKind.f32.format.width) : atF (placeZ v) = v := by
  have hv : v < 4294967296 := hv
  unfold atF placeZ; split <;> split <;> omega
theorem place_bd {v : Nat} (hv : v < 2 ^ FloatKind.f32.format.width) (hn : isN .f32 v = false) : -2139095041 ≤ placeZ v ∧ placeZ v ≤ 2139095040 := by
  have hv : v < 4294967296 := hv
  rw [isN_rung, f32_ir] at hn
  simp only [decide_eq_false_iff_not] at hn
  unfold placeZ
  have : rung FloatKind.f32.format v = v % 2147483648 := rfl
  rw [this] at hn
  split <;> omega
theorem place_rng {v : Nat} (hv : v < 2 ^ FloatKind.f32.format.width) : -2147483648 ≤ placeZ v ∧ placeZ v ≤ 2147483647 := by
  have hv : v < 4294967296 := hv
  unfold placeZ; split <;> omega
set_option maxHeartbeats 800000 in
theorem place_any (v : Nat) (w : World) (hv : v < 2 ^ FloatKind.f32.format.width) : Calls Try.prog 45 #[.float .f32 v] w fun e w' => e = .returned (.int .i64 (placeZ v)) ∧ w = w' := by
  have hv : v < 4294967296 := hv
  have b1 := and_top v hv
  have b2 := and_rest v hv
  by_cases h : v < 2147483648
  · rw [if_pos h] at b1
    go_enter Try.func45, Try.ntmps45
    go_wp2
    go_ret
    exact ⟨ret_i (by unfold placeZ; rw [if_pos h]), rfl⟩
  · rw [if_neg h] at b1
    rw [show ((v % 2147483648 : Nat) : Int) = (v : Int) - 2147483648 by omega] at b2
    go_enter Try.func45, Try.ntmps45
    go_wp2
    go_ret
    exact ⟨ret_i (by unfold placeZ; rw [if_neg h]; omega), rfl⟩
set_option maxRecDepth 100000 in
set_option maxHeartbeats 800000 in
theorem placeOf_any (v : Nat) (w : World) (hv : v < 2 ^ FloatKind.f32.format.width) : Calls Try.prog 46 #[.float .f32 v] w fun e w' => e = .returned (.int .i64 (placeZ v)) ∧ w = w' := by
  have hv : v < 4294967296 := hv
  by_cases h : v < 2147483648
  · have h' : ¬ (2147483648 : Int) ≤ (v : Int) := by omega
    go_enter Try.func46, Try.ntmps46
    go_wp2
    go_ret
    exact ⟨ret_i (by unfold placeZ; rw [if_pos h]), rfl⟩
  · have h' : (2147483648 : Int) ≤ (v : Int) := by omega
    go_enter Try.func46, Try.ntmps46
    go_wp2
    go_ret
    exact ⟨ret_i (by unfold placeZ; rw [if_neg h]), rfl⟩
set_option maxHeartbeats 800000 in
theorem at_any (n : Int) (w : World) (h0 : -2147483648 ≤ n) (h1 : n ≤ 2147483647) : Calls Try.prog 47 #[.int .i64 n] w fun e w' => e = .returned (.float .f32 (atF n)) ∧ w = w' := by
  by_cases h : n < 0
  · have b : bits .or .u32 (-n - 1) 2147483648 = 2147483647 - n := by
      obtain ⟨x, hx⟩ : ∃ x : Nat, -n - 1 = (x : Int) := ⟨(-n - 1).toNat, by omega⟩
      rw [hx, or_top x (by omega)]; omega
    go_enter Try.func47, Try.ntmps47
    go_wp2
    go_ret
    exact ⟨ret_f (by unfold atF; rw [if_pos h]), rfl⟩
  · go_enter Try.func47, Try.ntmps47
    go_wp2
    go_ret
    exact ⟨ret_f (by unfold atF; rw [if_neg (by omega)]), rfl⟩
/-- The neighbour above; below. -/
def nextF (v : Nat) : Nat := if isN .f32 v then 2143289344 else if placeZ v < 2139095040 then atF (placeZ v + 1) else v
def prevF (v : Nat) : Nat := if isN .f32 v then 2143289344 else if -2139095041 < placeZ v then atF (placeZ v - 1) else v
theorem nan_of {v : Nat} (h : (FloatKind.f32.format.order v v != some .eq) = true) : isN .f32 v = true := by rw [← ord_self_ne]; exact h
theorem not_of {v : Nat} (h : (FloatKind.f32.format.order v v != some .eq) = false) : isN .f32 v = false := by rw [← ord_self_ne]; exact h
set_option maxRecDepth 100000 in
set_option maxHeartbeats 800000 in
theorem Next_up (v : Nat) (w : World) (hv : v < 2 ^ FloatKind.f32.format.width) : Calls Try.prog 31 #[.float .f32 v, .bool true] w fun e w' => e = .returned (.float .f32 (nextF v)) ∧ w = w' := by
  have hv' := Lib.hid hv
  obtain ⟨r0, r1⟩ := place_rng hv
  have ha := at_place hv
  clear hv
  go_enter Try.func31, Try.ntmps31
  go_wp2_with (first | (go_at_call 17; refine (Clean_any _ _).mono ?_; rintro e w' ⟨rfl, rfl⟩) | (go_at_call 45; refine (place_any _ _ hv'.out).mono ?_; rintro e w' ⟨rfl, rfl⟩) | (go_at_call 47; refine (at_any _ _ (by omega) (by omega)).mono ?_; rintro e w' ⟨rfl, rfl⟩))
  · rename_i h; go_ret; exact ⟨ret_f (by unfold nextF; rw [if_pos (nan_of h), cn_of_nan (nan_of h), nan32]), rfl⟩
  · rename_i h h1; go_ret; exact ⟨ret_f (by unfold nextF; rw [if_neg (by rw [not_of h]; decide), if_pos (by omega)]), rfl⟩
  · rename_i h h1; go_ret; exact ⟨ret_f (by unfold nextF; rw [if_neg (by rw [not_of h]; decide), if_neg (by omega)]), rfl⟩
set_option maxRecDepth 100000 in
set_option maxHeartbeats 800000 in
theorem Next_down (v : Nat) (w : World) (hv : v < 2 ^ FloatKind.f32.format.width) : Calls Try.prog 31 #[.float .f32 v, .bool false] w fun e w' => e = .returned (.float .f32 (prevF v)) ∧ w = w' := by
  have hv' := Lib.hid hv
  obtain ⟨r0, r1⟩ := place_rng hv
  have ha := at_place hv
  clear hv
  go_enter Try.func31, Try.ntmps31
  go_wp2_with (first | (go_at_call 17; refine (Clean_any _ _).mono ?_; rintro e w' ⟨rfl, rfl⟩) | (go_at_call 45; refine (place_any _ _ hv'.out).mono ?_; rintro e w' ⟨rfl, rfl⟩) | (go_at_call 47; refine (at_any _ _ (by omega) (by omega)).mono ?_; rintro e w' ⟨rfl, rfl⟩))
  · rename_i h; go_ret; exact ⟨ret_f (by unfold prevF; rw [if_pos (nan_of h), cn_of_nan (nan_of h), nan32]), rfl⟩
  · rename_i h h1; go_ret; exact ⟨ret_f (by unfold prevF; rw [if_neg (by rw [not_of h]; decide), if_pos (by omega)]), rfl⟩
  · rename_i h h1; go_ret; exact ⟨ret_f (by unfold prevF; rw [if_neg (by rw [not_of h]; decide), if_neg (by omega)]), rfl⟩
set_option maxRecDepth 100000 in
set_option maxHeartbeats 800000 in
theorem NextOf_up (v : Nat) (w : World) (hv : v < 2 ^ FloatKind.f32.format.width) : Calls Try.prog 32 #[.float .f32 v, .bool true] w fun e w' => e = .returned (.float .f32 (nextF v)) ∧ w = w' := by
  have hv' := Lib.hid hv
  obtain ⟨r0, r1⟩ := place_rng hv
  clear hv
  go_enter Try.func32, Try.ntmps32
  go_wp2_with (first | (go_at_call 43; refine (TheNaN_any _).mono ?_; rintro e w' ⟨rfl, rfl⟩) | (go_at_call 46; refine (placeOf_any _ _ hv'.out).mono ?_; rintro e w' ⟨rfl, rfl⟩))
  · rename_i h; go_ret; exact ⟨ret_f (by unfold nextF; rw [if_pos (nan_of h)]), rfl⟩
  all_goals
    go_ret
    refine ⟨ret_f ?_, rfl⟩
    have nn := not_of (v := v) (by assumption)
    have bd := place_bd hv'.out nn
    unfold nextF
    rw [if_neg (by rw [nn]; decide)]
    first
      | (exfalso; omega)
      | (rw [if_neg (by omega)]; done)
      | (rw [if_pos (by omega)]; unfold atF; first | (rw [if_pos (by omega)]; done) | (rw [if_neg (by omega)]; done) | (rw [if_pos (by omega)]; omega) | (rw [if_neg (by omega)]; omega))
set_option maxRecDepth 100000 in
set_option maxHeartbeats 800000 in
theorem NextOf_down (v : Nat) (w : World) (hv : v < 2 ^ FloatKind.f32.format.width) : Calls Try.prog 32 #[.float .f32 v, .bool false] w fun e w' => e = .returned (.float .f32 (prevF v)) ∧ w = w' := by
  have hv' := Lib.hid hv
  obtain ⟨r0, r1⟩ := place_rng hv
  clear hv
  go_enter Try.func32, Try.ntmps32
  go_wp2_with (first | (go_at_call 43; refine (TheNaN_any _).mono ?_; rintro e w' ⟨rfl, rfl⟩) | (go_at_call 46; refine (placeOf_any _ _ hv'.out).mono ?_; rintro e w' ⟨rfl, rfl⟩))
  · rename_i h; go_ret; exact ⟨ret_f (by unfold prevF; rw [if_pos (nan_of h)]), rfl⟩
  all_goals
    go_ret
    refine ⟨ret_f ?_, rfl⟩
    have nn := not_of (v := v) (by assumption)
    have bd := place_bd hv'.out nn
    unfold prevF
    rw [if_neg (by rw [nn]; decide)]
    first
      | (exfalso; omega)
      | (rw [if_neg (by omega)]; done)
      | (rw [if_pos (by omega)]; unfold atF; first | (rw [if_pos (by omega)]; done) | (rw [if_neg (by omega)]; done) | (rw [if_pos (by omega)]; omega) | (rw [if_neg (by omega)]; omega))
def stepF (v : Nat) (up : Bool) : Nat := if up then nextF v else prevF v
theorem Next_any (v : Nat) (up : Bool) (w : World) (hv : v < 2 ^ FloatKind.f32.format.width) : Calls Try.prog 31 #[.float .f32 v, .bool up] w fun e w' => e = .returned (.float .f32 (stepF v up)) ∧ w = w' := by
  cases up with
  | true => exact Next_up v w hv
  | false => exact Next_down v w hv
theorem NextOf_any (v : Nat) (up : Bool) (w : World) (hv : v < 2 ^ FloatKind.f32.format.width) : Calls Try.prog 32 #[.float .f32 v, .bool up] w fun e w' => e = .returned (.float .f32 (stepF v up)) ∧ w = w' := by
  cases up with
  | true => exact NextOf_up v w hv
  | false => exact NextOf_down v w hv
def apartZ (a b : Nat) : Int := if isN .f32 a || isN .f32 b then 0 else placeZ b - placeZ a
set_option maxRecDepth 100000 in
set_option maxHeartbeats 800000 in
theorem Apart_any (a b : Nat) (w : World) (ha : a < 2 ^ FloatKind.f32.format.width) (hb : b < 2 ^ FloatKind.f32.format.width) : Calls Try.prog 29 #[.float .f32 a, .float .f32 b] w fun e w' => e = .returned (.tuple #[.int .i64 (apartZ a b), .bool (!(isN .f32 a || isN .f32 b))]) ∧ w = w' := by
  have ha' := Lib.hid ha
  have hb' := Lib.hid hb
  obtain ⟨r0, r1⟩ := place_rng ha
  obtain ⟨s0, s1⟩ := place_rng hb
  clear ha hb
  have na := ord_self_ne (k := .f32) (x := a)
  have nb := ord_self_ne (k := .f32) (x := b)
  unfold apartZ
  rw [← na, ← nb]
  cases h1 : (FloatKind.f32.format.order a a != some .eq) <;> cases h2 : (FloatKind.f32.format.order b b != some .eq)
  all_goals
    clear na nb
    go_enter Try.func29, Try.ntmps29
    go_wp2_with (first | (go_at_call 45; refine (place_any _ _ (by first | exact ha'.out | exact hb'.out)).mono ?_; rintro e w' ⟨rfl, rfl⟩))
    exact bodyPost_ret (by simp [results, Try.results29, go_sem, *]; rfl) rfl ⟨by simp, rfl⟩
set_option maxRecDepth 100000 in
set_option maxHeartbeats 800000 in
theorem ApartOf_any (a b : Nat) (w : World) (ha : a < 2 ^ FloatKind.f32.format.width) (hb : b < 2 ^ FloatKind.f32.format.width) : Calls Try.prog 30 #[.float .f32 a, .float .f32 b] w fun e w' => e = .returned (.tuple #[.int .i64 (apartZ a b), .bool (!(isN .f32 a || isN .f32 b))]) ∧ w = w' := by
  have ha' := Lib.hid ha
  have hb' := Lib.hid hb
  obtain ⟨r0, r1⟩ := place_rng ha
  obtain ⟨s0, s1⟩ := place_rng hb
  clear ha hb
  have na := ord_self_ne (k := .f32) (x := a)
  have nb := ord_self_ne (k := .f32) (x := b)
  unfold apartZ
  rw [← na, ← nb]
  cases h1 : (FloatKind.f32.format.order a a != some .eq) <;> cases h2 : (FloatKind.f32.format.order b b != some .eq)
  all_goals
    clear na nb
    go_enter Try.func30, Try.ntmps30
    go_wp2_with (first | (go_at_call 46; refine (placeOf_any _ _ (by first | exact ha'.out | exact hb'.out)).mono ?_; rintro e w' ⟨rfl, rfl⟩))
    exact bodyPost_ret (by simp [results, Try.results30, go_sem, *]; rfl) rfl ⟨by simp, rfl⟩
set_option maxRecDepth 100000 in
set_option maxHeartbeats 1600000 in
theorem om_walk (a b : Nat) (w : World) (ha : a < 2 ^ FloatKind.f32.format.width) (hb : b < 2 ^ FloatKind.f32.format.width) :
    Calls Try.prog 6 #[.float .f32 a, .float .f32 b] w fun e w' => e = .returned (.bool true) ∧ Below w.heap.size w w' := by
  have ha' := Lib.hid ha; clear ha
  have hb' := Lib.hid hb; clear hb
  go_enter Try.func6, Try.ntmps6
  go_wp2_with (first | (go_at_call 9; refine (counts_any _).mono ?_; rintro e w' ⟨rfl, m, rfl⟩) | (go_at_call 16; refine (same_any _ _ _).mono ?_; rintro e w' ⟨rfl, rfl⟩) | (go_at_call 29; refine (Apart_any _ _ _ ha'.out hb'.out).mono ?_; rintro e w' ⟨rfl, rfl⟩) | (go_at_call 30; refine (ApartOf_any _ _ _ ha'.out hb'.out).mono ?_; rintro e w' ⟨rfl, rfl⟩) | (go_at_call 31; refine (Next_any _ _ _ (by first | exact ha'.out | exact hb'.out)).mono ?_; rintro e w' ⟨rfl, rfl⟩) | (go_at_call 32; refine (NextOf_any _ _ _ (by first | exact ha'.out | exact hb'.out)).mono ?_; rintro e w' ⟨rfl, rfl⟩))
  go_ret
  refine ⟨ret_b (by simp), ?_⟩
  (repeat (first | exact Below.refl _ _ | assumption | (refine Below.setCell ?_ (by first | (simp; done) | (simp; omega) | omega) _) | (refine Below.drew ?_) | (refine below_drewN ?_ _) | (refine Below.alloc ?_ (by first | (simp; done) | (simp; omega) | omega) _) | (refine Below.trans ?_ (Below.mono (by assumption) (by first | (simp; done) | (simp; omega) | omega)))))
end Go.Proofs.Ytlomlhdkcpncjaa
