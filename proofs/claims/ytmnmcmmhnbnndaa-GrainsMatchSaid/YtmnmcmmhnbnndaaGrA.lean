/- Division, rounded down: finish.floorDiv, dyeref2.floorOver. No condition. -/
import Derived.Test.YtmnmcmmhnbnndaaFrD
namespace Go.Proofs.Ytmnmcmmhnbnndaa
open Go.RowKit
theorem tdiv_bd (a : Int) {b : Int} (hb : 1 ≤ b ∧ b ≤ 16) : b * a.tdiv b + a.tmod b = a ∧ -b < a.tmod b ∧ a.tmod b < b ∧ (0 ≤ a → 0 ≤ a.tmod b) ∧ (a ≤ 0 → a.tmod b ≤ 0) := by
  refine ⟨Int.mul_tdiv_add_tmod a b, ?_, ?_, fun h => Int.tmod_nonneg b h, fun h => ?_⟩
  · have := Int.lt_tmod_of_pos a (show 0 < b by omega); omega
  · exact Int.tmod_lt_of_pos a (by omega)
  · have := Int.tmod_nonneg b (show 0 ≤ -a by omega)
    rw [Int.neg_tmod] at this; omega
theorem floor_eq {a b q r : Int} (hb : 1 ≤ b) (h : b * q + r = a) (h0 : 0 ≤ r) (h1 : r < b) : q = a / b := by
  symm
  rw [← h, Int.mul_add_ediv_left _ _ (by omega), Int.ediv_eq_zero_of_lt h0 h1, Int.add_zero]
theorem ediv_rng {a b : Int} (ha : -9223372036854775808 ≤ a ∧ a ≤ 9223372036854775807) (hb : 1 ≤ b) : -9223372036854775808 ≤ a / b ∧ a / b ≤ 9223372036854775807 := by
  rcases Int.le_total 0 a with h | h
  · have h1 := Int.ediv_nonneg h (show 0 ≤ b by omega)
    have h2 := Int.ediv_le_self b h
    omega
  · have h1 : a * b ≤ a := by
      have : 0 ≤ (-a) * (b - 1) := Int.mul_nonneg (by omega) (by omega)
      rw [Int.mul_sub, Int.mul_one, Int.neg_mul] at this
      omega
    have h2 := Int.le_ediv_of_mul_le (show 0 < b by omega) h1
    have h3 := Int.ediv_nonpos_of_nonpos_of_neg h (show 0 < b by omega)
    omega
set_option maxHeartbeats 800000 in
theorem floorDiv_any (a b : Int) (w : World) (ha : -9223372036854775808 ≤ a ∧ a ≤ 9223372036854775807) (hb : 1 ≤ b ∧ b ≤ 16) : Calls Try.prog 199 #[.int .i64 a, .int .i64 b] w fun e w' => e = .returned (.int .i64 (a / b)) ∧ w = w' := by
  obtain ⟨e1, e2, e3, e4, e5⟩ := tdiv_bd a hb
  obtain ⟨b1, b2⟩ := hb
  obtain ⟨a1, a2⟩ := ha
  have H := Lib.hid (And.intro e1 (And.intro e2 (And.intro e3 (And.intro e4 e5)))); clear e1 e2 e3 e4 e5
  go_enter Try.func199, Try.ntmps199
  go_wp2
  · rename_i h
    obtain ⟨e1, e2, e3, e4, e5⟩ := H.out
    have e := floor_eq (a := a) (b := b) (q := a.tdiv b - 1) (r := a.tmod b + b) b1 (by rw [Int.mul_sub, Int.mul_one]; omega) (by omega) (by omega)
    have rg := ediv_rng ⟨a1, a2⟩ b1
    go_ret
    exact ⟨ret_i (by rw [IntWalk.wrap64_in _ (by omega)]; exact e), rfl⟩
  · rename_i h
    obtain ⟨e1, e2, e3, e4, e5⟩ := H.out
    have e := floor_eq (a := a) (b := b) (q := a.tdiv b) (r := a.tmod b) b1 e1 (by omega) e3
    go_ret
    exact ⟨ret_i e, rfl⟩
set_option maxHeartbeats 800000 in
theorem floorOver_any (a b : Int) (w : World) (ha : -9223372036854775808 ≤ a ∧ a ≤ 9223372036854775807) (hb : 1 ≤ b ∧ b ≤ 16) : Calls Try.prog 172 #[.int .i64 a, .int .i64 b] w fun e w' => e = .returned (.int .i64 (a / b)) ∧ w = w' := by
  obtain ⟨e1, e2, e3, e4, e5⟩ := tdiv_bd a hb
  obtain ⟨b1, b2⟩ := hb
  obtain ⟨a1, a2⟩ := ha
  have m1 : -9223372036854775808 ≤ a.tdiv b * b := by rw [Int.mul_comm]; rcases Int.le_total 0 a with h | h <;> omega
  have m2 : a.tdiv b * b ≤ 9223372036854775807 := by rw [Int.mul_comm]; rcases Int.le_total 0 a with h | h <;> omega
  have m3 : a.tdiv b * b = b * a.tdiv b := Int.mul_comm _ _
  have M := Lib.hid m3; clear m3
  have H := Lib.hid (And.intro e1 (And.intro e2 (And.intro e3 (And.intro e4 e5)))); clear e1 e2 e3 e4 e5
  go_enter Try.func172, Try.ntmps172
  go_wp2
  · rename_i h
    obtain ⟨e1, e2, e3, e4, e5⟩ := H.out
    have m3 := M.out
    have e := floor_eq (a := a) (b := b) (q := a.tdiv b - 1) (r := a.tmod b + b) b1 (by rw [Int.mul_sub, Int.mul_one]; omega) (by omega) (by omega)
    have rg := ediv_rng ⟨a1, a2⟩ b1
    go_ret
    exact ⟨ret_i (by rw [IntWalk.wrap64_in _ (by omega)]; exact e), rfl⟩
  · rename_i h
    obtain ⟨e1, e2, e3, e4, e5⟩ := H.out
    have m3 := M.out
    have e := floor_eq (a := a) (b := b) (q := a.tdiv b) (r := a.tmod b) b1 e1 (by omega) e3
    go_ret
    exact ⟨ret_i e, rfl⟩
end Go.Proofs.Ytmnmcmmhnbnndaa
