/- What the checks of regions and of numbers within bounds give (frame.CheckRegion, dyeref2.RegionError, In, When, First; finish.deep). No condition. -/
import Derived.Test.YtalgepfammpmbaaExt
namespace Go.Proofs.Ytalgepfammpmbaa
open Go.RowKit

/-- The error of a region (P20). -/
def regErr (x y w h : Int) : Int :=
  if w < 1 ∨ 256 < w ∨ h < 1 ∨ 256 < h then 3 else if 16384 < w * h then 4
  else if x < -1048576 ∨ 1048576 - w < x ∨ y < -1048576 ∨ 1048576 - h < y then 5 else 0
def whenE (b : Bool) (e : Int) : Int := if b then e else 0
def firstE (a b : Int) : Int := if a = 0 then b else a
def inB (n lo hi : Int) : Bool := decide (lo ≤ n) && decide (n ≤ hi)

@[go_sem] theorem whenE_true (e : Int) : whenE true e = e := rfl
@[go_sem] theorem whenE_false (e : Int) : whenE false e = 0 := rfl
@[go_sem] theorem firstE_0 (b : Int) : firstE 0 b = b := rfl
@[go_sem] theorem firstE_1 (b : Int) : firstE 1 b = 1 := rfl
@[go_sem] theorem firstE_2 (b : Int) : firstE 2 b = 2 := rfl
@[go_sem] theorem firstE_3 (b : Int) : firstE 3 b = 3 := rfl
@[go_sem] theorem firstE_4 (b : Int) : firstE 4 b = 4 := rfl
@[go_sem] theorem firstE_5 (b : Int) : firstE 5 b = 5 := rfl
@[go_sem] theorem firstE_8 (b : Int) : firstE 8 b = 8 := rfl
theorem firstE_of {a : Int} (b : Int) (h : a ≠ 0) : firstE a b = a := by unfold firstE; rw [if_neg h]
theorem inB_t {n lo hi : Int} (h : lo ≤ n ∧ n ≤ hi) : inB n lo hi = true := by unfold inB; rw [decide_eq_true h.1, decide_eq_true h.2]; rfl
theorem inB_f {n lo hi : Int} (h : n < lo ∨ hi < n) : inB n lo hi = false := by
  unfold inB; rcases h with h | h
  · rw [decide_eq_false (by omega)]; rfl
  · rw [decide_eq_false (show ¬ n ≤ hi by omega), Bool.and_false]
theorem inB_iff {n lo hi : Int} : inB n lo hi = true ↔ lo ≤ n ∧ n ≤ hi := by unfold inB; simp
theorem ret_i {k : IntKind} {a b : Int} (h : a = b) : Ending.returned (.int k a) = .returned (.int k b) := by rw [h]
theorem ret_b {a b : Bool} (h : a = b) : Ending.returned (.bool a) = .returned (.bool b) := by rw [h]

set_option maxHeartbeats 400000 in
theorem In_any (n lo hi : Int) (w : World) : Calls Try.prog 35 #[.int .i64 n, .int .i64 lo, .int .i64 hi] w fun e w' => e = .returned (.bool (inB n lo hi)) ∧ w = w' := by
  go_enter Try.func35, Try.ntmps35
  go_wp2
  all_goals (go_ret; refine ⟨ret_b ?_, rfl⟩; unfold inB; rw [Bool.eq_iff_iff]; simp; try omega)
set_option maxHeartbeats 400000 in
theorem deep_any (n : Int) (w : World) : Calls Try.prog 123 #[.int .i64 n] w fun e w' => e = .returned (.bool (inB n 1 16)) ∧ w = w' := by
  go_enter Try.func123, Try.ntmps123
  go_wp2
  all_goals (go_ret; refine ⟨ret_b ?_, rfl⟩; unfold inB; rw [Bool.eq_iff_iff]; simp; try omega)
set_option maxHeartbeats 400000 in
theorem When_any (b : Bool) (n : Int) (w : World) : Calls Try.prog 42 #[.bool b, .int .i64 n] w fun e w' => e = .returned (.int .i64 (whenE b n)) ∧ w = w' := by
  cases b <;> (go_enter Try.func42, Try.ntmps42; go_wp2; go_ret; exact ⟨rfl, rfl⟩)
set_option maxHeartbeats 400000 in
theorem RegionError_any (x y v h : Int) (w : World) (hx : -9223372036854775808 ≤ x ∧ x ≤ 9223372036854775807) (hy : -9223372036854775808 ≤ y ∧ y ≤ 9223372036854775807) : Calls Try.prog 41 #[.agg #[.int .i64 x, .int .i64 y, .int .i64 v, .int .i64 h]] w fun e w' => e = .returned (.int .i64 (regErr x y v h)) ∧ Below w.heap.size w w' := by
  by_cases hv : 1 ≤ v ∧ v ≤ 256
  · have i1 := inB_t hv
    obtain ⟨h1, h2⟩ := hv
    by_cases hh : 1 ≤ h ∧ h ≤ 256
    · have i2 := inB_t hh
      obtain ⟨h3, h4⟩ := hh
      have hp : 0 ≤ v * h := Int.mul_nonneg (by omega) (by omega)
      have hp2 : v * h ≤ 256 * 256 := Int.mul_le_mul h2 h4 (by omega) (by omega)
      go_enter Try.func41, Try.ntmps41
      go_wp2_with (first | (go_at_call 35; refine (In_any _ _ _ _).mono ?_; rintro e w' ⟨rfl, rfl⟩))
      all_goals (go_ret; refine ⟨ret_i ?_, (Below.refl _ _).alloc (Nat.le_refl _) _⟩; unfold regErr; rw [if_neg (by omega)]; (repeat' split) <;> omega)
    · have i2 : inB h 1 256 = false := inB_f (by omega)
      go_enter Try.func41, Try.ntmps41
      go_wp2_with (first | (go_at_call 35; refine (In_any _ _ _ _).mono ?_; rintro e w' ⟨rfl, rfl⟩))
      all_goals (go_ret; refine ⟨ret_i ?_, (Below.refl _ _).alloc (Nat.le_refl _) _⟩; unfold regErr; rw [if_pos (by omega)])
  · have i1 : inB v 1 256 = false := inB_f (by omega)
    go_enter Try.func41, Try.ntmps41
    go_wp2_with (first | (go_at_call 35; refine (In_any _ _ _ _).mono ?_; rintro e w' ⟨rfl, rfl⟩))
    all_goals (go_ret; refine ⟨ret_i ?_, (Below.refl _ _).alloc (Nat.le_refl _) _⟩; unfold regErr; rw [if_pos (by omega)])
set_option maxHeartbeats 400000 in
theorem out_any (x v : Int) (w : World) (hv : 1 ≤ v ∧ v ≤ 256) : Calls Try.prog 187 #[.int .i64 x, .int .i64 v] w fun e w' => e = .returned (.bool (!inB x (-1048576) (1048576 - v))) ∧ w = w' := by
  obtain ⟨h1, h2⟩ := hv
  go_enter Try.func187, Try.ntmps187
  go_wp2
  all_goals (go_ret; refine ⟨ret_b ?_, rfl⟩; unfold inB; rw [Bool.eq_iff_iff]; simp; try omega)
set_option maxHeartbeats 400000 in
theorem CheckRegion_any (x y v h : Int) (w : World) : Calls Try.prog 131 #[.agg #[.int .i64 x, .int .i64 y, .int .i64 v, .int .i64 h]] w fun e w' => e = .returned (.int .i64 (regErr x y v h)) ∧ Below w.heap.size w w' := by
  by_cases hv : 1 ≤ v ∧ v ≤ 256 ∧ 1 ≤ h ∧ h ≤ 256
  · obtain ⟨h1, h2, h3, h4⟩ := hv
    have hp : 0 ≤ v * h := Int.mul_nonneg (by omega) (by omega)
    have hp2 : v * h ≤ 256 * 256 := Int.mul_le_mul h2 h4 (by omega) (by omega)
    go_enter Try.func131, Try.ntmps131
    go_wp2_with (first | (go_at_call 187; refine (out_any _ _ _ ⟨by omega, by omega⟩).mono ?_; rintro e w' ⟨rfl, rfl⟩))
    all_goals
      go_ret
      simp only [Bool.not_eq_true', inB_iff, Bool.eq_false_iff, ne_eq] at *
      refine ⟨ret_i ?_, (Below.refl _ _).alloc (Nat.le_refl _) _⟩
      unfold regErr; rw [if_neg (by omega)]; (repeat' split) <;> omega
  · by_cases h1 : v < 1
    · go_enter Try.func131, Try.ntmps131
      go_wp2_with fail
      go_ret
      exact ⟨ret_i (by unfold regErr; rw [if_pos (by omega)]), (Below.refl _ _).alloc (Nat.le_refl _) _⟩
    · by_cases h2 : 256 < v
      · go_enter Try.func131, Try.ntmps131
        go_wp2_with fail
        go_ret
        exact ⟨ret_i (by unfold regErr; rw [if_pos (by omega)]), (Below.refl _ _).alloc (Nat.le_refl _) _⟩
      · by_cases h3 : h < 1
        · go_enter Try.func131, Try.ntmps131
          go_wp2_with fail
          go_ret
          exact ⟨ret_i (by unfold regErr; rw [if_pos (by omega)]), (Below.refl _ _).alloc (Nat.le_refl _) _⟩
        · have h4 : 256 < h := by omega
          go_enter Try.func131, Try.ntmps131
          go_wp2_with fail
          go_ret
          exact ⟨ret_i (by unfold regErr; rw [if_pos (by omega)]), (Below.refl _ _).alloc (Nat.le_refl _) _⟩

end Go.Proofs.Ytalgepfammpmbaa
