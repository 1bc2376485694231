/- num.Exp2 and num.Log2 at whole numbers and powers of 2: exact. Conditions: those named. -/
import Derived.Test.YtokmjboaeamogaaPhX
namespace Go.Proofs.Ytokmjboaeamogaa
open Go Go.RowKit
/-- The code of 2 to the power n, as a double. -/
def two64 (n : Int) : Nat := (n + 1023).toNat * 4503599627370496
/-- The same as a single. -/
def two32 (n : Int) : Nat := fcv .f64 .f32 (two64 n)
theorem all_n {p : Int → Bool} (h : ∀ i : Fin 277, p ((i.val : Int) - 149) = true) {n : Int} (h1 : -149 ≤ n) (h2 : n ≤ 127) : p n = true := by
  have := h ⟨(n + 149).toNat, by omega⟩
  simp only at this
  rwa [show (((n + 149).toNat : Nat) : Int) - 149 = n by omega] at this
theorem int_facts {n : Int} (h1 : -149 ≤ n) (h2 : n ≤ 127) :
    (FloatKind.f64.format.order (floatOfInt .f64 n) 13864612927836782592 == some .lt) = false ∧ (FloatKind.f64.format.order (floatOfInt .f64 n) 4641240890982006784 == some .gt) = false ∧
    fwhole .down (cn .f64 (fop .add .f64 (floatOfInt .f64 n) 4602678819172646912)) = floatOfInt .f64 n ∧ fop .sub .f64 (floatOfInt .f64 n) (floatOfInt .f64 n) = 0 ∧ floatToIntVal .f64 (floatOfInt .f64 n) .i64 = some n ∧
    isNum .f64 (floatOfInt .f64 n) = true ∧ isNum .f64 (fop .add .f64 (floatOfInt .f64 n) 4602678819172646912) = true := by
  have := all_n (p := fun n => decide ((FloatKind.f64.format.order (floatOfInt .f64 n) 13864612927836782592 == some .lt) = false ∧ (FloatKind.f64.format.order (floatOfInt .f64 n) 4641240890982006784 == some .gt) = false ∧
    fwhole .down (cn .f64 (fop .add .f64 (floatOfInt .f64 n) 4602678819172646912)) = floatOfInt .f64 n ∧ fop .sub .f64 (floatOfInt .f64 n) (floatOfInt .f64 n) = 0 ∧ floatToIntVal .f64 (floatOfInt .f64 n) .i64 = some n ∧
    isNum .f64 (floatOfInt .f64 n) = true ∧ isNum .f64 (fop .add .f64 (floatOfInt .f64 n) 4602678819172646912) = true)) (by decide +kernel) h1 h2
  exact of_decide_eq_true this
theorem two_facts {n : Int} (h1 : -149 ≤ n) (h2 : n ≤ 127) :
    isNum .f64 (two64 n) = true ∧ isNum .f32 (two32 n) = true ∧ ovf .f64 .f32 (two64 n) = false ∧ fcv .f32 .f64 (two32 n) = two64 n ∧ fcv .f64 .f32 (floatOfInt .f64 n) = floatOfInt .f32 n ∧ fcv .f32 .f64 (floatOfInt .f32 n) = floatOfInt .f64 n ∧
    isNum .f32 (floatOfInt .f32 n) = true ∧ ovf .f64 .f32 (floatOfInt .f64 n) = false ∧ (FloatKind.f32.format.order (two32 n) 0 == some .eq) = false ∧ (FloatKind.f32.format.order (two32 n) 2139095039 == some .gt) = false ∧ (FloatKind.f32.format.order (two32 n) 0 == some .gt) = true ∧
    (FloatKind.f32.format.order (floatOfInt .f32 n) (floatOfInt .f32 n) != some .eq) = false ∧ (FloatKind.f32.format.order (floatOfInt .f32 n) 2139095039 == some .gt) = false ∧ (FloatKind.f32.format.order (floatOfInt .f32 n) 4286578687 == some .lt) = false := by
  have := all_n (p := fun n => decide (isNum .f64 (two64 n) = true ∧ isNum .f32 (two32 n) = true ∧ ovf .f64 .f32 (two64 n) = false ∧ fcv .f32 .f64 (two32 n) = two64 n ∧ fcv .f64 .f32 (floatOfInt .f64 n) = floatOfInt .f32 n ∧ fcv .f32 .f64 (floatOfInt .f32 n) = floatOfInt .f64 n ∧
    isNum .f32 (floatOfInt .f32 n) = true ∧ ovf .f64 .f32 (floatOfInt .f64 n) = false ∧ (FloatKind.f32.format.order (two32 n) 0 == some .eq) = false ∧ (FloatKind.f32.format.order (two32 n) 2139095039 == some .gt) = false ∧ (FloatKind.f32.format.order (two32 n) 0 == some .gt) = true ∧
    (FloatKind.f32.format.order (floatOfInt .f32 n) (floatOfInt .f32 n) != some .eq) = false ∧ (FloatKind.f32.format.order (floatOfInt .f32 n) 2139095039 == some .gt) = false ∧ (FloatKind.f32.format.order (floatOfInt .f32 n) 4286578687 == some .lt) = false)) (by decide +kernel) h1 h2
  exact of_decide_eq_true this
theorem Ldexp_one (n : Int) (w : World) (h1 : -149 ≤ n) (h2 : n ≤ 127) : Calls Try.prog 9 #[.float .f64 4607182418800017408, .int .i64 n] w fun e w' => e = .returned (.float .f64 (two64 n)) ∧ ∃ m, w' = w.drewN m := by
  have h := Ldexp_plain 1023 0 n w (by decide) (by decide) (by decide) (by omega) (by omega)
  rw [show 1023 * 4503599627370496 + 0 = 4607182418800017408 by decide] at h
  refine h.mono ?_
  rintro e w' ⟨rfl, h⟩
  refine ⟨?_, h⟩
  unfold two64
  rw [show ((1023 : Nat) : Int) + n = n + 1023 by omega, Nat.add_zero]
set_option maxRecDepth 100000 in
set_option maxHeartbeats 1600000 in
theorem exponential_two (n : Int) (w : World) (h1 : -149 ≤ n) (h2 : n ≤ 127) : Calls Try.prog 50 #[.float .f64 (floatOfInt .f64 n)] w fun e w' => e = .returned (.float .f64 (two64 n)) ∧ ∃ m, w' = w.drewN m := by
  obtain ⟨o1, o2, a3, a4, i1, a6, a7⟩ := int_facts h1 h2
  have L := Lib.hid (fun w => Ldexp_one n w h1 h2)
  obtain ⟨d, hd⟩ : ∃ d, d = floatOfInt .f64 n := ⟨_, rfl⟩
  rw [← hd] at o1 o2 a3 a4 i1 a6 a7 ⊢
  obtain ⟨b, hb⟩ : ∃ b, b = fop .add .f64 d 4602678819172646912 := ⟨_, rfl⟩
  rw [← hb] at a3 a7
  obtain ⟨f1, g1⟩ := flt a6 lits64.2.1.1 hb.symm a7
  obtain ⟨f2, g2⟩ := flt a6 a6 a4 (by decide +kernel)
  have f3 : fop .mul .f64 (cn .f64 0) (cn .f64 4604418534313441775) = 0 := by decide +kernel
  have f4 : fop .mul .f64 (cn .f64 4607182418800017408) (cn .f64 0) = 0 := by decide +kernel
  have f5 : fop .add .f64 (cn .f64 4607182418800017408) (cn .f64 0) = 4607182418800017408 := by decide +kernel
  have F := Lib.hid (fun w => Floor_of b d w (by rw [hb]; exact fop_lt _ _ _ _) a3 (isNum_not_nan a6))
  clear hd hb a3 a4 h1 h2
  go_enter Try.func50, Try.ntmps50
  go_wp2_with (first | ((with_reducible apply wpList_flit); rfl; rfl; rfl; assumption; (first | assumption | (decide +kernel)); intro _) | (go_at_call 54; refine (F.out _).mono ?_; rintro e w' ⟨rfl, m, rfl⟩))
  go_loopw [5, 6] (fun s5 s6 wr => ∃ k : Nat, k ≤ 14 ∧ s6 = .int .i64 k ∧ s5 = .float .f64 4607182418800017408 ∧ ∃ m, wr = w.drewN m) (fun _ i _ => (intOf i).toNat)
  case atStart => exact ⟨14, by decide, rfl, rfl, _, rfl⟩
  case round =>
    obtain ⟨k, hk, rfl, rfl, m, rfl⟩ := hrel
    by_cases hk0 : 1 ≤ k
    · have f6 := exp_zero k (by omega) hk0
      go_wp2_with (first | ((with_reducible apply wpList_flit); rfl; rfl; rfl; assumption; (first | assumption | (decide +kernel)); intro _))
      go_roundw
      case rel => exact ⟨k - 1, by omega, by first | rfl | (congr 1; go_num) | (simp; omega), rfl, _, rfl⟩
      case measure => simp [intOf]; omega
    · obtain rfl : k = 0 := by omega
      go_wp2_with (first | ((with_reducible apply wpList_f2i); rfl; exact Try.underlying30; exact Try.underlying3; intro m n hm; obtain rfl := hm _ i1) | (go_at_call 9; refine (L.out _).mono ?_; rintro e w' ⟨rfl, m, rfl⟩))
      go_ret
      exact ⟨rfl, _, rfl⟩
set_option maxRecDepth 100000 in
set_option maxHeartbeats 1600000 in
theorem logarithm_two (n : Int) (w : World) (h1 : -149 ≤ n) (h2 : n ≤ 127) : Calls Try.prog 51 #[.float .f64 (two64 n)] w fun e w' => e = .returned (.float .f64 (floatOfInt .f64 n)) ∧ ∃ m, w' = w.drewN m := by
  have F : ∀ w, Calls Try.prog 55 #[.float .f64 (two64 n)] w fun e w' => e = .returned (.tuple #[.float .f64 4602678819172646912, .int .i64 (n + 1)]) ∧ w = w' := fun w => by
    have h := Frexp_full (n + 1023).toNat 0 w (by omega) (by omega) (by decide)
    rw [Nat.add_zero, show (((n + 1023).toNat : Nat) : Int) - 1022 = n + 1 by omega] at h
    exact h
  replace F := Lib.hid F
  obtain ⟨-, -, -, -, -, a6, -⟩ := int_facts h1 h2
  have a7 : fop .add .f64 (cn .f64 (floatOfInt .f64 n)) (cn .f64 0) = floatOfInt .f64 n := by
    have := all_n (p := fun n => decide (fop .add .f64 (cn .f64 (floatOfInt .f64 n)) (cn .f64 0) = floatOfInt .f64 n)) (by decide +kernel) h1 h2
    exact of_decide_eq_true this
  have a8 : isN .f64 (floatOfInt .f64 n) = false := isNum_not_nan a6
  have f1 : fop .mul .f64 (cn .f64 4602678819172646912) (cn .f64 4611686018427387904) = 4607182418800017408 := by decide +kernel
  have o1 : (FloatKind.f64.format.order 4607182418800017408 4609047870845172685 == some .gt) = false := by decide +kernel
  have f2 : fop .sub .f64 (cn .f64 4607182418800017408) (cn .f64 4607182418800017408) = 0 := by decide +kernel
  have f3 : fop .add .f64 (cn .f64 4607182418800017408) (cn .f64 4607182418800017408) = 4611686018427387904 := by decide +kernel
  have f4 : fop .quo .f64 (cn .f64 0) (cn .f64 4611686018427387904) = 0 := by decide +kernel
  have f5 : fop .mul .f64 (cn .f64 0) (cn .f64 0) = 0 := by decide +kernel
  go_enter Try.func51, Try.ntmps51
  go_wp2_with (first | ((with_reducible apply wpList_flit); rfl; rfl; rfl; assumption; (first | assumption | (decide +kernel)); intro _) | (go_at_call 55; refine (F.out _).mono ?_; rintro e w' ⟨rfl, rfl⟩))
  go_loopw [8, 9] (fun s8 s9 wr => ∃ j : Nat, j ≤ 10 ∧ s9 = .int .i64 (((2 * j : Nat) : Int) - 1) ∧ s8 = .float .f64 (serF j) ∧ ∃ m, wr = w.drewN m) (fun _ i _ => (intOf i + 1).toNat)
  case atStart => exact ⟨10, by decide, rfl, rfl, _, rfl⟩
  case round =>
    obtain ⟨j, hj, rfl, rfl, m, rfl⟩ := hrel
    by_cases hj0 : j = 0
    · subst hj0
      have g1 : fop .mul .f64 (cn .f64 4611686018427387904) (cn .f64 0) = 0 := by decide +kernel
      have g2 : fop .mul .f64 (cn .f64 0) (cn .f64 (serF 0)) = 0 := by decide +kernel
      have g3 : fop .quo .f64 (cn .f64 0) (cn .f64 4604418534313441775) = 0 := by decide +kernel
      go_wp2_with (first | ((with_reducible apply wpList_flit); rfl; rfl; rfl; assumption; (first | assumption | (decide +kernel)); intro _))
      go_ret
      exact ⟨rfl, _, rfl⟩
    · obtain ⟨i, rfl⟩ : ∃ i, j = i + 1 := ⟨j - 1, by omega⟩
      obtain ⟨k1, k2, k3, k4, k5⟩ := ser_ok ⟨i, by omega⟩
      simp only at k1 k2 k3 k4 k5
      have k6 : fop .quo .f64 (cn .f64 4607182418800017408) (cn .f64 (floatOfInt .f64 ((2 * i + 1 : Nat) : Int))) = fop .quo .f64 (cn .f64 4607182418800017408) (cn .f64 (floatOfInt .f64 ((2 * i + 1 : Nat) : Int))) := rfl
      rw [show (((2 * (i + 1) : Nat) : Int) - 1) = ((2 * i + 1 : Nat) : Int) by omega]
      go_wp2_with (first | ((with_reducible apply wpList_flit); rfl; rfl; rfl; assumption; (first | assumption | (decide +kernel)); intro _))
      go_roundw
      case rel => exact ⟨i, by omega, by first | rfl | (congr 1; go_num) | (simp; omega), rfl, _, rfl⟩
      case measure => simp [intOf]; omega
end Go.Proofs.Ytokmjboaeamogaa
