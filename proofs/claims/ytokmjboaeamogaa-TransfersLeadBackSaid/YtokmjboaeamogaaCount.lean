/- counts: whether numbers are reckoned (Exp2 of 10, Log2 of 8), reckoned step by step. No condition. -/
import Derived.Test.YtokmjboaeamogaaLit
namespace Go.Proofs.Ytokmjboaeamogaa
open Go.RowKit
def absF (b : Nat) : Nat := (bits .andNot .u64 (b : Int) 9223372036854775808).toNat
set_option maxHeartbeats 800000 in
theorem Abs_any (b : Nat) (w : World) : Calls Try.prog 8 #[.float .f64 b] w fun e w' => e = .returned (.float .f64 (absF b)) ∧ w = w' := by
  go_enter Try.func8, Try.ntmps8
  go_wp2
  go_ret
  exact ⟨rfl, rfl⟩
set_option maxHeartbeats 800000 in
theorem IsNaN_any (b : Nat) (w : World) : Calls Try.prog 42 #[.float .f64 b] w fun e w' => e = .returned (.bool (FloatKind.f64.format.order b b != some .eq)) ∧ w = w' := by
  go_enter Try.func42, Try.ntmps42
  go_wp2
  go_ret
  exact ⟨rfl, rfl⟩
set_option maxHeartbeats 800000 in
theorem IsInf_any (b : Nat) (w : World) : Calls Try.prog 41 #[.float .f64 b, .int .i64 0] w fun e w' => e = .returned (.bool (FloatKind.f64.format.order (absF b) 9218868437227405311 == some .gt)) ∧ w = w' := by
  go_enter Try.func41, Try.ntmps41
  go_wp2_with (first | (go_at_call 8; refine (Abs_any _ _).mono ?_; rintro e w' ⟨rfl, rfl⟩))
  go_ret
  exact ⟨rfl, rfl⟩
set_option maxHeartbeats 800000 in
theorem normalize_big (b : Nat) (w : World) (h : (FloatKind.f64.format.order (absF b) 4503599627370496 == some .lt) = false) : Calls Try.prog 43 #[.float .f64 b] w fun e w' => e = .returned (.tuple #[.float .f64 b, .int .i64 0]) ∧ w = w' := by
  go_enter Try.func43, Try.ntmps43
  go_wp2_with (first | (go_at_call 8; refine (Abs_any _ _).mono ?_; rintro e w' ⟨rfl, rfl⟩))
  exact bodyPost_ret (v := .tuple #[.float .f64 b, .int .i64 0]) (by simp [results, Try.results43, go_sem, *]) rfl ⟨rfl, rfl⟩
set_option maxRecDepth 100000 in
set_option maxHeartbeats 1600000 in
theorem ldexp_ten (w : World) : Calls Try.prog 22 #[.float .f64 4607182418800017408, .int .i64 10] w fun e w' => e = .returned (.float .f64 4652218415073722368) ∧ ∃ m, w' = w.drewN m := by
  have b2 : bits .and .i64 1023 2047 = 1023 := by decide +kernel
  have b3 : bits .andNot .u64 4607182418800017408 9218868437227405312 = 0 := by decide +kernel
  have b4 : bits .or .u64 0 4652218415073722368 = 4652218415073722368 := by decide +kernel
  have o1 : (FloatKind.f64.format.order 4607182418800017408 0 == some .eq) = false := by decide +kernel
  have o2 : (FloatKind.f64.format.order (absF 4607182418800017408) 9218868437227405311 == some .gt) = false := by decide +kernel
  have o3 : (FloatKind.f64.format.order 4607182418800017408 4607182418800017408 != some .eq) = false := by decide +kernel
  have o4 : (FloatKind.f64.format.order (absF 4607182418800017408) 4503599627370496 == some .lt) = false := by decide +kernel
  have f1 : fop .mul .f64 (cn .f64 4607182418800017408) (cn .f64 4652218415073722368) = 4652218415073722368 := by decide +kernel
  go_enter Try.func22, Try.ntmps22
  go_wp2_with (first | ((with_reducible apply wpList_flit); rfl; rfl; rfl; assumption; (first | assumption | (decide +kernel)); intro _) | (go_at_call 41; refine (IsInf_any _ _).mono ?_; rintro e w' ⟨rfl, rfl⟩) | (go_at_call 42; refine (IsNaN_any _ _).mono ?_; rintro e w' ⟨rfl, rfl⟩) | (go_at_call 43; refine (normalize_big _ _ o4).mono ?_; rintro e w' ⟨rfl, rfl⟩))
  go_ret
  exact ⟨rfl, _, rfl⟩
set_option maxHeartbeats 800000 in
theorem Ldexp_ten (w : World) : Calls Try.prog 9 #[.float .f64 4607182418800017408, .int .i64 10] w fun e w' => e = .returned (.float .f64 4652218415073722368) ∧ ∃ m, w' = w.drewN m := by
  go_enter Try.func9, Try.ntmps9
  go_wp2_with (first | (go_at_call 22; refine (ldexp_ten _).mono ?_; rintro e w' ⟨rfl, m, rfl⟩))
  go_ret
  exact ⟨rfl, _, rfl⟩
set_option maxRecDepth 100000 in
set_option maxHeartbeats 1600000 in
theorem frexp_eight (w : World) : Calls Try.prog 59 #[.float .f64 4620693217682128896] w fun e w' => e = .returned (.tuple #[.float .f64 4602678819172646912, .int .i64 4]) ∧ w = w' := by
  have b2 : bits .and .u64 1026 2047 = 1026 := by decide +kernel
  have b3 : bits .andNot .u64 4620693217682128896 9218868437227405312 = 0 := by decide +kernel
  have b4 : bits .or .u64 0 4602678819172646912 = 4602678819172646912 := by decide +kernel
  have o1 : (FloatKind.f64.format.order 4620693217682128896 0 == some .eq) = false := by decide +kernel
  have o2 : (FloatKind.f64.format.order (absF 4620693217682128896) 9218868437227405311 == some .gt) = false := by decide +kernel
  have o3 : (FloatKind.f64.format.order 4620693217682128896 4620693217682128896 != some .eq) = false := by decide +kernel
  have o4 : (FloatKind.f64.format.order (absF 4620693217682128896) 4503599627370496 == some .lt) = false := by decide +kernel
  go_enter Try.func59, Try.ntmps59
  go_wp2_with (first | (go_at_call 41; refine (IsInf_any _ _).mono ?_; rintro e w' ⟨rfl, rfl⟩) | (go_at_call 42; refine (IsNaN_any _ _).mono ?_; rintro e w' ⟨rfl, rfl⟩) | (go_at_call 43; refine (normalize_big _ _ o4).mono ?_; rintro e w' ⟨rfl, rfl⟩))
  exact bodyPost_ret (v := .tuple #[.float .f64 4602678819172646912, .int .i64 4]) (by simp [results, Try.results59, go_sem, *]) rfl ⟨rfl, rfl⟩
set_option maxHeartbeats 800000 in
theorem Frexp_eight (w : World) : Calls Try.prog 55 #[.float .f64 4620693217682128896] w fun e w' => e = .returned (.tuple #[.float .f64 4602678819172646912, .int .i64 4]) ∧ w = w' := by
  go_enter Try.func55, Try.ntmps55
  go_wp2_with (first | (go_at_call 59; refine (frexp_eight _).mono ?_; rintro e w' ⟨rfl, rfl⟩))
  exact bodyPost_ret (v := .tuple #[.float .f64 4602678819172646912, .int .i64 4]) (by simp [results, Try.results55, go_sem, *]) rfl ⟨rfl, rfl⟩
set_option maxHeartbeats 800000 in
theorem exceptional_ten (w : World) : Calls Try.prog 53 #[.float .f32 1092616192] w fun e w' => e = .returned (.tuple #[.float .f32 0, .bool false]) ∧ w = w' := by
  have o1 : (FloatKind.f32.format.order 1092616192 1092616192 != some .eq) = false := by decide +kernel
  have o2 : (FloatKind.f32.format.order 1092616192 2139095039 == some .gt) = false := by decide +kernel
  have o3 : (FloatKind.f32.format.order 1092616192 4286578687 == some .lt) = false := by decide +kernel
  go_enter Try.func53, Try.ntmps53
  go_wp2
  exact bodyPost_ret (v := .tuple #[.float .f32 0, .bool false]) (by simp [results, Try.results53, go_sem, *]) rfl ⟨rfl, rfl⟩
set_option maxHeartbeats 800000 in
theorem Floor_ten (w : World) : Calls Try.prog 54 #[.float .f64 4622100592565682176] w fun e w' => e = .returned (.float .f64 4621819117588971520) ∧ ∃ m, w' = w.drewN m := by
  go_enter Try.func54, Try.ntmps54
  go_wp2_with (first | ((with_reducible apply wpList_floor); rfl; (decide +kernel); intro r n hr; obtain rfl : r = 4621819117588971520 := (FR.exact hr (by decide +kernel)).trans (by decide +kernel)))
  go_ret
  exact ⟨rfl, _, rfl⟩
theorem exp_zero (k : Nat) (h : k < 15) (h1 : 1 ≤ k) : fop .quo .f64 (cn .f64 0) (cn .f64 (floatOfInt .f64 (k : Int))) = 0 := by
  have : ∀ j : Fin 14, fop .quo .f64 (cn .f64 0) (cn .f64 (floatOfInt .f64 ((j.val + 1 : Nat) : Int))) = 0 := by decide +kernel
  have := this ⟨k - 1, by omega⟩
  simpa [show k - 1 + 1 = k by omega] using this
set_option maxRecDepth 100000 in
set_option maxHeartbeats 1600000 in
theorem exponential_ten (w : World) : Calls Try.prog 50 #[.float .f64 4621819117588971520] w fun e w' => e = .returned (.float .f64 4652218415073722368) ∧ ∃ m, w' = w.drewN m := by
  have o1 : (FloatKind.f64.format.order 4621819117588971520 13864612927836782592 == some .lt) = false := by decide +kernel
  have o2 : (FloatKind.f64.format.order 4621819117588971520 4641240890982006784 == some .gt) = false := by decide +kernel
  have f1 : fop .add .f64 (cn .f64 4621819117588971520) (cn .f64 4602678819172646912) = 4622100592565682176 := by decide +kernel
  have f2 : fop .sub .f64 (cn .f64 4621819117588971520) (cn .f64 4621819117588971520) = 0 := by decide +kernel
  have f3 : fop .mul .f64 (cn .f64 0) (cn .f64 4604418534313441775) = 0 := by decide +kernel
  have f4 : fop .mul .f64 (cn .f64 4607182418800017408) (cn .f64 0) = 0 := by decide +kernel
  have f5 : fop .add .f64 (cn .f64 4607182418800017408) (cn .f64 0) = 4607182418800017408 := by decide +kernel
  have i1 : floatToIntVal .f64 4621819117588971520 .i64 = some 10 := by decide +kernel
  go_enter Try.func50, Try.ntmps50
  go_wp2_with (first | ((with_reducible apply wpList_flit); rfl; rfl; rfl; assumption; (first | assumption | (decide +kernel)); intro _) | (go_at_call 54; refine (Floor_ten _).mono ?_; rintro e w' ⟨rfl, m, rfl⟩))
  go_loopw [5, 6] (fun s5 s6 wr => ∃ k : Nat, k ≤ 14 ∧ s6 = .int .i64 k ∧ s5 = .float .f64 4607182418800017408 ∧ ∃ m, wr = w.drewN m) (fun _ i _ => (intOf i).toNat)
  case atStart => exact ⟨14, by decide, rfl, rfl, _, rfl⟩
  case round =>
    obtain ⟨k, hk, rfl, rfl, m, rfl⟩ := hrel
    by_cases hk0 : 1 ≤ k
    · have f6 := exp_zero k (by omega) hk0
      go_wp2_with (first | ((with_reducible apply wpList_flit); rfl; rfl; rfl; assumption; (first | assumption | (decide +kernel)); intro _))
      go_roundw
      case rel => exact ⟨k - 1, by omega, by first | rfl | (congr 1; go_num) | (simp; omega), rfl, _, rfl⟩
      case measure => simp [intOf]; omega
    · obtain rfl : k = 0 := by omega
      go_wp2_with (first | ((with_reducible apply wpList_f2i); rfl; exact Try.underlying30; exact Try.underlying3; intro m n hm; obtain rfl := hm _ i1) | (go_at_call 9; refine (Ldexp_ten _).mono ?_; rintro e w' ⟨rfl, m, rfl⟩))
      go_ret
      exact ⟨rfl, _, rfl⟩
set_option maxHeartbeats 800000 in
theorem Exp2_ten (w : World) : Calls Try.prog 38 #[.float .f32 1092616192] w fun e w' => e = .returned (.float .f32 1149239296) ∧ ∃ m, w' = w.drewN m := by
  have v1 : ovf .f32 .f64 1092616192 = false := by decide +kernel
  have c1 : fcv .f32 .f64 1092616192 = 4621819117588971520 := by decide +kernel
  have v2 : ovf .f64 .f32 4652218415073722368 = false := by decide +kernel
  have c2 : fcv .f64 .f32 4652218415073722368 = 1149239296 := by decide +kernel
  go_enter Try.func38, Try.ntmps38
  go_wp2_with (first | ((with_reducible apply wpList_clit); rfl; exact Try.underlying30; exact Try.underlying22; decide; assumption; assumption; (decide +kernel); intro _) | ((with_reducible apply wpList_clit); rfl; exact Try.underlying22; exact Try.underlying30; decide; assumption; assumption; (decide +kernel); intro _) | (go_at_call 53; refine (exceptional_ten _).mono ?_; rintro e w' ⟨rfl, rfl⟩) | (go_at_call 50; refine (exponential_ten _).mono ?_; rintro e w' ⟨rfl, m, rfl⟩))
  go_ret
  exact ⟨rfl, _, rfl⟩
/-- What the series has reached ahead of the k-th last term, its square being 0: 1/21, then 1/19 .. 1. -/
def serF : Nat → Nat
  | 0 => 4607182418800017408
  | k + 1 => if k = 9 then 4587023449039406616 else fop .quo .f64 (cn .f64 4607182418800017408) (cn .f64 (floatOfInt .f64 ((2 * k + 3 : Nat) : Int)))
theorem ser_ok : ∀ k : Fin 10, isN .f64 (serF (k.val + 1)) = false ∧ fop .mul .f64 (cn .f64 (serF (k.val + 1))) (cn .f64 0) = 0 ∧ isN .f64 (fop .quo .f64 (cn .f64 4607182418800017408) (cn .f64 (floatOfInt .f64 ((2 * k.val + 1 : Nat) : Int)))) = false ∧
    fop .add .f64 (cn .f64 0) (cn .f64 (fop .quo .f64 (cn .f64 4607182418800017408) (cn .f64 (floatOfInt .f64 ((2 * k.val + 1 : Nat) : Int))))) = serF k.val ∧ isN .f64 (serF k.val) = false := by decide +kernel
set_option maxRecDepth 100000 in
set_option maxHeartbeats 1600000 in
theorem logarithm_eight (w : World) : Calls Try.prog 51 #[.float .f64 4620693217682128896] w fun e w' => e = .returned (.float .f64 4613937818241073152) ∧ ∃ m, w' = w.drewN m := by
  have f1 : fop .mul .f64 (cn .f64 4602678819172646912) (cn .f64 4611686018427387904) = 4607182418800017408 := by decide +kernel
  have o1 : (FloatKind.f64.format.order 4607182418800017408 4609047870845172685 == some .gt) = false := by decide +kernel
  have f2 : fop .sub .f64 (cn .f64 4607182418800017408) (cn .f64 4607182418800017408) = 0 := by decide +kernel
  have f3 : fop .add .f64 (cn .f64 4607182418800017408) (cn .f64 4607182418800017408) = 4611686018427387904 := by decide +kernel
  have f4 : fop .quo .f64 (cn .f64 0) (cn .f64 4611686018427387904) = 0 := by decide +kernel
  have f5 : fop .mul .f64 (cn .f64 0) (cn .f64 0) = 0 := by decide +kernel
  go_enter Try.func51, Try.ntmps51
  go_wp2_with (first | ((with_reducible apply wpList_flit); rfl; rfl; rfl; assumption; (first | assumption | (decide +kernel)); intro _) | (go_at_call 55; refine (Frexp_eight _).mono ?_; rintro e w' ⟨rfl, rfl⟩))
  go_loopw [8, 9] (fun s8 s9 wr => ∃ j : Nat, j ≤ 10 ∧ s9 = .int .i64 (((2 * j : Nat) : Int) - 1) ∧ s8 = .float .f64 (serF j) ∧ ∃ m, wr = w.drewN m) (fun _ i _ => (intOf i + 1).toNat)
  case atStart => exact ⟨10, by decide, rfl, rfl, _, rfl⟩
  case round =>
    obtain ⟨j, hj, rfl, rfl, m, rfl⟩ := hrel
    by_cases hj0 : j = 0
    · subst hj0
      have g1 : fop .mul .f64 (cn .f64 4611686018427387904) (cn .f64 0) = 0 := by decide +kernel
      have g2 : fop .mul .f64 (cn .f64 0) (cn .f64 (serF 0)) = 0 := by decide +kernel
      have g3 : fop .quo .f64 (cn .f64 0) (cn .f64 4604418534313441775) = 0 := by decide +kernel
      have g4 : fop .add .f64 (cn .f64 (floatOfInt .f64 3)) (cn .f64 0) = 4613937818241073152 := by decide +kernel
      go_wp2_with (first | ((with_reducible apply wpList_flit); rfl; rfl; rfl; assumption; (first | assumption | (decide +kernel)); intro _))
      go_ret
      exact ⟨rfl, _, rfl⟩
    · obtain ⟨i, rfl⟩ : ∃ i, j = i + 1 := ⟨j - 1, by omega⟩
      obtain ⟨k1, k2, k3, k4, k5⟩ := ser_ok ⟨i, by omega⟩
      simp only at k1 k2 k3 k4 k5
      have k6 : fop .quo .f64 (cn .f64 4607182418800017408) (cn .f64 (floatOfInt .f64 ((2 * i + 1 : Nat) : Int))) = fop .quo .f64 (cn .f64 4607182418800017408) (cn .f64 (floatOfInt .f64 ((2 * i + 1 : Nat) : Int))) := rfl
      rw [show (((2 * (i + 1) : Nat) : Int) - 1) = ((2 * i + 1 : Nat) : Int) by omega]
      go_wp2_with (first | ((with_reducible apply wpList_flit); rfl; rfl; rfl; assumption; (first | assumption | (decide +kernel)); intro _))
      go_roundw
      case rel => exact ⟨i, by omega, by first | rfl | (congr 1; go_num) | (simp; omega), rfl, _, rfl⟩
      case measure => simp [intOf]; omega
set_option maxHeartbeats 800000 in
theorem logOf_eight (w : World) : Calls Try.prog 52 #[.float .f32 1090519040, .func (.func 51) #[] #[]] w fun e w' => e = .returned (.float .f32 1077936128) ∧ ∃ m, w' = w.drewN m := by
  have o1 : (FloatKind.f32.format.order 1090519040 0 == some .eq) = false := by decide +kernel
  have o2 : (FloatKind.f32.format.order 1090519040 2139095039 == some .gt) = false := by decide +kernel
  have o3 : (FloatKind.f32.format.order 1090519040 0 == some .gt) = true := by decide +kernel
  have v1 : ovf .f32 .f64 1090519040 = false := by decide +kernel
  have c1 : fcv .f32 .f64 1090519040 = 4620693217682128896 := by decide +kernel
  have v2 : ovf .f64 .f32 4613937818241073152 = false := by decide +kernel
  have c2 : fcv .f64 .f32 4613937818241073152 = 1077936128 := by decide +kernel
  have d1 : cn .f32 1077936128 = 1077936128 := by decide +kernel
  go_enter Try.func52, Try.ntmps52
  go_wp2_with (first | ((with_reducible apply wpList_clit); rfl; exact Try.underlying30; exact Try.underlying22; decide; assumption; assumption; (decide +kernel); intro _) | ((with_reducible apply wpList_clit); rfl; exact Try.underlying22; exact Try.underlying30; decide; assumption; assumption; (decide +kernel); intro _) | (go_at_call 16; refine (Clean_any _ _).mono ?_; rintro e w' ⟨rfl, rfl⟩) | (go_at_call 51; refine (logarithm_eight _).mono ?_; rintro e w' ⟨rfl, m, rfl⟩))
  go_ret
  exact ⟨rfl, _, rfl⟩
set_option maxHeartbeats 800000 in
theorem Log2_eight (w : World) : Calls Try.prog 31 #[.float .f32 1090519040] w fun e w' => e = .returned (.float .f32 1077936128) ∧ ∃ m, w' = w.drewN m := by
  go_enter Try.func31, Try.ntmps31
  go_wp2_with (first | (go_at_call 52; refine (logOf_eight _).mono ?_; rintro e w' ⟨rfl, m, rfl⟩))
  go_ret
  exact ⟨rfl, _, rfl⟩
end Go.Proofs.Ytokmjboaeamogaa
