/- The nearest integer within bounds: the two functions (num.Near, dyeref2.NearOf). No condition. -/
import Derived.Test.YtalgepfammpmbaaNear
namespace Go.Proofs.Ytalgepfammpmbaa
open Go.RowKit

theorem near_nan {v : Nat} {lo hi : Int} (h : (FloatKind.f32.format.order v v != some .eq) = true) : nearOf v lo hi = (lo, false) := by
  rw [ord_self_ne] at h; unfold nearOf; rw [if_pos h]
theorem near_x {v r s : Nat} (h1 : FR .f64 r (fcv .f32 .f64 (cn .f32 v))) (h2 : FR .f64 s (fwhole .even (cn .f64 r))) (h : (FloatKind.f32.format.order v v != some .eq) = false) : fwhole .even (fcv .f32 .f64 v) = s ∧ isN .f64 s = false := by
  rw [ord_self_ne] at h
  have e : cn .f64 s = fwhole .even (fcv .f32 .f64 v) := by rw [h2.eq, h1.eq, fcv_cn]
  have hn : isN .f64 (cn .f64 s) = false := by rw [e, isN_fwhole, isN_fcv]; exact h
  rw [isN_cn] at hn
  exact ⟨by rw [← e, cn_of_not hn], hn⟩
theorem near_lt {v r s : Nat} {lo hi : Int} (h1 : FR .f64 r (fcv .f32 .f64 (cn .f32 v))) (h2 : FR .f64 s (fwhole .even (cn .f64 r))) (h : (FloatKind.f32.format.order v v != some .eq) = false)
    (hl : (FloatKind.f64.format.order s (floatOfInt .f64 lo) == some .lt) = true) : nearOf v lo hi = (lo, false) := by
  obtain ⟨e, -⟩ := near_x h1 h2 h
  rw [ord_self_ne] at h
  unfold nearOf; rw [e, h]; simp only [Bool.false_eq_true, if_false]; unfold ford; rw [hl]; rfl
theorem near_gt {v r s : Nat} {lo hi : Int} (h1 : FR .f64 r (fcv .f32 .f64 (cn .f32 v))) (h2 : FR .f64 s (fwhole .even (cn .f64 r))) (h : (FloatKind.f32.format.order v v != some .eq) = false)
    (hl : (FloatKind.f64.format.order s (floatOfInt .f64 lo) == some .lt) = false) (hg : (FloatKind.f64.format.order s (floatOfInt .f64 hi) == some .gt) = true) : nearOf v lo hi = (hi, false) := by
  obtain ⟨e, -⟩ := near_x h1 h2 h
  rw [ord_self_ne] at h
  unfold nearOf; rw [e, h]; simp only [Bool.false_eq_true, if_false]; unfold ford; rw [hl, hg]; rfl
theorem near_in {v r s : Nat} {lo hi m : Int} (b1 : lo.natAbs ≤ 2 ^ 24) (b2 : hi.natAbs ≤ 2 ^ 24) (h1 : FR .f64 r (fcv .f32 .f64 (cn .f32 v))) (h2 : FR .f64 s (fwhole .even (cn .f64 r))) (h : (FloatKind.f32.format.order v v != some .eq) = false)
    (hl : (FloatKind.f64.format.order s (floatOfInt .f64 lo) == some .lt) = false) (hg : (FloatKind.f64.format.order s (floatOfInt .f64 hi) == some .gt) = false) (hm : F2I .f64 s .i64 m) : nearOf v lo hi = (m, true) := by
  obtain ⟨e, hn⟩ := near_x h1 h2 h
  obtain ⟨-, -, -, n, hv⟩ := near_some hn b1 b2 hl hg
  have em := hm _ hv
  rw [ord_self_ne] at h
  unfold nearOf; rw [e, h]; simp only [Bool.false_eq_true, if_false]; unfold ford; rw [hl, hg, hv, em]; rfl

set_option maxHeartbeats 400000 in
theorem Near_any (v : Nat) (lo hi : Int) (w : World) (h0 : lo ≤ hi) (h1 : -16777216 ≤ lo) (h2 : hi ≤ 16777216) :
    Calls Try.prog 185 #[.float .f32 v, .int .i64 lo, .int .i64 hi] w fun e w' => ∃ n, e = .returned (.tuple #[.int .i64 (nearOf v lo hi).1, .bool (nearOf v lo hi).2, .int .i64 0]) ∧ w' = w.drewN n := by
  have b1 : lo.natAbs ≤ 2 ^ 24 := by omega
  have b2 : hi.natAbs ≤ 2 ^ 24 := by omega
  go_enter Try.func185, Try.ntmps185
  go_wp2_with (first | ((with_reducible apply wpList_farith); rfl; rfl; rfl; intro _ _ _) | ((with_reducible apply wpList_up); rfl; exact Try.underlying27; exact Try.underlying151; intro _ _ _) | ((with_reducible apply wpList_even); rfl; exact FR.lt (by assumption); intro _ _ _) | ((with_reducible apply wpList_f2i); rfl; exact Try.underlying151; exact Try.underlying3; intro _ _ _))
  · go_ret3; exact ⟨0, by rw [near_nan (by assumption)]; rfl, rfl⟩
  · go_ret3; exact ⟨_, by rw [near_lt (by assumption) (by assumption) (by assumption) (by assumption)]; rfl, rfl⟩
  · go_ret3; exact ⟨_, by rw [near_gt (by assumption) (by assumption) (by assumption) (by assumption) (by assumption)]; rfl, rfl⟩
  · go_ret3; exact ⟨_, by rw [near_in b1 b2 (by assumption) (by assumption) (by assumption) (by assumption) (by assumption) (by assumption)]; rfl, rfl⟩
set_option maxHeartbeats 400000 in
theorem NearOf_any (v : Nat) (lo hi : Int) (w : World) (b1 : lo.natAbs ≤ 2 ^ 24) (b2 : hi.natAbs ≤ 2 ^ 24) :
    Calls Try.prog 130 #[.float .f32 v, .int .i64 lo, .int .i64 hi] w fun e w' => ∃ n, e = .returned (.tuple #[.int .i64 (nearOf v lo hi).1, .bool (nearOf v lo hi).2]) ∧ w' = w.drewN n := by
  have b1' := Lib.hid b1; clear b1
  have b2' := Lib.hid b2; clear b2
  go_enter Try.func130, Try.ntmps130
  go_wp2_with (first | ((with_reducible apply wpList_farith); rfl; rfl; rfl; intro _ _ _) | ((with_reducible apply wpList_up); rfl; exact Try.underlying27; exact Try.underlying151; intro _ _ _) | ((with_reducible apply wpList_even); rfl; exact FR.lt (by assumption); intro _ _ _) | ((with_reducible apply wpList_f2i); rfl; exact Try.underlying151; exact Try.underlying3; intro _ _ _))
  · go_ret2; exact ⟨0, by rw [near_nan (by assumption)]; rfl, rfl⟩
  · go_ret2; exact ⟨_, by rw [near_lt (by assumption) (by assumption) (by assumption) (by assumption)]; rfl, rfl⟩
  · go_ret2; exact ⟨_, by rw [near_gt (by assumption) (by assumption) (by assumption) (by assumption) (by assumption)]; rfl, rfl⟩
  · go_ret2; exact ⟨_, by rw [near_in b1'.out b2'.out (by assumption) (by assumption) (by assumption) (by assumption) (by assumption) (by assumption)]; rfl, rfl⟩
end Go.Proofs.Ytalgepfammpmbaa
