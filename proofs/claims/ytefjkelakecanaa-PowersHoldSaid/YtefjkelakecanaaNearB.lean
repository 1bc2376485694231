/- The nearest integer within bounds: the two functions (num.Near, dyeref2.NearOf). No condition. -/
import Derived.Test.YtefjkelakecanaaNear
namespace Go.Proofs.Ytefjkelakecanaa
open Go.RowKit

theorem near_nan {v : Nat} {lo hi : Int} (h : (FloatKind.f32.format.order v v != some .eq) = true) : nearOf v lo hi = (lo, false) := by
  rw [ord_self_ne] at h; unfold nearOf; rw [if_pos h]
theorem near_x {v r s : Nat} (h1 : FR .f64 r (fcv .f32 .f64 (cn .f32 v))) (h2 : FR .f64 s (fwhole .even (cn .f64 r))) (h : (FloatKind.f32.format.order v v != some .eq) = false) : fwhole .even (fcv .f32 .f64 v) = s ∧ isN .f64 s = false := by
  rw [ord_self_ne] at h
  have e : cn .f64 s = fwhole .even (fcv .f32 .f64 v) := by rw [h2.eq, h1.eq, fcv_cn]
  have hn : isN .f64 (cn .f64 s) = false := by rw [e, isN_fwhole, isN_fcv]; exact h
  rw [isN_cn] at hn
  exact ⟨by rw [← e, cn_of_not hn], hn⟩
theorem near_lt {v r s : Nat} {lo hi : Int} (h1 : FR .f64 r (fcv .f32 .f64 (cn .f32 v))) (h2 : FR .f64 s (fwhole .even (cn .f64 r))) (h : (FloatKind.f32.format.order v v != some .eq) = false)
    (hl : (FloatKind.f64.format.order s (floatOfInt .f64 lo) == some .lt) = true) : nearOf v lo hi = (lo, false) := by
  obtain ⟨e, -⟩ := near_x h1 h2 h
  rw [ord_self_ne] at h
  unfold nearOf; rw [e, h]; simp only [Bool.false_eq_true, if_false]; unfold ford; rw [hl]; rfl
theorem near_gt {v r s : Nat} {lo hi : Int} (h1 : FR .f64 r (fcv .f32 .f64 (cn .f32 v))) (h2 : FR .f64 s (fwhole .even (cn .f64 r))) (h : (FloatKind.f32.format.order v v != some .eq) = false)
    (hl : (FloatKind.f64.format.order s (floatOfInt .f64 lo) == some .lt) = false) (hg : (FloatKind.f64.format.order s (floatOfInt .f64 hi) == some .gt) = true) : nearOf v lo hi = (hi, false) := by
  obtain ⟨e, -⟩ := near_x h1 h2 h
  rw [ord_self_ne] at h
  unfold nearOf; rw [e, h]; simp only [Bool.false_eq_true, if_false]; unfold ford; rw [hl, hg]; rfl
theorem near_in {v r s : Nat} {lo hi m : Int} (b1 : lo.natAbs ≤ 2 ^ 24) (b2 : hi.natAbs ≤ 2 ^ 24) (h1 : FR .f64 r (fcv .f32 .f64 (cn .f32 v))) (h2 : FR .f64 s (fwhole .even (cn .f64 r))) (h : (FloatKind.f32.format.order v v != some .eq) = false)
    (hl : (FloatKind.f64.format.order s (floatOfInt .f64 lo) == some .lt) = false) (hg : (FloatKind.f64.format.order s (floatOfInt .f64 hi) == some .gt) = false) (hm : F2I .f64 s .i64 m) : nearOf v lo hi = (m, true) := by
  obtain ⟨e, hn⟩ := near_x h1 h2 h
  obtain ⟨-, -, -, n, hv⟩ := near_some hn b1 b2 hl hg
  have em := hm _ hv
  rw [ord_self_ne] at h
  unfold nearOf; rw [e, h]; simp only [Bool.false_eq_true, if_false]; unfold ford; rw [hl, hg, hv, em]; rfl

end Go.Proofs.Ytefjkelakecanaa
