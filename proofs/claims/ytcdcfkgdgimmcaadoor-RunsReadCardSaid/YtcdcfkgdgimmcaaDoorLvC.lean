/- How far a level's value is from the value, in doubles. Plain laws of floats. Conditions: what each theorem names. -/
import Derived.Test.YtcdcfkgdgimmcaaDoorLvB
namespace Go.Proofs.YtcdcfkgdgimmcaaDoor
open Go.RowKit
theorem step_full {m : Int} (hm : 1 ≤ m ∧ m ≤ 65535) {r : Rat} (hr : r * (m : Rat) = 1) (r0 : 0 < r) (r1 : r ≤ 1) : isNum .f64 (fop .quo .f64 4607182418800017408 (floatOfInt .f64 m)) = true ∧ Nr (val .f64 (fop .quo .f64 4607182418800017408 (floatOfInt .f64 m))) r (1 / 1099511627776) := by
  obtain ⟨y1, y2⟩ := ofInt_exact64 m (by omega)
  have c1 : isNum .f64 4607182418800017408 = true := by decide +kernel
  have c2 : val .f64 4607182418800017408 = 1 := by decide +kernel
  have m1 : (1 : Rat) ≤ (m : Rat) := by have := icast_le hm.1; simpa using this
  have o1 : (2 : Rat) ^ (1 : Int) = 2 := by decide +kernel
  have u1 : (2 : Rat) ^ ((1 : Int) - 1 - (FloatKind.f64.format.fractionBits : Int)) ≤ 1 / 1099511627776 := by decide +kernel
  have RQ := fop_quo_num (q := r) c1 y1 (by rw [y2]; grind) (by rw [y2, c2]; exact hr) 1 (by decide) (by decide) (by rw [o1]; grind) (by rw [o1]; grind)
  have nr := RQ.near 1 (by decide) (by decide) (by rw [o1]; grind) (by rw [o1]; grind)
  refine ⟨RQ.num, ?_⟩
  unfold Nr
  constructor <;> grind
theorem step_half {S : Nat} (nS : isNum .f64 S = true) {r : Rat} (hS : Nr (val .f64 S) r (1 / 1099511627776)) (_ : 0 < r) (r1 : r ≤ 1) : isNum .f64 (fop .quo .f64 S 4611686018427387904) = true ∧ Nr (val .f64 (fop .quo .f64 S 4611686018427387904)) (r * (1 / 2)) (2 / 1099511627776) := by
  have c1 : isNum .f64 4611686018427387904 = true := by decide +kernel
  have c2 : val .f64 4611686018427387904 = 2 := by decide +kernel
  have o1 : (2 : Rat) ^ (1 : Int) = 2 := by decide +kernel
  have u1 : (2 : Rat) ^ ((1 : Int) - 1 - (FloatKind.f64.format.fractionBits : Int)) ≤ 1 / 1099511627776 := by decide +kernel
  unfold Nr at hS
  have RQ := fop_quo_num (q := val .f64 S * (1 / 2)) nS c1 (by rw [c2]; decide) (by rw [c2]; grind) 1 (by decide) (by decide) (by rw [o1]; grind) (by rw [o1]; grind)
  have nr := RQ.near 1 (by decide) (by decide) (by rw [o1]; grind) (by rw [o1]; grind)
  refine ⟨RQ.num, ?_⟩
  unfold Nr
  constructor <;> grind
/-- What the statement asks of the doubles. -/
theorem top_double {g v S : Nat} (ng : isNum .f32 g = true) (g0 : -1 ≤ val .f32 g) (g1 : val .f32 g ≤ 2) (nv : isNum .f32 v = true) (v0 : 0 ≤ val .f32 v) (v1 : val .f32 v ≤ 1) (nS : isNum .f64 S = true) {R : Rat} (_ : 0 < R) (r1 : R ≤ 1)
    (hS : Nr (val .f64 S) R (2 / 1099511627776)) (hN : Nr (val .f32 g) (val .f32 v) (R + 7 / 2 * (1 / 16777216) + 1 / 100 * (1 / 16777216))) :
    isN .f64 (fop .sub .f64 (fcv .f32 .f64 g) (fcv .f32 .f64 v)) = false ∧ isN .f64 (fop .add .f64 S 4508103226997866496) = false ∧
    (FloatKind.f64.format.order (absF (fop .sub .f64 (fcv .f32 .f64 g) (fcv .f32 .f64 v))) (fop .add .f64 S 4508103226997866496) == some .gt) = false := by
  obtain ⟨a1, a2, a3⟩ := up_exact ng
  obtain ⟨b1, b2, b3⟩ := up_exact nv
  have av : val .f64 (fcv .f32 .f64 g) = val .f32 g := by rw [val_sg, val_sg, a2, a3]
  have bv : val .f64 (fcv .f32 .f64 v) = val .f32 v := by rw [val_sg, val_sg, b2, b3]
  have c1 : isNum .f64 4508103226997866496 = true := by decide +kernel
  have c2 : val .f64 4508103226997866496 = 4 * (1 / 16777216) := by decide +kernel
  have o2 : (2 : Rat) ^ (2 : Int) = 4 := by decide +kernel
  have u2 : (2 : Rat) ^ ((2 : Int) - 1 - (FloatKind.f64.format.fractionBits : Int)) ≤ 1 / 1099511627776 := by decide +kernel
  unfold Nr at hS hN
  have RD := fop_sub_num a1 b1 2 (by decide) (by decide) (by rw [o2, av, bv]; grind) (by rw [o2, av, bv]; grind)
  rw [av, bv] at RD
  have nd := RD.near 2 (by decide) (by decide) (by rw [o2]; grind) (by rw [o2]; grind)
  have rdn := RD.num
  have dlt : fop .sub .f64 (fcv .f32 .f64 g) (fcv .f32 .f64 v) < 2 ^ FloatKind.f64.format.width := fop_lt _ _ _ _
  generalize fop .sub .f64 (fcv .f32 .f64 g) (fcv .f32 .f64 v) = D at *
  have RA := fop_add_num nS c1 2 (by decide) (by decide) (by rw [o2, c2]; grind) (by rw [o2, c2]; grind)
  rw [c2] at RA
  have na := RA.near 2 (by decide) (by decide) (by rw [o2]; grind) (by rw [o2]; grind)
  have ran := RA.num
  generalize fop .add .f64 S 4508103226997866496 = L at *
  clear RD RA
  obtain ⟨e1, e2⟩ := abs_rung dlt
  have an : isNum .f64 (absF D) = true := by unfold isNum at rdn ⊢; rw [e1]; exact rdn
  have hs : sgn FloatKind.f64.format (absF D) = false := by
    rw [absF_eq dlt]
    unfold sgn; rw [sw64]
    have h : D % 2 ^ 63 < 2 ^ 63 := Nat.mod_lt _ (by decide)
    rw [Nat.div_eq_of_lt h]; rfl
  have ev : val .f64 (absF D) = vq FloatKind.f64.format (rung FloatKind.f64.format D) := by rw [val_sg, hs, e1]; rfl
  have le : val .f64 (absF D) ≤ val .f64 L := by
    rw [ev]
    exact vq_absB (by grind) (by grind)
  refine ⟨isNum_not_nan rdn, isNum_not_nan ran, ?_⟩
  rw [ord_gt (isNum_not_nan an) (isNum_not_nan ran), decide_eq_false_iff_not]
  have := val_le_key.1 le
  omega
end Go.Proofs.YtcdcfkgdgimmcaaDoor
