/- TopLevels: the walk of the statement. No condition. -/
import Derived.Test.YthphcnchbogheaaLvD
import Derived.Test.YthphcnchbogheaaLdC
import Derived.Test.YthphcnchbogheaaPkG
import Derived.Test.YthphcnchbogheaaPkB
import Derived.Test.YthphcnchbogheaaBO
namespace Go.Proofs.Ythphcnchbogheaa
open Go Go.RowKit
theorem off0 (s x y : Int) (V k : Nat) : offZ 0 s x y V k = 0 := by unfold offZ offF; split <;> rfl
theorem tl_back (s x y : Int) (V : Nat) (Z : Nat → Int) {d : Int} (hd : 1 ≤ d ∧ d ≤ 16) (hz : ∀ i, 0 ≤ Z i ∧ Z i ≤ 2 ^ d.toNat - 1) (k : Nat) : lvZ 0 s x y V (fun i => valueF (Z i) d) d k = Z k := by
  unfold lvZ
  rw [off0]
  exact level_back hd (hz k).1 (hz k).2
def okV (v : Nat) : Bool := (FloatKind.f32.format.order v 0 == some .gt) || (FloatKind.f32.format.order v 0 == some .eq)
def okW (v : Nat) : Bool := (FloatKind.f32.format.order v 1065353216 == some .lt) || (FloatKind.f32.format.order v 1065353216 == some .eq)
theorem tl_num {v : Nat} (h : okV v = true) (h2 : okW v = true) : isNum .f32 v = true ∧ 0 ≤ val .f32 v ∧ val .f32 v ≤ 1 := by
  unfold okV at h
  unfold okW at h2
  have hn : isN .f32 v = false := by
    cases hN : isN .f32 v with
    | false => rfl
    | true => rw [ord_nan_l 0 hN] at h; simp at h
  have z1 : isN .f32 0 = false := by decide +kernel
  have z2 : isN .f32 1065353216 = false := by decide +kernel
  rw [ord_gt hn z1, ord_eq hn z1] at h
  rw [ord_lt hn z2, ord_eq hn z2] at h2
  have k0 : key FloatKind.f32.format 0 = 0 := by decide +kernel
  have k1 : key FloatKind.f32.format 1065353216 = 1065353216 := by decide +kernel
  have v0 : val .f32 0 = 0 := by decide +kernel
  have v1 : val .f32 1065353216 = 1 := by decide +kernel
  rw [Bool.or_eq_true, decide_eq_true_eq, decide_eq_true_eq] at h h2
  have g0 : key FloatKind.f32.format 0 ≤ key FloatKind.f32.format v := by omega
  have g1 : key FloatKind.f32.format v ≤ key FloatKind.f32.format 1065353216 := by omega
  have i0 := val_le_key.2 g0
  have i1 := val_le_key.2 g1
  rw [v0] at i0
  rw [v1] at i1
  refine ⟨?_, i0, i1⟩
  unfold isNum
  rw [decide_eq_true_eq, f32_ir]
  rw [k0] at g0
  rw [k1] at g1
  unfold key at g0 g1
  split at g0 <;> rename_i hs <;> simp only [hs] at g1 <;> simp at g1 <;> omega
/-- The step. -/
def stF (how d : Int) : Nat := if how = 0 then fop .quo .f64 (fop .quo .f64 4607182418800017408 (floatOfInt .f64 (2 ^ d.toNat - 1))) 4611686018427387904 else fop .quo .f64 4607182418800017408 (floatOfInt .f64 (2 ^ d.toNat - 1))
theorem st_num {d : Int} (hd : 1 ≤ d ∧ d ≤ 16) : isN .f64 (fop .quo .f64 4607182418800017408 (floatOfInt .f64 (2 ^ d.toNat - 1))) = false ∧ isN .f64 (fop .quo .f64 (fop .quo .f64 4607182418800017408 (floatOfInt .f64 (2 ^ d.toNat - 1))) 4611686018427387904) = false := by
  have hb := pow_bd hd
  have hM : 1 ≤ (2 : Int) ^ d.toNat - 1 ∧ (2 : Int) ^ d.toNat - 1 ≤ 65535 := by omega
  generalize (2 : Int) ^ d.toNat - 1 = m at *
  have m1 : (1 : Rat) ≤ (m : Rat) := by have := icast_le hM.1; simpa using this
  obtain ⟨r, hr⟩ : ∃ r : Rat, r * (m : Rat) = 1 := ⟨1 / (m : Rat), by rw [Rat.div_def, Rat.mul_assoc, Rat.inv_mul_cancel _ (by grind), Rat.mul_one]⟩
  have r0 : 0 < r := by
    rcases (Rat.le_total : 0 ≤ r ∨ r ≤ 0) with h | h
    · rcases (show r = 0 ∨ 0 < r by grind) with h2 | h2
      · rw [h2, Rat.zero_mul] at hr; exact absurd hr (by decide)
      · exact h2
    · have := Rat.mul_le_mul_of_nonneg_right h (show (0 : Rat) ≤ (m : Rat) by grind); grind
  have r1 : r ≤ 1 := le_cancel (show (0 : Rat) < (m : Rat) by grind) (by grind)
  obtain ⟨s1, s2⟩ := step_full hM hr r0 r1
  obtain ⟨s3, -⟩ := step_half s1 s2 r0 r1
  exact ⟨isNum_not_nan s1, isNum_not_nan s3⟩
theorem tl_dbl {how s x y : Int} {V : Nat} {fs : Nat → Nat} {d : Int} (hd : 1 ≤ d ∧ d ≤ 16) {k v : Nat} (hv : v = fs k) (ok1 : okV v = true) (ok2 : okW v = true) :
    isN .f64 (fcv .f32 .f64 (valueF (lvZ how s x y V fs d k) d)) = false ∧ isN .f64 (fcv .f32 .f64 v) = false ∧
    isN .f64 (fop .sub .f64 (fcv .f32 .f64 (valueF (lvZ how s x y V fs d k) d)) (fcv .f32 .f64 v)) = false ∧ isN .f64 (fop .add .f64 (stF how d) 4508103226997866496) = false ∧
    (FloatKind.f64.format.order (absF (fop .sub .f64 (fcv .f32 .f64 (valueF (lvZ how s x y V fs d k) d)) (fcv .f32 .f64 v))) (fop .add .f64 (stF how d) 4508103226997866496) == some .gt) = false := by
  obtain ⟨nv, v0, v1⟩ := tl_num ok1 ok2
  have ho : isNum .f32 (offZ how s x y V k) = true ∧ -(1 / 2) ≤ val .f32 (offZ how s x y V k) ∧ val .f32 (offZ how s x y V k) ≤ 1 / 2 := by
    unfold offZ
    split
    · exact off_bd _ _ _ _ _
    · exact ⟨by decide +kernel, by decide +kernel, by decide +kernel⟩
  have hz : how = 0 → val .f32 (offZ how s x y V k) = 0 := fun h => by subst h; rw [off0]; decide +kernel
  obtain ⟨o1, o2, o3⟩ := ho
  unfold lvZ
  rw [← hv]
  obtain ⟨g1, g2, g3, g4⟩ := val_near hd nv v0 v1 o1 o2 o3
  generalize valueF (levelOf v (offZ how s x y V k) d) d = G at *
  have hb := pow_bd hd
  have hM : 1 ≤ (2 : Int) ^ d.toNat - 1 ∧ (2 : Int) ^ d.toNat - 1 ≤ 65535 := by omega
  unfold stF
  generalize (2 : Int) ^ d.toNat - 1 = m at *
  have m1 : (1 : Rat) ≤ (m : Rat) := by have := icast_le hM.1; simpa using this
  obtain ⟨r, hr⟩ : ∃ r : Rat, r * (m : Rat) = 1 := ⟨1 / (m : Rat), by rw [Rat.div_def, Rat.mul_assoc, Rat.inv_mul_cancel _ (by grind), Rat.mul_one]⟩
  obtain ⟨r0, r1, N1, N2⟩ := g4 r hr
  obtain ⟨s1, s2⟩ := step_full hM hr r0 r1
  obtain ⟨s3, s4⟩ := step_half s1 s2 r0 r1
  refine ⟨isNum_not_nan (up_exact g1).1, isNum_not_nan (up_exact nv).1, ?_⟩
  split
  · rename_i h
    exact top_double g1 g2 g3 nv v0 v1 s3 (R := r * (1 / 2)) (by grind) (by grind) s4 (by have := N2 (hz h); unfold Nr at this ⊢; constructor <;> grind)
  · exact top_double g1 g2 g3 nv v0 v1 s1 (R := r) r0 r1 (by unfold Nr at s2 ⊢; constructor <;> grind) N1
end Go.Proofs.Ythphcnchbogheaa
