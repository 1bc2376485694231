/- The least and the greatest of doubles; the told rounding as doubles reckon it. Plain Lean. Conditions: those named. -/
import Derived.Test.YtmdmjmmplhoniaaCbB
import Derived.Test.YtmdmjmmplhoniaaLdC
namespace Go.Proofs.Ytmdmjmmplhoniaa
open Go Go.RowKit
def mnF (x y : Nat) : Nat := match FloatKind.f64.format.order x y with | some .lt => x | some .gt => y | _ => if (FloatKind.f64.decode x).neg then x else y
def mxF (x y : Nat) : Nat := match FloatKind.f64.format.order x y with | some .lt => y | some .gt => x | _ => if (FloatKind.f64.decode x).neg then y else x
theorem run_mn {P : Program} {x y : Nat} (hx : isN .f64 x = false) (hy : isN .f64 y = false) (w : World) : (Builtin.min2 (.float .f64 x) (.float .f64 y)).run P w = .ok (.float .f64 (mnF x y)) w := by
  have h := ord_of hx hy
  unfold Builtin.min2 mnF
  simp only [h]
  cases compare (key FloatKind.f64.format x) (key FloatKind.f64.format y) <;> rfl
theorem run_mx {P : Program} {x y : Nat} (hx : isN .f64 x = false) (hy : isN .f64 y = false) (w : World) : (Builtin.max2 (.float .f64 x) (.float .f64 y)).run P w = .ok (.float .f64 (mxF x y)) w := by
  have h := ord_of hx hy
  unfold Builtin.max2 mxF
  simp only [h]
  cases compare (key FloatKind.f64.format x) (key FloatKind.f64.format y) <;> rfl
theorem run_min {P : Program} {x y : Nat} (hx : isN .f64 x = false) (hy : isN .f64 y = false) (ats : Array TypeId) (ty : TypeId) (w : World) : (Builtin.min_ ats ty #[.float .f64 x, .float .f64 y]).run P w = .ok (.float .f64 (mnF x y)) w := by
  show (Sem.run P (Builtin.min2 (.float .f64 x) (.float .f64 y) >>= fun r => pure r) w) = _
  rw [Sem.run_bind, run_mn hx hy]; rfl
theorem run_max {P : Program} {x y : Nat} (hx : isN .f64 x = false) (hy : isN .f64 y = false) (ats : Array TypeId) (ty : TypeId) (w : World) : (Builtin.max_ ats ty #[.float .f64 x, .float .f64 y]).run P w = .ok (.float .f64 (mxF x y)) w := by
  show (Sem.run P (Builtin.max2 (.float .f64 x) (.float .f64 y) >>= fun r => pure r) w) = _
  rw [Sem.run_bind, run_mx hx hy]; rfl
theorem mn_spec {x y : Nat} (hx : isN .f64 x = false) (hy : isN .f64 y = false) : (mnF x y = x ∨ mnF x y = y) ∧ key FloatKind.f64.format (mnF x y) ≤ key FloatKind.f64.format x ∧ key FloatKind.f64.format (mnF x y) ≤ key FloatKind.f64.format y := by
  have h := ord_of hx hy
  unfold mnF
  rw [h]
  rcases hc : compare (key FloatKind.f64.format x) (key FloatKind.f64.format y) with _ | _ | _
  · have := Int.compare_eq_lt.1 hc
    exact ⟨.inl rfl, Int.le_refl _, Int.le_of_lt this⟩
  · have := Int.compare_eq_eq.1 hc
    simp only []
    split
    · exact ⟨.inl rfl, by omega, by omega⟩
    · exact ⟨.inr rfl, by omega, by omega⟩
  · have := Int.compare_eq_gt.1 hc
    exact ⟨.inr rfl, Int.le_of_lt this, Int.le_refl _⟩
theorem mx_spec {x y : Nat} (hx : isN .f64 x = false) (hy : isN .f64 y = false) : (mxF x y = x ∨ mxF x y = y) ∧ key FloatKind.f64.format x ≤ key FloatKind.f64.format (mxF x y) ∧ key FloatKind.f64.format y ≤ key FloatKind.f64.format (mxF x y) := by
  have h := ord_of hx hy
  unfold mxF
  rw [h]
  rcases hc : compare (key FloatKind.f64.format x) (key FloatKind.f64.format y) with _ | _ | _
  · have := Int.compare_eq_lt.1 hc
    exact ⟨.inr rfl, Int.le_of_lt this, Int.le_refl _⟩
  · have := Int.compare_eq_eq.1 hc
    simp only []
    split
    · exact ⟨.inr rfl, by omega, by omega⟩
    · exact ⟨.inl rfl, by omega, by omega⟩
  · have := Int.compare_eq_gt.1 hc
    exact ⟨.inl rfl, Int.le_refl _, Int.le_of_lt this⟩
/-- The least and the greatest of the first entries. -/
structure ExtR (fs : Nat → Nat) (i l h : Nat) : Prop where
  lw : l < 2 ^ 64
  hw : h < 2 ^ 64
  z : i = 0 → l = 9218868437227405312 ∧ h = 18442240474082181120
  s : 0 < i → isNum .f64 l = true ∧ isNum .f64 h = true
  e : ∀ j, j < i → isNum .f32 (fs j) = true ∧ key FloatKind.f64.format l ≤ key FloatKind.f64.format (fcv .f32 .f64 (fs j)) ∧ key FloatKind.f64.format (fcv .f32 .f64 (fs j)) ≤ key FloatKind.f64.format h
theorem ExtR.zero (fs : Nat → Nat) : ExtR fs 0 9218868437227405312 18442240474082181120 := ⟨by decide, by decide, fun _ => ⟨rfl, rfl⟩, fun h => by omega, fun j h => by omega⟩
theorem ExtR.nn {fs : Nat → Nat} {i l h : Nat} (k : ExtR fs i l h) : isN .f64 l = false ∧ isN .f64 h = false := by
  rcases Nat.eq_zero_or_pos i with h0 | h0
  · obtain ⟨rfl, rfl⟩ := k.z h0; decide +kernel
  · exact ⟨isNum_not_nan (k.s h0).1, isNum_not_nan (k.s h0).2⟩
theorem num_key {y : Nat} (hy : isNum .f64 y = true) : key FloatKind.f64.format y < 9218868437227405312 ∧ -9218868437227405312 < key FloatKind.f64.format y := by
  unfold isNum at hy; rw [f64_ir] at hy
  simp only [decide_eq_true_eq] at hy
  unfold key; split <;> omega
theorem ExtR.step {fs : Nat → Nat} {i l h : Nat} (k : ExtR fs i l h) (hn : isNum .f32 (fs i) = true) : ExtR fs (i + 1) (mnF l (fcv .f32 .f64 (fs i))) (mxF h (fcv .f32 .f64 (fs i))) := by
  obtain ⟨u1, -, -⟩ := up_exact hn
  have hx := fcv_lt .f32 .f64 (fs i)
  obtain ⟨n1, n2⟩ := k.nn
  obtain ⟨a1, a2, a3⟩ := mn_spec n1 (isNum_not_nan u1)
  obtain ⟨b1, b2, b3⟩ := mx_spec n2 (isNum_not_nan u1)
  have num : isNum .f64 (mnF l (fcv .f32 .f64 (fs i))) = true ∧ isNum .f64 (mxF h (fcv .f32 .f64 (fs i))) = true := by
    obtain ⟨k1, k2⟩ := num_key u1
    rcases Nat.eq_zero_or_pos i with h0 | h0
    · obtain ⟨rfl, rfl⟩ := k.z h0
      have e1 : key FloatKind.f64.format 9218868437227405312 = 9218868437227405312 := by decide +kernel
      have e2 : key FloatKind.f64.format 18442240474082181120 = -9218868437227405312 := by decide +kernel
      constructor
      · rcases a1 with a1 | a1
        · exfalso; rw [a1, e1] at a3; omega
        · rw [a1]; exact u1
      · rcases b1 with b1 | b1
        · exfalso; rw [b1, e2] at b3; omega
        · rw [b1]; exact u1
    · obtain ⟨c1, c2⟩ := k.s h0
      constructor
      · rcases a1 with a1 | a1 <;> rw [a1] <;> assumption
      · rcases b1 with b1 | b1 <;> rw [b1] <;> assumption
  refine ⟨?_, ?_, fun h => by omega, fun _ => num, fun j hj => ?_⟩
  · rcases a1 with a1 | a1 <;> rw [a1]; exact k.lw; exact hx
  · rcases b1 with b1 | b1 <;> rw [b1]; exact k.hw; exact hx
  · rcases Nat.lt_or_ge j i with h1 | h1
    · obtain ⟨d1, d2, d3⟩ := k.e j h1
      exact ⟨d1, by omega, by omega⟩
    · obtain rfl : j = i := by omega
      exact ⟨hn, a3, b3⟩
theorem up_val {v : Nat} (hn : isNum .f32 v = true) : val .f64 (fcv .f32 .f64 v) = val .f32 v := by
  obtain ⟨u1, u2, u3⟩ := up_exact hn
  rw [val_sg, val_sg, u2, u3]
theorem ExtR.vals {fs : Nat → Nat} {i l h : Nat} (k : ExtR fs i l h) : ∀ j, j < i → isNum .f32 (fs j) = true ∧ val .f64 l ≤ val .f32 (fs j) ∧ val .f32 (fs j) ≤ val .f64 h := fun j hj => by
  obtain ⟨d1, d2, d3⟩ := k.e j hj
  refine ⟨d1, ?_, ?_⟩
  · rw [← up_val d1]; exact val_le_key.2 d2
  · rw [← up_val d1]; exact val_le_key.2 d3
/-- The magnitude of a double. -/
theorem abs_val {b : Nat} (hb : b < 2 ^ 64) (hn : isNum .f64 b = true) : isNum .f64 (absF b) = true ∧ absF b < 2 ^ 63 ∧ val .f64 b ≤ val .f64 (absF b) ∧ -(val .f64 (absF b)) ≤ val .f64 b := by
  have e : absF b = b % 2 ^ 63 := by unfold absF; rw [andNot_top b hb]; exact Int.toNat_natCast _
  have h2 : absF b < 2 ^ 63 := by rw [e]; exact Nat.mod_lt _ (by decide)
  have hr : rung FloatKind.f64.format (absF b) = rung FloatKind.f64.format b := by unfold rung; rw [e, show FloatKind.f64.format.signWeight = 2 ^ 63 by decide, Nat.mod_mod]
  have hs : sgn FloatKind.f64.format (absF b) = false := by unfold sgn; rw [show FloatKind.f64.format.signWeight = 2 ^ 63 by decide, Nat.div_eq_of_lt h2]; rfl
  have h0 := vq_nonneg FloatKind.f64.format (rung FloatKind.f64.format b)
  refine ⟨by unfold isNum at hn ⊢; rw [hr]; exact hn, h2, ?_, ?_⟩
  · rw [val_sg, val_sg, hr, hs]
    generalize vq FloatKind.f64.format (rung FloatKind.f64.format b) = q at *
    cases sgn FloatKind.f64.format b <;> simp only [sg, Bool.false_eq_true, if_false, if_true] <;> grind
  · rw [val_sg, val_sg, hr, hs]
    generalize vq FloatKind.f64.format (rung FloatKind.f64.format b) = q at *
    cases sgn FloatKind.f64.format b <;> simp only [sg, Bool.false_eq_true, if_false, if_true] <;> grind
/-- The greatest magnitude. -/
theorem great_mag {fs : Nat → Nat} {i l h : Nat} (k : ExtR fs i l h) (hi : 0 < i) : isN .f64 (absF l) = false ∧ isN .f64 (absF h) = false ∧ isNum .f64 (mxF (absF l) (absF h)) = true ∧ mxF (absF l) (absF h) < 2 ^ 63 ∧ -(val .f64 (mxF (absF l) (absF h))) ≤ val .f64 l ∧ val .f64 h ≤ val .f64 (mxF (absF l) (absF h)) ∧ val .f64 l ≤ val .f64 h := by
  obtain ⟨n1, n2⟩ := k.s hi
  obtain ⟨a1, a2, a3, a4⟩ := abs_val k.lw n1
  obtain ⟨b1, b2, b3, b4⟩ := abs_val k.hw n2
  obtain ⟨c1, c2, c3⟩ := mx_spec (isNum_not_nan a1) (isNum_not_nan b1)
  have d2 := val_le_key.2 c2
  have d3 := val_le_key.2 c3
  obtain ⟨-, e1, e2⟩ := k.vals 0 hi
  refine ⟨isNum_not_nan a1, isNum_not_nan b1, ?_, ?_, by grind, by grind, by grind⟩
  · rcases c1 with c1 | c1 <;> rw [c1] <;> assumption
  · rcases c1 with c1 | c1 <;> rw [c1] <;> assumption
theorem FR_num64 {r s : Nat} (h : FR .f64 r s) (hn : isN .f64 s = false) : r = s := by
  have h1 := h.eq
  have h2 : isN .f64 r = false := by rw [← isN_cn, h1]; exact hn
  rw [← h1, cn_of_not h2]
theorem rn_wide64 {q B : Rat} {b : Nat} (h : Rn .f64 q b) (hB : (2 : Rat) ^ (-101 : Int) ≤ B) (hB2 : B < (2 : Rat) ^ (124 : Int)) (h1 : -B ≤ q) (h2 : q ≤ B) : Nr (val .f64 b) q (B * (1 / 9007199254740992)) := by
  obtain ⟨K, a, b1, c, d⟩ := pow_find hB 225 hB2
  have nr := h.near K (by rw [show FloatKind.f64.format.leastPlace + (FloatKind.f64.format.fractionBits : Int) + 1 = -1021 by decide +kernel]; omega) (by show K < 1024; omega) (by grind) (by grind)
  have e : (2 : Rat) ^ (K - 1 - (FloatKind.f64.format.fractionBits : Int)) = (2 : Rat) ^ (K - 1) * (1 / 4503599627370496) := by
    rw [show K - 1 - (FloatKind.f64.format.fractionBits : Int) = K - 1 + -52 by rfl, zp_add, show (2 : Rat) ^ (-52 : Int) = 1 / 4503599627370496 by decide +kernel]
  rw [e] at nr
  unfold Nr
  constructor <;> grind
/-- What lies above the told rounding is not below the bound that doubles reckon; and the same from above. -/
theorem told_low {l e : Nat} {M : Rat} (hl : isNum .f64 l = true) (he : isNum .f64 e = true) (hM : (2 : Rat) ^ (-101 : Int) ≤ M) (hM2 : M < (2 : Rat) ^ (121 : Int)) (l1 : -M ≤ val .f64 l) (l2 : val .f64 l ≤ M) (hev : val .f64 e = M * (1 / 1048576)) :
    isN .f64 (fop .sub .f64 l e) = false ∧ ∀ v, isNum .f32 v = true → val .f64 l - M * (31 / 2) * (1 / 16777216) ≤ val .f32 v → (FloatKind.f64.format.order (fcv .f32 .f64 v) (fop .sub .f64 l e) == some .lt) = false := by
  have zp := zp_pos (-101)
  have z : (2 : Rat) ^ (124 : Int) = 8 * (2 : Rat) ^ (121 : Int) := by decide +kernel
  have rn := fop_sub_num hl he 124 (by decide) (by decide) (by grind) (by grind)
  obtain ⟨n1, n2⟩ := rn_wide64 (B := 2 * M) rn (by grind) (by grind) (by grind) (by grind)
  refine ⟨isNum_not_nan rn.num, fun v hv h => ?_⟩
  rw [ord_lt (isNum_not_nan (up_exact hv).1) (isNum_not_nan rn.num), decide_eq_false_iff_not, Int.not_lt]
  refine val_le_key.1 ?_
  rw [up_val hv]
  grind
theorem told_high {l e : Nat} {M : Rat} (hl : isNum .f64 l = true) (he : isNum .f64 e = true) (hM : (2 : Rat) ^ (-101 : Int) ≤ M) (hM2 : M < (2 : Rat) ^ (121 : Int)) (l1 : -M ≤ val .f64 l) (l2 : val .f64 l ≤ M) (hev : val .f64 e = M * (1 / 1048576)) :
    isN .f64 (fop .add .f64 l e) = false ∧ ∀ v, isNum .f32 v = true → val .f32 v ≤ val .f64 l + M * (31 / 2) * (1 / 16777216) → (FloatKind.f64.format.order (fcv .f32 .f64 v) (fop .add .f64 l e) == some .gt) = false := by
  have zp := zp_pos (-101)
  have z : (2 : Rat) ^ (124 : Int) = 8 * (2 : Rat) ^ (121 : Int) := by decide +kernel
  have rn := fop_add_num hl he 124 (by decide) (by decide) (by grind) (by grind)
  obtain ⟨n1, n2⟩ := rn_wide64 (B := 2 * M) rn (by grind) (by grind) (by grind) (by grind)
  refine ⟨isNum_not_nan rn.num, fun v hv h => ?_⟩
  rw [ord_gt (isNum_not_nan (up_exact hv).1) (isNum_not_nan rn.num), decide_eq_false_iff_not, Int.not_lt]
  refine val_le_key.1 ?_
  rw [up_val hv]
  grind
end Go.Proofs.Ytmdmjmmplhoniaa
