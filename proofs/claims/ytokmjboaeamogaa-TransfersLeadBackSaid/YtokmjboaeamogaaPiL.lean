/- What the law of powers compares: differences of doubles against what they are told to be at most. Plain Lean. Conditions: those named. -/
import Derived.Test.YtokmjboaeamogaaPiK
namespace Go.Proofs.Ytokmjboaeamogaa
open Go Go.RowKit
theorem pow_any {q : Rat} (h1 : (2 : Rat) ^ (-126 : Int) ≤ q) (h2 : q < (2 : Rat) ^ (128 : Int)) : ∃ K : Int, -125 ≤ K ∧ K ≤ 128 ∧ (2 : Rat) ^ (K - 1) ≤ q ∧ q < (2 : Rat) ^ K := by
  by_cases h : q < (2 : Rat) ^ (-125 : Int)
  · exact ⟨-125, by decide, by decide, by rw [show (-125 : Int) - 1 = -126 by rfl]; exact h1, h⟩
  · obtain ⟨K, a, b, c, d⟩ := pow_from (q := q) (by grind) 253 h2
    exact ⟨K, by omega, by omega, c, d⟩
theorem dif_rel {P X : Nat} (c : Rat) (hP : isNum .f64 P = true) (hX : isNum .f64 X = true) (h1 : (2 : Rat) ^ (-126 : Int) ≤ val .f64 X) (h2 : val .f64 X < (2 : Rat) ^ (128 : Int)) (c1 : c ≤ 1 / 2) (h : Nr (val .f64 P) (val .f64 X) (val .f64 X * c)) :
    isNum .f64 (fop .sub .f64 P X) = true ∧ val .f64 (fop .sub .f64 P X) ≤ val .f64 X * (c + 1 / 4503599627370496) ∧ -(val .f64 X * (c + 1 / 4503599627370496)) ≤ val .f64 (fop .sub .f64 P X) := by
  obtain ⟨K, k1, k2, k3, k4⟩ := pow_any h1 h2
  have z := zp_pos (-126)
  have x0 : 0 < val .f64 X := by grind
  have m := Rat.mul_le_mul_of_nonneg_left c1 (Rat.le_of_lt x0)
  unfold Nr at h
  have rn := fop_sub_num hP hX K (by rw [show FloatKind.f64.format.leastPlace + (FloatKind.f64.format.fractionBits : Int) + 1 = -1021 by decide +kernel]; omega) (by show K < 1024; omega) (by grind) (by grind)
  have nr := rn.near K (by rw [show FloatKind.f64.format.leastPlace + (FloatKind.f64.format.fractionBits : Int) + 1 = -1021 by decide +kernel]; omega) (by show K < 1024; omega) (by grind) (by grind)
  have e : (2 : Rat) ^ (K - 1 - (FloatKind.f64.format.fractionBits : Int)) = (2 : Rat) ^ (K - 1) * (1 / 4503599627370496) := by
    rw [show K - 1 - (FloatKind.f64.format.fractionBits : Int) = K - 1 + -52 by rfl, zp_add, show (2 : Rat) ^ (-52 : Int) = 1 / 4503599627370496 by decide +kernel]
  rw [e] at nr
  refine ⟨rn.num, ?_, ?_⟩ <;> grind
/-- The magnitude of a double, from both sides. -/
theorem abs_both {b : Nat} (hb : b < 2 ^ 64) (hn : isNum .f64 b = true) : isNum .f64 (absF b) = true ∧ (val .f64 (absF b) = val .f64 b ∨ val .f64 (absF b) = -(val .f64 b)) := by
  have e : absF b = b % 2 ^ 63 := by unfold absF; rw [andNot_top b hb]; exact Int.toNat_natCast _
  have h2 : absF b < 2 ^ 63 := by rw [e]; exact Nat.mod_lt _ (by decide)
  have hr : rung FloatKind.f64.format (absF b) = rung FloatKind.f64.format b := by unfold rung; rw [e, show FloatKind.f64.format.signWeight = 2 ^ 63 by decide, Nat.mod_mod]
  have hs : sgn FloatKind.f64.format (absF b) = false := by unfold sgn; rw [show FloatKind.f64.format.signWeight = 2 ^ 63 by decide, Nat.div_eq_of_lt h2]; rfl
  refine ⟨by unfold isNum at hn ⊢; rw [hr]; exact hn, ?_⟩
  rw [val_sg, val_sg, hr, hs]
  generalize vq FloatKind.f64.format (rung FloatKind.f64.format b) = q at *
  cases sgn FloatKind.f64.format b <;> simp only [sg, Bool.false_eq_true, if_false, if_true] <;> grind
/-- A difference within c of X is not above X times t. -/
theorem dif_told {P X r : Nat} (c t : Rat) (hP : isNum .f64 P = true) (hX : isNum .f64 X = true) (h1 : (2 : Rat) ^ (-126 : Int) ≤ val .f64 X) (h2 : val .f64 X < (2 : Rat) ^ (128 : Int)) (c1 : c ≤ 1 / 2) (ct : c + 1 / 4503599627370496 < t) (h : Nr (val .f64 P) (val .f64 X) (val .f64 X * c))
    (hr : isNum .f64 r = true) (vr : val .f64 r = val .f64 X * t) :
    (FloatKind.f64.format.order (absF (fop .sub .f64 P X)) r == some .gt) = false ∧ (FloatKind.f64.format.order (absF (fop .sub .f64 P X)) r == some .lt) = true := by
  obtain ⟨n, a, b⟩ := dif_rel c hP hX h1 h2 c1 h
  obtain ⟨n2, e⟩ := abs_both (fop_lt .sub .f64 P X) n
  have z := zp_pos (-126)
  have x0 : 0 < val .f64 X := by grind
  have m := Rat.mul_lt_mul_of_pos_left ct x0
  have g : val .f64 (absF (fop .sub .f64 P X)) < val .f64 r := by
    rw [vr]
    rcases e with e | e <;> rw [e] <;> grind
  have k := val_lt_key.1 g
  rw [ord_gt (isNum_not_nan n2) (isNum_not_nan hr), ord_lt (isNum_not_nan n2) (isNum_not_nan hr)]
  simp only [decide_eq_false_iff_not, decide_eq_true_eq]
  omega
theorem up_val {v : Nat} (hn : isNum .f32 v = true) : val .f64 (fcv .f32 .f64 v) = val .f32 v := by
  obtain ⟨u1, u2, u3⟩ := up_exact hn
  rw [val_sg, val_sg, u2, u3]
/-- What the walk asks of the way back from the logarithm. -/
theorem back_facts {v p : Nat} (hv : isNum .f32 v = true) (h1 : (2 : Rat) ^ (-120 : Int) ≤ val .f32 v) (h2 : val .f32 v ≤ (2 : Rat) ^ (120 : Int)) (hp : BackR (val .f32 v) p) :
    ∃ P D, ovf .f32 .f64 p = false ∧ fcv .f32 .f64 p = P ∧ isN .f64 P = false ∧ fop .sub .f64 (cn .f64 P) (cn .f64 (fcv .f32 .f64 v)) = D ∧ isN .f64 D = false ∧
      ∀ r, isNum .f64 r = true → val .f64 r = val .f32 v * (2 : Rat) ^ (-16 : Int) → (FloatKind.f64.format.order (absF D) r == some .gt) = false := by
  obtain ⟨p1, p2⟩ := hp
  have e1 := up_val hv
  have e2 := up_val p1
  have x1 := (up_exact hv).1
  have x2 := (up_exact p1).1
  have z1 : (2 : Rat) ^ (-126 : Int) < (2 : Rat) ^ (-120 : Int) := zp_lt (by decide)
  have z2 : (2 : Rat) ^ (120 : Int) < (2 : Rat) ^ (128 : Int) := zp_lt (by decide)
  have g := dif_rel (1 / 70000) x2 x1 (by rw [e1]; grind) (by rw [e1]; grind) (by decide +kernel) (by rw [e1, e2]; exact p2)
  obtain ⟨f1, f2⟩ := flt x2 x1 rfl g.1
  refine ⟨_, _, ovf_up _, rfl, isNum_not_nan x2, f1, f2, fun r hr vr => ?_⟩
  exact (dif_told (1 / 70000) ((2 : Rat) ^ (-16 : Int)) x2 x1 (by rw [e1]; grind) (by rw [e1]; grind) (by decide +kernel) (by decide +kernel) (by rw [e1, e2]; exact p2) hr (by rw [vr, e1])).1
/-- The same of the square. -/
theorem square_facts {x : Rat} {s p : Nat} (hs : isNum .f32 s = true) (h1 : (2 : Rat) ^ (-126 : Int) ≤ val .f32 s) (n1 : Nr (val .f32 s) (x * x) (x * x * (1 / 16600000))) (q : 0 < x * x) (hp : SquareR x p) :
    ∃ P D, ovf .f32 .f64 p = false ∧ fcv .f32 .f64 p = P ∧ isN .f64 P = false ∧ fop .sub .f64 (cn .f64 P) (cn .f64 (fcv .f32 .f64 s)) = D ∧ isN .f64 D = false ∧
      ∀ r, isNum .f64 r = true → val .f64 r = val .f32 s * (2 : Rat) ^ (-22 : Int) → (FloatKind.f64.format.order (absF D) r == some .lt) = true := by
  obtain ⟨p1, p2⟩ := hp
  have e1 := up_val hs
  have e2 := up_val p1
  have x1 := (up_exact hs).1
  have x2 := (up_exact p1).1
  have h2 := num_top hs
  have h : Nr (val .f64 (fcv .f32 .f64 p)) (val .f64 (fcv .f32 .f64 s)) (val .f64 (fcv .f32 .f64 s) * (1 / 6900000)) := by
    rw [e1, e2]
    generalize x * x = y at *
    generalize val .f32 s = a at *
    generalize val .f32 p = b at *
    clear h2
    unfold Nr at *
    constructor <;> grind
  have g := dif_rel (1 / 6900000) x2 x1 (by rw [e1]; exact h1) (by rw [e1]; exact h2) (by decide +kernel) h
  obtain ⟨f1, f2⟩ := flt x2 x1 rfl g.1
  refine ⟨_, _, ovf_up _, rfl, isNum_not_nan x2, f1, f2, fun r hr vr => ?_⟩
  exact (dif_told (1 / 6900000) ((2 : Rat) ^ (-22 : Int)) x2 x1 (by rw [e1]; exact h1) (by rw [e1]; exact h2) (by decide +kernel) (by decide +kernel) h hr (by rw [vr, e1])).2
/-- The product of two numbers is no NaN. -/
theorem mul_not_nan {k : FloatKind} {x y : Nat} (hx : isNum k x = true) (hy : isNum k y = true) : isN k (fop .mul k x y) = false := by
  obtain ⟨m, e, d1, -, -, -⟩ := decode_num hx
  obtain ⟨n, j, d2, -, -, -⟩ := decode_num hy
  have h : floatBits .mul k x y = some (k.format.nearest (sgn k.format x ^^ sgn k.format y) (m * n) (e + j)) := by
    have g1 : k.format.read x = _ := d1
    have g2 : k.format.read y = _ := d2
    unfold floatBits Ieee.Format.mul
    simp only []
    rw [g1, g2]; rfl
  unfold fop; rw [h]; exact floatBits_not_nan h
end Go.Proofs.Ytokmjboaeamogaa
