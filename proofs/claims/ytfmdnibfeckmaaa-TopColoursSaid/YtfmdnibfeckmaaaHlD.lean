/- Hues lead back: the plain law, whole. Conditions: what each theorem names. -/
import Derived.Test.YtfmdnibfeckmaaaHlC
import Derived.Test.YtfmdnibfeckmaaaAbsA
namespace Go.Proofs.Ytfmdnibfeckmaaa
open Go.RowKit
theorem pick_val {a v : Nat} (na : isNum .f32 a = true) (nv : isNum .f32 v = true) : (pickF a v = v ∧ val .f32 a ≤ val .f32 v) ∨ (pickF a v = a ∧ val .f32 v ≤ val .f32 a) := by
  unfold pickF
  rw [ord_gt (isNum_not_nan nv) (isNum_not_nan na)]
  by_cases h : key FloatKind.f32.format a < key FloatKind.f32.format v
  · rw [decide_eq_true h, if_pos rfl]; exact .inl ⟨rfl, Rat.le_of_lt (val_lt_key.2 h)⟩
  · rw [decide_eq_false h, if_neg (by decide)]; exact .inr ⟨rfl, val_le_key.2 (by omega)⟩
theorem low_val {a v : Nat} (na : isNum .f32 a = true) (nv : isNum .f32 v = true) : (lowF a v = v ∧ val .f32 v ≤ val .f32 a) ∨ (lowF a v = a ∧ val .f32 a ≤ val .f32 v) := by
  unfold lowF
  rw [ord_lt (isNum_not_nan nv) (isNum_not_nan na)]
  by_cases h : key FloatKind.f32.format v < key FloatKind.f32.format a
  · rw [decide_eq_true h, if_pos rfl]; exact .inl ⟨rfl, Rat.le_of_lt (val_lt_key.2 h)⟩
  · rw [decide_eq_false h, if_neg (by decide)]; exact .inr ⟨rfl, val_le_key.2 (by omega)⟩
theorem max_of {p0 p1 p2 : Nat} (n0 : isNum .f32 p0 = true) (n1 : isNum .f32 p1 = true) (n2 : isNum .f32 p2 = true) : (maxF p0 p1 p2 = p0 ∨ maxF p0 p1 p2 = p1 ∨ maxF p0 p1 p2 = p2) ∧ val .f32 p0 ≤ val .f32 (maxF p0 p1 p2) ∧ val .f32 p1 ≤ val .f32 (maxF p0 p1 p2) ∧ val .f32 p2 ≤ val .f32 (maxF p0 p1 p2) := by
  unfold maxF
  rcases pick_val n0 n1 with ⟨a, b⟩ | ⟨a, b⟩ <;> rw [a]
  · rcases pick_val n1 n2 with ⟨c, d⟩ | ⟨c, d⟩ <;> rw [c]
    · exact ⟨.inr (.inr rfl), by grind, by grind, by grind⟩
    · exact ⟨.inr (.inl rfl), by grind, by grind, by grind⟩
  · rcases pick_val n0 n2 with ⟨c, d⟩ | ⟨c, d⟩ <;> rw [c]
    · exact ⟨.inr (.inr rfl), by grind, by grind, by grind⟩
    · exact ⟨.inl rfl, by grind, by grind, by grind⟩
theorem min_of {p0 p1 p2 : Nat} (n0 : isNum .f32 p0 = true) (n1 : isNum .f32 p1 = true) (n2 : isNum .f32 p2 = true) : (lkF p0 p1 p2 2 = p0 ∨ lkF p0 p1 p2 2 = p1 ∨ lkF p0 p1 p2 2 = p2) ∧ val .f32 (lkF p0 p1 p2 2) ≤ val .f32 p0 ∧ val .f32 (lkF p0 p1 p2 2) ≤ val .f32 p1 ∧ val .f32 (lkF p0 p1 p2 2) ≤ val .f32 p2 := by
  show (lowF (lowF p0 p1) p2 = p0 ∨ lowF (lowF p0 p1) p2 = p1 ∨ lowF (lowF p0 p1) p2 = p2) ∧ val .f32 (lowF (lowF p0 p1) p2) ≤ val .f32 p0 ∧ val .f32 (lowF (lowF p0 p1) p2) ≤ val .f32 p1 ∧ val .f32 (lowF (lowF p0 p1) p2) ≤ val .f32 p2
  rcases low_val n0 n1 with ⟨a, b⟩ | ⟨a, b⟩ <;> rw [a]
  · rcases low_val n1 n2 with ⟨c, d⟩ | ⟨c, d⟩ <;> rw [c]
    · exact ⟨.inr (.inr rfl), by grind, by grind, by grind⟩
    · exact ⟨.inr (.inl rfl), by grind, by grind, by grind⟩
  · rcases low_val n0 n2 with ⟨c, d⟩ | ⟨c, d⟩ <;> rw [c]
    · exact ⟨.inr (.inr rfl), by grind, by grind, by grind⟩
    · exact ⟨.inl rfl, by grind, by grind, by grind⟩
theorem eq_val {a b : Nat} (na : isNum .f32 a = true) (nb : isNum .f32 b = true) : (FloatKind.f32.format.order a b == some .eq) = decide (val .f32 a = val .f32 b) := by
  rw [ord_eq (isNum_not_nan na) (isNum_not_nan nb)]
  refine decide_eq_decide.2 ⟨fun h => ?_, fun h => ?_⟩
  · have h1 := val_le_key.2 (show key FloatKind.f32.format a ≤ key FloatKind.f32.format b by omega)
    have h2 := val_le_key.2 (show key FloatKind.f32.format b ≤ key FloatKind.f32.format a by omega)
    grind
  · have h1 := val_le_key.1 (show val .f32 a ≤ val .f32 b by rw [h]; exact Rat.le_refl)
    have h2 := val_le_key.1 (show val .f32 b ≤ val .f32 a by rw [h]; exact Rat.le_refl)
    omega
theorem fin_w {o V D wx wY p : Rat} (h1 : Nr o (V - D * (1 - wx)) (V * (85 / 10 * (1 / 16777216)))) (h2 : Nr wx wY (22 * (1 / 16777216))) (D0 : 0 ≤ D) (D1 : D ≤ V) (hp : p = V - D * (1 - wY)) : Nr o p (V * (31 * (1 / 16777216))) := by
  have h3 := h2.mul D0
  have h4 := Rat.mul_le_mul_of_nonneg_right D1 (show (0 : Rat) ≤ 22 * (1 / 16777216) by grind)
  have h5 : 0 ≤ V := by grind
  unfold Nr at *
  constructor <;> grind
theorem fin_0 {o V D w p : Rat} (h1 : Nr o (V - D * w) (V * (85 / 10 * (1 / 16777216)))) (hD : D = 0) (hV : 0 ≤ V) (hp : p = V) : Nr o p (V * (31 * (1 / 16777216))) := by
  subst hD
  unfold Nr at *
  constructor <;> grind
def hueC (V M p0 p1 p2 : Nat) : Nat :=
  if FloatKind.f32.format.order V p0 == some .eq then fop .quo .f32 (fop .sub .f32 p1 p2) (fop .sub .f32 V M)
  else if FloatKind.f32.format.order V p1 == some .eq then fop .add .f32 (fop .quo .f32 (fop .sub .f32 p2 p0) (fop .sub .f32 V M)) 1073741824
  else fop .add .f32 (fop .quo .f32 (fop .sub .f32 p0 p1) (fop .sub .f32 V M)) 1082130432
def hueH (c : Nat) : Nat := if FloatKind.f32.format.order (fop .quo .f32 c 1086324736) 0 == some .lt then fop .add .f32 (fop .quo .f32 c 1086324736) 1065353216 else fop .quo .f32 c 1086324736
/-- What HSV of three values leads back to. -/
structure Back3 (p0 p1 p2 h s v : Nat) : Prop where
  all : allNum [h, s, v] = true
  num : isNum .f32 v = true
  lo : (2 : Rat) ^ (-20 : Int) ≤ val .f32 v
  hi : val .f32 v ≤ 1048576
  n0 : isNum .f32 (pixF h s v).1 = true
  d0 : Nr (val .f32 (pixF h s v).1) (val .f32 p0) (val .f32 v * (31 * (1 / 16777216)))
  n1 : isNum .f32 (pixF h s v).2.1 = true
  d1 : Nr (val .f32 (pixF h s v).2.1) (val .f32 p1) (val .f32 v * (31 * (1 / 16777216)))
  n2 : isNum .f32 (pixF h s v).2.2 = true
  d2 : Nr (val .f32 (pixF h s v).2.2) (val .f32 p2) (val .f32 v * (31 * (1 / 16777216)))
theorem hue_back {p0 p1 p2 : Nat} (n0 : isNum .f32 p0 = true) (n1 : isNum .f32 p1 = true) (n2 : isNum .f32 p2 = true) (l0 : (2 : Rat) ^ (-20 : Int) ≤ val .f32 p0) (l1 : (2 : Rat) ^ (-20 : Int) ≤ val .f32 p1) (l2 : (2 : Rat) ^ (-20 : Int) ≤ val .f32 p2)
    (u0 : val .f32 p0 ≤ 1048576) (u1 : val .f32 p1 ≤ 1048576) (u2 : val .f32 p2 ≤ 1048576) : Back3 p0 p1 p2 (hueF (maxF p0 p1 p2) (lkF p0 p1 p2 2) p0 p1 p2) (satF (maxF p0 p1 p2) (lkF p0 p1 p2 2)) (maxF p0 p1 p2) := by
  obtain ⟨hV, v0, v1, v2⟩ := max_of n0 n1 n2
  obtain ⟨hM, m0, m1, m2⟩ := min_of n0 n1 n2
  generalize maxF p0 p1 p2 = V at *
  generalize lkF p0 p1 p2 2 = M at *
  have p20 : (2 : Rat) ^ (-20 : Int) = 1 / 1048576 := by decide +kernel
  have nV : isNum .f32 V = true := by rcases hV with h | h | h <;> rw [h] <;> assumption
  have nM : isNum .f32 M = true := by rcases hM with h | h | h <;> rw [h] <;> assumption
  have lV : (2 : Rat) ^ (-20 : Int) ≤ val .f32 V := by rcases hV with h | h | h <;> rw [h] <;> assumption
  have lM : (2 : Rat) ^ (-20 : Int) ≤ val .f32 M := by rcases hM with h | h | h <;> rw [h] <;> assumption
  have uV : val .f32 V ≤ 1048576 := by rcases hV with h | h | h <;> rw [h] <;> assumption
  have hMV : val .f32 M ≤ val .f32 V := by grind
  have M0 : 0 ≤ val .f32 M := by rw [p20] at lM; grind
  have V0 : 0 < val .f32 V := by rw [p20] at lV; grind
  have z : val .f32 0 = 0 := by decide +kernel
  have nz : isNum .f32 0 = true := by decide +kernel
  have hg : val .f32 M = val .f32 V ∨ (2 : Rat) ^ (-43 : Int) ≤ val .f32 V - val .f32 M := by
    by_cases h : val .f32 M = val .f32 V
    · exact .inl h
    · exact .inr (grid_diff nV nM lV lM (by grind))
  obtain ⟨ns, hs⟩ := sat_s nV nM lV uV M0 hMV
  have es : satF V M = fop .quo .f32 (fop .sub .f32 V M) V := by
    unfold satF
    rw [eq_val nV nz, z, decide_eq_false (by grind), if_neg (by decide)]
    simp only [fop_cn_left, fop_cn_right]
  rw [← es] at ns hs
  generalize satF V M = s at *
  have D0 : 0 ≤ val .f32 V - val .f32 M := by grind
  have D1 : val .f32 V - val .f32 M ≤ val .f32 V := by grind
  rcases hg with hD | hD
  · have o : (2 : Rat) ^ (0 : Int) = 1 := Rat.zpow_zero _
    have R := fop_sub_num nV nM 0 (by decide) (by decide) (by rw [o]; grind) (by rw [o]; grind)
    have ex := R.exact false 0 0 (by decide) (by decide) (by rw [hD]; simp [sg]; grind)
    have eh : hueF V M p0 p1 p2 = 0 := by
      unfold hueF
      simp only [fop_cn_left, fop_cn_right]
      rw [if_pos]
      rw [eq_val R.num nz, ex, z, decide_eq_true_iff]; grind
    rw [eh]
    have hx : val .f32 (sixF 0) ≤ 6 + 1 / 2048 := by
      rcases six_of nz (by rw [z]; exact Rat.le_refl) (by rw [z]; decide) with ⟨-, b⟩ | ⟨a, -⟩
      · unfold Nr at b; rw [z] at b; grind
      · rw [z] at a; grind
    obtain ⟨⟨t0, t1⟩, ⟨t2, t3⟩, ⟨t4, t5⟩⟩ := tab_of nz hx nV ns lV uV D0 D1 hs
    exact ⟨by simp [allNum, nz, ns, nV], nV, lV, uV, t0, fin_0 t1 (by grind) (by grind) (by grind), t2, fin_0 t3 (by grind) (by grind) (by grind), t4, fin_0 t5 (by grind) (by grind) (by grind)⟩
  · have p43 : (2 : Rat) ^ (-43 : Int) = 1 / 8796093022208 := by decide +kernel
    have Dp : 0 < val .f32 V - val .f32 M := by rw [p43] at hD; grind
    have hD2 : val .f32 V - val .f32 M ≤ 1048576 := by grind
    have o2 : (2 : Rat) ^ (2 : Int) = 4 := by decide +kernel
    have o3 : (2 : Rat) ^ (3 : Int) = 8 := by decide +kernel
    have u2' : (2 : Rat) ^ ((2 : Int) - 1 - (FloatKind.f32.format.fractionBits : Int)) = 1 / 4194304 := by decide +kernel
    have u3' : (2 : Rat) ^ ((3 : Int) - 1 - (FloatKind.f32.format.fractionBits : Int)) = 1 / 2097152 := by decide +kernel
    obtain ⟨-, ⟨k1, k2⟩, -, ⟨k3, k4⟩, -⟩ := lits5
    have k2 : val .f32 1073741824 = 2 := k2
    have k4 : val .f32 1082130432 = 4 := k4
    have quo : ∀ G : Rat, ∃ y : Rat, y * (val .f32 V - val .f32 M) = G := fun G => ⟨G / (val .f32 V - val .f32 M), by rw [Rat.div_def, Rat.mul_assoc, Rat.inv_mul_cancel _ (by grind), Rat.mul_one]⟩
    have form : 0 < val .f32 (fop .sub .f32 V M) → isNum .f32 (fop .sub .f32 V M) = true → hueF V M p0 p1 p2 = hueH (hueC V M p0 p1 p2) := fun h1 h2 => by
      unfold hueF hrawF hueH hueC
      simp only [fop_cn_left, fop_cn_right]
      rw [if_neg]
      rw [eq_val h2 nz, z, decide_eq_false (by grind)]; decide
    have fin : ∀ {c : Nat} {Y : Rat}, isNum .f32 c = true → Nr (val .f32 c) Y (82 / 10 * (1 / 16777216)) → -1 ≤ Y → Y ≤ 5 → val .f32 p0 = val .f32 V - (val .f32 V - val .f32 M) * (1 - wR Y) → val .f32 p1 = val .f32 V - (val .f32 V - val .f32 M) * (1 - wG Y) → val .f32 p2 = val .f32 V - (val .f32 V - val .f32 M) * (1 - wB Y) →
        Back3 p0 p1 p2 (hueH c) s V := fun {c Y} nc hc y0 y1 q0 q1 q2 => by
      obtain ⟨nh, x0, x1, x2, x3⟩ := hue_x nc hc y0 y1 (h := hueH c) rfl
      generalize hueH c = h at *
      obtain ⟨a0, a1, a2⟩ := w_lip x0 y0 y1 (by grind) (by grind) x3
      have hx : val .f32 (sixF h) ≤ 6 + 1 / 2048 := by unfold Nr at x3; grind
      obtain ⟨⟨t0, t1⟩, ⟨t2, t3⟩, ⟨t4, t5⟩⟩ := tab_of nh hx nV ns lV uV D0 D1 hs
      exact ⟨by simp [allNum, nh, ns, nV], nV, lV, uV, t0, fin_w t1 a0 D0 D1 q0, t2, fin_w t3 a1 D0 D1 q1, t4, fin_w t5 a2 D0 D1 q2⟩
    by_cases e0 : val .f32 V = val .f32 p0
    · obtain ⟨y, hy⟩ := quo (val .f32 p1 - val .f32 p2)
      obtain ⟨S0, S1, nc, hc⟩ := quot_y n1 n2 nV nM hD hD2 (by grind) (by grind) hy
      obtain ⟨⟨y0, y1⟩, q0, q1, q2⟩ := col_red Dp (by rw [e0]; rcases hM with h | h | h <;> rw [h] <;> simp) m1 v1 m2 v2 hy
      rw [form S0 S1]
      unfold hueC
      rw [eq_val nV n0, decide_eq_true e0, if_pos rfl]
      exact fin nc (by unfold Nr at hc ⊢; constructor <;> grind) y0 (by grind) (by rw [← e0]; exact q0) q1 q2
    · by_cases e1 : val .f32 V = val .f32 p1
      · obtain ⟨y, hy⟩ := quo (val .f32 p2 - val .f32 p0)
        obtain ⟨S0, S1, nc, hc⟩ := quot_y n2 n0 nV nM hD hD2 (by grind) (by grind) hy
        obtain ⟨⟨y0, y1⟩, q0, q1, q2⟩ := col_green Dp (by rw [e1]; rcases hM with h | h | h <;> rw [h] <;> simp) m2 v2 m0 v0 hy
        rw [form S0 S1]
        unfold hueC
        rw [eq_val nV n0, decide_eq_false e0, if_neg (by decide), eq_val nV n1, decide_eq_true e1, if_pos rfl]
        generalize fop .quo .f32 (fop .sub .f32 p2 p0) (fop .sub .f32 V M) = a at *
        unfold Nr at hc
        have RA := fop_add_num nc k1 2 (by decide) (by decide) (by rw [o2, k2]; grind) (by rw [o2, k2]; grind)
        have na := RA.near 2 (by decide) (by decide) (by rw [o2, k2]; grind) (by rw [o2, k2]; grind)
        rw [u2', k2] at na
        exact fin RA.num (by unfold Nr; constructor <;> grind) (by grind) (by grind) q2 (by rw [← e1]; exact q0) q1
      · have e2 : val .f32 V = val .f32 p2 := by rcases hV with h | h | h <;> grind
        obtain ⟨y, hy⟩ := quo (val .f32 p0 - val .f32 p1)
        obtain ⟨S0, S1, nc, hc⟩ := quot_y n0 n1 nV nM hD hD2 (by grind) (by grind) hy
        obtain ⟨⟨y0, y1⟩, q0, q1, q2⟩ := col_blue Dp (by rw [e2]; rcases hM with h | h | h <;> rw [h] <;> simp) m0 v0 m1 v1 hy
        rw [form S0 S1]
        unfold hueC
        rw [eq_val nV n0, decide_eq_false e0, if_neg (by decide), eq_val nV n1, decide_eq_false e1, if_neg (by decide)]
        generalize fop .quo .f32 (fop .sub .f32 p0 p1) (fop .sub .f32 V M) = a at *
        unfold Nr at hc
        have RA := fop_add_num nc k3 3 (by decide) (by decide) (by rw [o3, k4]; grind) (by rw [o3, k4]; grind)
        have na := RA.near 3 (by decide) (by decide) (by rw [o3, k4]; grind) (by rw [o3, k4]; grind)
        rw [u3', k4] at na
        exact fin RA.num (by unfold Nr; constructor <;> grind) (by grind) (by grind) q1 q2 (by rw [← e2]; exact q0)
theorem vq_abs {k : FloatKind} {b : Nat} {q : Rat} (h1 : val k b ≤ q) (h2 : -q ≤ val k b) : vq k.format (rung k.format b) ≤ q := by
  rw [val_sg] at h1 h2; unfold sg at h1 h2; split at h1 <;> grind
/-- What the statement asks of the doubles. -/
theorem back_double {q p v L : Nat} (nq : isNum .f32 q = true) (np : isNum .f32 p = true) (hd : Nr (val .f32 q) (val .f32 p) (val .f32 v * (31 * (1 / 16777216)))) (v0 : (2 : Rat) ^ (-20 : Int) ≤ val .f32 v) (v1 : val .f32 v ≤ 1048576)
    (nL : isNum .f64 L = true) (hL : val .f64 L = val .f32 v * (2 : Rat) ^ (-19 : Int)) : (FloatKind.f64.format.order (absF (fop .sub .f64 (fcv .f32 .f64 q) (fcv .f32 .f64 p))) L == some .gt) = false := by
  have p19 : (2 : Rat) ^ (-19 : Int) = 32 * (1 / 16777216) := by decide +kernel
  have p20 : (2 : Rat) ^ (-20 : Int) = 1 / 1048576 := by decide +kernel
  have p101 : (2 : Rat) ^ (-101 : Int) ≤ 1 / 8796093022208 := by decide +kernel
  have p99 : (4048577 : Rat) < (2 : Rat) ^ (99 : Int) := by decide +kernel
  have o21 : (2 : Rat) ^ (21 : Int) = 2097152 := by decide +kernel
  rw [p20] at v0
  rw [p19] at hL
  obtain ⟨a1, a2, a3⟩ := up_exact nq
  obtain ⟨b1, b2, b3⟩ := up_exact np
  have av : val .f64 (fcv .f32 .f64 q) = val .f32 q := by rw [val_sg, val_sg, a2, a3]
  have bv : val .f64 (fcv .f32 .f64 p) = val .f32 p := by rw [val_sg, val_sg, b2, b3]
  unfold Nr at hd
  have R := fop_sub_num a1 b1 21 (by decide) (by decide) (by rw [o21, av, bv]; grind) (by rw [o21, av, bv]; grind)
  rw [av, bv] at R
  have N := rn_bd64 R (B := val .f32 v) (by grind) (by grind) (by grind) (by grind)
  unfold Nr at N
  have rdn := R.num
  have dlt : fop .sub .f64 (fcv .f32 .f64 q) (fcv .f32 .f64 p) < 2 ^ FloatKind.f64.format.width := fop_lt _ _ _ _
  generalize fop .sub .f64 (fcv .f32 .f64 q) (fcv .f32 .f64 p) = D at *
  obtain ⟨c1, c2⟩ := abs_rung dlt
  have an : isNum .f64 (absF D) = true := by unfold isNum at rdn ⊢; rw [c1]; exact rdn
  have hs : sgn FloatKind.f64.format (absF D) = false := by
    rw [absF_eq dlt]
    unfold sgn; rw [sw64]
    have h : D % 2 ^ 63 < 2 ^ 63 := Nat.mod_lt _ (by decide)
    rw [Nat.div_eq_of_lt h]; rfl
  have ev : val .f64 (absF D) = vq FloatKind.f64.format (rung FloatKind.f64.format D) := by rw [val_sg, hs, c1]; rfl
  have le : val .f64 (absF D) ≤ val .f64 L := by
    have h1 : val .f64 D ≤ val .f64 L := by rw [hL]; grind
    have h2 : -(val .f64 L) ≤ val .f64 D := by rw [hL]; grind
    rw [ev]
    exact vq_abs h1 h2
  rw [ord_gt (isNum_not_nan an) (isNum_not_nan nL), decide_eq_false_iff_not]
  have := val_le_key.1 le
  omega
theorem back_num {q p v : Nat} (nq : isNum .f32 q = true) (np : isNum .f32 p = true) (hd : Nr (val .f32 q) (val .f32 p) (val .f32 v * (31 * (1 / 16777216)))) (v1 : val .f32 v ≤ 1048576) : isN .f64 (fop .sub .f64 (fcv .f32 .f64 q) (fcv .f32 .f64 p)) = false := by
  have o21 : (2 : Rat) ^ (21 : Int) = 2097152 := by decide +kernel
  obtain ⟨a1, a2, a3⟩ := up_exact nq
  obtain ⟨b1, b2, b3⟩ := up_exact np
  have av : val .f64 (fcv .f32 .f64 q) = val .f32 q := by rw [val_sg, val_sg, a2, a3]
  have bv : val .f64 (fcv .f32 .f64 p) = val .f32 p := by rw [val_sg, val_sg, b2, b3]
  unfold Nr at hd
  exact isNum_not_nan (fop_sub_num a1 b1 21 (by decide) (by decide) (by rw [o21, av, bv]; grind) (by rw [o21, av, bv]; grind)).num
end Go.Proofs.Ytfmdnibfeckmaaa
