/- math.Frexp of a positive plain double in full; the head of num.logarithm. Conditions: those named. -/
import Derived.Test.YtokmjboaeamogaaPhT
import Derived.Test.YtokmjboaeamogaaMnA
namespace Go.Proofs.Ytokmjboaeamogaa
open Go.RowKit
set_option maxRecDepth 100000 in
set_option maxHeartbeats 1600000 in
theorem frexp_full (E f : Nat) (w : World) (h1 : 1 ≤ E) (h2 : E ≤ 2046) (hf : f < 4503599627370496) :
    Calls Try.prog 59 #[.float .f64 (E * 4503599627370496 + f)] w fun e w' => e = .returned (.tuple #[.float .f64 (1022 * 4503599627370496 + f), .int .i64 ((E : Int) - 1022)]) ∧ w = w' := by
  obtain ⟨a1, a2, a3, a4, a5⟩ := plain64 h1 h2 hf
  obtain ⟨X, hX⟩ : ∃ X, X = E * 4503599627370496 + f := ⟨_, rfl⟩
  have e2 : (2 : Nat) ^ 52 = 4503599627370496 := by decide
  have z1 : isNum .f64 0 = true := by decide +kernel
  have b3 : bits .andNot .u64 (X : Int) 9218868437227405312 = (f : Int) := by
    have := bits_andNot_mask (E := E) (f := f) (by omega) hf
    rw [e2] at this
    rw [hX]; exact this
  have b4 : bits .or .u64 (f : Int) 4602678819172646912 = ((1022 * 4503599627370496 + f : Nat) : Int) := by
    have := bits_or_exp (E := 1022) (f := f) (by omega) hf
    rw [e2] at this
    exact this
  rw [e2] at a1 a2 a3 a4
  rw [← hX] at a1 a2 a3 a4 ⊢
  have ax : absF X = X := by rw [absF_eq (Nat.lt_of_lt_of_le a1 (by decide))]; exact Nat.mod_eq_of_lt a1
  have o1 : (FloatKind.f64.format.order X 0 == some .eq) = false := by
    rw [ord_eq (isNum_not_nan a2) (isNum_not_nan z1), decide_eq_false_iff_not, key_pos a1, key_pos (by decide)]; omega
  have o2 : (FloatKind.f64.format.order (absF X) 9218868437227405311 == some .gt) = false := by
    rw [ax, ord_gt (isNum_not_nan a2) (by decide +kernel), decide_eq_false_iff_not, key_pos a1, key_pos (by decide)]; omega
  have o3 : (FloatKind.f64.format.order X X != some .eq) = false := by rw [ord_self_ne]; exact isNum_not_nan a2
  have o4 : (FloatKind.f64.format.order (absF X) 4503599627370496 == some .lt) = false := by
    rw [ax, ord_lt (isNum_not_nan a2) (by decide +kernel), decide_eq_false_iff_not, key_pos a1, key_pos (by decide)]; omega
  have b1 : (X : Int) / 4503599627370496 = E := by omega
  have b2 : bits .and .u64 (E : Int) 2047 = (E : Int) := by
    have h := and_nat .u64 (.inr (.inl rfl)) E 2047 (by omega) (by decide)
    rw [show (2047 : Nat) = 2 ^ 11 - 1 by decide, Nat.and_two_pow_sub_one_eq_mod, Nat.mod_eq_of_lt (by omega)] at h
    exact h
  obtain ⟨Z, hZ⟩ : ∃ Z, Z = 1022 * 4503599627370496 + f := ⟨_, rfl⟩
  rw [← hZ] at b4 ⊢
  have hZ2 : Z < 9223372036854775808 := by omega
  clear a3 a4 a5 hX ax e2 hZ
  go_enter Try.func59, Try.ntmps59
  go_wp2_with (first | (go_at_call 41; refine (IsInf_any _ _).mono ?_; rintro e w' ⟨rfl, rfl⟩) | (go_at_call 42; refine (IsNaN_any _ _).mono ?_; rintro e w' ⟨rfl, rfl⟩) | (go_at_call 43; refine (normalize_big _ _ o4).mono ?_; rintro e w' ⟨rfl, rfl⟩))
  exact bodyPost_ret (v := .tuple #[.float .f64 Z, .int .i64 ((E : Int) - 1022)]) (by simp [results, Try.results59, go_sem, *]; try omega) rfl ⟨rfl, rfl⟩
set_option maxHeartbeats 800000 in
theorem Frexp_of (X Z : Nat) (x : Int) (w : World) (H : ∀ w, Calls Try.prog 59 #[.float .f64 X] w fun e w' => e = .returned (.tuple #[.float .f64 Z, .int .i64 x]) ∧ w = w') :
    Calls Try.prog 55 #[.float .f64 X] w fun e w' => e = .returned (.tuple #[.float .f64 Z, .int .i64 x]) ∧ w = w' := by
  replace H := Lib.hid H
  go_enter Try.func55, Try.ntmps55
  go_wp2_with (first | (go_at_call 59; refine (H.out _).mono ?_; rintro e w' ⟨rfl, rfl⟩))
  exact bodyPost_ret (v := .tuple #[.float .f64 Z, .int .i64 x]) (by simp [results, Try.results55, go_sem, *]) rfl ⟨rfl, rfl⟩
theorem Frexp_full (E f : Nat) (w : World) (h1 : 1 ≤ E) (h2 : E ≤ 2046) (hf : f < 4503599627370496) :
    Calls Try.prog 55 #[.float .f64 (E * 4503599627370496 + f)] w fun e w' => e = .returned (.tuple #[.float .f64 (1022 * 4503599627370496 + f), .int .i64 ((E : Int) - 1022)]) ∧ w = w' :=
  Frexp_of _ _ _ w (fun w' => frexp_full E f w' h1 h2 hf)
theorem flt {op : BinOp} {x y r : Nat} (hx : isNum .f64 x = true) (hy : isNum .f64 y = true) (h : fop op .f64 x y = r) (hr : isNum .f64 r = true) : fop op .f64 (cn .f64 x) (cn .f64 y) = r ∧ isN .f64 r = false := by
  have c : ∀ b, isNum .f64 b = true → cn .f64 b = b := fun b hb => by unfold cn; rw [isNum_not_nan hb]; rfl
  rw [c x hx, c y hy]
  exact ⟨h, isNum_not_nan hr⟩
theorem lits64 : (isNum .f64 4611686018427387904 = true ∧ val .f64 4611686018427387904 = 2) ∧ (isNum .f64 4602678819172646912 = true ∧ val .f64 4602678819172646912 = 1 / 2) ∧
    (isNum .f64 4609047870845172685 = true ∧ 1414213562373095 / 1000000000000000 ≤ val .f64 4609047870845172685 ∧ val .f64 4609047870845172685 ≤ 1414213562373096 / 1000000000000000) ∧
    (isNum .f64 4604418534313441775 = true ∧ Nr (val .f64 4604418534313441775) ln2q (1 / 1073741824)) := by
  unfold Nr; decide +kernel
/-- The logarithm's head: the fraction doubled, halved again above the root of 2, and its share. -/
theorem log_head {z m1 m2 d a S q : Nat} (hz : isNum .f64 z = true) (z1 : 1 / 2 ≤ val .f64 z) (z2 : val .f64 z ≤ 1) (h1 : m1 = fop .mul .f64 z 4611686018427387904) (t : Bool) (ht : t = (FloatKind.f64.format.order m1 4609047870845172685 == some .gt))
    (h2 : m2 = if t then fop .mul .f64 m1 4602678819172646912 else m1) (hd : d = fop .sub .f64 m2 4607182418800017408) (ha : a = fop .add .f64 m2 4607182418800017408) (hS : S = fop .quo .f64 d a) (hq : q = fop .mul .f64 S S) :
    isNum .f64 m1 = true ∧ isNum .f64 m2 = true ∧ isNum .f64 d = true ∧ isNum .f64 a = true ∧ isNum .f64 S = true ∧ isNum .f64 q = true ∧ -(1 / 25) ≤ val .f64 q ∧ val .f64 q ≤ 1 / 25 ∧ Nr (val .f64 q) (val .f64 S * val .f64 S) (1 / 25 * uQ) ∧
    ∃ m s : Rat, (t = true → m = val .f64 z) ∧ (t = false → m = 2 * val .f64 z) ∧ m * (1 - s) = 1 + s ∧ -sB ≤ s ∧ s ≤ sB ∧ Nr (val .f64 S) s (5 * uQ) := by
  obtain ⟨⟨l1, l2⟩, ⟨l3, l4⟩, ⟨l5, l6, l7⟩, -⟩ := lits64
  obtain ⟨x, hx⟩ : ∃ x, x = val .f64 z := ⟨_, rfl⟩
  rw [← hx] at z1 z2 ⊢
  have b1 : sB = 8580 / 50000 := rfl
  obtain ⟨n1, e1⟩ := mul64 (x := z) (y := 4611686018427387904) 2 hz l1 (by decide +kernel) (by decide +kernel) (by rw [l2, ← hx]; grind) (by rw [l2, ← hx]; grind)
  rw [← h1] at n1 e1
  rw [l2, ← hx] at e1
  rw [ord_gt (isNum_not_nan n1) (isNum_not_nan l5)] at ht
  have mid : isNum .f64 m2 = true ∧ ∃ m : Rat, (t = true → m = x) ∧ (t = false → m = 2 * x) ∧ 7071067811 / 10000000000 ≤ m ∧ m ≤ 14142135624 / 10000000000 ∧ Nr (val .f64 m2) m (4 * uQ) := by
    unfold Nr uQ at *
    cases t with
    | true =>
      have g := val_lt_key.2 (of_decide_eq_true ht.symm)
      obtain ⟨n2, e2⟩ := mul64 (x := m1) (y := 4602678819172646912) 2 n1 l3 (by decide +kernel) (by decide +kernel) (by rw [l4]; grind) (by rw [l4]; grind)
      simp only [if_true] at h2
      rw [← h2] at n2 e2
      rw [l4] at e2
      unfold Nr uQ at e2
      refine ⟨n2, x, fun _ => rfl, fun h => by simp at h, by grind, by grind, ?_⟩
      constructor <;> grind
    | false =>
      have g : val .f64 m1 ≤ val .f64 4609047870845172685 := val_le_key.2 (by have := of_decide_eq_false ht.symm; omega)
      simp only [Bool.false_eq_true, if_false] at h2
      rw [h2]
      refine ⟨n1, 2 * x, fun h => by simp at h, fun _ => rfl, by grind, by grind, ?_⟩
      constructor <;> grind
  obtain ⟨n2, m, k1, k2, k3, k4, e2⟩ := mid
  obtain ⟨M, hM⟩ : ∃ M, M = val .f64 m2 := ⟨_, rfl⟩
  have e2' := e2
  unfold Nr uQ at e2'
  rw [← hM] at e2 e2'
  obtain ⟨n3, e3⟩ := sub64 (x := m2) (y := 4607182418800017408) 1 n2 one64.1 (by decide +kernel) (by decide +kernel) (by rw [one64.2, ← hM]; grind) (by rw [one64.2, ← hM]; grind)
  obtain ⟨n4, e4⟩ := add64 (x := m2) (y := 4607182418800017408) 3 n2 one64.1 (by decide +kernel) (by decide +kernel) (by rw [one64.2, ← hM]; grind) (by rw [one64.2, ← hM]; grind)
  rw [← hd, one64.2, ← hM] at e3
  rw [← ha, one64.2, ← hM] at e4
  rw [← hd] at n3
  rw [← ha] at n4
  obtain ⟨D, hD⟩ : ∃ D, D = val .f64 d := ⟨_, rfl⟩
  obtain ⟨A, hA⟩ : ∃ A, A = val .f64 a := ⟨_, rfl⟩
  unfold Nr uQ at e3 e4
  rw [← hD] at e3
  rw [← hA] at e4
  obtain ⟨s, hs⟩ : ∃ s, s = (m - 1) / (m + 1) := ⟨_, rfl⟩
  have hm1 : 0 < m + 1 := by grind
  have s1 : s * (m + 1) = m - 1 := by rw [hs]; grind
  have s2 : s ≤ sB := le_canc hm1 (by rw [s1, b1]; grind)
  have s3 : -sB ≤ s := le_canc hm1 (by rw [s1, b1]; grind)
  have A0 : 17 / 10 ≤ A := by clear h1 h2 hd ha hS hq s1 hs; grind
  have A1 : 0 < A := by grind
  obtain ⟨g, hg⟩ : ∃ g, g = D / A := ⟨_, rfl⟩
  have g1 : g * A = D := by rw [hg]; grind
  have d1 : D - (m - 1) ≤ 5 * (1 / 9007199254740992) ∧ -(5 * (1 / 9007199254740992)) ≤ D - (m - 1) := by
    clear h1 h2 hd ha hS hq s1 hs hg g1
    constructor <;> grind
  have d2 : m + 1 - A ≤ 7 * (1 / 9007199254740992) ∧ -(7 * (1 / 9007199254740992)) ≤ m + 1 - A := by
    clear h1 h2 hd ha hS hq s1 hs hg g1
    constructor <;> grind
  obtain ⟨p1, p2⟩ := mul_in (x := s) (y := m + 1 - A) (b := 1 / 5) (c := 7 * (1 / 9007199254740992)) (by grind) (by grind) d2.2 d2.1
  have e5 : (g - s) * A = (D - (m - 1)) + s * (m + 1 - A) := by rw [← s1, ← g1]; grind
  have r1 : g - s ≤ 4 * (1 / 9007199254740992) := le_canc A1 (by rw [e5]; clear e5 s1 g1 hg hs h1 h2 hd ha hS hq; grind)
  have r2 : -(4 * (1 / 9007199254740992)) ≤ g - s := le_canc A1 (by rw [e5]; clear e5 s1 g1 hg hs h1 h2 hd ha hS hq; grind)
  have hA0 : val .f64 a ≠ 0 := by rw [← hA]; grind
  obtain ⟨n5, e6⟩ := quo64 (x := d) (y := a) (q := g) (1 / 5) n3 n4 hA0 (by rw [← hA, ← hD]; exact g1) (by decide +kernel) (by decide +kernel) (by grind) (by grind)
  rw [← hS] at n5 e6
  obtain ⟨V, hV⟩ : ∃ V, V = val .f64 S := ⟨_, rfl⟩
  unfold Nr uQ at e6
  rw [← hV] at e6
  have v1 : -(9 / 50) ≤ V ∧ V ≤ 9 / 50 := by
    clear e5 s1 g1 hg hs h1 h2 hd ha hS hq
    constructor <;> grind
  obtain ⟨w1, w2⟩ := mul_in v1.1 v1.2 v1.1 v1.2
  obtain ⟨n6, e7⟩ := mul64 (x := S) (y := S) (1 / 25) n5 n5 (by decide +kernel) (by decide +kernel) (by rw [← hV]; grind) (by rw [← hV]; grind)
  rw [← hq] at n6 e7
  rw [← hV] at e7
  have e8 := e7
  unfold Nr uQ at e8
  refine ⟨n1, n2, n3, n4, n5, n6, by grind, by grind, by rw [← hV]; exact e7, m, s, k1, k2, by grind, s3, s2, ?_⟩
  rw [← hV]
  unfold Nr uQ
  constructor <;> grind
end Go.Proofs.Ytokmjboaeamogaa
