/- num.logarithm: what it gives. Conditions: those named. -/
import Derived.Test.YtokmjboaeamogaaPhU
namespace Go.Proofs.Ytokmjboaeamogaa
open Go.RowKit
/-- The program's natural logarithm of 2. -/
def ln2c : Rat := val .f64 4604418534313441775
theorem ln2c_in : Nr ln2c ln2q (1 / 1073741824) ∧ 69314718 / 100000000 ≤ ln2c ∧ ln2c ≤ 69314719 / 100000000 := by unfold ln2c Nr; decide +kernel
/-- d is near the logarithm of X. -/
def LogP (X d : Rat) : Prop := ∃ (m s t : Rat) (n : Int), X = m * (2 : Rat) ^ n ∧ m * (1 - s) = 1 + s ∧ -sB ≤ s ∧ s ≤ sB ∧ Nr (t * ln2c) (pev logL s) (1 / 17179869184) ∧ -(51 / 100) ≤ t ∧ t ≤ 51 / 100 ∧ Nr d ((n : Rat) + t) (1 / 35184372088832) ∧ -201 ≤ n ∧ n ≤ 201
theorem log_tail {S q P A B C D : Nat} {s : Rat} {n : Int} (nS : isNum .f64 S = true) (nP : isNum .f64 P = true) (s1 : -sB ≤ s) (s2 : s ≤ sB) (hS : Nr (val .f64 S) s (5 * uQ)) (q1 : -(1 / 25) ≤ val .f64 q) (q2 : val .f64 q ≤ 1 / 25) (hq : Nr (val .f64 q) (val .f64 S * val .f64 S) (1 / 25 * uQ))
    (hP : Nr (val .f64 P) (hL (val .f64 q) 10) (8 * uQ)) (hA : A = fop .mul .f64 4611686018427387904 S) (hB : B = fop .mul .f64 A P) (hC : C = fop .quo .f64 B 4604418534313441775) (hD : D = fop .add .f64 (floatOfInt .f64 n) C) (n1 : -201 ≤ n) (n2 : n ≤ 201) :
    isNum .f64 A = true ∧ isNum .f64 B = true ∧ isNum .f64 C = true ∧ isNum .f64 D = true ∧ ∃ t : Rat, Nr (t * ln2c) (pev logL s) (1 / 17179869184) ∧ -(51 / 100) ≤ t ∧ t ≤ 51 / 100 ∧ Nr (val .f64 D) ((n : Rat) + t) (1 / 35184372088832) := by
  obtain ⟨⟨l1, l2⟩, -, -, ⟨l3, -⟩⟩ := lits64
  obtain ⟨-, c1, c2⟩ := ln2c_in
  have b1 : sB = 8580 / 50000 := rfl
  obtain ⟨h1, h2⟩ := hL_in q1 q2 10 (by omega)
  obtain ⟨V, hV⟩ : ∃ V, V = val .f64 S := ⟨_, rfl⟩
  obtain ⟨p, hp⟩ : ∃ p, p = val .f64 P := ⟨_, rfl⟩
  rw [← hV] at hS hq
  rw [← hp] at hP
  have hS' := hS
  have hP' := hP
  unfold Nr uQ at hS' hP'
  obtain ⟨nA, eA⟩ := mul64 (x := 4611686018427387904) (y := S) (1 / 2) l1 nS (by decide +kernel) (by decide +kernel) (by rw [l2, ← hV]; grind) (by rw [l2, ← hV]; grind)
  rw [← hA, l2, ← hV] at eA
  rw [← hA] at nA
  obtain ⟨a, ha⟩ : ∃ a, a = val .f64 A := ⟨_, rfl⟩
  rw [← ha] at eA
  have eA' := eA
  unfold Nr uQ at eA'
  obtain ⟨m1, m2⟩ := mul_in (x := a) (y := p) (b := 9 / 25) (c := 6 / 5) (by grind) (by grind) (by grind) (by grind)
  obtain ⟨nB, eB⟩ := mul64 (x := A) (y := P) (1 / 2) nA nP (by decide +kernel) (by decide +kernel) (by rw [← ha, ← hp]; grind) (by rw [← ha, ← hp]; grind)
  rw [← hB, ← ha, ← hp] at eB
  rw [← hB] at nB
  have ch := log_chain s1 s2 hS hq hP eA eB
  obtain ⟨b, hb⟩ : ∃ b, b = val .f64 B := ⟨_, rfl⟩
  rw [← hb] at ch
  obtain ⟨t1, t2⟩ := pev_bd logL s1 s2
  have t3 := log_bd
  obtain ⟨L, hL⟩ : ∃ L, L = pev logL s := ⟨_, rfl⟩
  rw [← hL] at ch t1 t2 ⊢
  unfold Nr uQ at ch
  have c0 : 0 < ln2c := by grind
  obtain ⟨g, hg⟩ : ∃ g, g = b / ln2c := ⟨_, rfl⟩
  have g1 : g * ln2c = b := by rw [hg]; grind
  have g2 : g ≤ 509 / 1000 := le_canc c0 (by rw [g1]; grind)
  have g3 : -(509 / 1000) ≤ g := le_canc c0 (by rw [g1]; grind)
  obtain ⟨nC, eC⟩ := quo64 (x := B) (y := 4604418534313441775) (q := g) 1 nB l3 (by show ln2c ≠ 0; grind) (by rw [← hb]; exact g1) (by decide +kernel) (by decide +kernel) (by grind) (by grind)
  rw [← hC] at nC eC
  obtain ⟨t, ht⟩ : ∃ t, t = val .f64 C := ⟨_, rfl⟩
  rw [← ht] at eC
  unfold Nr uQ at eC
  obtain ⟨i1, i2⟩ := ofInt_exact64 n (by omega)
  have n3 : (-201 : Rat) ≤ (n : Rat) := Rat.intCast_le_intCast.2 n1
  have n4 : (n : Rat) ≤ 201 := Rat.intCast_le_intCast.2 n2
  obtain ⟨nD, eD⟩ := add64 (x := floatOfInt .f64 n) (y := C) 256 i1 nC (by decide +kernel) (by decide +kernel) (by rw [i2, ← ht]; grind) (by rw [i2, ← ht]; grind)
  rw [← hD] at nD eD
  rw [i2, ← ht] at eD
  obtain ⟨k1, k2⟩ := mul_in (x := t - g) (y := ln2c) (b := 2 * (1 / 9007199254740992)) (c := 1) (by grind) (by grind) (by grind) (by grind)
  refine ⟨nA, nB, nC, nD, t, ?_, by grind, by grind, ?_⟩
  · unfold Nr; constructor <;> grind
  · unfold Nr uQ at *; constructor <;> grind
theorem quo_int (j : Nat) (hj : j < 10) : isNum .f64 (floatOfInt .f64 ((2 * j + 1 : Nat) : Int)) = true ∧ isNum .f64 (fop .quo .f64 4607182418800017408 (floatOfInt .f64 ((2 * j + 1 : Nat) : Int))) = true ∧
    Nr (val .f64 (fop .quo .f64 4607182418800017408 (floatOfInt .f64 ((2 * j + 1 : Nat) : Int)))) (1 / (19 - 2 * ((9 - j : Nat) : Rat))) (2 * uQ) := by
  unfold Nr uQ
  have : ∀ j : Fin 10, isNum .f64 (floatOfInt .f64 ((2 * j.val + 1 : Nat) : Int)) = true ∧ isNum .f64 (fop .quo .f64 4607182418800017408 (floatOfInt .f64 ((2 * j.val + 1 : Nat) : Int))) = true ∧
    (val .f64 (fop .quo .f64 4607182418800017408 (floatOfInt .f64 ((2 * j.val + 1 : Nat) : Int))) ≤ 1 / (19 - 2 * ((9 - j.val : Nat) : Rat)) + 2 * (1 / 9007199254740992) ∧ 1 / (19 - 2 * ((9 - j.val : Nat) : Rat)) ≤ val .f64 (fop .quo .f64 4607182418800017408 (floatOfInt .f64 ((2 * j.val + 1 : Nat) : Int))) + 2 * (1 / 9007199254740992)) := by decide +kernel
  exact this ⟨j, hj⟩
theorem start_p : isNum .f64 4587023449039406616 = true ∧ Nr (val .f64 4587023449039406616) (1 / 21) (8 * uQ) := by unfold Nr uQ; decide +kernel
/-- What the loop's rounds need: the square's code, the sum's code. -/
def SumAt (q j p : Nat) : Prop := isNum .f64 p = true ∧ Nr (val .f64 p) (hL (val .f64 q) (10 - j)) (8 * uQ)
theorem sum_step {q p j : Nat} (hj : j < 10) (nq : isNum .f64 q = true) (q1 : -(1 / 25) ≤ val .f64 q) (q2 : val .f64 q ≤ 1 / 25) (h : SumAt q (j + 1) p) :
    (fop .mul .f64 (cn .f64 p) (cn .f64 q) = fop .mul .f64 p q ∧ isN .f64 (fop .mul .f64 p q) = false) ∧
    (fop .quo .f64 (cn .f64 4607182418800017408) (cn .f64 (floatOfInt .f64 ((2 * j + 1 : Nat) : Int))) = fop .quo .f64 4607182418800017408 (floatOfInt .f64 ((2 * j + 1 : Nat) : Int)) ∧ isN .f64 (fop .quo .f64 4607182418800017408 (floatOfInt .f64 ((2 * j + 1 : Nat) : Int))) = false) ∧
    ∃ r, (fop .add .f64 (cn .f64 (fop .mul .f64 p q)) (cn .f64 (fop .quo .f64 4607182418800017408 (floatOfInt .f64 ((2 * j + 1 : Nat) : Int)))) = r ∧ isN .f64 r = false) ∧ SumAt q j r := by
  obtain ⟨a, b⟩ := h
  obtain ⟨i1, i2, i3⟩ := quo_int j hj
  have e : 10 - (j + 1) = 9 - j := by omega
  rw [e] at b
  obtain ⟨m1, m2, m3⟩ := hL_step (n := 9 - j) (by omega) a nq i2 rfl q1 q2 b i3
  refine ⟨flt a nq rfl m1, flt one64.1 i1 rfl i2, _, flt m1 i2 rfl m2, m2, ?_⟩
  rw [show 10 - j = 9 - j + 1 by omega]; exact m3
set_option maxRecDepth 100000 in
set_option maxHeartbeats 3200000 in
theorem logarithm_parts (X z : Nat) (x : Int) (w : World) (hx1 : -200 ≤ x) (hx2 : x ≤ 200) (hz : isNum .f64 z = true) (z1 : 1 / 2 ≤ val .f64 z) (z2 : val .f64 z ≤ 1)
    (H : ∀ w, Calls Try.prog 55 #[.float .f64 X] w fun e w' => e = .returned (.tuple #[.float .f64 z, .int .i64 x]) ∧ w = w') :
    Calls Try.prog 51 #[.float .f64 X] w fun e w' => (∃ D, e = .returned (.float .f64 D) ∧ isNum .f64 D = true ∧ LogP (val .f64 z * (2 : Rat) ^ x) (val .f64 D)) ∧ ∃ m, w' = w.drewN m := by
  replace H := Lib.hid H
  obtain ⟨⟨l1, l2⟩, ⟨l3, l4⟩, ⟨l5, l6, l7⟩, ⟨l8, -⟩⟩ := lits64
  obtain ⟨t, ht⟩ : ∃ t, t = (FloatKind.f64.format.order (fop .mul .f64 z 4611686018427387904) 4609047870845172685 == some .gt) := ⟨_, rfl⟩
  obtain ⟨m1, h1⟩ : ∃ m1, m1 = fop .mul .f64 z 4611686018427387904 := ⟨_, rfl⟩
  rw [← h1] at ht
  obtain ⟨m2, h2⟩ : ∃ m2, m2 = if t then fop .mul .f64 m1 4602678819172646912 else m1 := ⟨_, rfl⟩
  obtain ⟨d, hd⟩ : ∃ d, d = fop .sub .f64 m2 4607182418800017408 := ⟨_, rfl⟩
  obtain ⟨a, ha⟩ : ∃ a, a = fop .add .f64 m2 4607182418800017408 := ⟨_, rfl⟩
  obtain ⟨S, hS⟩ : ∃ S, S = fop .quo .f64 d a := ⟨_, rfl⟩
  obtain ⟨q, hq⟩ : ∃ q, q = fop .mul .f64 S S := ⟨_, rfl⟩
  obtain ⟨n1, n2, n3, n4, n5, n6, q1, q2, q3, m, s, k1, k2, k3, k4, k5, k6⟩ := log_head hz z1 z2 h1 t ht h2 hd ha hS hq
  obtain ⟨f1, v1⟩ := flt hz l1 h1.symm n1
  obtain ⟨f3, v3⟩ := flt n2 one64.1 hd.symm n3
  obtain ⟨f4, v4⟩ := flt n2 one64.1 ha.symm n4
  obtain ⟨f5, v5⟩ := flt n3 n4 hS.symm n5
  obtain ⟨f6, v6⟩ := flt n5 n5 hq.symm n6
  have hE : val .f64 z * (2 : Rat) ^ x = m * (2 : Rat) ^ (if t then x else x - 1) := by
    cases t with
    | true => rw [k1 rfl]; rfl
    | false =>
      rw [k2 rfl]
      show _ = _ * (2 : Rat) ^ (x - 1)
      rw [show x = (x - 1) + 1 by omega, zp_add]
      have : (2 : Rat) ^ (1 : Int) = 2 := by decide +kernel
      rw [this, show x - 1 + 1 - 1 = x - 1 by omega]; grind
  rw [hE]
  have T : ∀ (P : Nat) (n : Int), SumAt q 0 P → -201 ≤ n → n ≤ 201 → ∃ A B C D, fop .mul .f64 (cn .f64 4611686018427387904) (cn .f64 S) = A ∧ isN .f64 A = false ∧ fop .mul .f64 (cn .f64 A) (cn .f64 P) = B ∧ isN .f64 B = false ∧
      fop .quo .f64 (cn .f64 B) (cn .f64 4604418534313441775) = C ∧ isN .f64 C = false ∧ fop .add .f64 (cn .f64 (floatOfInt .f64 n)) (cn .f64 C) = D ∧ isN .f64 D = false ∧ isNum .f64 D = true ∧ LogP (m * (2 : Rat) ^ n) (val .f64 D) := by
    intro P n hP hn1 hn2
    obtain ⟨i1, i2⟩ := ofInt_exact64 n (by omega)
    obtain ⟨b1, b2, b3, b4, t, b5, b6, b7, b8⟩ := log_tail n5 hP.1 k4 k5 k6 q1 q2 q3 hP.2 rfl rfl rfl rfl hn1 hn2
    obtain ⟨c1, c2⟩ := flt l1 n5 rfl b1
    obtain ⟨c3, c4⟩ := flt b1 hP.1 rfl b2
    obtain ⟨c5, c6⟩ := flt b2 l8 rfl b3
    obtain ⟨c7, c8⟩ := flt i1 b3 rfl b4
    exact ⟨_, _, _, _, c1, c2, c3, c4, c5, c6, c7, c8, b4, m, s, t, n, rfl, k3, k4, k5, b5, b6, b7, b8, hn1, hn2⟩
  replace T := Lib.hid T
  have K := Lib.hid (fun (j p : Nat) (hj : j < 10) (h : SumAt q (j + 1) p) => sum_step hj n6 q1 q2 h)
  have P0 : SumAt q 10 4587023449039406616 := start_p
  clear q3 k3 k4 k5 k6 q1 q2 k1 k2 z1 z2 hE hd ha hS hq l2 l4 l6 l7
  cases t with
  | true =>
    have o1 := ht.symm
    obtain ⟨f2, v2⟩ := flt n1 l3 (show fop .mul .f64 m1 4602678819172646912 = m2 by rw [h2]; rfl) n2
    clear ht h2 h1
    go_enter Try.func51, Try.ntmps51
    go_wp2_with (first | ((with_reducible apply wpList_flit); rfl; rfl; rfl; assumption; (first | assumption | (decide +kernel)); intro _) | (go_at_call 55; refine (H.out _).mono ?_; rintro e w' ⟨rfl, rfl⟩))
    go_loopw [8, 9] (fun s8 s9 wr => ∃ j : Nat, j ≤ 10 ∧ s9 = .int .i64 (((2 * j : Nat) : Int) - 1) ∧ (∃ p, s8 = .float .f64 p ∧ SumAt q j p) ∧ ∃ m, wr = w.drewN m) (fun _ i _ => (intOf i + 1).toNat)
    case atStart => exact ⟨10, by decide, rfl, ⟨_, rfl, P0⟩, _, rfl⟩
    case round =>
      obtain ⟨j, hj, rfl, ⟨p, rfl, hp⟩, mm, rfl⟩ := hrel
      by_cases hj0 : j = 0
      · subst hj0
        obtain ⟨A, B, C, D, g1, g2, g3, g4, g5, g6, g7, g8, g9, g10⟩ := T.out p x hp (by omega) (by omega)
        go_wp2_with (first | ((with_reducible apply wpList_flit); rfl; rfl; rfl; assumption; (first | assumption | (decide +kernel)); intro _))
        go_ret
        exact ⟨⟨_, rfl, g9, g10⟩, _, rfl⟩
      · obtain ⟨i, rfl⟩ : ∃ i, j = i + 1 := ⟨j - 1, by omega⟩
        obtain ⟨⟨g1, g2⟩, ⟨g3, g4⟩, r, ⟨g5, g6⟩, g7⟩ := K.out i p (by omega) hp
        rw [show (((2 * (i + 1) : Nat) : Int) - 1) = ((2 * i + 1 : Nat) : Int) by omega]
        go_wp2_with (first | ((with_reducible apply wpList_flit); rfl; rfl; rfl; assumption; (first | assumption | (decide +kernel)); intro _))
        go_roundw
        case rel => exact ⟨i, by omega, by first | rfl | (congr 1; go_num) | (simp; omega), ⟨_, rfl, g7⟩, _, rfl⟩
        case measure => simp [intOf]; omega
  | false =>
    have o1 := ht.symm
    simp only [Bool.false_eq_true, if_false] at h2
    subst h2
    clear ht h1
    go_enter Try.func51, Try.ntmps51
    go_wp2_with (first | ((with_reducible apply wpList_flit); rfl; rfl; rfl; assumption; (first | assumption | (decide +kernel)); intro _) | (go_at_call 55; refine (H.out _).mono ?_; rintro e w' ⟨rfl, rfl⟩))
    go_loopw [8, 9] (fun s8 s9 wr => ∃ j : Nat, j ≤ 10 ∧ s9 = .int .i64 (((2 * j : Nat) : Int) - 1) ∧ (∃ p, s8 = .float .f64 p ∧ SumAt q j p) ∧ ∃ m, wr = w.drewN m) (fun _ i _ => (intOf i + 1).toNat)
    case atStart => exact ⟨10, by decide, rfl, ⟨_, rfl, P0⟩, _, rfl⟩
    case round =>
      obtain ⟨j, hj, rfl, ⟨p, rfl, hp⟩, mm, rfl⟩ := hrel
      by_cases hj0 : j = 0
      · subst hj0
        obtain ⟨A, B, C, D, g1, g2, g3, g4, g5, g6, g7, g8, g9, g10⟩ := T.out p (x - 1) hp (by omega) (by omega)
        go_wp2_with (first | ((with_reducible apply wpList_flit); rfl; rfl; rfl; assumption; (first | assumption | (decide +kernel)); intro _))
        go_ret
        exact ⟨⟨_, rfl, g9, g10⟩, _, rfl⟩
      · obtain ⟨i, rfl⟩ : ∃ i, j = i + 1 := ⟨j - 1, by omega⟩
        obtain ⟨⟨g1, g2⟩, ⟨g3, g4⟩, r, ⟨g5, g6⟩, g7⟩ := K.out i p (by omega) hp
        rw [show (((2 * (i + 1) : Nat) : Int) - 1) = ((2 * i + 1 : Nat) : Int) by omega]
        go_wp2_with (first | ((with_reducible apply wpList_flit); rfl; rfl; rfl; assumption; (first | assumption | (decide +kernel)); intro _))
        go_roundw
        case rel => exact ⟨i, by omega, by first | rfl | (congr 1; go_num) | (simp; omega), ⟨_, rfl, g7⟩, _, rfl⟩
        case measure => simp [intOf]; omega
theorem logarithm_any (E f : Nat) (w : World) (h1 : 822 ≤ E) (h2 : E ≤ 1222) (hf : f < 4503599627370496) :
    Calls Try.prog 51 #[.float .f64 (E * 4503599627370496 + f)] w fun e w' => (∃ D, e = .returned (.float .f64 D) ∧ isNum .f64 D = true ∧ LogP (val .f64 (E * 4503599627370496 + f)) (val .f64 D)) ∧ ∃ m, w' = w.drewN m := by
  have e2 : (2 : Nat) ^ 52 = 4503599627370496 := by decide
  obtain ⟨-, -, -, -, a5⟩ := plain64 (E := E) (f := f) (by omega) (by omega) hf
  obtain ⟨-, b2, -, -, b5⟩ := plain64 (E := 1022) (f := f) (by omega) (by omega) hf
  rw [e2] at a5 b2 b5
  have z0 := zp_pos (-53)
  have hlo : ((4503599627370496 : Nat) : Rat) ≤ ((4503599627370496 + f : Nat) : Rat) := Rat.natCast_le_natCast.2 (by omega)
  have hhi : ((4503599627370496 + f : Nat) : Rat) ≤ ((9007199254740992 : Nat) : Rat) := Rat.natCast_le_natCast.2 (by omega)
  have c53 : (2 : Rat) ^ (((1022 : Nat) : Int) - 1075) = 1 / 9007199254740992 := by decide +kernel
  have c1 : ((4503599627370496 : Nat) : Rat) = 4503599627370496 := rfl
  have c2 : ((9007199254740992 : Nat) : Rat) = 9007199254740992 := rfl
  rw [c53] at b5
  rw [c1] at hlo
  rw [c2] at hhi
  have H := logarithm_parts _ _ ((E : Int) - 1022) w (by omega) (by omega) b2 (by rw [b5]; grind) (by rw [b5]; grind) (fun w => Frexp_full E f w (by omega) (by omega) hf)
  have e : val .f64 (1022 * 4503599627370496 + f) * (2 : Rat) ^ ((E : Int) - 1022) = val .f64 (E * 4503599627370496 + f) := by
    rw [a5, b5, show (1 / 9007199254740992 : Rat) = (2 : Rat) ^ (-53 : Int) by decide +kernel, Rat.mul_assoc, ← zp_add]
    congr 2; omega
  rw [e] at H
  exact H
end Go.Proofs.Ytokmjboaeamogaa
