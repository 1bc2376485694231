/- The logarithm is one number. Conditions: those named. (with: TfM, TfN) -/
import Derived.Test.YtokmjboaeamogaaTX
import Derived.Test.YtokmjboaeamogaaPiF
import Derived.Test.YtokmjboaeamogaaTY
import Derived.BigQuiet
namespace Go.Proofs.Ytokmjboaeamogaa
open Go Go.RowKit
/-- The logarithm's sum behind n steps, by its codes. -/
def sumN (q : Nat) : Nat → Nat
  | 0 => 4587023449039406616
  | n + 1 => fop .add .f64 (fop .mul .f64 (sumN q n) q) (fop .quo .f64 4607182418800017408 (floatOfInt .f64 ((2 * (9 - n) + 1 : Nat) : Int)))
theorem sum_stepN {q j : Nat} (hj : j < 10) (nq : isNum .f64 q = true) (q1 : -(1 / 25) ≤ val .f64 q) (q2 : val .f64 q ≤ 1 / 25) (h : SumAt q (j + 1) (sumN q (9 - j))) :
    (fop .mul .f64 (cn .f64 (sumN q (9 - j))) (cn .f64 q) = fop .mul .f64 (sumN q (9 - j)) q ∧ isN .f64 (fop .mul .f64 (sumN q (9 - j)) q) = false) ∧
    (fop .quo .f64 (cn .f64 4607182418800017408) (cn .f64 (floatOfInt .f64 ((2 * j + 1 : Nat) : Int))) = fop .quo .f64 4607182418800017408 (floatOfInt .f64 ((2 * j + 1 : Nat) : Int)) ∧ isN .f64 (fop .quo .f64 4607182418800017408 (floatOfInt .f64 ((2 * j + 1 : Nat) : Int))) = false) ∧
    (fop .add .f64 (cn .f64 (fop .mul .f64 (sumN q (9 - j)) q)) (cn .f64 (fop .quo .f64 4607182418800017408 (floatOfInt .f64 ((2 * j + 1 : Nat) : Int)))) = sumN q (10 - j) ∧ isN .f64 (sumN q (10 - j)) = false) ∧ SumAt q j (sumN q (10 - j)) := by
  obtain ⟨a, b, r, ⟨c1, c2⟩, d⟩ := sum_step hj nq q1 q2 h
  have e : r = sumN q (10 - j) := by
    rw [show 10 - j = 9 - j + 1 by omega]
    unfold sumN
    rw [show 9 - (9 - j) = j by omega, ← c1, cn_of_not a.2, cn_of_not b.2]
  subst e
  exact ⟨a, b, ⟨c1, c2⟩, d⟩
set_option maxRecDepth 100000 in
set_option maxHeartbeats 3200000 in
theorem logarithm_dets (X z : Nat) (x : Int) (hx1 : -200 ≤ x) (hx2 : x ≤ 200) (hz : isNum .f64 z = true) (z1 : 1 / 2 ≤ val .f64 z) (z2 : val .f64 z ≤ 1)
    (H : ∀ w, Calls Try.prog 55 #[.float .f64 X] w fun e w' => e = .returned (.tuple #[.float .f64 z, .int .i64 x]) ∧ w = w') :
    ∃ D, isNum .f64 D = true ∧ LogP (val .f64 z * (2 : Rat) ^ x) (val .f64 D) ∧ ∀ w, Calls Try.prog 51 #[.float .f64 X] w fun e w' => e = .returned (.float .f64 D) ∧ ∃ m, w' = w.drewN m := by
  replace H := Lib.hid H
  obtain ⟨⟨l1, l2⟩, ⟨l3, l4⟩, ⟨l5, l6, l7⟩, ⟨l8, -⟩⟩ := lits64
  obtain ⟨t, ht⟩ : ∃ t, t = (FloatKind.f64.format.order (fop .mul .f64 z 4611686018427387904) 4609047870845172685 == some .gt) := ⟨_, rfl⟩
  obtain ⟨m1, h1⟩ : ∃ m1, m1 = fop .mul .f64 z 4611686018427387904 := ⟨_, rfl⟩
  rw [← h1] at ht
  obtain ⟨m2, h2⟩ : ∃ m2, m2 = if t then fop .mul .f64 m1 4602678819172646912 else m1 := ⟨_, rfl⟩
  obtain ⟨d, hd⟩ : ∃ d, d = fop .sub .f64 m2 4607182418800017408 := ⟨_, rfl⟩
  obtain ⟨a, ha⟩ : ∃ a, a = fop .add .f64 m2 4607182418800017408 := ⟨_, rfl⟩
  obtain ⟨S, hS⟩ : ∃ S, S = fop .quo .f64 d a := ⟨_, rfl⟩
  obtain ⟨q, hq⟩ : ∃ q, q = fop .mul .f64 S S := ⟨_, rfl⟩
  obtain ⟨n1, n2, n3, n4, n5, n6, q1, q2, q3, m, s, k1, k2, k3, k4, k5, k6⟩ := log_head hz z1 z2 h1 t ht h2 hd ha hS hq
  obtain ⟨f1, v1⟩ := flt hz l1 h1.symm n1
  obtain ⟨f3, v3⟩ := flt n2 one64.1 hd.symm n3
  obtain ⟨f4, v4⟩ := flt n2 one64.1 ha.symm n4
  obtain ⟨f5, v5⟩ := flt n3 n4 hS.symm n5
  obtain ⟨f6, v6⟩ := flt n5 n5 hq.symm n6
  have hE : val .f64 z * (2 : Rat) ^ x = m * (2 : Rat) ^ (if t then x else x - 1) := by
    cases t with
    | true => rw [k1 rfl]; rfl
    | false =>
      rw [k2 rfl]
      show _ = _ * (2 : Rat) ^ (x - 1)
      rw [show x = (x - 1) + 1 by omega, zp_add]
      have : (2 : Rat) ^ (1 : Int) = 2 := by decide +kernel
      rw [this, show x - 1 + 1 - 1 = x - 1 by omega]; grind
  rw [hE]
  have T : ∀ (P : Nat) (n : Int), SumAt q 0 P → -201 ≤ n → n ≤ 201 → ∃ A B C D, fop .mul .f64 (cn .f64 4611686018427387904) (cn .f64 S) = A ∧ isN .f64 A = false ∧ fop .mul .f64 (cn .f64 A) (cn .f64 P) = B ∧ isN .f64 B = false ∧
      fop .quo .f64 (cn .f64 B) (cn .f64 4604418534313441775) = C ∧ isN .f64 C = false ∧ fop .add .f64 (cn .f64 (floatOfInt .f64 n)) (cn .f64 C) = D ∧ isN .f64 D = false ∧ isNum .f64 D = true ∧ LogP (m * (2 : Rat) ^ n) (val .f64 D) := by
    intro P n hP hn1 hn2
    obtain ⟨i1, i2⟩ := ofInt_exact64 n (by omega)
    obtain ⟨b1, b2, b3, b4, t, b5, b6, b7, b8⟩ := log_tail n5 hP.1 k4 k5 k6 q1 q2 q3 hP.2 rfl rfl rfl rfl hn1 hn2
    obtain ⟨c1, c2⟩ := flt l1 n5 rfl b1
    obtain ⟨c3, c4⟩ := flt b1 hP.1 rfl b2
    obtain ⟨c5, c6⟩ := flt b2 l8 rfl b3
    obtain ⟨c7, c8⟩ := flt i1 b3 rfl b4
    exact ⟨_, _, _, _, c1, c2, c3, c4, c5, c6, c7, c8, b4, m, s, t, n, rfl, k3, k4, k5, b5, b6, b7, b8, hn1, hn2⟩
  replace T := Lib.hid T
  have K := Lib.hid (fun (j : Nat) (hj : j < 10) (h : SumAt q (j + 1) (sumN q (9 - j))) => sum_stepN hj n6 q1 q2 h)
  have P0 : SumAt q 10 (sumN q 0) := start_p
  have PE : ∀ j, j ≤ 10 → SumAt q (10 - j) (sumN q j) := fun j => by
    induction j with
    | zero => intro _; exact P0
    | succ j ih =>
      intro hj
      have h := K.out (9 - j) (by omega) (by rw [show 9 - j + 1 = 10 - j by omega, show 9 - (9 - j) = j by omega]; exact ih (by omega))
      rw [show 10 - (j + 1) = 9 - j by omega, show j + 1 = 10 - (9 - j) by omega]
      exact h.2.2.2
  have P10 : SumAt q 0 (sumN q 10) := PE 10 (by omega)
  clear q3 k3 k4 k5 k6 q1 q2 k1 k2 z1 z2 hE hd ha hS hq l2 l4 l6 l7
  cases t with
  | true =>
    have o1 := ht.symm
    obtain ⟨f2, v2⟩ := flt n1 l3 (show fop .mul .f64 m1 4602678819172646912 = m2 by rw [h2]; rfl) n2
    clear ht h2 h1 PE P0
    obtain ⟨A, B, C, D, g1, g2, g3, g4, g5, g6, g7, g8, g9, g10⟩ := T.out (sumN q 10) x P10 (by omega) (by omega)
    refine ⟨D, g9, g10, fun w => ?_⟩
    replace g9 := Lib.hid g9; replace g10 := Lib.hid g10
    go_enter Try.func51, Try.ntmps51
    go_wp2_with (first | ((with_reducible apply wpList_flit); rfl; rfl; rfl; assumption; (first | assumption | (decide +kernel)); intro _) | (go_at_call 55; refine (H.out _).mono ?_; rintro e w' ⟨rfl, rfl⟩))
    go_loopw [8, 9] (fun s8 s9 wr => ∃ j : Nat, j ≤ 10 ∧ s9 = .int .i64 (((2 * j : Nat) : Int) - 1) ∧ (s8 = .float .f64 (sumN q (10 - j)) ∧ SumAt q j (sumN q (10 - j))) ∧ ∃ m, wr = w.drewN m) (fun _ i _ => (intOf i + 1).toNat)
    case atStart => exact ⟨10, by decide, rfl, ⟨rfl, start_p⟩, _, rfl⟩
    case round =>
      obtain ⟨j, hj, rfl, ⟨rfl, hp⟩, mm, rfl⟩ := hrel
      by_cases hj0 : j = 0
      · subst hj0
        go_wp2_with (first | ((with_reducible apply wpList_flit); rfl; rfl; rfl; assumption; (first | assumption | (decide +kernel)); intro _))
        go_ret
        exact ⟨rfl, _, rfl⟩
      · obtain ⟨i, rfl⟩ : ∃ i, j = i + 1 := ⟨j - 1, by omega⟩
        have hp2 : SumAt q (i + 1) (sumN q (9 - i)) := by rw [show 9 - i = 10 - (i + 1) by omega]; exact hp
        obtain ⟨⟨u1, u2⟩, ⟨u3, u4⟩, ⟨u5, u6⟩, u7⟩ := K.out i (by omega) hp2
        rw [show 10 - (i + 1) = 9 - i by omega]
        clear g1 g2 g3 g4 g5 g6 g7 g8
        rw [show (((2 * (i + 1) : Nat) : Int) - 1) = ((2 * i + 1 : Nat) : Int) by omega]
        go_wp2_with (first | ((with_reducible apply wpList_flit); rfl; rfl; rfl; assumption; (first | assumption | (decide +kernel)); intro _))
        go_roundw
        case rel => exact ⟨i, by omega, by first | rfl | (congr 1; go_num) | (simp; omega), ⟨rfl, u7⟩, _, rfl⟩
        case measure => simp [intOf]; omega
  | false =>
    have o1 := ht.symm
    simp only [Bool.false_eq_true, if_false] at h2
    subst h2
    clear ht h1 PE P0
    obtain ⟨A, B, C, D, g1, g2, g3, g4, g5, g6, g7, g8, g9, g10⟩ := T.out (sumN q 10) (x - 1) P10 (by omega) (by omega)
    refine ⟨D, g9, g10, fun w => ?_⟩
    replace g9 := Lib.hid g9; replace g10 := Lib.hid g10
    go_enter Try.func51, Try.ntmps51
    go_wp2_with (first | ((with_reducible apply wpList_flit); rfl; rfl; rfl; assumption; (first | assumption | (decide +kernel)); intro _) | (go_at_call 55; refine (H.out _).mono ?_; rintro e w' ⟨rfl, rfl⟩))
    go_loopw [8, 9] (fun s8 s9 wr => ∃ j : Nat, j ≤ 10 ∧ s9 = .int .i64 (((2 * j : Nat) : Int) - 1) ∧ (s8 = .float .f64 (sumN q (10 - j)) ∧ SumAt q j (sumN q (10 - j))) ∧ ∃ m, wr = w.drewN m) (fun _ i _ => (intOf i + 1).toNat)
    case atStart => exact ⟨10, by decide, rfl, ⟨rfl, start_p⟩, _, rfl⟩
    case round =>
      obtain ⟨j, hj, rfl, ⟨rfl, hp⟩, mm, rfl⟩ := hrel
      by_cases hj0 : j = 0
      · subst hj0
        go_wp2_with (first | ((with_reducible apply wpList_flit); rfl; rfl; rfl; assumption; (first | assumption | (decide +kernel)); intro _))
        go_ret
        exact ⟨rfl, _, rfl⟩
      · obtain ⟨i, rfl⟩ : ∃ i, j = i + 1 := ⟨j - 1, by omega⟩
        have hp2 : SumAt q (i + 1) (sumN q (9 - i)) := by rw [show 9 - i = 10 - (i + 1) by omega]; exact hp
        obtain ⟨⟨u1, u2⟩, ⟨u3, u4⟩, ⟨u5, u6⟩, u7⟩ := K.out i (by omega) hp2
        rw [show 10 - (i + 1) = 9 - i by omega]
        clear g1 g2 g3 g4 g5 g6 g7 g8
        rw [show (((2 * (i + 1) : Nat) : Int) - 1) = ((2 * i + 1 : Nat) : Int) by omega]
        go_wp2_with (first | ((with_reducible apply wpList_flit); rfl; rfl; rfl; assumption; (first | assumption | (decide +kernel)); intro _))
        go_roundw
        case rel => exact ⟨i, by omega, by first | rfl | (congr 1; go_num) | (simp; omega), ⟨rfl, u7⟩, _, rfl⟩
        case measure => simp [intOf]; omega
theorem logarithm_det (E f : Nat) (h1 : 822 ≤ E) (h2 : E ≤ 1222) (hf : f < 4503599627370496) :
    ∃ D, isNum .f64 D = true ∧ LogP (val .f64 (E * 4503599627370496 + f)) (val .f64 D) ∧ ∀ w, Calls Try.prog 51 #[.float .f64 (E * 4503599627370496 + f)] w fun e w' => e = .returned (.float .f64 D) ∧ ∃ m, w' = w.drewN m := by
  have e2 : (2 : Nat) ^ 52 = 4503599627370496 := by decide
  obtain ⟨-, -, -, -, a5⟩ := plain64 (E := E) (f := f) (by omega) (by omega) hf
  obtain ⟨-, b2, -, -, b5⟩ := plain64 (E := 1022) (f := f) (by omega) (by omega) hf
  rw [e2] at a5 b2 b5
  have z0 := zp_pos (-53)
  have hlo : ((4503599627370496 : Nat) : Rat) ≤ ((4503599627370496 + f : Nat) : Rat) := Rat.natCast_le_natCast.2 (by omega)
  have hhi : ((4503599627370496 + f : Nat) : Rat) ≤ ((9007199254740992 : Nat) : Rat) := Rat.natCast_le_natCast.2 (by omega)
  have c53 : (2 : Rat) ^ (((1022 : Nat) : Int) - 1075) = 1 / 9007199254740992 := by decide +kernel
  have c1 : ((4503599627370496 : Nat) : Rat) = 4503599627370496 := rfl
  have c2 : ((9007199254740992 : Nat) : Rat) = 9007199254740992 := rfl
  rw [c53] at b5
  rw [c1] at hlo
  rw [c2] at hhi
  have H := logarithm_dets _ _ ((E : Int) - 1022) (by omega) (by omega) b2 (by rw [b5]; grind) (by rw [b5]; grind) (fun w => Frexp_full E f w (by omega) (by omega) hf)
  have e : val .f64 (1022 * 4503599627370496 + f) * (2 : Rat) ^ ((E : Int) - 1022) = val .f64 (E * 4503599627370496 + f) := by
    rw [a5, b5, show (1 / 9007199254740992 : Rat) = (2 : Rat) ^ (-53 : Int) by decide +kernel, Rat.mul_assoc, ← zp_add]
    congr 2; omega
  rw [e] at H
  exact H
end Go.Proofs.Ytokmjboaeamogaa

namespace Go.Proofs.Ytokmjboaeamogaa
open Go Go.RowKit
set_option maxHeartbeats 1600000 in
theorem Log2_det (v : Nat) (hv : isNum .f32 v = true) (h1 : (2 : Rat) ^ (-120 : Int) ≤ val .f32 v) (h2 : val .f32 v ≤ (2 : Rat) ^ (120 : Int)) :
    ∃ l, LogR (val .f32 v) l ∧ ∀ w, Calls Try.prog 31 #[.float .f32 v] w fun e w' => e = .returned (.float .f32 l) ∧ ∃ m, w' = w.drewN m := by
  obtain ⟨o1, o2, o3⟩ := pos_ords hv h1
  obtain ⟨E, f, e1, b1, b2, b3, n1, e2⟩ := up_parts hv h1 h2
  obtain ⟨D, hD, hP, L⟩ := logarithm_det E f b1 b2 b3
  obtain ⟨u, hu⟩ : ∃ u, u = E * 4503599627370496 + f := ⟨_, rfl⟩
  rw [← hu] at e1 hP L
  rw [e1] at n1 e2
  rw [e2] at hP
  obtain ⟨l, v2, c2, n2, d2, hl⟩ := log_down hD hP h1 h2
  refine ⟨l, hl, fun w => ?_⟩
  have c1 := e1
  have v1 : ovf .f32 .f64 v = false := ovf_up v
  have u1 : isN .f64 u = false := isNum_not_nan n1
  replace L := Lib.hid L
  clear hu b1 b2 b3 h1 h2 e2 e1 hv n1 hP hD hl
  have G : ∀ w, Calls Try.prog 52 #[.float .f32 v, .func (.func 51) #[] #[]] w fun e w' => e = .returned (.float .f32 l) ∧ ∃ m, w' = w.drewN m := fun w => by
    go_enter Try.func52, Try.ntmps52
    go_wp2_with (first | ((with_reducible apply wpList_clit); rfl; exact Try.underlying30; exact Try.underlying22; decide; assumption; assumption; assumption; intro _) | ((with_reducible apply wpList_clit); rfl; exact Try.underlying22; exact Try.underlying30; decide; assumption; assumption; assumption; intro _) | (go_at_call 16; refine (Clean_any _ _).mono ?_; rintro e w' ⟨rfl, rfl⟩) | (go_at_call 51; refine (L.out _).mono ?_; rintro e w' ⟨rfl, m, rfl⟩))
    go_ret
    exact ⟨rfl, _, rfl⟩
  replace G := Lib.hid G
  clear o1 o2 o3 c1 v1 u1 L v2 c2 n2 d2
  go_enter Try.func31, Try.ntmps31
  go_wp2_with (first | (go_at_call 52; refine (G.out _).mono ?_; rintro e w' ⟨rfl, m, rfl⟩))
  go_ret
  exact ⟨rfl, _, rfl⟩
section
variable {P : Program} {ops : Array Oper} {W : World} {Ψ : FuncId → Array Value → Value → Prop} {LL : Act → Prop} {rest : List Oper} {a : Act} {dst : Option Tmp} {ty : TypeId} {x y : Operand} {pos : String} {after : Array Edge} {guard : Option (Nat × Bool)}
theorem loose_flit {op : BinOp} {t t' : TypeId} {k : FloatKind} {u v c : Nat} (hw : Region.wanted { dst, op := .binOp op t x y t', type := ty, pos, after, guard } (yielded ops a.tmps) = true)
    (ho : arith op = true) (hx : a.eval x = .float k u) (hy : a.eval y = .float k v) (hc : fop op k (cn k u) (cn k v) = c) (hn : isN k c = false) (h : wpLoose P ops W Ψ LL rest (a.put dst (.float k c))) :
    wpLoose P ops W Ψ LL ({ dst, op := .binOp op t x y t', type := ty, pos, after, guard } :: rest) a :=
  loose_farith hw ho hx hy fun r hr => by rw [hc] at hr; rw [FR.exact hr hn]; exact h
end
/-- What the curve of a logarithm gives, step by step. -/
structure LogC (A b v s l t a L ww q : Nat) : Prop where
  f1 : fop .add .f32 (cn .f32 A) (cn .f32 b) = s
  n1 : isN .f32 s = false
  k1 : ∀ w, Calls Try.prog 31 #[.float .f32 s] w fun e w' => e = .returned (.float .f32 l) ∧ ∃ m, w' = w.drewN m
  f2 : fop .mul .f32 (cn .f32 v) (cn .f32 A) = t
  n2 : isN .f32 t = false
  f3 : fop .add .f32 (cn .f32 t) (cn .f32 b) = a
  n3 : isN .f32 a = false
  k2 : ∀ w, Calls Try.prog 31 #[.float .f32 a] w fun e w' => e = .returned (.float .f32 L) ∧ ∃ m, w' = w.drewN m
  f4 : fop .quo .f32 (cn .f32 L) (cn .f32 l) = ww
  n4 : isN .f32 ww = false
  c4 : cn .f32 ww = ww
  f5 : fop .mul .f32 (cn .f32 ww) (cn .f32 l) = q
  n5 : isN .f32 q = false
section
variable {A b c v s l t a L ww q : Nat}
theorem encoder_4 (h : LogC A b v s l t a L ww q) (w : World) : Calls Try.prog 17 #[trV 4 A b c] w fun e w' => ∃ g, e = .returned (.func (.func 32) #[] #[.pointer (some ⟨w.heap.size, 0, none⟩), .pointer (some ⟨g, 0, none⟩)]) ∧ Below w.heap.size w w' ∧ Blk w' w.heap.size [.int .i64 4, .float .f32 A, .float .f32 b, .float .f32 c] ∧ Blk w' g [.float .f32 l] := by
  have f1 := h.f1; have n1 := h.n1; have K1 := Lib.hid h.k1
  clear h
  go_enter Try.func17, Try.ntmps17
  go_wp2_with (first | ((with_reducible apply wpList_flit); rfl; rfl; rfl; assumption; (first | assumption | (decide +kernel)); intro _) | (go_at_call 31; refine (K1.out _).mono ?_; rintro e w' ⟨rfl, m, rfl⟩))
  go_ret
  exact ⟨_, rfl, by (repeat (first | exact Below.refl _ _ | assumption | (refine Below.setCell ?_ (by first | (simp; done) | (simp; omega) | omega) _) | (refine Below.drew ?_) | (refine below_drewN ?_ _) | (refine Below.alloc ?_ (by first | (simp; done) | (simp; omega) | omega) _) | (refine Below.trans ?_ (Below.mono (by assumption) (by first | (simp; done) | (simp; omega) | omega))))), (Blk.new _ _ _ _ rfl).past (by (repeat (first | exact Below.refl _ _ | assumption | (refine Below.setCell ?_ (by first | (simp; done) | (simp; omega) | omega) _) | (refine Below.drew ?_) | (refine below_drewN ?_ _) | (refine Below.alloc ?_ (by first | (simp; done) | (simp; omega) | omega) _) | (refine Below.trans ?_ (Below.mono (by assumption) (by first | (simp; done) | (simp; omega) | omega)))))), Blk.new _ _ _ _ (by first | rfl | simp)⟩
theorem encB_4 (h : LogC A b v s l t a L ww q) (g g2 : Nat) (w : World) (hb : Blk w g [.int .i64 4, .float .f32 A, .float .f32 b, .float .f32 c]) (hb2 : Blk w g2 [.float .f32 l]) : Calls Try.prog 32 #[.float .f32 v, .pointer (some ⟨g, 0, none⟩), .pointer (some ⟨g2, 0, none⟩)] w fun e w' => e = .returned (.float .f32 ww) ∧ Below w.heap.size w w' := by
  have f2 := h.f2; have n2 := h.n2; have f3 := h.f3; have n3 := h.n3; have f4 := h.f4; have n4 := h.n4; have K2 := Lib.hid h.k2
  have b1 := hb.c 1 _ rfl; have b2 := hb.c 2 _ rfl; have bl := hb.lt
  have b3 := hb2.c 0 _ rfl; have bl2 := hb2.lt
  clear hb hb2 h
  go_enter Try.func32, Try.ntmps32
  go_upto_region 1 with fail
  have UA := Lib.hid (fun (wy : World) (_ : Below w.heap.size w wy) => (K2.out wy).mono (fun e w' (h : e = .returned (.float .f32 L) ∧ ∃ m, w' = wy.drewN m) => (show e = .returned (.float .f32 L) ∧ Below wy.heap.size wy w' from ⟨h.1, by obtain ⟨m, rfl⟩ := h.2; exact below_drewN (Below.refl _ _) _⟩)))
  refine wp_region_loose 10 (fun _ _ u => u = .float .f32 L) (by kernel_rfl) (by kernel_rfl) ?_
  simp only [List.take_succ_cons, List.take_zero, List.drop_succ_cons, List.drop_zero]
  iterate 3 (refine loose_wanted rfl (fun K hK => ?_); go_simp; refine hK _ ?_; clear hK K)
  ((with_reducible apply loose_flit); rfl; rfl; rfl; rfl; assumption; assumption)
  iterate 2 (refine loose_wanted rfl (fun K hK => ?_); go_simp; refine hK _ ?_; clear hK K)
  ((with_reducible apply loose_flit); rfl; rfl; rfl; rfl; assumption; assumption)
  with_reducible refine loose_wanted ?_ (fun K1 hK => ?_)
  kernel_rfl
  go_simp
  refine ⟨fun p => (UA.out p.w p.h).mono ?_, hK _ ?_⟩
  · rintro e w' ⟨rfl, hb⟩
    exact ⟨_, rfl, by first | rfl | (simp; done), p.h.trans (hb.mono p.h.size)⟩
  clear hK K1
  (refine loose_wanted rfl (fun K hK => ?_); go_simp; refine hK _ ?_; clear hK K)
  ((with_reducible apply loose_flit); rfl; rfl; rfl; rfl; assumption; assumption)
  refine loose_nil (fun w5 hb5 => ?_)
  go_wp2_with fail
  go_ret
  exact ⟨rfl, hb5⟩
theorem Encode_4 (h : LogC A b v s l t a L ww q) (w : World) (hE : trE 4 A b c = 0) : Calls Try.prog 6 #[trV 4 A b c, .float .f32 v] w fun e w' => e = .returned (.tuple #[.float .f32 ww, .int .i64 0]) ∧ Below w.heap.size w w' := by
  have HC := Lib.hid (fun w => CheckTransfer_any 4 A b c w)
  rw [hE] at HC
  have HQ := Lib.hid h
  have c4 := h.c4
  clear h hE
  go_enter Try.func6, Try.ntmps6
  go_wp2_with (first | (go_at_call 16; refine (Clean_any _ _).mono ?_; rintro e w' ⟨rfl, rfl⟩) | (go_at_call 15; refine (HC.out _).mono ?_; rintro e w1 ⟨rfl, hb1⟩; have k1 : Blk w1 w.heap.size [.int .i64 4, .float .f32 A, .float .f32 b, .float .f32 c] := (Blk.new _ _ _ _ rfl).past hb1; have k10 := k1.c 0 _ rfl; have k11 := k1.c 1 _ rfl; have k12 := k1.c 2 _ rfl; have k13 := k1.c 3 _ rfl; have k1l := k1.lt; have hbA : Below w.heap.size w w1 := Below.trans (by (repeat (first | exact Below.refl _ _ | assumption | (refine Below.setCell ?_ (by first | (simp; done) | (simp; omega) | omega) _) | (refine Below.drew ?_) | (refine below_drewN ?_ _) | (refine Below.alloc ?_ (by first | (simp; done) | (simp; omega) | omega) _) | (refine Below.trans ?_ (Below.mono (by assumption) (by first | (simp; done) | (simp; omega) | omega)))))) (hb1.mono (by simp)); clear k1 hb1) | (go_at_call 17; refine (encoder_4 HQ.out _).mono ?_; rintro e w2 ⟨g2, rfl, hb2, hk2, hk3⟩) | (go_at_call 32; refine (encB_4 HQ.out _ _ _ hk2 hk3).mono ?_; rintro e w3 ⟨rfl, hb3⟩))
  go_ret2
  exact ⟨rfl, hbA.trans ((hb2.trans (hb3.mono hb2.size)).mono hbA.size)⟩
theorem decoder_4 (h : LogC A b v s l t a L ww q) (w : World) : Calls Try.prog 18 #[trV 4 A b c] w fun e w' => ∃ g, e = .returned (.func (.func 37) #[] #[.pointer (some ⟨g, 0, none⟩), .pointer (some ⟨w.heap.size, 0, none⟩)]) ∧ Below w.heap.size w w' ∧ Blk w' w.heap.size [.int .i64 4, .float .f32 A, .float .f32 b, .float .f32 c] ∧ Blk w' g [.float .f32 l] := by
  have f1 := h.f1; have n1 := h.n1; have K1 := Lib.hid h.k1
  clear h
  go_enter Try.func18, Try.ntmps18
  go_wp2_with (first | ((with_reducible apply wpList_flit); rfl; rfl; rfl; assumption; (first | assumption | (decide +kernel)); intro _) | (go_at_call 31; refine (K1.out _).mono ?_; rintro e w' ⟨rfl, m, rfl⟩))
  go_ret
  exact ⟨_, rfl, by (repeat (first | exact Below.refl _ _ | assumption | (refine Below.setCell ?_ (by first | (simp; done) | (simp; omega) | omega) _) | (refine Below.drew ?_) | (refine below_drewN ?_ _) | (refine Below.alloc ?_ (by first | (simp; done) | (simp; omega) | omega) _) | (refine Below.trans ?_ (Below.mono (by assumption) (by first | (simp; done) | (simp; omega) | omega))))), (Blk.new _ _ _ _ rfl).past (by (repeat (first | exact Below.refl _ _ | assumption | (refine Below.setCell ?_ (by first | (simp; done) | (simp; omega) | omega) _) | (refine Below.drew ?_) | (refine below_drewN ?_ _) | (refine Below.alloc ?_ (by first | (simp; done) | (simp; omega) | omega) _) | (refine Below.trans ?_ (Below.mono (by assumption) (by first | (simp; done) | (simp; omega) | omega)))))), Blk.new _ _ _ _ (by first | rfl | simp)⟩
/-- What comes behind the power. -/
def DecR (A b : Nat) (R : Nat → Prop) (u : Value) : Prop := ∃ E y x, u = .float .f32 E ∧ fop .sub .f32 (cn .f32 E) (cn .f32 b) = y ∧ isN .f32 y = false ∧ fop .quo .f32 (cn .f32 y) (cn .f32 A) = x ∧ isN .f32 x = false ∧ R x
theorem decB_4 (R : Nat → Prop) (h : LogC A b v s l t a L ww q) (K : ∀ w, Calls Try.prog 38 #[.float .f32 q] w fun e w' => (∃ E y x, e = .returned (.float .f32 E) ∧ fop .sub .f32 (cn .f32 E) (cn .f32 b) = y ∧ isN .f32 y = false ∧ fop .quo .f32 (cn .f32 y) (cn .f32 A) = x ∧ isN .f32 x = false ∧ R x) ∧ ∃ m, w' = w.drewN m)
    (g g2 : Nat) (w : World) (hb : Blk w g [.int .i64 4, .float .f32 A, .float .f32 b, .float .f32 c]) (hb2 : Blk w g2 [.float .f32 l]) : Calls Try.prog 37 #[.float .f32 ww, .pointer (some ⟨g2, 0, none⟩), .pointer (some ⟨g, 0, none⟩)] w fun e w' => (∃ x, e = .returned (.float .f32 x) ∧ R x) ∧ Below w.heap.size w w' := by
  have f5 := h.f5; have n5 := h.n5
  have K3 := Lib.hid K
  have b1 := hb.c 1 _ rfl; have b2 := hb.c 2 _ rfl; have bl := hb.lt
  have b3 := hb2.c 0 _ rfl; have bl2 := hb2.lt
  clear hb hb2 h K
  go_enter Try.func37, Try.ntmps37
  go_upto_region 1 with fail
  refine wp_region_loose 10 (fun _ _ u => DecR A b R u) (by kernel_rfl) (by kernel_rfl) ?_
  simp only [List.take_succ_cons, List.take_zero, List.drop_succ_cons, List.drop_zero]
  iterate 2 (refine loose_wanted rfl (fun K hK => ?_); go_simp; refine hK _ ?_; clear hK K)
  ((with_reducible apply loose_flit); rfl; rfl; rfl; rfl; assumption; assumption)
  with_reducible refine loose_wanted ?_ (fun K1 hK => ?_)
  kernel_rfl
  go_simp
  refine ⟨fun p => (K3.out p.w).mono ?_, ?_⟩
  · rintro e w' ⟨⟨E, y, x, rfl, g1, g2, g3, g4, g5⟩, m, rfl⟩
    exact ⟨_, rfl, ⟨E, y, x, rfl, g1, g2, g3, g4, g5⟩, below_drewN p.h _⟩
  rintro u ⟨E, y, x, rfl, f6, n6, f7, n7, hR⟩
  refine hK _ ?_
  clear hK K1
  iterate 2 (refine loose_wanted rfl (fun K hK => ?_); go_simp; refine hK _ ?_; clear hK K)
  ((with_reducible apply loose_flit); rfl; rfl; rfl; rfl; assumption; assumption)
  iterate 2 (refine loose_wanted rfl (fun K hK => ?_); go_simp; refine hK _ ?_; clear hK K)
  ((with_reducible apply loose_flit); rfl; rfl; rfl; rfl; assumption; assumption)
  refine loose_nil (fun w5 hb5 => ?_)
  go_wp2_with fail
  go_ret
  exact ⟨⟨_, rfl, hR⟩, hb5⟩
theorem Decode_4 (R : Nat → Prop) (hR : ∀ x, R x → cn .f32 x = x) (h : LogC A b v s l t a L ww q) (K : ∀ w, Calls Try.prog 38 #[.float .f32 q] w fun e w' => (∃ E y x, e = .returned (.float .f32 E) ∧ fop .sub .f32 (cn .f32 E) (cn .f32 b) = y ∧ isN .f32 y = false ∧ fop .quo .f32 (cn .f32 y) (cn .f32 A) = x ∧ isN .f32 x = false ∧ R x) ∧ ∃ m, w' = w.drewN m)
    (w : World) (hE : trE 4 A b c = 0) : Calls Try.prog 7 #[trV 4 A b c, .float .f32 ww] w fun e w' => (∃ x, e = .returned (.tuple #[.float .f32 x, .int .i64 0]) ∧ R x) ∧ Below w.heap.size w w' := by
  have HC := Lib.hid (fun w => CheckTransfer_any 4 A b c w)
  rw [hE] at HC
  have HQ := Lib.hid h; have HK := Lib.hid K; have HR := Lib.hid hR
  clear h hE K hR
  go_enter Try.func7, Try.ntmps7
  go_wp2_with (first | (go_at_call 16; refine (Clean_any _ _).mono ?_; rintro e w' ⟨rfl, rfl⟩) | (go_at_call 15; refine (HC.out _).mono ?_; rintro e w1 ⟨rfl, hb1⟩; have k1 : Blk w1 w.heap.size [.int .i64 4, .float .f32 A, .float .f32 b, .float .f32 c] := (Blk.new _ _ _ _ rfl).past hb1; have k10 := k1.c 0 _ rfl; have k11 := k1.c 1 _ rfl; have k12 := k1.c 2 _ rfl; have k13 := k1.c 3 _ rfl; have k1l := k1.lt; have hbA : Below w.heap.size w w1 := Below.trans (by (repeat (first | exact Below.refl _ _ | assumption | (refine Below.setCell ?_ (by first | (simp; done) | (simp; omega) | omega) _) | (refine Below.drew ?_) | (refine below_drewN ?_ _) | (refine Below.alloc ?_ (by first | (simp; done) | (simp; omega) | omega) _) | (refine Below.trans ?_ (Below.mono (by assumption) (by first | (simp; done) | (simp; omega) | omega)))))) (hb1.mono (by simp)); clear k1 hb1) | (go_at_call 18; refine (decoder_4 HQ.out _).mono ?_; rintro e w2 ⟨g2, rfl, hb2, hk2, hk3⟩) | (go_at_call 37; refine (decB_4 R HQ.out HK.out _ _ _ hk2 hk3).mono ?_; rintro e w3 ⟨⟨x, rfl, hx⟩, hb3⟩; have hcx := HR.out x hx))
  go_ret2
  exact ⟨⟨x, rfl, hx⟩, hbA.trans ((hb2.trans (hb3.mono hb2.size)).mono hbA.size)⟩
end
end Go.Proofs.Ytokmjboaeamogaa

namespace Go.Proofs.Ytokmjboaeamogaa
open Go Go.RowKit
/-- x is a number near v. -/
def NearV (v x : Nat) : Prop := isNum .f32 x = true ∧ Nr (val .f32 x) (val .f32 v) (1 / 8192)
theorem up_val32 {v : Nat} (hn : isNum .f32 v = true) : isNum .f64 (fcv .f32 .f64 v) = true ∧ val .f64 (fcv .f32 .f64 v) = val .f32 v := by
  obtain ⟨u1, u2, u3⟩ := up_exact hn
  exact ⟨u1, by rw [val_sg, val_sg, u2, u3]⟩
set_option maxHeartbeats 1600000 in
theorem log_codes (A b v : Nat) (hA : isNum .f32 A = true) (hb : isNum .f32 b = true) (hv : isNum .f32 v = true) (v0 : 0 ≤ val .f32 v) (v1 : val .f32 v ≤ 1) (a0 : 1 ≤ val .f32 A) (a1 : val .f32 A ≤ 1024) (b0 : 1 / 1024 ≤ val .f32 b) (b1 : val .f32 b ≤ 1) :
    ∃ s l t a L ww q, LogC A b v s l t a L ww q ∧ ∀ w, Calls Try.prog 38 #[.float .f32 q] w fun e w' => (∃ E y x, e = .returned (.float .f32 E) ∧ fop .sub .f32 (cn .f32 E) (cn .f32 b) = y ∧ isN .f32 y = false ∧ fop .quo .f32 (cn .f32 y) (cn .f32 A) = x ∧ isN .f32 x = false ∧ NearV v x) ∧ ∃ m, w' = w.drewN m := by
  have e24 : eQ = 1 / 16777216 := rfl
  have sm : (2 : Rat) ^ (-101 : Int) ≤ 1 / 1000 := by decide +kernel
  have bg : (100000 : Rat) < (2 : Rat) ^ (99 : Int) := by decide +kernel
  have lo : (2 : Rat) ^ (-120 : Int) ≤ 1 / 3000 := by decide +kernel
  have hi : (3000 : Rat) ≤ (2 : Rat) ^ (120 : Int) := by decide +kernel
  have lo11 : (2 : Rat) ^ (-11 : Int) = 1 / 2048 := by decide +kernel
  have hi11 : (2 : Rat) ^ (11 : Int) = 2048 := by decide +kernel
  have lo126 : (2 : Rat) ^ (-126 : Int) * (99 / 100) ≤ 1 / 3000 := by decide +kernel
  have hi128 : (3000 : Rat) ≤ (2 : Rat) ^ (128 : Int) * (16777215 / 16777216) := by decide +kernel
  obtain ⟨vv, hvv⟩ : ∃ vv, vv = val .f32 v := ⟨_, rfl⟩
  obtain ⟨aa, haa⟩ : ∃ aa, aa = val .f32 A := ⟨_, rfl⟩
  obtain ⟨bb, hbb⟩ : ∃ bb, bb = val .f32 b := ⟨_, rfl⟩
  rw [← hvv] at v0 v1
  rw [← haa] at a0 a1
  rw [← hbb] at b0 b1
  have va0 : 0 ≤ vv * aa := Rat.mul_nonneg v0 (by grind)
  have va1 : vv * aa ≤ 1 * aa := Rat.mul_le_mul_of_nonneg_right v1 (by grind)
  obtain ⟨n1, r1⟩ := add32 (x := A) (y := b) (aa + bb) hA hb (by grind) (by grind) (by rw [← haa, ← hbb]; grind) (by rw [← haa, ← hbb]; grind)
  rw [← haa, ← hbb] at r1
  obtain ⟨s, hs⟩ : ∃ s, s = fop .add .f32 A b := ⟨_, rfl⟩
  rw [← hs] at n1 r1
  have s1 : 10009 / 10000 ≤ val .f32 s := by unfold Nr at r1; rw [e24] at r1; grind
  have s2 : val .f32 s ≤ 1027 := by unfold Nr at r1; rw [e24] at r1; grind
  obtain ⟨l, ⟨nl, -, -, ds, hds, hls⟩, K1⟩ := Log2_det s n1 (by grind) (by grind)
  have d1 := log_low hds s1
  obtain ⟨-, d2⟩ := logp_11 hds (by rw [lo11]; grind) (by rw [hi11]; grind)
  have l0 : 99 / 100000 ≤ val .f32 l := by unfold Nr at hls; grind
  have l1 : val .f32 l ≤ 13 := by unfold Nr at hls; grind
  obtain ⟨n2, r2⟩ := mul32 (x := v) (y := A) (vv * aa + 1 / 1000) hv hA (by grind) (by grind) (by rw [← hvv, ← haa]; grind) (by rw [← hvv, ← haa]; grind)
  rw [← hvv, ← haa] at r2
  obtain ⟨t, ht⟩ : ∃ t, t = fop .mul .f32 v A := ⟨_, rfl⟩
  rw [← ht] at n2 r2
  have t1 : Nr (val .f32 t) (vv * aa) (1 / 10000) := by unfold Nr at *; rw [e24] at r2; grind
  obtain ⟨n3, r3⟩ := add32 (x := t) (y := b) (vv * aa + bb + 1 / 100) n2 hb (by grind) (by grind) (by rw [← hbb]; unfold Nr at t1; grind) (by rw [← hbb]; unfold Nr at t1; grind)
  rw [← hbb] at r3
  obtain ⟨a, ha⟩ : ∃ a, a = fop .add .f32 t b := ⟨_, rfl⟩
  rw [← ha] at n3 r3
  have ra : Nr (val .f32 a) (vv * aa + bb) (3 * eQ * (aa + 1)) := by unfold Nr at *; rw [e24] at *; constructor <;> grind
  have al : 1 / 2000 ≤ val .f32 a := by unfold Nr at ra; rw [e24] at ra; grind
  have ah : val .f32 a ≤ 1027 := by unfold Nr at ra; rw [e24] at ra; grind
  have ah2 : val .f32 a ≤ 21 / 10 * aa := by unfold Nr at ra; rw [e24] at ra; grind
  obtain ⟨L, ⟨nL, -, -, d, hd, hL⟩, K2⟩ := Log2_det a n3 (by grind) (by grind)
  obtain ⟨g1, g2⟩ := logp_11 hd (by rw [lo11]; grind) (by rw [hi11]; grind)
  have L0 : -13 ≤ val .f32 L := by unfold Nr at hL; grind
  have L1 : val .f32 L ≤ 13 := by unfold Nr at hL; grind
  have lp : 0 < val .f32 l := by grind
  have lz : val .f32 l ≠ 0 := by grind
  obtain ⟨w0, hw0⟩ : ∃ w0, w0 * val .f32 l = val .f32 L := ⟨val .f32 L / val .f32 l, Rat.div_mul_cancel lz⟩
  obtain ⟨Bq, hBq⟩ : ∃ Bq, Bq * val .f32 l = 14 := ⟨14 / val .f32 l, Rat.div_mul_cancel lz⟩
  have B0 : 1 ≤ Bq := le_canc lp (by rw [hBq]; grind)
  have B1 : Bq ≤ 20000 := le_canc lp (by rw [hBq]; grind)
  obtain ⟨n4, r4⟩ := quo32 (x := L) (y := l) (q := w0) Bq nL nl lz hw0 (by grind) (by grind) (le_canc lp (by rw [Rat.neg_mul, hBq, hw0]; grind)) (le_canc lp (by rw [hBq, hw0]; grind))
  obtain ⟨ww, hww⟩ : ∃ ww, ww = fop .quo .f32 L l := ⟨_, rfl⟩
  rw [← hww] at n4 r4
  have r4' : Nr (val .f32 ww * val .f32 l) (val .f32 L) (28 * eQ) := by
    unfold Nr at r4
    obtain ⟨p1, p2⟩ := mul_in (x := val .f32 ww - w0) (y := val .f32 l) (b := Bq * (2 * eQ)) (c := val .f32 l) (by grind) (by grind) (by grind) (by grind)
    have e1 : Bq * (2 * eQ) * val .f32 l = 28 * eQ := by
      have : Bq * (2 * eQ) * val .f32 l = 2 * eQ * (Bq * val .f32 l) := by grind
      rw [this, hBq]; grind
    have e2 : (val .f32 ww - w0) * val .f32 l = val .f32 ww * val .f32 l - val .f32 L := by rw [← hw0]; grind
    rw [e1, e2] at p1 p2
    unfold Nr
    constructor <;> grind
  have r4'' := r4'
  unfold Nr at r4''
  rw [e24] at r4''
  obtain ⟨n5, r5⟩ := mul32 (x := ww) (y := l) 14 n4 nl (by grind) (by grind) (by grind) (by grind)
  obtain ⟨q, hq⟩ : ∃ q, q = fop .mul .f32 ww l := ⟨_, rfl⟩
  rw [← hq] at n5 r5
  refine ⟨s, l, t, a, L, ww, q, ⟨(flt32 hA hb hs.symm n1).1, isNum_not_nan n1, K1, (flt32 hv hA ht.symm n2).1, isNum_not_nan n2, (flt32 n2 hb ha.symm n3).1, isNum_not_nan n3, K2, (flt32 nL nl hww.symm n4).1, isNum_not_nan n4, cn_num n4, (flt32 n4 nl hq.symm n5).1, isNum_not_nan n5⟩, fun w => ?_⟩
  obtain ⟨nu, vu⟩ := up_val32 n5
  have q0 : -14 ≤ val .f32 q := by unfold Nr at r5; rw [e24] at r5; grind
  have q1 : val .f32 q ≤ 14 := by unfold Nr at r5; rw [e24] at r5; grind
  refine (Exp2_of q _ (fun V p => isNum .f32 p = true ∧ Nr (val .f32 p) (val .f64 V) (val .f64 V * (1 / 16600000)) ∧ ExpP (val .f32 q) (val .f64 V)) w n5 rfl nu (fun w => ?_)).mono ?_
  · refine (exponential_any _ w nu (by rw [vu]; grind) (by rw [vu]; grind)).mono ?_
    rintro e w' ⟨⟨V, rfl, hV, hE⟩, hw⟩
    rw [vu] at hE
    have hf := back_gen hd (e := 1 / 100000) (by grind) (by unfold Nr at *; rw [e24] at *; constructor <;> grind) hE
    unfold Nr at hf
    obtain ⟨o1, o2, o3⟩ := down_rel hV (by grind) (by grind)
    exact ⟨⟨V, _, rfl, o1, rfl, isNum_not_nan o2, o2, o3, hE⟩, hw⟩
  · rintro e w' ⟨⟨V, E, rfl, nE, hE, hV⟩, hw⟩
    refine ⟨?_, hw⟩
    have hf := back_gen hd (e := 1 / 100000) (by grind) (by unfold Nr at *; rw [e24] at *; constructor <;> grind) hV
    have hf' := hf
    have hE' := hE
    unfold Nr at hf' hE'
    have E1 : val .f32 E ≤ 22 / 10 * aa := by grind
    have E0 : 0 ≤ val .f32 E := by grind
    obtain ⟨n6, r6⟩ := sub32 (x := E) (y := b) (3 * aa) nE hb (by grind) (by grind) (by rw [← hbb]; grind) (by rw [← hbb]; grind)
    rw [← hbb] at r6
    obtain ⟨y, hy⟩ : ∃ y, y = fop .sub .f32 E b := ⟨_, rfl⟩
    rw [← hy] at n6 r6
    have az : val .f32 A ≠ 0 := by rw [← haa]; grind
    obtain ⟨x0, hx0⟩ : ∃ x0, x0 * val .f32 A = val .f32 y := ⟨val .f32 y / val .f32 A, Rat.div_mul_cancel az⟩
    have hlb := log_back v0 v1 a0 b1 ra hd hL r4' r5 hV hE r6 (by rw [haa]; exact hx0)
    have hlb' := hlb
    unfold Nr at hlb'
    obtain ⟨n7, r7⟩ := quo32 (x := y) (y := A) (q := x0) 2 n6 hA az hx0 (by grind) (by grind) (by grind) (by grind)
    refine ⟨E, y, _, rfl, (flt32 nE hb hy.symm n6).1, isNum_not_nan n6, (flt32 n6 hA rfl n7).1, isNum_not_nan n7, n7, ?_⟩
    rw [← hvv]
    unfold Nr at *
    rw [e24] at r7
    constructor <;> grind
end Go.Proofs.Ytokmjboaeamogaa
