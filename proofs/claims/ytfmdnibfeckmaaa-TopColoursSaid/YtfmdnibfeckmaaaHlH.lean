/- A pixel of a hue: colour.FromHSV. No condition. -/
import Derived.Test.YtfmdnibfeckmaaaHlN
namespace Go.Proofs.Ytfmdnibfeckmaaa
open Go.RowKit
theorem wpList_flit {P : Program} {ops : Array Oper} {rest : List Oper} {a : Act} {w : World} {Q : Exit → Act → World → Prop} {dst : Option Tmp} {ty : TypeId} {x y : Operand} {pos : String} {after : Array Edge} {op : BinOp} {t t' : TypeId} {k : FloatKind} {u v c : Nat} (ho : arith op = true) (hx : a.eval x = .float k u) (hy : a.eval y = .float k v) (hc : fop op k (cn k u) (cn k v) = c) (hn : isN k c = false)
    (h : ∀ n, wpList P ops Q rest (a.put dst (.float k c)) (w.drewN n)) :
    wpList P ops Q ({ dst, op := .binOp op t x y t', type := ty, pos, after, guard := none } :: rest) a w :=
  wpList_farith ho hx hy fun r n hr => by rw [hc] at hr; rw [FR.exact hr hn]; exact h n
theorem idx6_0 (a0 a1 a2 a3 a4 a5 a6 a7 a8 a9 a10 a11 a12 a13 a14 a15 a16 a17 : Nat) (w : World) : (Instr.index 79 (.agg #[.float .f32 a0, .float .f32 a1, .float .f32 a2, .float .f32 a3, .float .f32 a4, .float .f32 a5, .float .f32 a6, .float .f32 a7, .float .f32 a8, .float .f32 a9, .float .f32 a10, .float .f32 a11, .float .f32 a12, .float .f32 a13, .float .f32 a14, .float .f32 a15, .float .f32 a16, .float .f32 a17]) (.int .i64 0)).run Try.prog w = .ok (.agg #[.float .f32 a0, .float .f32 a1, .float .f32 a2]) w := by kernel_rfl
theorem idx6_1 (a0 a1 a2 a3 a4 a5 a6 a7 a8 a9 a10 a11 a12 a13 a14 a15 a16 a17 : Nat) (w : World) : (Instr.index 79 (.agg #[.float .f32 a0, .float .f32 a1, .float .f32 a2, .float .f32 a3, .float .f32 a4, .float .f32 a5, .float .f32 a6, .float .f32 a7, .float .f32 a8, .float .f32 a9, .float .f32 a10, .float .f32 a11, .float .f32 a12, .float .f32 a13, .float .f32 a14, .float .f32 a15, .float .f32 a16, .float .f32 a17]) (.int .i64 1)).run Try.prog w = .ok (.agg #[.float .f32 a3, .float .f32 a4, .float .f32 a5]) w := by kernel_rfl
theorem idx6_2 (a0 a1 a2 a3 a4 a5 a6 a7 a8 a9 a10 a11 a12 a13 a14 a15 a16 a17 : Nat) (w : World) : (Instr.index 79 (.agg #[.float .f32 a0, .float .f32 a1, .float .f32 a2, .float .f32 a3, .float .f32 a4, .float .f32 a5, .float .f32 a6, .float .f32 a7, .float .f32 a8, .float .f32 a9, .float .f32 a10, .float .f32 a11, .float .f32 a12, .float .f32 a13, .float .f32 a14, .float .f32 a15, .float .f32 a16, .float .f32 a17]) (.int .i64 2)).run Try.prog w = .ok (.agg #[.float .f32 a6, .float .f32 a7, .float .f32 a8]) w := by kernel_rfl
theorem idx6_3 (a0 a1 a2 a3 a4 a5 a6 a7 a8 a9 a10 a11 a12 a13 a14 a15 a16 a17 : Nat) (w : World) : (Instr.index 79 (.agg #[.float .f32 a0, .float .f32 a1, .float .f32 a2, .float .f32 a3, .float .f32 a4, .float .f32 a5, .float .f32 a6, .float .f32 a7, .float .f32 a8, .float .f32 a9, .float .f32 a10, .float .f32 a11, .float .f32 a12, .float .f32 a13, .float .f32 a14, .float .f32 a15, .float .f32 a16, .float .f32 a17]) (.int .i64 3)).run Try.prog w = .ok (.agg #[.float .f32 a9, .float .f32 a10, .float .f32 a11]) w := by kernel_rfl
theorem idx6_4 (a0 a1 a2 a3 a4 a5 a6 a7 a8 a9 a10 a11 a12 a13 a14 a15 a16 a17 : Nat) (w : World) : (Instr.index 79 (.agg #[.float .f32 a0, .float .f32 a1, .float .f32 a2, .float .f32 a3, .float .f32 a4, .float .f32 a5, .float .f32 a6, .float .f32 a7, .float .f32 a8, .float .f32 a9, .float .f32 a10, .float .f32 a11, .float .f32 a12, .float .f32 a13, .float .f32 a14, .float .f32 a15, .float .f32 a16, .float .f32 a17]) (.int .i64 4)).run Try.prog w = .ok (.agg #[.float .f32 a12, .float .f32 a13, .float .f32 a14]) w := by kernel_rfl
theorem idx6_5 (a0 a1 a2 a3 a4 a5 a6 a7 a8 a9 a10 a11 a12 a13 a14 a15 a16 a17 : Nat) (w : World) : (Instr.index 79 (.agg #[.float .f32 a0, .float .f32 a1, .float .f32 a2, .float .f32 a3, .float .f32 a4, .float .f32 a5, .float .f32 a6, .float .f32 a7, .float .f32 a8, .float .f32 a9, .float .f32 a10, .float .f32 a11, .float .f32 a12, .float .f32 a13, .float .f32 a14, .float .f32 a15, .float .f32 a16, .float .f32 a17]) (.int .i64 5)).run Try.prog w = .ok (.agg #[.float .f32 a15, .float .f32 a16, .float .f32 a17]) w := by kernel_rfl
/-- The hue's sixth as a single, and as an index. -/
def iF (h : Nat) : Nat := if FloatKind.f32.format.order (flF (sixF h)) 1084227584 == some .gt then 1084227584 else flF (sixF h)
def jF (h : Nat) : Nat := if FloatKind.f32.format.order (flF (sixF h)) 1084227584 == some .gt then 5 else ((floatToIntVal .f32 (flF (sixF h)) .i64).getD 0).toNat
def ffF (h : Nat) : Nat := fop .sub .f32 (cn .f32 (sixF h)) (cn .f32 (iF h))
def hpF (s v : Nat) : Nat := fop .mul .f32 (cn .f32 v) (fop .sub .f32 (cn .f32 1065353216) (cn .f32 s))
def hqF (h s v : Nat) : Nat := fop .mul .f32 (cn .f32 v) (fop .sub .f32 (cn .f32 1065353216) (fop .mul .f32 (cn .f32 s) (ffF h)))
def htF (h s v : Nat) : Nat := fop .mul .f32 (cn .f32 v) (fop .sub .f32 (cn .f32 1065353216) (fop .mul .f32 (cn .f32 s) (fop .sub .f32 (cn .f32 1065353216) (ffF h))))
def tabF (j v t p q : Nat) : Nat × Nat × Nat :=
  match j with
  | 0 => (v, t, p)
  | 1 => (q, v, p)
  | 2 => (p, v, t)
  | 3 => (p, q, v)
  | 4 => (t, p, v)
  | _ => (v, p, q)
def pixF (h s v : Nat) : Nat × Nat × Nat := if allNum [h, s, v] then tabF (jF h) (cn .f32 v) (htF h s v) (hpF s v) (hqF h s v) else (2143289344, 2143289344, 2143289344)
/-- What a walk needs to be told of a hue that is a number. -/
theorem hue_cases {h : Nat} (hh : isNum .f32 h = true) : isN .f32 (flF h) = false ∧ isN .f32 (flF (sixF h)) = false ∧ isN .f32 (fop .sub .f32 h (flF h)) = false ∧ isN .f32 (sixF h) = false ∧
    fop .sub .f32 (cn .f32 h) (cn .f32 (flF h)) = fop .sub .f32 h (flF h) ∧ fop .mul .f32 (cn .f32 (fop .sub .f32 h (flF h))) (cn .f32 1086324736) = sixF h ∧
    ∃ (g : Bool) (k : Nat), (FloatKind.f32.format.order (flF (sixF h)) 1084227584 == some .gt) = g ∧ (FloatKind.f64.format.order (fwhole .down (fcv .f32 .f64 (sixF h))) 4617315517961601024 == some .gt) = g ∧ isN .f64 (fwhole .down (fcv .f32 .f64 (sixF h))) = false ∧ iF h = (if g then 1084227584 else flF (sixF h)) ∧ jF h = k ∧
      (g = true → k = 5) ∧ (g = false → k ≤ 5 ∧ floatToIntVal .f32 (flF (sixF h)) .i64 = some (k : Int) ∧ floatToIntVal .f64 (fwhole .down (fcv .f32 .f64 (sixF h))) .i64 = some (k : Int)) := by
  obtain ⟨d1, d2, -⟩ := six_D hh
  obtain ⟨x1, -⟩ := six_X hh
  obtain ⟨N, y1, y2, n1, v1, g1, g2⟩ := six_N hh
  refine ⟨isNum_not_nan d1, isNum_not_nan n1, isNum_not_nan d2, isNum_not_nan x1, by rw [fop_cn_left, fop_cn_right], by rw [fop_cn_left, fop_cn_right]; rfl, ?_⟩
  by_cases hN : 5 < N
  · rw [decide_eq_true hN] at g1 g2
    refine ⟨true, 5, g1, g2, isNum_not_nan y1, by unfold iF; rw [g1], by unfold jF; rw [g1]; rfl, fun _ => rfl, fun h => (by cases h)⟩
  · rw [decide_eq_false hN] at g1 g2
    have s1 := small_int (flF_lt _) n1 v1 (by omega)
    have s2 := f2i_int (x := fwhole .down (fcv .f32 .f64 (sixF h))) (n := (N : Int)) y1 (by rw [y2, Rat.intCast_natCast]) (by omega)
    refine ⟨false, N, g1, g2, isNum_not_nan y1, by unfold iF; rw [g1], by unfold jF; rw [g1, s1]; simp, fun h => (by cases h), fun _ => ⟨by omega, s1, s2⟩⟩
def Way (h k : Nat) (z : Int) : Prop := (FloatKind.f32.format.order (flF (sixF h)) 1084227584 == some .gt) = false ∧ (FloatKind.f64.format.order (fwhole .down (fcv .f32 .f64 (sixF h))) 4617315517961601024 == some .gt) = false ∧ iF h = flF (sixF h) ∧ jF h = k ∧ floatToIntVal .f32 (flF (sixF h)) .i64 = some z ∧ floatToIntVal .f64 (fwhole .down (fcv .f32 .f64 (sixF h))) .i64 = some z
theorem hue_ways {h : Nat} (hh : isNum .f32 h = true) :
    ((FloatKind.f32.format.order (flF (sixF h)) 1084227584 == some .gt) = true ∧ (FloatKind.f64.format.order (fwhole .down (fcv .f32 .f64 (sixF h))) 4617315517961601024 == some .gt) = true ∧ iF h = 1084227584 ∧ jF h = 5 ∧ floatToIntVal .f32 1084227584 .i64 = some 5 ∧ floatToIntVal .f64 4617315517961601024 .i64 = some 5) ∨
    Way h 0 0 ∨ Way h 1 1 ∨ Way h 2 2 ∨ Way h 3 3 ∨ Way h 4 4 ∨ Way h 5 5 := by
  obtain ⟨-, -, -, -, -, -, g, k, g1, g2, -, hi, hj, c1, c2⟩ := hue_cases hh
  cases g with
  | true => exact .inl ⟨g1, g2, hi, by rw [hj]; exact c1 rfl, by decide +kernel, by decide +kernel⟩
  | false =>
    obtain ⟨hk, s1, s2⟩ := c2 rfl
    have W : Way h k (k : Int) := ⟨g1, g2, hi, hj, s1, s2⟩
    rcases (show k = 0 ∨ k = 1 ∨ k = 2 ∨ k = 3 ∨ k = 4 ∨ k = 5 by omega) with rfl | rfl | rfl | rfl | rfl | rfl
    · exact .inr (.inl W)
    · exact .inr (.inr (.inl W))
    · exact .inr (.inr (.inr (.inl W)))
    · exact .inr (.inr (.inr (.inr (.inl W))))
    · exact .inr (.inr (.inr (.inr (.inr (.inl W)))))
    · exact .inr (.inr (.inr (.inr (.inr (.inr W)))))
theorem ret_px {a b c d a' b' c' : Nat} (h1 : a = a') (h2 : b = b') (h3 : c = c') : Ending.returned (.agg #[.float .f32 a, .float .f32 b, .float .f32 c, .float .f32 d]) = .returned (.agg #[.float .f32 a', .float .f32 b', .float .f32 c', .float .f32 d]) := by rw [h1, h2, h3]
set_option maxRecDepth 100000 in
set_option maxHeartbeats 8000000 in
theorem FromHSV_num (h s v al : Nat) (w : World) (hw : h < 2 ^ FloatKind.f32.format.width) (hall : allNum [h, s, v] = true) : Calls Try.prog 17 #[.float .f32 h, .float .f32 s, .float .f32 v, .float .f32 al] w fun e w' =>
    e = .returned (.agg #[.float .f32 (tabF (jF h) (cn .f32 v) (htF h s v) (hpF s v) (hqF h s v)).1, .float .f32 (tabF (jF h) (cn .f32 v) (htF h s v) (hpF s v) (hqF h s v)).2.1, .float .f32 (tabF (jF h) (cn .f32 v) (htF h s v) (hpF s v) (hqF h s v)).2.2, .float .f32 (cn .f32 al)]) ∧ Below w.heap.size w w' := by
  have hh : isNum .f32 h = true := by
    unfold allNum at hall; revert hall; cases isNum .f32 h <;> simp
  have hw2 := Lib.hid hw; clear hw
  obtain ⟨f1, f2, f3, f4, e1, e2, -⟩ := hue_cases hh
  have ways := hue_ways hh
  clear hh
  have x0 := idx6_0; have x1 := idx6_1; have x2 := idx6_2; have x3 := idx6_3; have x4 := idx6_4; have x5 := idx6_5
  have hw3 : sixF h < 2 ^ FloatKind.f32.format.width := by rw [← e2]; exact fop_lt _ _ _ _
  have hw3' := Lib.hid hw3; clear hw3
  rcases ways with ⟨g1, -, hi, hj, cj, -⟩ | ⟨g1, -, hi, hj, cj, -⟩ | ⟨g1, -, hi, hj, cj, -⟩ | ⟨g1, -, hi, hj, cj, -⟩ | ⟨g1, -, hi, hj, cj, -⟩ | ⟨g1, -, hi, hj, cj, -⟩ | ⟨g1, -, hi, hj, cj, -⟩
  all_goals
    rw [hj]
    go_enter Try.func17, Try.ntmps17
    go_wp2_with (first | (go_at_call 39; refine (All3_any _ _ _ h s v _ (by simp [go_sem]) (by simp [go_sem]) (by simp [go_sem])).mono ?_; rintro e w' ⟨rfl, rfl⟩) | (go_at_call 40; refine (Floor_any _ _ (by first | exact hw2.out | exact hw3'.out)).mono ?_; rintro e w' ⟨⟨t, rfl, ht⟩, m, rfl⟩; obtain rfl := FR.exact ht (by first | exact f1 | exact f2)) | ((with_reducible apply wpList_flit); rfl; rfl; rfl; assumption; assumption; intro _) | ((with_reducible apply wpList_farith); rfl; rfl; rfl; (intro r n hr; replace hr := hr.eq.symm)) | ((with_reducible apply wpList_f2i); rfl; exact Try.underlying22; exact Try.underlying3; intro m n hm; obtain rfl := hm _ cj) | (go_at_call 37; refine (hcleaned_any _ _ _ _ _).mono ?_; rintro e w2 ⟨rfl, hb2⟩; have R2 : Pix4 w2 w.heap.size 0 0 0 0 := Pix4.below ⟨by simp [go_sem], by simp [go_sem], by simp [go_sem], by simp [go_sem], fun o => by simp [go_sem]⟩ hb2 (by first | (simp; done) | (simp; omega)); have B2 : Below w.heap.size w w2 := (by (repeat (first | exact Below.refl _ _ | assumption | (refine Below.setCell ?_ (by first | (simp; done) | (simp; omega) | omega) _) | (refine Below.drew ?_) | (refine below_drewN ?_ _) | (refine Below.alloc ?_ (by first | (simp; done) | (simp; omega) | omega) _) | (refine Below.trans ?_ (Below.mono (by assumption) (by first | (simp; done) | (simp; omega) | omega)))))); have zz := hb2.size; simp at zz; have q2 : w.heap.size < w2.heap.size := (by omega); clear hb2 zz; obtain ⟨d0, d1, d2, d3, df⟩ := R2))
    refine bodyPost_ret (v := .agg #[.float .f32 _, .float .f32 _, .float .f32 _, .float .f32 (cn .f32 al)]) (by simp [results, Try.results17, go_sem, d0, d1, d2, d3]; and_intros <;> rfl) rfl ⟨ret_px ?_ ?_ ?_, ?_⟩
    rotate_left 3
    · exact (((B2.setCell (by simp) _).setCell (by simp) _).setCell (by simp) _).setCell (by simp) _
    all_goals simp [tabF, htF, hpF, hqF, ffF, *]
end Go.Proofs.Ytfmdnibfeckmaaa
