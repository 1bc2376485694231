/- ToHSV and FromHSV of this seat: what the laws of hues need of the elder texts. No condition. (Printed by pick.py.) -/
import Derived.Test.YtfmdnibfeckmaaaHueB
import Derived.Test.YtfmdnibfeckmaaaAbsA
import Derived.Test.YtfmdnibfeckmaaaBH
namespace Go.Proofs.Ytfmdnibfeckmaaa
open Go.RowKit
set_option maxRecDepth 100000 in
set_option maxHeartbeats 800000 in
theorem hcleaned_any (a b c d : Nat) (w : World) : Calls Try.prog 37 #[.float .f32 a, .float .f32 b, .float .f32 c, .float .f32 d] w fun e w' => e = .returned (.agg #[.float .f32 (cn .f32 a), .float .f32 (cn .f32 b), .float .f32 (cn .f32 c), .float .f32 (cn .f32 d)]) ∧ Below w.heap.size w w' := by
  go_enter Try.func37, Try.ntmps37
  go_wp2_with (first | (go_at_call 23; refine (Clean_any _ _).mono ?_; rintro e w' ⟨rfl, rfl⟩))
  refine bodyPost_ret (v := .agg #[.float .f32 (cn .f32 a), .float .f32 (cn .f32 b), .float .f32 (cn .f32 c), .float .f32 (cn .f32 d)]) (by simp [results, Try.results37, go_sem]) rfl ⟨rfl, ?_⟩
  (repeat (first | exact Below.refl _ _ | assumption | (refine Below.setCell ?_ (by first | (simp; done) | (simp; omega) | omega) _) | (refine Below.drew ?_) | (refine below_drewN ?_ _) | (refine Below.alloc ?_ (by first | (simp; done) | (simp; omega) | omega) _) | (refine Below.trans ?_ (Below.mono (by assumption) (by first | (simp; done) | (simp; omega) | omega)))))
theorem flF_cn (v : Nat) : flF (cn .f32 v) = flF v := by unfold flF; rw [fcv_cn]
theorem mul_sgn {k : FloatKind} {x y : Nat} (hx : isNum k x = true) (hy : isNum k y = true) : sgn k.format (fop .mul k x y) = (sgn k.format x ^^ sgn k.format y) := by
  obtain ⟨m, e, d1, v1, -, -⟩ := decode_num hx
  obtain ⟨n, j, d2, v2, -, -⟩ := decode_num hy
  have hf : fop .mul k x y = k.format.nearest (sgn k.format x ^^ sgn k.format y) (m * n) (e + j) := by
    have g1 : k.format.read x = _ := d1
    have g2 : k.format.read y = _ := d2
    unfold fop floatBits Ieee.Format.mul
    simp only []
    rw [g1, g2]; rfl
  rw [hf, sgn_nearest]
theorem val_pos_of {k : FloatKind} {x : Nat} (h : sgn k.format x = false) : 0 ≤ val k x := by
  rw [val_sg, h]; exact vq_nonneg _ _
theorem six_D {h : Nat} (hh : isNum .f32 h = true) : isNum .f32 (flF h) = true ∧ isNum .f32 (fop .sub .f32 h (flF h)) = true ∧ 0 ≤ val .f32 (fop .sub .f32 h (flF h)) ∧ val .f32 (fop .sub .f32 h (flF h)) < 2 ∧ (val .f32 (fop .sub .f32 h (flF h)) = 0 ∨ sgn FloatKind.f32.format (fop .sub .f32 h (flF h)) = false) := by
  obtain ⟨-, -, N, -, b1, b2, n1, v1⟩ := floor_spec hh
  have n1' : isNum .f32 (flF h) = true := n1
  have v1' : val .f32 (flF h) = (N : Rat) := v1
  refine ⟨n1', ?_⟩
  have o : (2 : Rat) ^ (0 : Int) = 1 := Rat.zpow_zero _
  have R := fop_sub_num hh n1' 0 (by decide) (by decide) (by rw [o, v1']; grind) (by rw [o, v1']; grind)
  rw [v1'] at R
  have nr := R.near 0 (by decide) (by decide) (by rw [o]; grind) (by rw [o]; grind)
  have c : (2 : Rat) ^ (0 - 1 - (FloatKind.f32.format.fractionBits : Int)) ≤ 1 := by decide +kernel
  have ub : val .f32 (fop .sub .f32 h (flF h)) < 2 := by grind
  refine ⟨R.num, ?_⟩
  by_cases hq : val .f32 h - (N : Rat) = 0
  · have e := R.exact false 0 0 (by decide) (by decide) (by rw [hq]; simp [sg])
    rw [hq] at e
    rw [e]
    exact ⟨Rat.le_refl, by decide +kernel, .inl rfl⟩
  · have hgt : val .f32 (flF h) < val .f32 h := by rw [v1']; grind
    have hk := val_lt_key.1 hgt
    have ho : (FloatKind.f32.format.order h (flF h) == some .gt) = true := by
      rw [ord_gt (isNum_not_nan hh) (isNum_not_nan n1'), decide_eq_true_eq]; omega
    obtain ⟨-, s, -⟩ := sub_pos n1' ho
    exact ⟨val_pos_of s, ub, .inr s⟩
theorem six_lit : isNum .f32 1086324736 = true ∧ val .f32 1086324736 = 6 ∧ sgn FloatKind.f32.format 1086324736 = false ∧ isNum .f32 1084227584 = true ∧ val .f32 1084227584 = 5 ∧ isNum .f64 4617315517961601024 = true ∧ val .f64 4617315517961601024 = 5 := by
  refine ⟨?_, ?_, ?_, ?_, ?_, ?_, ?_⟩ <;> decide +kernel
/-- The hue in sixths. -/
def sixF (h : Nat) : Nat := fop .mul .f32 (fop .sub .f32 h (flF h)) 1086324736
theorem six_X {h : Nat} (hh : isNum .f32 h = true) : isNum .f32 (sixF h) = true ∧ 0 ≤ val .f32 (sixF h) := by
  obtain ⟨-, d1, d2, d3, d4⟩ := six_D hh
  obtain ⟨l1, l2, l3, -⟩ := six_lit
  have o : (2 : Rat) ^ (4 : Int) = 16 := by decide +kernel
  have R := fop_mul_num d1 l1 4 (by decide) (by decide) (by rw [o, l2]; grind) (by rw [o, l2]; grind)
  refine ⟨R.num, ?_⟩
  rcases d4 with d4 | d4
  · rw [d4, Rat.zero_mul] at R
    have e := R.exact false 0 0 (by decide) (by decide) (by simp [sg])
    unfold sixF
    rw [e]; exact Rat.le_refl
  · refine val_pos_of ?_
    unfold sixF
    rw [mul_sgn d1 l1, d4, l3]; rfl
theorem six_N {h : Nat} (hh : isNum .f32 h = true) : ∃ N : Nat, isNum .f64 (fwhole .down (fcv .f32 .f64 (sixF h))) = true ∧ val .f64 (fwhole .down (fcv .f32 .f64 (sixF h))) = (N : Rat) ∧ isNum .f32 (flF (sixF h)) = true ∧ val .f32 (flF (sixF h)) = (N : Rat) ∧
    (FloatKind.f32.format.order (flF (sixF h)) 1084227584 == some .gt) = decide (5 < N) ∧ (FloatKind.f64.format.order (fwhole .down (fcv .f32 .f64 (sixF h))) 4617315517961601024 == some .gt) = decide (5 < N) := by
  obtain ⟨x1, x2⟩ := six_X hh
  obtain ⟨y1, -, N, y2, b1, b2, n1, v1⟩ := floor_spec x1
  obtain ⟨-, -, -, l4, l5, l6, l7⟩ := six_lit
  have hN : 0 ≤ N := by
    rcases Int.lt_or_le N 0 with h | h
    · exfalso
      have : (N : Rat) + 1 ≤ 0 := by
        have h2 : ((N + 1 : Int) : Rat) ≤ ((0 : Int) : Rat) := Rat.intCast_le_intCast.2 (by omega)
        rw [Rat.intCast_add] at h2
        exact h2
      grind
    · exact h
  obtain ⟨M, rfl⟩ : ∃ M : Nat, N = (M : Int) := ⟨N.toNat, by omega⟩
  rw [Rat.intCast_natCast] at y2 v1
  have n1' : isNum .f32 (flF (sixF h)) = true := n1
  have v1' : val .f32 (flF (sixF h)) = (M : Rat) := v1
  refine ⟨M, y1, y2, n1', v1', ?_, ?_⟩
  · rw [ord_gt (isNum_not_nan n1') (isNum_not_nan l4), decide_eq_decide]
    have := val_lt_key (k := .f32) (x := 1084227584) (y := flF (sixF h))
    rw [l5, v1', show (5 : Rat) = ((5 : Nat) : Rat) from rfl, Rat.natCast_lt_natCast] at this
    exact this.symm
  · rw [ord_gt (isNum_not_nan y1) (isNum_not_nan l6), decide_eq_decide]
    have := val_lt_key (k := .f64) (x := 4617315517961601024) (y := fwhole .down (fcv .f32 .f64 (sixF h)))
    rw [l7, y2, show (5 : Rat) = ((5 : Nat) : Rat) from rfl, Rat.natCast_lt_natCast] at this
    exact this.symm
theorem lits5 : (isNum .f32 1065353216 = true ∧ val .f32 1065353216 = ((1 : Nat) : Rat)) ∧ (isNum .f32 1073741824 = true ∧ val .f32 1073741824 = ((2 : Nat) : Rat)) ∧ (isNum .f32 1077936128 = true ∧ val .f32 1077936128 = ((3 : Nat) : Rat)) ∧ (isNum .f32 1082130432 = true ∧ val .f32 1082130432 = ((4 : Nat) : Rat)) ∧ (isNum .f32 1084227584 = true ∧ val .f32 1084227584 = ((5 : Nat) : Rat)) := by
  refine ⟨⟨?_, ?_⟩, ⟨?_, ?_⟩, ⟨?_, ?_⟩, ⟨?_, ?_⟩, ⟨?_, ?_⟩⟩ <;> decide +kernel
theorem flF_lt (v : Nat) : flF v < 2 ^ FloatKind.f32.format.width := fcv_lt _ _ _
/-- A single that is a whole number from 0 to 5, made an integer. -/
theorem small_int {x N : Nat} (hw : x < 2 ^ FloatKind.f32.format.width) (hx : isNum .f32 x = true) (hv : val .f32 x = (N : Rat)) (hN : N ≤ 5) : floatToIntVal .f32 x .i64 = some (N : Int) := by
  obtain ⟨⟨-, v1⟩, ⟨-, v2⟩, ⟨-, v3⟩, ⟨-, v4⟩, ⟨-, v5⟩⟩ := lits5
  rcases (show N = 0 ∨ N = 1 ∨ N = 2 ∨ N = 3 ∨ N = 4 ∨ N = 5 by omega) with rfl | rfl | rfl | rfl | rfl | rfl
  · have hk := (val_le_key (k := .f32) (x := x) (y := 0)).1 (by rw [hv]; decide +kernel)
    have hk2 := (val_le_key (k := .f32) (x := 0) (y := x)).1 (by rw [hv]; decide +kernel)
    have e0 : key FloatKind.f32.format 0 = 0 := by decide
    rw [e0] at hk hk2
    have hr : rung FloatKind.f32.format x = 0 := by unfold key at hk hk2; split at hk <;> split at hk2 <;> omega
    have hw : x < 4294967296 := hw
    have e : rung FloatKind.f32.format x = x % 2147483648 := rfl
    rcases (show x = 0 ∨ x = 2147483648 by omega) with rfl | rfl
    · decide +kernel
    · decide +kernel
  · obtain rfl := bits_of_val hw (by decide) (hv.trans v1.symm) (by rw [hv]; decide +kernel); decide +kernel
  · obtain rfl := bits_of_val hw (by decide) (hv.trans v2.symm) (by rw [hv]; decide +kernel); decide +kernel
  · obtain rfl := bits_of_val hw (by decide) (hv.trans v3.symm) (by rw [hv]; decide +kernel); decide +kernel
  · obtain rfl := bits_of_val hw (by decide) (hv.trans v4.symm) (by rw [hv]; decide +kernel); decide +kernel
  · obtain rfl := bits_of_val hw (by decide) (hv.trans v5.symm) (by rw [hv]; decide +kernel); decide +kernel
end Go.Proofs.Ytfmdnibfeckmaaa
