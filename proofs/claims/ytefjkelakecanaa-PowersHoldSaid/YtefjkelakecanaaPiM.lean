/- The law of powers: what its calls answer between the 120th powers of 2. Conditions: those named. -/
import Derived.Test.YtefjkelakecanaaPiL
import Derived.Deep.DeepCutAuto
namespace Go.Proofs.Ytefjkelakecanaa
open Go Go.RowKit
theorem lv_down {P : Program} {s d : TypeId} (hs : P.underlying s = some (.float .f64)) (hd : P.underlying d = some (.float .f32)) {b : Nat} (hn : isNum .f64 b = true) (ho : ovf .f64 .f32 b = false) (w : World) :
    (convert s d (.float .f64 b)).run P w = .ok (.float .f32 (fcv .f64 .f32 b)) w := by
  have e : (Conv.floatToFloat .f64 b .f32).run P w = .ok (.float .f32 (fcv .f64 .f32 b)) w := by
    obtain ⟨m, j, hdc, -, -, -⟩ := decode_num hn
    have hi : isN .f64 b = false := isNum_not_nan hn
    unfold Conv.floatToFloat
    rw [if_neg (by decide), hdc]
    have hov : (FloatKind.f32.decode (FloatKind.f32.encode (.number (sgn FloatKind.f64.format b) m j))).isInfinity = false := by
      unfold ovf at ho; rw [hdc] at ho; exact ho
    simp only [hov]
    rw [fcv_dec hi hdc]
    generalize FloatKind.f32.encode (.number (sgn FloatKind.f64.format b) m j) = X
    rfl
  simp only [convert_ff hs hd, e]
theorem lv_lit {b c : Nat} (hn : isNum .f64 b = true) (ho : ovf .f64 .f32 b = false) (hc : fcv .f64 .f32 b = c) (w : World) :
    (convert 26 22 (.float .f64 b)).run Try.prog w = .ok (.float .f32 c) w := by
  rw [lv_down Try.underlying26 Try.underlying22 hn ho w, hc]
theorem width32 : 2 ^ FloatKind.f32.format.width = 4294967296 := by decide +kernel
theorem one_of {v : Nat} (hv : isNum .f32 v = true) (h : (FloatKind.f32.format.order v 1065353216 == some .eq) = true) (hl : v < 2 ^ FloatKind.f32.format.width) : v = 1065353216 := by
  rw [ord_eq (isNum_not_nan hv) (by decide +kernel), decide_eq_true_eq] at h
  have e : val .f32 v = val .f32 1065353216 := by
    have a := (val_le_key (k := .f32) (x := v) (y := 1065353216)).2 (by omega)
    have b := (val_le_key (k := .f32) (x := 1065353216) (y := v)).2 (by omega)
    grind
  exact bits_of_val hl (by decide +kernel) e (by rw [e]; decide +kernel)
theorem neg_ord {v : Nat} (hv : isNum .f32 v = true) (h1 : (2 : Rat) ^ (-120 : Int) ≤ val .f32 v) : (FloatKind.f32.format.order v 0 == some .lt) = false := by
  have z := zp_pos (-120)
  rw [ord_lt (isNum_not_nan hv) (by decide +kernel), decide_eq_false_iff_not, Int.not_lt]
  refine val_le_key.1 ?_
  rw [show val .f32 0 = 0 by decide +kernel]; grind
theorem Power_1 (v : Nat) (w : World) (hl : v < 2 ^ FloatKind.f32.format.width) (hv : isNum .f32 v = true) (h1 : (2 : Rat) ^ (-120 : Int) ≤ val .f32 v) :
    Calls Try.prog 13 #[.float .f32 v, .float .f32 1065353216] w fun e w' => e = .returned (.float .f32 v) ∧ w = w' := by
  cases h : (FloatKind.f32.format.order v 1065353216 == some .eq) with
  | true =>
    obtain rfl := one_of hv h hl
    exact Power_base _ w (by decide +kernel) (by decide +kernel)
  | false =>
    obtain ⟨o3, o4, -⟩ := pos_ords hv h1
    obtain ⟨o0, -, o5⟩ := num_ords hv
    exact Power_one v w o0 h (neg_ord hv h1) o3 o4 o5
theorem Power_2 (v : Nat) (w : World) (hl : v < 2 ^ FloatKind.f32.format.width) (hv : isNum .f32 v = true) (h1 : (2 : Rat) ^ (-120 : Int) ≤ val .f32 v) (h2 : val .f32 v ≤ (2 : Rat) ^ (120 : Int))
    (hn : isNum .f32 (fop .mul .f32 v v) = true) (hs : (2 : Rat) ^ (-126 : Int) ≤ val .f32 (fop .mul .f32 v v)) :
    Calls Try.prog 13 #[.float .f32 v, .float .f32 1073741824] w fun e w' => (∃ p, e = .returned (.float .f32 p) ∧ SquareR (val .f32 v) p) ∧ ∃ m, w' = w.drewN m := by
  cases h : (FloatKind.f32.format.order v 1065353216 == some .eq) with
  | true =>
    obtain rfl := one_of hv h hl
    refine (Power_base _ w (by decide +kernel) (by decide +kernel)).mono ?_
    rintro e w' ⟨rfl, rfl⟩
    exact ⟨⟨_, rfl, by unfold SquareR Nr; decide +kernel⟩, 0, rfl⟩
  | false => exact Power_two v w hl hv h1 h2 h hn hs
/-- A positive number's double, made smaller by a power of 2: exact. -/
theorem Ldexp_less {v : Nat} (n : Int) (w : World) (hv : isNum .f32 v = true) (h1 : (2 : Rat) ^ (-126 : Int) ≤ val .f32 v) (n1 : -100 ≤ n) (n2 : n ≤ 100) :
    Calls Try.prog 9 #[.float .f64 (fcv .f32 .f64 v), .int .i64 n] w fun e w' => ∃ r, e = .returned (.float .f64 r) ∧ (isNum .f64 r = true ∧ isN .f64 r = false ∧ val .f64 r = val .f32 v * (2 : Rat) ^ n) ∧ ∃ m, w' = w.drewN m := by
  obtain ⟨x1, x2, -⟩ := up_exact hv
  have e1 := up_val hv
  have z := zp_pos (-126)
  have hx := fcv_lt .f32 .f64 v
  have k0 : key FloatKind.f64.format 4039728865751334912 = 4039728865751334912 := by decide +kernel
  have c0 : val .f64 4039728865751334912 = (2 : Rat) ^ (-126 : Int) := by decide +kernel
  have k1 : key FloatKind.f64.format 5183643171103440896 = 5183643171103440896 := by decide +kernel
  have c1 : val .f64 5183643171103440896 = (2 : Rat) ^ (128 : Int) := by decide +kernel
  have g0 := val_le_key.1 (show val .f64 4039728865751334912 ≤ val .f64 (fcv .f32 .f64 v) by rw [c0, e1]; exact h1)
  have g1 := val_lt_key.1 (show val .f64 (fcv .f32 .f64 v) < val .f64 5183643171103440896 by rw [c1, e1]; exact num_top hv)
  have hs : sgn FloatKind.f64.format (fcv .f32 .f64 v) = false := by
    cases h : sgn FloatKind.f64.format (fcv .f32 .f64 v) with
    | false => rfl
    | true =>
      have : key FloatKind.f64.format (fcv .f32 .f64 v) = -(rung FloatKind.f64.format (fcv .f32 .f64 v) : Int) := by unfold key; rw [h]; rfl
      omega
  have hk : fcv .f32 .f64 v < 2 ^ 63 := by
    have hx : fcv .f32 .f64 v < 2 ^ 64 := hx
    unfold sgn at hs; rw [show FloatKind.f64.format.signWeight = 2 ^ 63 by decide] at hs
    simp only [beq_eq_false_iff_ne] at hs
    omega
  rw [key_pos hk] at g0 g1
  rw [k0] at g0
  rw [k1] at g1
  refine (Ldexp_val n w x1 hs hx (by omega) (by omega) (by omega)).mono ?_
  rintro e w' ⟨r, rfl, ⟨r1, -, r3⟩, hw⟩
  exact ⟨r, rfl, ⟨r1, isNum_not_nan r1, by rw [r3, e1]⟩, hw⟩
theorem Ldexp_m120 (w : World) : Calls Try.prog 9 #[.float .f64 4607182418800017408, .int .i64 (-120)] w fun e w' => e = .returned (.float .f64 4066750463515557888) ∧ ∃ m, w' = w.drewN m := Ldexp_one (-120) w (by decide) (by decide)
theorem Ldexp_p120 (w : World) : Calls Try.prog 9 #[.float .f64 4607182418800017408, .int .i64 120] w fun e w' => e = .returned (.float .f64 5147614374084476928) ∧ ∃ m, w' = w.drewN m := Ldexp_one 120 w (by decide) (by decide)
theorem Ldexp_m126 (w : World) : Calls Try.prog 9 #[.float .f64 4607182418800017408, .int .i64 (-126)] w fun e w' => e = .returned (.float .f64 4039728865751334912) ∧ ∃ m, w' = w.drewN m := Ldexp_one (-126) w (by decide) (by decide)
/-- Between the bounds as codes: a number between the bounds. -/
theorem ph_bounds {v : Nat} (h1 : ((FloatKind.f32.format.order v 58720256 == some .gt) || (FloatKind.f32.format.order v 58720256 == some .eq)) = true) (h2 : ((FloatKind.f32.format.order v 2071986176 == some .lt) || (FloatKind.f32.format.order v 2071986176 == some .eq)) = true) :
    isNum .f32 v = true ∧ (2 : Rat) ^ (-120 : Int) ≤ val .f32 v ∧ val .f32 v ≤ (2 : Rat) ^ (120 : Int) := by
  have hn : isN .f32 v = false := by
    cases h : isN .f32 v with
    | false => rfl
    | true => rw [ord_nan_l _ h] at h1; cases h1
  have m1 : isN .f32 58720256 = false := by decide +kernel
  have m2 : isN .f32 2071986176 = false := by decide +kernel
  rw [ord_gt hn m1, ord_eq hn m1] at h1
  rw [ord_lt hn m2, ord_eq hn m2] at h2
  simp only [Bool.or_eq_true, decide_eq_true_eq] at h1 h2
  have k1 : key FloatKind.f32.format 58720256 = 58720256 := by decide +kernel
  have k2 : key FloatKind.f32.format 2071986176 = 2071986176 := by decide +kernel
  refine ⟨?_, ?_, ?_⟩
  · unfold isNum
    rw [f32_ir, decide_eq_true_eq]
    unfold key at h1 h2 k1 k2
    split at h1 <;> omega
  · have := (val_le_key (k := .f32) (x := 58720256) (y := v)).2 (by omega)
    rwa [show val .f32 58720256 = (2 : Rat) ^ (-120 : Int) by decide +kernel] at this
  · have := (val_le_key (k := .f32) (x := v) (y := 2071986176)).2 (by omega)
    rwa [show val .f32 2071986176 = (2 : Rat) ^ (120 : Int) by decide +kernel] at this
theorem sq_bounds {s : Nat} (hn : isN .f32 s = false) (h1 : (FloatKind.f32.format.order s 2139095039 == some .gt) = false) (h2 : (FloatKind.f32.format.order s 8388608 == some .lt) = false) :
    isNum .f32 s = true ∧ (2 : Rat) ^ (-126 : Int) ≤ val .f32 s := by
  have m1 : isN .f32 2139095039 = false := by decide +kernel
  have m2 : isN .f32 8388608 = false := by decide +kernel
  rw [ord_gt hn m1] at h1
  rw [ord_lt hn m2] at h2
  simp only [decide_eq_false_iff_not] at h1 h2
  have k1 : key FloatKind.f32.format 2139095039 = 2139095039 := by decide +kernel
  have k2 : key FloatKind.f32.format 8388608 = 8388608 := by decide +kernel
  refine ⟨?_, ?_⟩
  · unfold isNum
    rw [f32_ir, decide_eq_true_eq]
    unfold key at h1 h2 k1 k2
    split at h1 <;> omega
  · have := (val_le_key (k := .f32) (x := 8388608) (y := s)).2 (by omega)
    rwa [show val .f32 8388608 = (2 : Rat) ^ (-126 : Int) by decide +kernel] at this
end Go.Proofs.Ytefjkelakecanaa
