/- num.Power of a number between 0 and 1.5, walked. Conditions: what each theorem names. (with: TfQ, TfR, TfS) -/
import Derived.Test.YtokmjboaeamogaaTX
import Derived.Test.YtokmjboaeamogaaTU
import Derived.Test.YtokmjboaeamogaaPiL
namespace Go.Proofs.Ytokmjboaeamogaa
open Go Go.RowKit
theorem up_low {v : Nat} (hv : isNum .f32 v = true) (h1 : (2 : Rat) ^ (-149 : Int) ≤ val .f32 v) (h2 : val .f32 v ≤ (2 : Rat) ^ (120 : Int)) :
    ∃ E f : Nat, fcv .f32 .f64 v = E * 4503599627370496 + f ∧ 822 ≤ E ∧ E ≤ 1222 ∧ f < 4503599627370496 ∧ isNum .f64 (fcv .f32 .f64 v) = true ∧ val .f64 (fcv .f32 .f64 v) = val .f32 v := by
  obtain ⟨u1, u2, u3⟩ := up_exact hv
  have hx : val .f64 (fcv .f32 .f64 v) = val .f32 v := by rw [val_sg, val_sg, u2, u3]
  have hl : fcv .f32 .f64 v < 2 ^ FloatKind.f64.format.width := fcv_lt _ _ _
  obtain ⟨b, hb⟩ : ∃ b, b = fcv .f32 .f64 v := ⟨_, rfl⟩
  rw [← hb] at u1 hx hl ⊢
  have c0 : val .f64 (874 * 4503599627370496) = (2 : Rat) ^ (-149 : Int) := by decide +kernel
  have c1 : val .f64 (1143 * 4503599627370496) = (2 : Rat) ^ (120 : Int) := by decide +kernel
  have k0 : key FloatKind.f64.format (874 * 4503599627370496) = 874 * 4503599627370496 := by decide +kernel
  have k1 : key FloatKind.f64.format (1143 * 4503599627370496) = 1143 * 4503599627370496 := by decide +kernel
  have g0 := val_le_key.1 (show val .f64 (874 * 4503599627370496) ≤ val .f64 b by rw [c0, hx]; exact h1)
  have g1 := val_le_key.1 (show val .f64 b ≤ val .f64 (1143 * 4503599627370496) by rw [c1, hx]; exact h2)
  rw [k0] at g0
  rw [k1] at g1
  have hs : sgn FloatKind.f64.format b = false := by
    cases hs : sgn FloatKind.f64.format b with
    | false => rfl
    | true => exfalso; unfold key at g0; rw [hs] at g0; simp at g0; omega
  have hp : b < 2 ^ 63 := by
    unfold sgn at hs; rw [sw64] at hs
    have hl : b < 2 ^ 64 := hl
    simp only [beq_eq_false_iff_ne] at hs
    omega
  rw [key_pos hp] at g0 g1
  exact ⟨b / 4503599627370496, b % 4503599627370496, by omega, by omega, by omega, by omega, u1, hx⟩
set_option maxHeartbeats 1600000 in
theorem Power_gen (v p u up : Nat) (R : Nat → Prop) (w : World) (o0 : (FloatKind.f32.format.order v v != some .eq) = false) (o1 : (FloatKind.f32.format.order v 1065353216 == some .eq) = false) (o2 : (FloatKind.f32.format.order v 0 == some .lt) = false) (o3 : (FloatKind.f32.format.order v 0 == some .eq) = false)
    (o4 : (FloatKind.f32.format.order v 2139095039 == some .gt) = false) (o5 : (FloatKind.f32.format.order v 4286578687 == some .lt) = false) (p1 : (FloatKind.f32.format.order p p != some .eq) = false) (p2 : (FloatKind.f32.format.order p 0 == some .eq) = false) (p3 : (FloatKind.f32.format.order p 2139095039 == some .gt) = false) (p4 : (FloatKind.f32.format.order p 4286578687 == some .lt) = false) (p5 : (FloatKind.f32.format.order p 1065353216 == some .eq) = false)
    (c1 : fcv .f32 .f64 v = u) (u1 : isN .f64 u = false) (w2 : fcv .f32 .f64 p = up) (w3 : isN .f64 up = false)
    (H : ∀ w, Calls Try.prog 51 #[.float .f64 u] w fun e w' => (∃ D M, e = .returned (.float .f64 D) ∧ fop .mul .f64 (cn .f64 D) (cn .f64 up) = M ∧ isN .f64 M = false ∧
      ∀ w, Calls Try.prog 50 #[.float .f64 M] w fun e w' => (∃ V r, e = .returned (.float .f64 V) ∧ ovf .f64 .f32 V = false ∧ fcv .f64 .f32 V = r ∧ isN .f32 r = false ∧ cn .f32 r = r ∧ R r) ∧ ∃ m, w' = w.drewN m) ∧ ∃ m, w' = w.drewN m) :
    Calls Try.prog 30 #[.float .f32 v, .float .f32 p] w fun e w' => (∃ r, e = .returned (.float .f32 r) ∧ R r) ∧ ∃ m, w' = w.drewN m := by
  have v1 : ovf .f32 .f64 v = false := ovf_up _
  have w1 : ovf .f32 .f64 p = false := ovf_up _
  replace H := Lib.hid H
  go_enter Try.func30, Try.ntmps30
  go_wp2_with (first | ((with_reducible apply wpList_clit); rfl; exact Try.underlying30; exact Try.underlying22; decide; assumption; assumption; assumption; intro _) | ((with_reducible apply wpList_clit); rfl; exact Try.underlying22; exact Try.underlying30; decide; assumption; assumption; assumption; intro _) | (go_at_call 16; refine (Clean_any _ _).mono ?_; rintro e w' ⟨rfl, rfl⟩) | ((with_reducible apply wpList_flit); rfl; rfl; rfl; assumption; (first | assumption | (decide +kernel)); intro _) | (go_at_call 49; refine (infinite_any _ _).mono ?_; rintro e w' ⟨rfl, rfl⟩) | (go_at_call 51; refine (H.out _).mono ?_; rintro e w' ⟨⟨D, M, rfl, f1, f2, HE⟩, m, rfl⟩; replace HE := Lib.hid HE) | (go_at_call 50; refine (HE.out _).mono ?_; rintro e w' ⟨⟨V, r, rfl, v2, c2, n2, d2, hR⟩, m, rfl⟩))
  go_ret
  exact ⟨⟨_, rfl, hR⟩, _, rfl⟩
set_option maxHeartbeats 1600000 in
theorem Power_p1 (v : Nat) (w : World) (o0 : (FloatKind.f32.format.order v v != some .eq) = false) (o1 : (FloatKind.f32.format.order v 1065353216 == some .eq) = false) (o2 : (FloatKind.f32.format.order v 0 == some .lt) = false) (o3 : (FloatKind.f32.format.order v 0 == some .eq) = false)
    (o4 : (FloatKind.f32.format.order v 2139095039 == some .gt) = false) (o5 : (FloatKind.f32.format.order v 4286578687 == some .lt) = false) :
    Calls Try.prog 30 #[.float .f32 v, .float .f32 1065353216] w fun e w' => e = .returned (.float .f32 v) ∧ w = w' := Power_one v w o0 o1 o2 o3 o4 o5
set_option maxHeartbeats 1600000 in
/-- The base 0. -/
theorem Power_zero (v p : Nat) (w : World) (o0 : (FloatKind.f32.format.order v v != some .eq) = false) (o1 : (FloatKind.f32.format.order v 1065353216 == some .eq) = false) (o2 : (FloatKind.f32.format.order v 0 == some .lt) = false) (o3 : (FloatKind.f32.format.order v 0 == some .eq) = true)
    (p1 : (FloatKind.f32.format.order p p != some .eq) = false) (p2 : (FloatKind.f32.format.order p 0 == some .eq) = false) (p6 : (FloatKind.f32.format.order p 0 == some .gt) = true) :
    Calls Try.prog 30 #[.float .f32 v, .float .f32 p] w fun e w' => e = .returned (.float .f32 0) ∧ w = w' := by
  have E : ∀ w, Calls Try.prog 47 #[.bool false] w fun e w' => e = .returned (.float .f32 0) ∧ w = w' := fun w => by
    go_enter Try.func47, Try.ntmps47
    go_wp2
    go_ret
    exact ⟨rfl, rfl⟩
  replace E := Lib.hid E
  go_enter Try.func30, Try.ntmps30
  go_wp2_with (first | (go_at_call 47; refine (E.out _).mono ?_; rintro e w' ⟨rfl, rfl⟩))
  go_ret
  exact ⟨rfl, rfl⟩
set_option maxHeartbeats 1600000 in
/-- An exponent far below. -/
theorem exponential_far (d : Nat) (w : World) (hd : isNum .f64 d = true) (d1 : val .f64 d < -200) :
    Calls Try.prog 50 #[.float .f64 d] w fun e w' => e = .returned (.float .f64 0) ∧ w = w' := by
  have o1 : (FloatKind.f64.format.order d 13864612927836782592 == some .lt) = true := by
    rw [ord_lt (isNum_not_nan hd) (by decide +kernel), decide_eq_true_eq]
    refine val_lt_key.1 ?_
    rw [show val .f64 13864612927836782592 = -200 by decide +kernel]; exact d1
  clear hd d1
  go_enter Try.func50, Try.ntmps50
  go_wp2
  go_ret
  exact ⟨rfl, rfl⟩
theorem val_sign {b : Nat} (h : -((2 : Rat) ^ (-149 : Int)) < val .f32 b) : 0 ≤ val .f32 b := by
  have z : val .f32 0 = 0 := by decide +kernel
  have k0 : key FloatKind.f32.format 0 = 0 := by decide +kernel
  have m : val .f32 2147483649 = -((2 : Rat) ^ (-149 : Int)) := by decide +kernel
  have km : key FloatKind.f32.format 2147483649 = -1 := by decide +kernel
  have h1 := val_lt_key.1 (show val .f32 2147483649 < val .f32 b by rw [m]; exact h)
  rw [km] at h1
  have := val_le_key.2 (show key FloatKind.f32.format 0 ≤ key FloatKind.f32.format b by rw [k0]; omega)
  rw [z] at this
  exact this
theorem val_least {b : Nat} (hb : 0 < val .f32 b) : (2 : Rat) ^ (-149 : Int) ≤ val .f32 b := by
  have z : val .f32 0 = 0 := by decide +kernel
  have k0 : key FloatKind.f32.format 0 = 0 := by decide +kernel
  have m : val .f32 1 = (2 : Rat) ^ (-149 : Int) := by decide +kernel
  have km : key FloatKind.f32.format 1 = 1 := by decide +kernel
  have h1 := val_lt_key.1 (show val .f32 0 < val .f32 b by rw [z]; exact hb)
  rw [k0] at h1
  have := val_le_key.2 (show key FloatKind.f32.format 1 ≤ key FloatKind.f32.format b by rw [km]; omega)
  rw [m] at this
  exact this
/-- A small double as a single. -/
theorem down_tiny {V : Nat} (hV : isNum .f64 V = true) (h0 : 0 < val .f64 V) (h1 : val .f64 V ≤ (2 : Rat) ^ (-126 : Int) * (99 / 100)) :
    ovf .f64 .f32 V = false ∧ isNum .f32 (fcv .f64 .f32 V) = true ∧ 0 ≤ val .f32 (fcv .f64 .f32 V) ∧ Nr (val .f32 (fcv .f64 .f32 V)) (val .f64 V) ((2 : Rat) ^ (-149 : Int)) := by
  have e : (2 : Rat) ^ (-125 : Int) = (2 : Rat) ^ (-126 : Int) * 2 := by decide +kernel
  have z := zp_pos (-126)
  obtain ⟨o, R⟩ := down_Rn (-125) hV (by decide) (by decide) (by rw [e]; grind) (by rw [e]; grind)
  have nr := R.near (-125) (by decide) (by decide) (by rw [e]; grind) (by rw [e]; grind)
  rw [show (2 : Rat) ^ ((-125 : Int) - 1 - (FloatKind.f32.format.fractionBits : Int)) = (2 : Rat) ^ (-149 : Int) by decide +kernel] at nr
  have z2 := zp_pos (-149)
  refine ⟨o, R.num, val_sign (by grind), ?_⟩
  unfold Nr
  constructor <;> grind
end Go.Proofs.Ytokmjboaeamogaa

namespace Go.Proofs.Ytokmjboaeamogaa
open Go Go.RowKit
/-- What a power gives. -/
def PowT (v p r : Nat) : Prop := isNum .f32 r = true ∧ 0 ≤ val .f32 r ∧ (val .f32 v ≤ 1 → val .f32 r ≤ 3 / 2) ∧ PowR (val .f32 v) (val .f32 p) (val .f32 r)
set_option maxHeartbeats 1600000 in
theorem Power_b1 (v p : Nat) (w : World) (o0 : (FloatKind.f32.format.order v v != some .eq) = false) (o1 : (FloatKind.f32.format.order v 1065353216 == some .eq) = true) (p1 : (FloatKind.f32.format.order p p != some .eq) = false) (p2 : (FloatKind.f32.format.order p 0 == some .eq) = false) :
    Calls Try.prog 30 #[.float .f32 v, .float .f32 p] w fun e w' => e = .returned (.float .f32 1065353216) ∧ w = w' := by
  go_enter Try.func30, Try.ntmps30
  go_wp2
  go_ret
  exact ⟨rfl, rfl⟩
set_option maxHeartbeats 1600000 in
theorem Power_e1 (v p : Nat) (w : World) (o0 : (FloatKind.f32.format.order v v != some .eq) = false) (o1 : (FloatKind.f32.format.order v 1065353216 == some .eq) = false) (o2 : (FloatKind.f32.format.order v 0 == some .lt) = false) (o3 : (FloatKind.f32.format.order v 0 == some .eq) = false)
    (o4 : (FloatKind.f32.format.order v 2139095039 == some .gt) = false) (o5 : (FloatKind.f32.format.order v 4286578687 == some .lt) = false)
    (p1 : (FloatKind.f32.format.order p p != some .eq) = false) (p2 : (FloatKind.f32.format.order p 0 == some .eq) = false) (p3 : (FloatKind.f32.format.order p 2139095039 == some .gt) = false) (p4 : (FloatKind.f32.format.order p 4286578687 == some .lt) = false) (p5 : (FloatKind.f32.format.order p 1065353216 == some .eq) = true) :
    Calls Try.prog 30 #[.float .f32 v, .float .f32 p] w fun e w' => e = .returned (.float .f32 v) ∧ w = w' := by
  go_enter Try.func30, Try.ntmps30
  go_wp2_with (first | (go_at_call 49; refine (infinite_any _ _).mono ?_; rintro e w' ⟨rfl, rfl⟩))
  go_ret
  exact ⟨rfl, rfl⟩
theorem eq_val {x y : Nat} (hx : isNum .f32 x = true) (hy : isNum .f32 y = true) : (FloatKind.f32.format.order x y == some .eq) = true ↔ val .f32 x = val .f32 y := by
  rw [ord_eq (isNum_not_nan hx) (isNum_not_nan hy), decide_eq_true_eq]
  constructor
  · intro h
    have a := (val_le_key (k := .f32) (x := x) (y := y)).2 (by omega)
    have b := (val_le_key (k := .f32) (x := y) (y := x)).2 (by omega)
    grind
  · intro h
    have a := (val_le_key (k := .f32) (x := x) (y := y)).1 (by grind)
    have b := (val_le_key (k := .f32) (x := y) (y := x)).1 (by grind)
    omega
theorem ne_val {x y : Nat} (hx : isNum .f32 x = true) (hy : isNum .f32 y = true) (h : val .f32 x ≠ val .f32 y) : (FloatKind.f32.format.order x y == some .eq) = false := by
  cases e : (FloatKind.f32.format.order x y == some .eq) with
  | false => rfl
  | true => exact absurd ((eq_val hx hy).1 e) h
theorem lt_val {x y : Nat} (hx : isNum .f32 x = true) (hy : isNum .f32 y = true) (h : val .f32 y ≤ val .f32 x) : (FloatKind.f32.format.order x y == some .lt) = false := by
  rw [ord_lt (isNum_not_nan hx) (isNum_not_nan hy), decide_eq_false_iff_not, Int.not_lt]
  exact val_le_key.1 h
theorem gt_val {x y : Nat} (hx : isNum .f32 x = true) (hy : isNum .f32 y = true) (h : val .f32 y < val .f32 x) : (FloatKind.f32.format.order x y == some .gt) = true := by
  rw [ord_gt (isNum_not_nan hx) (isNum_not_nan hy), decide_eq_true_eq]
  exact val_lt_key.1 h
theorem exp_one : ExpP 0 1 := by
  refine ⟨0, 0, 1, ?_, by grind, by grind, ?_, ?_, ?_⟩
  · unfold Nr; decide +kernel
  · unfold Nr uQ; constructor <;> grind
  · unfold Nr uQ; decide +kernel
  · decide +kernel
theorem logp_one : LogP 1 0 := by
  refine ⟨1, 0, 0, 0, by decide +kernel, by grind, by decide +kernel, by decide +kernel, ?_, by grind, by grind, ?_, by decide, by decide⟩
  · unfold Nr
    have : pev logL 0 = 0 := by decide +kernel
    rw [this]
    constructor <;> grind
  · unfold Nr; decide +kernel
set_option maxHeartbeats 1600000 in
theorem Power_pow (v p : Nat) (w : World) (hv : isNum .f32 v = true) (hp : isNum .f32 p = true) (v0 : 0 ≤ val .f32 v) (v1 : val .f32 v ≤ 3 / 2) (p0 : 1 / 9 ≤ val .f32 p) (q1 : val .f32 p ≤ 801 / 100) :
    Calls Try.prog 30 #[.float .f32 v, .float .f32 p] w fun e w' => (∃ r, e = .returned (.float .f32 r) ∧ PowT v p r) ∧ ∃ m, w' = w.drewN m := by
  have nz : isNum .f32 0 = true := by decide +kernel
  have vz : val .f32 0 = 0 := by decide +kernel
  obtain ⟨no, vo⟩ := one32
  obtain ⟨o0, o4, o5⟩ := num_ords hv
  obtain ⟨p1, p3, p4⟩ := num_ords hp
  have o2 := lt_val hv nz (by rw [vz]; exact v0)
  have p2 := ne_val hp nz (by rw [vz]; grind)
  have p6 := gt_val hp nz (by rw [vz]; grind)
  by_cases hz : val .f32 v = 0
  · have o1 := ne_val hv no (by rw [vo, hz]; grind)
    have o3 := (eq_val hv nz).2 (by rw [vz]; exact hz)
    refine (Power_zero v p w o0 o1 o2 o3 p1 p2 p6).mono ?_
    rintro e w' ⟨rfl, rfl⟩
    exact ⟨⟨0, rfl, nz, by rw [vz]; grind, fun _ => by rw [vz]; grind, .inl ⟨hz, vz⟩⟩, 0, rfl⟩
  · have vp : 0 < val .f32 v := by grind
    have o3 := ne_val hv nz (by rw [vz]; exact hz)
    by_cases h1 : val .f32 v = 1
    · have o1 := (eq_val hv no).2 (by rw [vo]; exact h1)
      refine (Power_b1 v p w o0 o1 p1 p2).mono ?_
      rintro e w' ⟨rfl, rfl⟩
      refine ⟨⟨_, rfl, no, by rw [vo]; grind, fun _ => by rw [vo]; grind, .inr ⟨0, 0, by rw [h1]; exact logp_one, by unfold Nr; constructor <;> grind, .inr ⟨1, exp_one, .inl ⟨by decide +kernel, by rw [vo]; unfold Nr; constructor <;> grind⟩⟩⟩⟩, 0, rfl⟩
    · have o1 := ne_val hv no (by rw [vo]; exact h1)
      have vl := val_least vp
      obtain ⟨E, f, e1, b1, b2, b3, n1, e2⟩ := up_low hv vl (by have : (2 : Rat) ≤ (2 : Rat) ^ (120 : Int) := by decide +kernel
                                                                grind)
      have z126 := zp_pos (-126)
      by_cases hq : val .f32 p = 1
      · have p5 := (eq_val hp no).2 (by rw [vo]; exact hq)
        refine (Power_e1 v p w o0 o1 o2 o3 o4 o5 p1 p2 p3 p4 p5).mono ?_
        rintro e w' ⟨rfl, rfl⟩
        obtain ⟨D, hD, hP, -⟩ := logarithm_det E f b1 b2 b3
        rw [← e1, e2] at hP
        obtain ⟨V, hV⟩ := exp_ex (val .f64 D)
        have hb := back_gen hP (e := 0) (by grind) (by unfold Nr; constructor <;> grind) hV
        unfold Nr at hb
        refine ⟨⟨v, rfl, hv, v0, fun _ => v1, .inr ⟨_, val .f64 D, hP, by rw [hq]; unfold Nr; constructor <;> grind, .inr ⟨V, hV, ?_⟩⟩⟩, 0, rfl⟩
        by_cases hVl : (2 : Rat) ^ (-126 : Int) * (99 / 100) ≤ V
        · exact .inl ⟨hVl, by unfold Nr; constructor <;> grind⟩
        · have e149 : (2 : Rat) ^ (-149 : Int) = (2 : Rat) ^ (-126 : Int) * (1 / 8388608) := by decide +kernel
          exact .inr ⟨by grind, v0, by unfold Nr; rw [e149]; constructor <;> grind⟩
      · have p5 := ne_val hp no (by rw [vo]; exact hq)
        obtain ⟨nu, vu⟩ := up_val32 hp
        obtain ⟨up, hup⟩ : ∃ up, up = fcv .f32 .f64 p := ⟨_, rfl⟩
        rw [← hup] at nu vu
        refine Power_gen v p _ up (PowT v p) w o0 o1 o2 o3 o4 o5 p1 p2 p3 p4 p5 rfl (isNum_not_nan n1) hup.symm (isNum_not_nan nu) (fun w => ?_)
        have L := logarithm_any E f w b1 b2 b3
        rw [← e1, e2] at L
        refine L.mono ?_
        rintro e w' ⟨⟨D, rfl, hD, hL⟩, hw⟩
        refine ⟨?_, hw⟩
        have dl := logp_least (-149) hL vl
        have dh := logp_high 2 hL (by have : (7 / 10 : Rat) * (2 : Rat) ^ (2 : Int) = 28 / 10 := by decide +kernel
                                      rw [this]; grind)
        have c1 : ((-149 : Int) : Rat) = -149 := rfl
        have c2 : ((2 : Int) : Rat) = 2 := rfl
        rw [c1] at dl
        rw [c2] at dh
        obtain ⟨m1, m2⟩ := mul_in (x := val .f64 D) (y := val .f32 p) (b := 150) (c := 801 / 100) (by grind) (by grind) (by grind) q1
        obtain ⟨nM, rM⟩ := mul64 (x := D) (y := up) 2048 hD nu (by decide +kernel) (by decide +kernel) (by rw [vu]; grind) (by rw [vu]; grind)
        rw [vu] at rM
        obtain ⟨M, hM⟩ : ∃ M, M = fop .mul .f64 D up := ⟨_, rfl⟩
        rw [← hM] at nM rM
        obtain ⟨f1, f2⟩ := flt hD nu hM.symm nM
        have rM' : Nr (val .f64 M) (val .f64 D * val .f32 p) (1 / 1099511627776) := by unfold Nr uQ at *; constructor <;> grind
        refine ⟨D, M, rfl, f1, f2, fun w => ?_⟩
        by_cases hfar : val .f64 M < -200
        · refine (exponential_far M w nM hfar).mono ?_
          rintro e w' ⟨rfl, rfl⟩
          exact ⟨⟨0, 0, rfl, by decide +kernel, by decide +kernel, by decide +kernel, by decide +kernel, nz, by rw [vz]; grind, fun _ => by rw [vz]; grind, .inr ⟨_, _, hL, rM', .inl ⟨by grind, vz⟩⟩⟩, 0, rfl⟩
        · have mh : val .f64 M ≤ 21 := by
            have k : val .f64 D * val .f32 p ≤ 252 / 100 * (801 / 100) := by
              by_cases hd : 0 ≤ val .f64 D
              · have k1 : val .f64 D * val .f32 p ≤ val .f64 D * (801 / 100) := Rat.mul_le_mul_of_nonneg_left q1 hd
                grind
              · have k1 : val .f64 D * val .f32 p ≤ 0 * val .f32 p := Rat.mul_le_mul_of_nonneg_right (by grind) (by grind)
                grind
            unfold Nr at rM'
            grind
          refine (exponential_any M w nM (by grind) (by grind)).mono ?_
          rintro e w' ⟨⟨V, rfl, hV, hE⟩, hw⟩
          refine ⟨?_, hw⟩
          have Vp := exp_pos hE
          have c21 : ((21 : Int) : Rat) = 21 := rfl
          have V21 := expp_low 21 hE (by rw [c21]; grind)
          have hone : val .f32 v ≤ 1 → val .f64 V ≤ 146 / 100 := fun h => by
            have d1 := log_one hL h
            have k : val .f64 D * val .f32 p ≤ 1 / 10000 := by
              by_cases hd : 0 ≤ val .f64 D
              · have k1 : val .f64 D * val .f32 p ≤ val .f64 D * (801 / 100) := Rat.mul_le_mul_of_nonneg_left q1 hd
                grind
              · have k1 : val .f64 D * val .f32 p ≤ 0 * val .f32 p := Rat.mul_le_mul_of_nonneg_right (by grind) (by grind)
                grind
            have c0 : ((0 : Int) : Rat) = 0 := rfl
            have V0 := expp_low 0 hE (by rw [c0]; unfold Nr at rM'; grind)
            have : (2 : Rat) ^ (0 : Int) = 1 := by decide +kernel
            rw [this] at V0
            grind
          have e128 : (145 / 100 : Rat) * (2 : Rat) ^ (21 : Int) ≤ (2 : Rat) ^ (128 : Int) * (16777215 / 16777216) := by decide +kernel
          by_cases hVl : (2 : Rat) ^ (-126 : Int) * (99 / 100) ≤ val .f64 V
          · obtain ⟨g1, g2, g3⟩ := down_rel hV hVl (by grind)
            have g3' := g3
            unfold Nr at g3'
            exact ⟨V, _, rfl, g1, rfl, isNum_not_nan g2, cn_num g2, g2, by grind, fun h => by have := hone h; grind, .inr ⟨_, _, hL, rM', .inr ⟨_, hE, .inl ⟨hVl, g3⟩⟩⟩⟩
          · obtain ⟨g1, g2, g3, g4⟩ := down_tiny hV Vp (by grind)
            have g4' := g4
            unfold Nr at g4'
            have s1 : (2 : Rat) ^ (-126 : Int) ≤ 1 / 1000 := by decide +kernel
            have s2 : (2 : Rat) ^ (-149 : Int) ≤ 1 / 1000 := by decide +kernel
            exact ⟨V, _, rfl, g1, rfl, isNum_not_nan g2, cn_num g2, g2, g3, fun h => by grind, .inr ⟨_, _, hL, rM', .inr ⟨_, hE, .inr ⟨by grind, g3, g4⟩⟩⟩⟩
end Go.Proofs.Ytokmjboaeamogaa

namespace Go.Proofs.Ytokmjboaeamogaa
open Go Go.RowKit
section
variable {A b c v p : Nat}
theorem signed_any (w : World) (hv : isNum .f32 v = true) (hp : isNum .f32 p = true) (v0 : 0 ≤ val .f32 v) (v1 : val .f32 v ≤ 3 / 2) (p0 : 1 / 9 ≤ val .f32 p) (q1 : val .f32 p ≤ 801 / 100) :
    Calls Try.prog 27 #[.float .f32 v, .float .f32 p] w fun e w' => (∃ r, e = .returned (.float .f32 r) ∧ PowT v p r) ∧ Below w.heap.size w w' := by
  have o2 := lt_val hv (show isNum .f32 0 = true by decide +kernel) (by rw [show val .f32 0 = 0 by decide +kernel]; exact v0)
  have K := Lib.hid (fun w => Power_pow v p w hv hp v0 v1 p0 q1)
  clear hv hp v0 v1 p0 q1
  go_enter Try.func27, Try.ntmps27
  go_wp2_with (first | (go_at_call 30; refine (K.out _).mono ?_; rintro e w' ⟨⟨r, rfl, hr⟩, m, rfl⟩; replace hr := Lib.hid hr))
  go_ret
  exact ⟨⟨_, rfl, hr.out⟩, by (repeat (first | exact Below.refl _ _ | assumption | (refine Below.setCell ?_ (by first | (simp; done) | (simp; omega) | omega) _) | (refine Below.drew ?_) | (refine below_drewN ?_ _) | (refine Below.alloc ?_ (by first | (simp; done) | (simp; omega) | omega) _) | (refine Below.trans ?_ (Below.mono (by assumption) (by first | (simp; done) | (simp; omega) | omega)))))⟩
theorem encoder_2 (f1 : fop .quo .f32 (cn .f32 1065353216) (cn .f32 A) = p) (n1 : isN .f32 p = false) (w : World) : Calls Try.prog 17 #[trV 2 A b c] w fun e w' => ∃ g, e = .returned (.func (.func 26) #[] #[.pointer (some ⟨g, 0, none⟩)]) ∧ Below w.heap.size w w' ∧ Blk w' g [.float .f32 p] := by
  go_enter Try.func17, Try.ntmps17
  go_wp2_with (first | ((with_reducible apply wpList_flit); rfl; rfl; rfl; assumption; (first | assumption | (decide +kernel)); intro _))
  go_ret
  exact ⟨_, rfl, by (repeat (first | exact Below.refl _ _ | assumption | (refine Below.setCell ?_ (by first | (simp; done) | (simp; omega) | omega) _) | (refine Below.drew ?_) | (refine below_drewN ?_ _) | (refine Below.alloc ?_ (by first | (simp; done) | (simp; omega) | omega) _) | (refine Below.trans ?_ (Below.mono (by assumption) (by first | (simp; done) | (simp; omega) | omega))))), Blk.new _ _ _ _ (by first | rfl | simp)⟩
theorem encB_2 (R : Nat → Prop) (g : Nat) (w : World) (hb : Blk w g [.float .f32 p]) (K : ∀ w, Calls Try.prog 27 #[.float .f32 v, .float .f32 p] w fun e w' => (∃ r, e = .returned (.float .f32 r) ∧ R r) ∧ Below w.heap.size w w') : Calls Try.prog 26 #[.float .f32 v, .pointer (some ⟨g, 0, none⟩)] w fun e w' => (∃ r, e = .returned (.float .f32 r) ∧ R r) ∧ Below w.heap.size w w' := by
  have b1 := hb.c 0 _ rfl; have bl := hb.lt
  replace K := Lib.hid K
  clear hb
  go_enter Try.func26, Try.ntmps26
  go_wp2_with (first | (go_at_call 27; refine (K.out _).mono ?_; rintro e w5 ⟨⟨r, rfl, hr⟩, hb5⟩; replace hr := Lib.hid hr; replace hb5 := Lib.hid hb5))
  go_ret
  exact ⟨⟨_, rfl, hr.out⟩, hb5.out⟩
theorem decoder_2 (w : World) : Calls Try.prog 18 #[trV 2 A b c] w fun e w' => e = .returned (.func (.func 35) #[] #[.pointer (some ⟨w.heap.size, 0, none⟩)]) ∧ Below w.heap.size w w' ∧ Blk w' w.heap.size [.int .i64 2, .float .f32 A, .float .f32 b, .float .f32 c] := by
  go_enter Try.func18, Try.ntmps18
  go_wp2_with fail
  go_ret
  exact ⟨rfl, by (repeat (first | exact Below.refl _ _ | assumption | (refine Below.setCell ?_ (by first | (simp; done) | (simp; omega) | omega) _) | (refine Below.drew ?_) | (refine below_drewN ?_ _) | (refine Below.alloc ?_ (by first | (simp; done) | (simp; omega) | omega) _) | (refine Below.trans ?_ (Below.mono (by assumption) (by first | (simp; done) | (simp; omega) | omega))))), Blk.new _ _ _ _ rfl⟩
theorem decB_2 (R : Nat → Prop) (g : Nat) (w : World) (hb : Blk w g [.int .i64 2, .float .f32 A, .float .f32 b, .float .f32 c]) (K : ∀ w, Calls Try.prog 27 #[.float .f32 v, .float .f32 A] w fun e w' => (∃ r, e = .returned (.float .f32 r) ∧ R r) ∧ Below w.heap.size w w') : Calls Try.prog 35 #[.float .f32 v, .pointer (some ⟨g, 0, none⟩)] w fun e w' => (∃ r, e = .returned (.float .f32 r) ∧ R r) ∧ Below w.heap.size w w' := by
  have b1 := hb.c 1 _ rfl; have bl := hb.lt
  replace K := Lib.hid K
  clear hb
  go_enter Try.func35, Try.ntmps35
  go_wp2_with (first | (go_at_call 27; refine (K.out _).mono ?_; rintro e w5 ⟨⟨r, rfl, hr⟩, hb5⟩; replace hr := Lib.hid hr; replace hb5 := Lib.hid hb5))
  go_ret
  exact ⟨⟨_, rfl, hr.out⟩, hb5.out⟩
theorem Encode_2 (R : Nat → Prop) (hR : ∀ x, R x → cn .f32 x = x) (f1 : fop .quo .f32 (cn .f32 1065353216) (cn .f32 A) = p) (n1 : isN .f32 p = false) (K : ∀ w, Calls Try.prog 27 #[.float .f32 v, .float .f32 p] w fun e w' => (∃ r, e = .returned (.float .f32 r) ∧ R r) ∧ Below w.heap.size w w')
    (w : World) (hE : trE 2 A b c = 0) : Calls Try.prog 6 #[trV 2 A b c, .float .f32 v] w fun e w' => (∃ x, e = .returned (.tuple #[.float .f32 x, .int .i64 0]) ∧ R x) ∧ Below w.heap.size w w' := by
  have HC := Lib.hid (fun w => CheckTransfer_any 2 A b c w)
  rw [hE] at HC
  have HK := Lib.hid K; have HR := Lib.hid hR; have HF := Lib.hid (And.intro f1 n1)
  clear hE K hR f1 n1
  go_enter Try.func6, Try.ntmps6
  go_wp2_with (first | (go_at_call 16; refine (Clean_any _ _).mono ?_; rintro e w' ⟨rfl, rfl⟩) | (go_at_call 15; refine (HC.out _).mono ?_; rintro e w1 ⟨rfl, hb1⟩; have k1 : Blk w1 w.heap.size [.int .i64 2, .float .f32 A, .float .f32 b, .float .f32 c] := (Blk.new _ _ _ _ rfl).past hb1; have k10 := k1.c 0 _ rfl; have k11 := k1.c 1 _ rfl; have k12 := k1.c 2 _ rfl; have k13 := k1.c 3 _ rfl; have k1l := k1.lt; have hbA : Below w.heap.size w w1 := Below.trans (by (repeat (first | exact Below.refl _ _ | assumption | (refine Below.setCell ?_ (by first | (simp; done) | (simp; omega) | omega) _) | (refine Below.drew ?_) | (refine below_drewN ?_ _) | (refine Below.alloc ?_ (by first | (simp; done) | (simp; omega) | omega) _) | (refine Below.trans ?_ (Below.mono (by assumption) (by first | (simp; done) | (simp; omega) | omega)))))) (hb1.mono (by simp)); clear k1 hb1) | (go_at_call 17; refine (encoder_2 HF.out.1 HF.out.2 _).mono ?_; rintro e w2 ⟨g2, rfl, hb2, hk2⟩) | (go_at_call 26; refine (encB_2 R _ _ hk2 HK.out).mono ?_; rintro e w3 ⟨⟨x, rfl, hx⟩, hb3⟩; have hcx := HR.out x hx; replace hx := Lib.hid hx))
  go_ret2
  exact ⟨⟨x, rfl, hx.out⟩, hbA.trans ((hb2.trans (hb3.mono hb2.size)).mono hbA.size)⟩
theorem Decode_2 (R : Nat → Prop) (hR : ∀ x, R x → cn .f32 x = x) (K : ∀ w, Calls Try.prog 27 #[.float .f32 v, .float .f32 A] w fun e w' => (∃ r, e = .returned (.float .f32 r) ∧ R r) ∧ Below w.heap.size w w')
    (w : World) (hE : trE 2 A b c = 0) : Calls Try.prog 7 #[trV 2 A b c, .float .f32 v] w fun e w' => (∃ x, e = .returned (.tuple #[.float .f32 x, .int .i64 0]) ∧ R x) ∧ Below w.heap.size w w' := by
  have HC := Lib.hid (fun w => CheckTransfer_any 2 A b c w)
  rw [hE] at HC
  have HK := Lib.hid K; have HR := Lib.hid hR
  clear hE K hR
  go_enter Try.func7, Try.ntmps7
  go_wp2_with (first | (go_at_call 16; refine (Clean_any _ _).mono ?_; rintro e w' ⟨rfl, rfl⟩) | (go_at_call 15; refine (HC.out _).mono ?_; rintro e w1 ⟨rfl, hb1⟩; have k1 : Blk w1 w.heap.size [.int .i64 2, .float .f32 A, .float .f32 b, .float .f32 c] := (Blk.new _ _ _ _ rfl).past hb1; have k10 := k1.c 0 _ rfl; have k11 := k1.c 1 _ rfl; have k12 := k1.c 2 _ rfl; have k13 := k1.c 3 _ rfl; have k1l := k1.lt; have hbA : Below w.heap.size w w1 := Below.trans (by (repeat (first | exact Below.refl _ _ | assumption | (refine Below.setCell ?_ (by first | (simp; done) | (simp; omega) | omega) _) | (refine Below.drew ?_) | (refine below_drewN ?_ _) | (refine Below.alloc ?_ (by first | (simp; done) | (simp; omega) | omega) _) | (refine Below.trans ?_ (Below.mono (by assumption) (by first | (simp; done) | (simp; omega) | omega)))))) (hb1.mono (by simp)); clear k1 hb1) | (go_at_call 18; refine (decoder_2 _).mono ?_; rintro e w2 ⟨rfl, hb2, hk2⟩) | (go_at_call 35; refine (decB_2 R _ _ hk2 HK.out).mono ?_; rintro e w3 ⟨⟨x, rfl, hx⟩, hb3⟩; have hcx := HR.out x hx; replace hx := Lib.hid hx))
  go_ret2
  exact ⟨⟨x, rfl, hx.out⟩, hbA.trans ((hb2.trans (hb3.mono hb2.size)).mono hbA.size)⟩
end
end Go.Proofs.Ytokmjboaeamogaa

namespace Go.Proofs.Ytokmjboaeamogaa
open Go Go.RowKit
theorem within_val {x l h : Nat} (hx : isNum .f32 x = true) (hl : isNum .f32 l = true) (hh : isNum .f32 h = true) (w : withinB x l h = true) : val .f32 l ≤ val .f32 x ∧ val .f32 x ≤ val .f32 h := by
  unfold withinB at w
  rw [Bool.and_eq_true, Bool.or_eq_true, Bool.or_eq_true] at w
  obtain ⟨w1, w2⟩ := w
  constructor
  · rcases w1 with h | h
    · rw [ord_gt (isNum_not_nan hx) (isNum_not_nan hl), decide_eq_true_eq] at h
      exact val_le_key.2 (by omega)
    · have := (eq_val hx hl).1 h; grind
  · rcases w2 with h | h
    · rw [ord_lt (isNum_not_nan hx) (isNum_not_nan hh), decide_eq_true_eq] at h
      exact val_le_key.2 (by omega)
    · have := (eq_val hx hh).1 h; grind
set_option maxHeartbeats 1600000 in
theorem enc_dec (k : Int) (A b c v : Nat) (hE : trE k A b c = 0) (hk3 : k ≠ 3) (hv : isNum .f32 v = true) (v0 : 0 ≤ val .f32 v) (v1 : val .f32 v ≤ 1) :
    ∃ S : Nat → Prop, (∀ w, Calls Try.prog 6 #[trV k A b c, .float .f32 v] w fun e w' => (∃ r, e = .returned (.tuple #[.float .f32 r, .int .i64 0]) ∧ S r) ∧ Below w.heap.size w w') ∧
      ∀ r, S r → ∀ w, Calls Try.prog 7 #[trV k A b c, .float .f32 r] w fun e w' => (∃ x, e = .returned (.tuple #[.float .f32 x, .int .i64 0]) ∧ NearV v x) ∧ Below w.heap.size w w' := by
  have hE0 := hE
  unfold trE at hE
  by_cases k1 : k < 1
  · rw [if_pos k1] at hE; cases hE
  rw [if_neg k1] at hE
  by_cases k5 : 5 < k
  · rw [if_pos k5] at hE; cases hE
  rw [if_neg k5] at hE
  cases ha : allNum [A, b, c] with
  | false => rw [ha] at hE; cases hE
  | true =>
    rw [ha, if_pos rfl] at hE
    rw [allNum_3, Bool.and_eq_true, Bool.and_eq_true] at ha
    obtain ⟨hA, hb, -⟩ := ha
    have hR : ∀ x, NearV v x → cn .f32 x = x := fun x h => cn_num h.1
    rcases (show k = 1 ∨ k = 2 ∨ k = 4 ∨ k = 5 by omega) with rfl | rfl | rfl | rfl
    · refine ⟨fun r => r = v, fun w => ?_, fun r hr w => ?_⟩
      · refine (Encode_1 (cn_num hv) w hE0).mono ?_
        rintro e w' ⟨rfl, hb⟩
        exact ⟨⟨v, rfl, rfl⟩, hb⟩
      · subst hr
        refine (Decode_1 (cn_num hv) w hE0).mono ?_
        rintro e w' ⟨rfl, hb⟩
        exact ⟨⟨r, rfl, hv, by unfold Nr; constructor <;> grind⟩, hb⟩
    · cases hr : rig2 A b c with
      | false => simp [hr] at hE
      | true =>
        unfold rig2 at hr
        rw [Bool.and_eq_true] at hr
        obtain ⟨a0, a1⟩ := within_val hA (by decide +kernel) (by decide +kernel) hr.1
        rw [show val .f32 1040187392 = 1 / 8 by decide +kernel] at a0
        rw [show val .f32 1090519040 = 8 by decide +kernel] at a1
        obtain ⟨no, vo⟩ := one32
        obtain ⟨q0, hq0⟩ : ∃ q0, q0 * val .f32 A = 1 := ⟨1 / val .f32 A, Rat.div_mul_cancel (by grind)⟩
        have Ap : 0 < val .f32 A := by grind
        have g0 : 1 / 8 ≤ q0 := le_canc Ap (by rw [hq0]; grind)
        have g1 : q0 ≤ 8 := le_canc Ap (by rw [hq0]; grind)
        have sm : (2 : Rat) ^ (-101 : Int) ≤ 1 / 1000 := by decide +kernel
        have bg : (1000 : Rat) < (2 : Rat) ^ (99 : Int) := by decide +kernel
        obtain ⟨np, rp⟩ := quo32 (x := 1065353216) (y := A) (q := q0) q0 no hA (by grind) (by rw [hq0, vo]) (by grind) (by grind) (by grind) (by grind)
        obtain ⟨p, hp⟩ : ∃ p, p = fop .quo .f32 1065353216 A := ⟨_, rfl⟩
        rw [← hp] at np rp
        obtain ⟨f1, n1⟩ := flt32 no hA hp.symm np
        have e24 : eQ = 1 / 16777216 := rfl
        unfold Nr at rp
        rw [e24] at rp
        have pA : Nr (val .f32 p * val .f32 A) 1 (1 / 8000000) := by
          have k1 := Rat.mul_le_mul_of_nonneg_right rp.1 (Rat.le_of_lt Ap)
          have k2 := Rat.mul_le_mul_of_nonneg_right rp.2 (Rat.le_of_lt Ap)
          have e1 : (q0 + q0 * (2 * (1 / 16777216))) * val .f32 A = 1 + 2 * (1 / 16777216) := by
            have : (q0 + q0 * (2 * (1 / 16777216))) * val .f32 A = q0 * val .f32 A + q0 * val .f32 A * (2 * (1 / 16777216)) := by grind
            rw [this, hq0]; grind
          have e2 : (val .f32 p + q0 * (2 * (1 / 16777216))) * val .f32 A = val .f32 p * val .f32 A + 2 * (1 / 16777216) := by
            have : (val .f32 p + q0 * (2 * (1 / 16777216))) * val .f32 A = val .f32 p * val .f32 A + q0 * val .f32 A * (2 * (1 / 16777216)) := by grind
            rw [this, hq0]; grind
          rw [e1] at k1
          rw [e2, hq0] at k2
          unfold Nr
          constructor <;> grind
        refine ⟨PowT v p, fun w => Encode_2 (PowT v p) (fun x h => cn_num h.1) f1 n1 (fun w => signed_any w hv np v0 (by grind) (by grind) (by grind)) w hE0, fun r hr w => ?_⟩
        obtain ⟨h1, h2, h3, h4⟩ := hr
        refine (Decode_2 (PowT r A) (fun x h => cn_num h.1) (fun w => signed_any w h1 hA h2 (h3 v1) (by grind) (by grind)) w hE0).mono ?_
        rintro e w' ⟨⟨x, rfl, x1, x2, x3, x4⟩, hb⟩
        refine ⟨⟨x, rfl, x1, gamma_back h4 x4 v0 v1 ?_ pA (by grind) (by grind) a0 a1⟩, hb⟩
        by_cases hz : val .f32 v = 0
        · exact .inl hz
        · exact .inr (val_least (by grind))
    · cases hr : rig4 A b c with
      | false => simp [hr] at hE
      | true =>
        unfold rig4 at hr
        rw [Bool.and_eq_true, Bool.and_eq_true] at hr
        obtain ⟨a0, a1⟩ := within_val hA (by decide +kernel) (by decide +kernel) hr.1
        obtain ⟨b0, b1⟩ := within_val hb (by decide +kernel) (by decide +kernel) hr.2.1
        rw [show val .f32 1065353216 = 1 by decide +kernel] at a0 b1
        rw [show val .f32 1149239296 = 1024 by decide +kernel] at a1
        rw [show val .f32 981467136 = 1 / 1024 by decide +kernel] at b0
        obtain ⟨s, l, t, a, L, ww, q, hC, hK⟩ := log_codes A b v hA hb hv v0 v1 a0 a1 b0 b1
        refine ⟨fun r => r = ww, fun w => ?_, fun r hr w => ?_⟩
        · refine (Encode_4 hC w hE0).mono ?_
          rintro e w' ⟨rfl, hb⟩
          exact ⟨⟨ww, rfl, rfl⟩, hb⟩
        · subst hr
          exact Decode_4 (NearV v) hR hC hK w hE0
    · cases hr : rig5 A b c with
      | false => simp [hr] at hE
      | true =>
        unfold rig5 at hr
        rw [Bool.and_eq_true] at hr
        obtain ⟨a0, a1⟩ := within_val hA (by decide +kernel) (by decide +kernel) hr.1
        rw [show val .f32 1015021568 = 1 / 64 by decide +kernel] at a0
        rw [show val .f32 1115684864 = 64 by decide +kernel] at a1
        obtain ⟨s, q, u, ww, m, n, x, hQ, hx1, hx2⟩ := quo_codes A v hA hv v0 v1 a0 a1
        refine ⟨fun r => r = ww, fun w => ?_, fun r hr w => ?_⟩
        · refine (Encode_5 hQ w hE0).mono ?_
          rintro e w' ⟨rfl, hb⟩
          exact ⟨⟨ww, rfl, rfl⟩, hb⟩
        · subst hr
          refine (Decode_5 hQ w hE0).mono ?_
          rintro e w' ⟨rfl, hb⟩
          exact ⟨⟨x, rfl, hx1, hx2⟩, hb⟩
end Go.Proofs.Ytokmjboaeamogaa
