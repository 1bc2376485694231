/- num.Exp2 and num.Log2: back from the logarithm, and exact. Conditions: those named. -/
import Derived.Test.YtokmjboaeamogaaPiF
namespace Go.Proofs.Ytokmjboaeamogaa
open Go Go.RowKit
theorem Exp2_any (l : Nat) (x : Rat) (w : World) (h : LogR x l) (h1 : (2 : Rat) ^ (-120 : Int) ≤ x) (h2 : x ≤ (2 : Rat) ^ (120 : Int)) :
    Calls Try.prog 38 #[.float .f32 l] w fun e w' => (∃ p, e = .returned (.float .f32 p) ∧ BackR x p) ∧ ∃ m, w' = w.drewN m := by
  obtain ⟨u1, u2, u3⟩ := up_exact h.1
  have hx : val .f64 (fcv .f32 .f64 l) = val .f32 l := by rw [val_sg, val_sg, u2, u3]
  have a := h.2.1
  have b := h.2.2.1
  refine (Exp2_of l _ (fun _ p => BackR x p) w h.1 rfl u1 (fun w => ?_)).mono ?_
  · refine (exponential_any _ w u1 (by rw [hx]; grind) (by rw [hx]; grind)).mono ?_
    rintro e w' ⟨⟨V, rfl, hV, hE⟩, hw⟩
    rw [hx] at hE
    obtain ⟨p, g1, g2, g3, g4⟩ := exp_down h hV hE h1 h2
    exact ⟨⟨V, p, rfl, g1, g2, g3, g4⟩, hw⟩
  · rintro e w' ⟨⟨V, p, rfl, hp⟩, hw⟩
    exact ⟨⟨p, rfl, hp⟩, hw⟩
theorem Exp2_two (n : Int) (w : World) (h1 : -149 ≤ n) (h2 : n ≤ 127) :
    Calls Try.prog 38 #[.float .f32 (floatOfInt .f32 n)] w fun e w' => e = .returned (.float .f32 (two32 n)) ∧ ∃ m, w' = w.drewN m := by
  obtain ⟨t1, t2, t3, t4, t5, t6, t7, t8, -⟩ := two_facts h1 h2
  obtain ⟨-, -, -, -, -, i6, -⟩ := int_facts h1 h2
  refine (Exp2_of (floatOfInt .f32 n) (floatOfInt .f64 n) (fun _ p => p = two32 n) w t7 t6 i6 (fun w => ?_)).mono ?_
  · refine (exponential_two n w h1 h2).mono ?_
    rintro e w' ⟨rfl, hw⟩
    exact ⟨⟨_, _, rfl, t3, rfl, isNum_not_nan t2, rfl⟩, hw⟩
  · rintro e w' ⟨⟨V, p, rfl, rfl⟩, hw⟩
    exact ⟨rfl, hw⟩
set_option maxHeartbeats 1600000 in
theorem logOf_of (v u D l : Nat) (w : World) (o1 : (FloatKind.f32.format.order v 0 == some .eq) = false) (o2 : (FloatKind.f32.format.order v 2139095039 == some .gt) = false) (o3 : (FloatKind.f32.format.order v 0 == some .gt) = true)
    (c1 : fcv .f32 .f64 v = u) (u1 : isN .f64 u = false) (v2 : ovf .f64 .f32 D = false) (c2 : fcv .f64 .f32 D = l) (n2 : isN .f32 l = false)
    (H : ∀ w, Calls Try.prog 51 #[.float .f64 u] w fun e w' => e = .returned (.float .f64 D) ∧ ∃ m, w' = w.drewN m) :
    Calls Try.prog 52 #[.float .f32 v, .func (.func 51) #[] #[]] w fun e w' => e = .returned (.float .f32 l) ∧ ∃ m, w' = w.drewN m := by
  have d2 : cn .f32 l = l := by unfold cn; rw [n2]; rfl
  have v1 : ovf .f32 .f64 v = false := ovf_up _
  replace H := Lib.hid H
  go_enter Try.func52, Try.ntmps52
  go_wp2_with (first | ((with_reducible apply wpList_clit); rfl; exact Try.underlying30; exact Try.underlying22; decide; assumption; assumption; assumption; intro _) | ((with_reducible apply wpList_clit); rfl; exact Try.underlying22; exact Try.underlying30; decide; assumption; assumption; assumption; intro _) | (go_at_call 16; refine (Clean_any _ _).mono ?_; rintro e w' ⟨rfl, rfl⟩) | (go_at_call 51; refine (H.out _).mono ?_; rintro e w' ⟨rfl, m, rfl⟩))
  go_ret
  exact ⟨rfl, _, rfl⟩
set_option maxHeartbeats 800000 in
theorem Log2_of (v l : Nat) (w : World) (H : ∀ w, Calls Try.prog 52 #[.float .f32 v, .func (.func 51) #[] #[]] w fun e w' => e = .returned (.float .f32 l) ∧ ∃ m, w' = w.drewN m) :
    Calls Try.prog 31 #[.float .f32 v] w fun e w' => e = .returned (.float .f32 l) ∧ ∃ m, w' = w.drewN m := by
  replace H := Lib.hid H
  go_enter Try.func31, Try.ntmps31
  go_wp2_with (first | (go_at_call 52; refine (H.out _).mono ?_; rintro e w' ⟨rfl, m, rfl⟩))
  go_ret
  exact ⟨rfl, _, rfl⟩
theorem Log2_two (n : Int) (w : World) (h1 : -149 ≤ n) (h2 : n ≤ 127) :
    Calls Try.prog 31 #[.float .f32 (two32 n)] w fun e w' => e = .returned (.float .f32 (floatOfInt .f32 n)) ∧ ∃ m, w' = w.drewN m := by
  obtain ⟨t1, t2, t3, c1, c2, t6, t7, v2, o1, o2, o3, -⟩ := two_facts h1 h2
  exact Log2_of _ _ w (fun w => logOf_of _ _ _ _ w o1 o2 o3 c1 (isNum_not_nan t1) v2 c2 (isNum_not_nan t7) (fun w => logarithm_two n w h1 h2))
end Go.Proofs.Ytokmjboaeamogaa
