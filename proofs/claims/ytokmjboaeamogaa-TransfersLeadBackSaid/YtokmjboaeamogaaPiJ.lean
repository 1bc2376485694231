/- num.Power of 2: the walk, by what its parts give. Conditions: those named. -/
import Derived.Test.YtokmjboaeamogaaPiI
namespace Go.Proofs.Ytokmjboaeamogaa
open Go Go.RowKit
set_option maxHeartbeats 1600000 in
theorem Power_of (v u : Nat) (R : Nat → Prop) (w : World) (o0 : (FloatKind.f32.format.order v v != some .eq) = false) (o1 : (FloatKind.f32.format.order v 1065353216 == some .eq) = false) (o2 : (FloatKind.f32.format.order v 0 == some .lt) = false) (o3 : (FloatKind.f32.format.order v 0 == some .eq) = false)
    (o4 : (FloatKind.f32.format.order v 2139095039 == some .gt) = false) (o5 : (FloatKind.f32.format.order v 4286578687 == some .lt) = false) (c1 : fcv .f32 .f64 v = u) (u1 : isN .f64 u = false)
    (H : ∀ w, Calls Try.prog 51 #[.float .f64 u] w fun e w' => (∃ D M, e = .returned (.float .f64 D) ∧ fop .mul .f64 (cn .f64 D) (cn .f64 4611686018427387904) = M ∧ isN .f64 M = false ∧
      ∀ w, Calls Try.prog 50 #[.float .f64 M] w fun e w' => (∃ V p, e = .returned (.float .f64 V) ∧ ovf .f64 .f32 V = false ∧ fcv .f64 .f32 V = p ∧ isN .f32 p = false ∧ cn .f32 p = p ∧ R p) ∧ ∃ m, w' = w.drewN m) ∧ ∃ m, w' = w.drewN m) :
    Calls Try.prog 30 #[.float .f32 v, .float .f32 1073741824] w fun e w' => (∃ p, e = .returned (.float .f32 p) ∧ R p) ∧ ∃ m, w' = w.drewN m := by
  have v1 : ovf .f32 .f64 v = false := ovf_up _
  have w1 : ovf .f32 .f64 1073741824 = false := ovf_up _
  have w2 : fcv .f32 .f64 1073741824 = 4611686018427387904 := by decide +kernel
  have w3 : isN .f64 4611686018427387904 = false := by decide +kernel
  have p1 : (FloatKind.f32.format.order 1073741824 1073741824 != some .eq) = false := by decide +kernel
  have p2 : (FloatKind.f32.format.order 1073741824 0 == some .eq) = false := by decide +kernel
  have p3 : (FloatKind.f32.format.order 1073741824 2139095039 == some .gt) = false := by decide +kernel
  have p4 : (FloatKind.f32.format.order 1073741824 4286578687 == some .lt) = false := by decide +kernel
  have p5 : (FloatKind.f32.format.order 1073741824 1065353216 == some .eq) = false := by decide +kernel
  replace H := Lib.hid H
  go_enter Try.func30, Try.ntmps30
  go_wp2_with (first | ((with_reducible apply wpList_clit); rfl; exact Try.underlying30; exact Try.underlying22; decide; assumption; assumption; assumption; intro _) | ((with_reducible apply wpList_clit); rfl; exact Try.underlying22; exact Try.underlying30; decide; assumption; assumption; assumption; intro _) | (go_at_call 16; refine (Clean_any _ _).mono ?_; rintro e w' ⟨rfl, rfl⟩) | ((with_reducible apply wpList_flit); rfl; rfl; rfl; assumption; (first | assumption | (decide +kernel)); intro _) | (go_at_call 49; refine (infinite_any _ _).mono ?_; rintro e w' ⟨rfl, rfl⟩) | (go_at_call 51; refine (H.out _).mono ?_; rintro e w' ⟨⟨D, M, rfl, f1, f2, HE⟩, m, rfl⟩; replace HE := Lib.hid HE) | (go_at_call 50; refine (HE.out _).mono ?_; rintro e w' ⟨⟨V, p, rfl, v2, c2, n2, d2, hR⟩, m, rfl⟩))
  go_ret
  exact ⟨⟨_, rfl, hR⟩, _, rfl⟩
set_option maxHeartbeats 1600000 in
theorem Power_one (v : Nat) (w : World) (o0 : (FloatKind.f32.format.order v v != some .eq) = false) (o1 : (FloatKind.f32.format.order v 1065353216 == some .eq) = false) (o2 : (FloatKind.f32.format.order v 0 == some .lt) = false) (o3 : (FloatKind.f32.format.order v 0 == some .eq) = false)
    (o4 : (FloatKind.f32.format.order v 2139095039 == some .gt) = false) (o5 : (FloatKind.f32.format.order v 4286578687 == some .lt) = false) :
    Calls Try.prog 30 #[.float .f32 v, .float .f32 1065353216] w fun e w' => e = .returned (.float .f32 v) ∧ w = w' := by
  have p1 : (FloatKind.f32.format.order 1065353216 1065353216 != some .eq) = false := by decide +kernel
  have p2 : (FloatKind.f32.format.order 1065353216 0 == some .eq) = false := by decide +kernel
  have p3 : (FloatKind.f32.format.order 1065353216 2139095039 == some .gt) = false := by decide +kernel
  have p4 : (FloatKind.f32.format.order 1065353216 4286578687 == some .lt) = false := by decide +kernel
  have p5 : (FloatKind.f32.format.order 1065353216 1065353216 == some .eq) = true := by decide +kernel
  go_enter Try.func30, Try.ntmps30
  go_wp2_with (first | (go_at_call 49; refine (infinite_any _ _).mono ?_; rintro e w' ⟨rfl, rfl⟩))
  go_ret
  exact ⟨rfl, rfl⟩
set_option maxHeartbeats 1600000 in
/-- The base 1. -/
theorem Power_base (p : Nat) (w : World) (p1 : (FloatKind.f32.format.order p p != some .eq) = false) (p2 : (FloatKind.f32.format.order p 0 == some .eq) = false) :
    Calls Try.prog 30 #[.float .f32 1065353216, .float .f32 p] w fun e w' => e = .returned (.float .f32 1065353216) ∧ w = w' := by
  have o0 : (FloatKind.f32.format.order 1065353216 1065353216 != some .eq) = false := by decide +kernel
  have o1 : (FloatKind.f32.format.order 1065353216 1065353216 == some .eq) = true := by decide +kernel
  go_enter Try.func30, Try.ntmps30
  go_wp2
  go_ret
  exact ⟨rfl, rfl⟩
end Go.Proofs.Ytokmjboaeamogaa
