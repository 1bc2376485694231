/- num.Exp2 of a logarithm's single; num.Exp2 and num.Log2 exact. Conditions: those named. -/
import Derived.Test.YtokmjboaeamogaaPiE
namespace Go.Proofs.Ytokmjboaeamogaa
open Go Go.RowKit
/-- p is the single back from the logarithm of x. -/
def BackR (x : Rat) (p : Nat) : Prop := isNum .f32 p = true ∧ Nr (val .f32 p) x (x * (1 / 70000))
theorem exp_down {x : Rat} {l V : Nat} (h : LogR x l) (hV : isNum .f64 V = true) (hE : ExpP (val .f32 l) (val .f64 V)) (h1 : (2 : Rat) ^ (-120 : Int) ≤ x) (h2 : x ≤ (2 : Rat) ^ (120 : Int)) :
    ∃ p, ovf .f64 .f32 V = false ∧ fcv .f64 .f32 V = p ∧ isN .f32 p = false ∧ BackR x p := by
  obtain ⟨-, -, -, d, a, b⟩ := h
  have n := back_near a b hE
  have e1 : (2 : Rat) ^ (-120 : Int) = (2 : Rat) ^ (-126 : Int) * 64 := by decide +kernel
  have e2 : (2 : Rat) ^ (128 : Int) = (2 : Rat) ^ (120 : Int) * 256 := by decide +kernel
  have z1 := zp_pos (-126)
  have z2 := zp_pos 120
  unfold Nr at n
  obtain ⟨g1, g2, g3⟩ := down_rel hV (by grind) (by rw [e2]; grind)
  refine ⟨_, g1, rfl, isNum_not_nan g2, g2, ?_⟩
  unfold Nr at *
  constructor <;> grind
theorem num_ords {v : Nat} (hv : isNum .f32 v = true) : (FloatKind.f32.format.order v v != some .eq) = false ∧ (FloatKind.f32.format.order v 2139095039 == some .gt) = false ∧ (FloatKind.f32.format.order v 4286578687 == some .lt) = false := by
  have nm : isNum .f32 2139095039 = true := by decide +kernel
  have nn : isNum .f32 4286578687 = true := by decide +kernel
  have km : key FloatKind.f32.format 2139095039 = 2139095039 := by decide +kernel
  have kn : key FloatKind.f32.format 4286578687 = -2139095039 := by decide +kernel
  have hm : key FloatKind.f32.format v ≤ 2139095039 ∧ -2139095039 ≤ key FloatKind.f32.format v := by
    have h := hv
    unfold isNum at h
    have h := of_decide_eq_true h
    rw [inf32] at h
    unfold key
    split <;> omega
  refine ⟨?_, ?_, ?_⟩
  · rw [ord_self_ne]; exact isNum_not_nan hv
  · rw [ord_gt (isNum_not_nan hv) (isNum_not_nan nm), decide_eq_false_iff_not, km]; omega
  · rw [ord_lt (isNum_not_nan hv) (isNum_not_nan nn), decide_eq_false_iff_not, kn]; omega
set_option maxHeartbeats 800000 in
theorem exceptional_num (v : Nat) (w : World) (hv : isNum .f32 v = true) : Calls Try.prog 53 #[.float .f32 v] w fun e w' => e = .returned (.tuple #[.float .f32 0, .bool false]) ∧ w = w' := by
  obtain ⟨o1, o2, o3⟩ := num_ords hv
  clear hv
  go_enter Try.func53, Try.ntmps53
  go_wp2
  exact bodyPost_ret (v := .tuple #[.float .f32 0, .bool false]) (by simp [results, Try.results53, go_sem, *]) rfl ⟨rfl, rfl⟩
set_option maxHeartbeats 800000 in
theorem Exp2_of (l u : Nat) (R : Nat → Nat → Prop) (w : World) (hl : isNum .f32 l = true) (hu : fcv .f32 .f64 l = u) (nu : isNum .f64 u = true)
    (H : ∀ w, Calls Try.prog 50 #[.float .f64 u] w fun e w' => (∃ V p, e = .returned (.float .f64 V) ∧ ovf .f64 .f32 V = false ∧ fcv .f64 .f32 V = p ∧ isN .f32 p = false ∧ R V p) ∧ ∃ m, w' = w.drewN m) :
    Calls Try.prog 38 #[.float .f32 l] w fun e w' => (∃ V p, e = .returned (.float .f32 p) ∧ R V p) ∧ ∃ m, w' = w.drewN m := by
  have v1 : ovf .f32 .f64 l = false := ovf_up l
  have u1 : isN .f64 u = false := isNum_not_nan nu
  replace H := Lib.hid H
  have X := Lib.hid (fun w => exceptional_num l w hl)
  clear hl nu
  go_enter Try.func38, Try.ntmps38
  go_wp2_with (first | ((with_reducible apply wpList_clit); rfl; exact Try.underlying30; exact Try.underlying22; decide; assumption; assumption; assumption; intro _) | ((with_reducible apply wpList_clit); rfl; exact Try.underlying22; exact Try.underlying30; decide; assumption; assumption; assumption; intro _) | (go_at_call 53; refine (X.out _).mono ?_; rintro e w' ⟨rfl, rfl⟩) | (go_at_call 50; refine (H.out _).mono ?_; rintro e w' ⟨⟨V, p, rfl, v2, c2, n2, hR⟩, m, rfl⟩))
  go_ret
  exact ⟨⟨_, _, rfl, hR⟩, _, rfl⟩
end Go.Proofs.Ytokmjboaeamogaa
