/- num.Log2, num.Exp2: the walks. Conditions: those named. -/
import Derived.Test.YtokmjboaeamogaaPiC
import Derived.Test.YtokmjboaeamogaaPiA
namespace Go.Proofs.Ytokmjboaeamogaa
open Go Go.RowKit
theorem pos_ords {v : Nat} (hv : isNum .f32 v = true) (h1 : (2 : Rat) ^ (-120 : Int) ≤ val .f32 v) :
    (FloatKind.f32.format.order v 0 == some .eq) = false ∧ (FloatKind.f32.format.order v 2139095039 == some .gt) = false ∧ (FloatKind.f32.format.order v 0 == some .gt) = true := by
  have nz : isNum .f32 0 = true := by decide +kernel
  have nm : isNum .f32 2139095039 = true := by decide +kernel
  have kz : key FloatKind.f32.format 0 = 0 := by decide +kernel
  have km : key FloatKind.f32.format 2139095039 = 2139095039 := by decide +kernel
  have vz : val .f32 0 = 0 := by decide +kernel
  have p : 0 < val .f32 v := by have := zp_pos (-120); grind
  have k := val_lt_key.1 (show val .f32 0 < val .f32 v by rw [vz]; exact p)
  rw [kz] at k
  have hm : key FloatKind.f32.format v ≤ 2139095039 := by
    have h := hv
    unfold isNum at h
    have h := of_decide_eq_true h
    rw [inf32] at h
    unfold key
    split <;> omega
  refine ⟨?_, ?_, ?_⟩
  · rw [ord_eq (isNum_not_nan hv) (isNum_not_nan nz), decide_eq_false_iff_not, kz]; omega
  · rw [ord_gt (isNum_not_nan hv) (isNum_not_nan nm), decide_eq_false_iff_not, km]; omega
  · rw [ord_gt (isNum_not_nan hv) (isNum_not_nan nz), decide_eq_true_iff, kz]; exact k
set_option maxHeartbeats 1600000 in
theorem logOf_any (v : Nat) (w : World) (hv : isNum .f32 v = true) (h1 : (2 : Rat) ^ (-120 : Int) ≤ val .f32 v) (h2 : val .f32 v ≤ (2 : Rat) ^ (120 : Int)) :
    Calls Try.prog 52 #[.float .f32 v, .func (.func 51) #[] #[]] w fun e w' => (∃ l, e = .returned (.float .f32 l) ∧ LogR (val .f32 v) l) ∧ ∃ m, w' = w.drewN m := by
  obtain ⟨o1, o2, o3⟩ := pos_ords hv h1
  obtain ⟨E, f, e1, b1, b2, b3, n1, e2⟩ := up_parts hv h1 h2
  obtain ⟨u, hu⟩ : ∃ u, u = E * 4503599627370496 + f := ⟨_, rfl⟩
  have L : ∀ w, Calls Try.prog 51 #[.float .f64 u] w fun e w' => (∃ D, e = .returned (.float .f64 D) ∧ isNum .f64 D = true ∧ LogP (val .f32 v) (val .f64 D)) ∧ ∃ m, w' = w.drewN m := fun w => by
    have h := logarithm_any E f w b1 b2 b3
    rw [← hu] at h
    rw [← hu] at e1
    rw [← e2, e1]
    exact h
  rw [← hu] at e1
  rw [e1] at n1
  have c1 := e1
  have v1 : ovf .f32 .f64 v = false := ovf_up v
  have u1 : isN .f64 u = false := isNum_not_nan n1
  replace L := Lib.hid L
  have DN := Lib.hid (fun (D : Nat) (hD : isNum .f64 D = true) (h : LogP (val .f32 v) (val .f64 D)) => log_down hD h h1 h2)
  clear hu b1 b2 b3 h1 h2 e2 e1 hv n1
  go_enter Try.func52, Try.ntmps52
  go_wp2_with (first | ((with_reducible apply wpList_clit); rfl; exact Try.underlying30; exact Try.underlying22; decide; assumption; assumption; assumption; intro _) | ((with_reducible apply wpList_clit); rfl; exact Try.underlying22; exact Try.underlying30; decide; assumption; assumption; assumption; intro _) | (go_at_call 16; refine (Clean_any _ _).mono ?_; rintro e w' ⟨rfl, rfl⟩) | (go_at_call 51; refine (L.out _).mono ?_; rintro e w' ⟨⟨D, rfl, hD1, hD2⟩, m, rfl⟩; obtain ⟨l, v2, c2, n2, d2, hl⟩ := DN.out D hD1 hD2; clear hD1 hD2))
  go_ret
  exact ⟨⟨_, rfl, hl⟩, _, rfl⟩
set_option maxHeartbeats 800000 in
theorem Log2_any (v : Nat) (w : World) (hv : isNum .f32 v = true) (h1 : (2 : Rat) ^ (-120 : Int) ≤ val .f32 v) (h2 : val .f32 v ≤ (2 : Rat) ^ (120 : Int)) :
    Calls Try.prog 31 #[.float .f32 v] w fun e w' => (∃ l, e = .returned (.float .f32 l) ∧ LogR (val .f32 v) l) ∧ ∃ m, w' = w.drewN m := by
  have L := Lib.hid (fun w => logOf_any v w hv h1 h2)
  clear hv h1 h2
  go_enter Try.func31, Try.ntmps31
  go_wp2_with (first | (go_at_call 52; refine (L.out _).mono ?_; rintro e w' ⟨⟨l, rfl, hl⟩, m, rfl⟩))
  go_ret
  exact ⟨⟨_, rfl, hl⟩, _, rfl⟩
end Go.Proofs.Ytokmjboaeamogaa
