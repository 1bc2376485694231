/- What is wrong with grain, in the document: dyeref2.GrainError. No condition. -/
import Derived.Test.YtmnmcmmhnbnndaaGrB
namespace Go.Proofs.Ytmnmcmmhnbnndaa
open Go.RowKit
theorem tri_low {u v : Nat} (hu : isNum .f32 u = true) (hv : isNum .f32 v = true) : (FloatKind.f32.format.order u v == some .lt) = (!(FloatKind.f32.format.order u v == some .gt) && !(FloatKind.f32.format.order u v == some .eq)) := by
  obtain ⟨o, h1, h2, h3⟩ := ord_some hu hv
  rw [h1, h2, h3]; cases o <;> rfl
theorem tri_high {u v : Nat} (hu : isNum .f32 u = true) (hv : isNum .f32 v = true) : (FloatKind.f32.format.order u v == some .gt) = (!(FloatKind.f32.format.order u v == some .lt) && !(FloatKind.f32.format.order u v == some .eq)) := by
  obtain ⟨o, h1, h2, h3⟩ := ord_some hu hv
  rw [h1, h2, h3]; cases o <;> rfl
theorem two_or {x : Option Ordering} {a b : Ordering} (h : x = some a ∨ x = some b) : (!(x == some a) && !(x == some b)) = false ∧ ((x == some a) || (x == some b)) = true := by
  rcases h with h | h <;> subst h <;> simp
theorem num_4 : isNum .f32 1082130432 = true := by decide +kernel
theorem gr4_eq {v : Nat} (hv : isNum .f32 v = true) : gr4 v = (((FloatKind.f32.format.order v 0 == some .gt) || (FloatKind.f32.format.order v 0 == some .eq)) && ((FloatKind.f32.format.order v 1082130432 == some .lt) || (FloatKind.f32.format.order v 1082130432 == some .eq))) := by
  unfold gr4
  rw [tri_low hv num_01.1, tri_high hv num_4]
  simp
set_option maxRecDepth 100000 in
set_option maxHeartbeats 1600000 in
theorem GrainError_any (seed size : Int) (s f : Nat) (mono : Bool) (w : World) : Calls Try.prog 82 #[.agg #[.int .u32 seed, .int .i64 size, .float .f32 s, .float .f32 f, .bool mono]] w fun e w' => e = .returned (.int .i64 (graE size s f)) ∧ Below w.heap.size w w' := by
  cases hi : inB size 1 16
  case false =>
    have hE : graE size s f = 3 := by unfold graE; rw [hi]; rfl
    rw [hE]
    clear hE
    go_enter Try.func82, Try.ntmps82
    go_wp2_with (first | (go_at_call 21; refine (In_any _ _ _ _).mono ?_; rintro e w' ⟨rfl, rfl⟩))
    go_ret
    refine ⟨rfl, ?_⟩
    (repeat (first | exact Below.refl _ _ | assumption | (refine Below.setCell ?_ (by first | (simp; done) | (simp; omega) | omega) _) | (refine Below.drew ?_) | (refine below_drewN ?_ _) | (refine Below.alloc ?_ (by first | (simp; done) | (simp; omega) | omega) _) | (refine Below.trans ?_ (Below.mono (by assumption) (by first | (simp; done) | (simp; omega) | omega)))))
  case true =>
    have hA : allNum [s, f] = (isNum .f32 s && isNum .f32 f) := by simp [allNum]
    have hE : graE size s f = (if isNum .f32 s && isNum .f32 f then (if gr4 s && gr4 f then 0 else 3) else 2) := by unfold graE; rw [hi, hA]; rfl
    have hE' := Lib.hid hE; clear hE hA
    cases hs : isNum .f32 s <;> cases hf : isNum .f32 f
    case true.true =>
      have g1 := gr4_eq hs
      have g2 := gr4_eq hf
      have G1 := Lib.hid g1; have G2 := Lib.hid g2; clear g1 g2
      go_enter Try.func82, Try.ntmps82
      go_wp2_with (first | (go_at_call 21; refine (In_any _ _ _ _).mono ?_; rintro e w' ⟨rfl, rfl⟩) | (go_at_call 20; refine (When_any _ _ _).mono ?_; rintro e w' ⟨rfl, rfl⟩) | (go_at_call 52; refine (IsNumberR_any _ _).mono ?_; rintro e w' ⟨rfl, m, rfl⟩))
      all_goals
        go_ret
        refine ⟨ret_i ?_, ?_⟩
        · rw [hE'.out, hs, hf, G1.out, G2.out]
          first | rfl | (simp only [*]; rfl) | (simp [*]; done) | (rename_i k1 k2 k3; obtain ⟨x1, y1⟩ := two_or k1; obtain ⟨x2, y2⟩ := two_or k2; obtain ⟨x3, y3⟩ := two_or k3; rw [x1, x2, x3, y1, y2, y3]; generalize (FloatKind.f32.format.order f 1082130432 == some .lt) = X; generalize (FloatKind.f32.format.order f 1082130432 == some .eq) = Y; cases X <;> cases Y <;> rfl)
        · (repeat (first | exact Below.refl _ _ | assumption | (refine Below.setCell ?_ (by first | (simp; done) | (simp; omega) | omega) _) | (refine Below.drew ?_) | (refine below_drewN ?_ _) | (refine Below.alloc ?_ (by first | (simp; done) | (simp; omega) | omega) _) | (refine Below.trans ?_ (Below.mono (by assumption) (by first | (simp; done) | (simp; omega) | omega)))))
    all_goals
      go_enter Try.func82, Try.ntmps82
      go_wp2_with (first | (go_at_call 21; refine (In_any _ _ _ _).mono ?_; rintro e w' ⟨rfl, rfl⟩) | (go_at_call 52; refine (IsNumberR_any _ _).mono ?_; rintro e w' ⟨rfl, m, rfl⟩))
      go_ret
      refine ⟨ret_i (by rw [hE'.out, hs, hf]; rfl), ?_⟩
      (repeat (first | exact Below.refl _ _ | assumption | (refine Below.setCell ?_ (by first | (simp; done) | (simp; omega) | omega) _) | (refine Below.drew ?_) | (refine below_drewN ?_ _) | (refine Below.alloc ?_ (by first | (simp; done) | (simp; omega) | omega) _) | (refine Below.trans ?_ (Below.mono (by assumption) (by first | (simp; done) | (simp; omega) | omega)))))
end Go.Proofs.Ytmnmcmmhnbnndaa
