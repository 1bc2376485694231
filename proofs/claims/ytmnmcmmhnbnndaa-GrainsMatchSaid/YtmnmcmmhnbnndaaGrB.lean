/- What is wrong with grain: finish.CheckGrain. No condition. -/
import Derived.Test.YtmnmcmmhnbnndaaGrA
namespace Go.Proofs.Ytmnmcmmhnbnndaa
open Go.RowKit
def gr4 (v : Nat) : Bool := !(FloatKind.f32.format.order v 0 == some .lt) && !(FloatKind.f32.format.order v 1082130432 == some .gt)
def graE (size : Int) (s f : Nat) : Int := if inB size 1 16 then (if allNum [s, f] then (if gr4 s && gr4 f then 0 else 3) else 2) else 3
set_option maxRecDepth 100000 in
set_option maxHeartbeats 1600000 in
theorem CheckGrain_any (seed size : Int) (s f : Nat) (mono : Bool) (w : World) : Calls Try.prog 83 #[.agg #[.int .u32 seed, .int .i64 size, .float .f32 s, .float .f32 f, .bool mono]] w fun e w' => e = .returned (.int .i64 (graE size s f)) ∧ Below w.heap.size w w' := by
  by_cases hs : 1 ≤ size ∧ size ≤ 16
  · have hi : inB size 1 16 = true := inB_t hs
    obtain ⟨s1, s2⟩ := hs
    have hi' := Lib.hid hi; clear hi
    cases hA : allNum [s, f]
    all_goals
     go_enter Try.func83, Try.ntmps83
     go_wp2_with (first | (go_at_call 144; refine (All2_any _ _ _ s f _ (by simp [go_sem]) (by simp [go_sem])).mono ?_; rintro e w' ⟨rfl, rfl⟩))
     all_goals
      go_ret
      refine ⟨ret_i ?_, ?_⟩
      · unfold graE gr4
        rw [hi'.out, hA]
        first | rfl | (simp only [*]; rfl) | (simp [*]; done) | simp_all
      · (repeat (first | exact Below.refl _ _ | assumption | (refine Below.setCell ?_ (by first | (simp; done) | (simp; omega) | omega) _) | (refine Below.drew ?_) | (refine below_drewN ?_ _) | (refine Below.alloc ?_ (by first | (simp; done) | (simp; omega) | omega) _) | (refine Below.trans ?_ (Below.mono (by assumption) (by first | (simp; done) | (simp; omega) | omega)))))
  · have hi : inB size 1 16 = false := inB_f (by omega)
    have hE : graE size s f = 3 := by unfold graE; rw [hi]; rfl
    rw [hE]
    clear hi hE
    by_cases h1 : size < 1
    · go_enter Try.func83, Try.ntmps83
      go_wp2_with fail
      go_ret
      refine ⟨rfl, ?_⟩
      (repeat (first | exact Below.refl _ _ | assumption | (refine Below.setCell ?_ (by first | (simp; done) | (simp; omega) | omega) _) | (refine Below.drew ?_) | (refine below_drewN ?_ _) | (refine Below.alloc ?_ (by first | (simp; done) | (simp; omega) | omega) _) | (refine Below.trans ?_ (Below.mono (by assumption) (by first | (simp; done) | (simp; omega) | omega)))))
    · have h2 : 16 < size := by omega
      go_enter Try.func83, Try.ntmps83
      go_wp2_with fail
      go_ret
      refine ⟨rfl, ?_⟩
      (repeat (first | exact Below.refl _ _ | assumption | (refine Below.setCell ?_ (by first | (simp; done) | (simp; omega) | omega) _) | (refine Below.drew ?_) | (refine below_drewN ?_ _) | (refine Below.alloc ?_ (by first | (simp; done) | (simp; omega) | omega) _) | (refine Below.trans ?_ (Below.mono (by assumption) (by first | (simp; done) | (simp; omega) | omega)))))
end Go.Proofs.Ytmnmcmmhnbnndaa
