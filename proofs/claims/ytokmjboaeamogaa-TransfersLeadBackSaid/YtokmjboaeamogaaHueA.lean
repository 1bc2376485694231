/- colours: whether there are known spaces. No condition. -/
import Derived.Test.YtokmjboaeamogaaBF
namespace Go.Proofs.Ytokmjboaeamogaa
open Go.RowKit
set_option maxRecDepth 100000 in
set_option maxHeartbeats 1600000 in
theorem Known_video (w : World) : Calls Try.prog 10 #[.string ⟨#[118, 105, 100, 101, 111]⟩] w fun e w' => e = .returned (.tuple #[.agg #[.string ⟨#[118, 105, 100, 101, 111]⟩, .float .f32 1059313418, .float .f32 1051260355, .float .f32 1050253722, .float .f32 1058642330, .float .f32 1041865114, .float .f32 1031127695, .float .f32 1050679863, .float .f32 1051226800, .int .i64 3, .float .f32 1075419546, .float .f32 1029785518, .float .f32 1095678034], .int .i64 0]) ∧ Below w.heap.size w w' := by
  go_enter Try.func10, Try.ntmps10
  go_wp2
  refine bodyPost_ret (v := .tuple #[.agg #[.string ⟨#[118, 105, 100, 101, 111]⟩, .float .f32 1059313418, .float .f32 1051260355, .float .f32 1050253722, .float .f32 1058642330, .float .f32 1041865114, .float .f32 1031127695, .float .f32 1050679863, .float .f32 1051226800, .int .i64 3, .float .f32 1075419546, .float .f32 1029785518, .float .f32 1095678034], .int .i64 0]) (by simp [results, Try.results10, go_sem]) rfl ⟨rfl, ?_⟩
  (repeat (first | exact Below.refl _ _ | assumption | (refine Below.setCell ?_ (by first | (simp; done) | (simp; omega) | omega) _) | (refine Below.drew ?_) | (refine below_drewN ?_ _) | (refine Below.alloc ?_ (by first | (simp; done) | (simp; omega) | omega) _) | (refine Below.trans ?_ (Below.mono (by assumption) (by first | (simp; done) | (simp; omega) | omega)))))
set_option maxRecDepth 100000 in
set_option maxHeartbeats 1600000 in
theorem colours_any (w : World) : Calls Try.prog 4 #[] w fun e w' => e = .returned (.bool true) ∧ Below w.heap.size w w' := by
  have o : (FloatKind.f32.format.order 1075419546 1075419546 == some .eq) = true := by decide +kernel
  go_enter Try.func4, Try.ntmps4
  go_wp2_with (first | (go_at_call 10; refine (Known_video _).mono ?_; rintro e w1 ⟨rfl, hb1⟩))
  go_ret
  refine ⟨rfl, ?_⟩
  have hs := hb1.size
  (repeat (first | exact Below.refl _ _ | assumption | (refine Below.setCell ?_ (by first | (simp; done) | (simp; omega) | omega) _) | (refine Below.drew ?_) | (refine below_drewN ?_ _) | (refine Below.alloc ?_ (by first | (simp; done) | (simp; omega) | omega) _) | (refine Below.trans ?_ (Below.mono (by assumption) (by first | (simp; done) | (simp; omega) | omega)))))
end Go.Proofs.Ytokmjboaeamogaa
