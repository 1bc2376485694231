/- colour.Known of the six names. No condition. -/
import Derived.Test.YtfmdnibfeckmaaaDoorTcH
import Derived.RegionTactic
import Derived.ChangeAlike
namespace Go.Proofs.YtfmdnibfeckmaaaDoor
open Go Go.RowKit
def knV0 : Value := .agg #[.string ⟨#[108, 105, 110, 101, 97, 114]⟩, .float .f32 1059313418, .float .f32 1051260355, .float .f32 1050253722, .float .f32 1058642330, .float .f32 1041865114, .float .f32 1031127695, .float .f32 1050679863, .float .f32 1051226800, .int .i64 1, .float .f32 0, .float .f32 0, .float .f32 0]
set_option maxRecDepth 100000 in
set_option maxHeartbeats 3200000 in
theorem KnownS_linear (w : World) : Calls Tryd.prog 10 #[.string ⟨#[108, 105, 110, 101, 97, 114]⟩] w fun e w' => e = .returned (.tuple #[knV0, .int .i64 0]) ∧ Below w.heap.size w w' := by
  go_enter Tryd.func10, Tryd.ntmps10
  go_wp2
  go_region
  go_wp2
  refine bodyPost_ret (v := .tuple #[.agg #[.string ⟨#[108, 105, 110, 101, 97, 114]⟩, .float .f32 1059313418, .float .f32 1051260355, .float .f32 1050253722, .float .f32 1058642330, .float .f32 1041865114, .float .f32 1031127695, .float .f32 1050679863, .float .f32 1051226800, .int .i64 1, .float .f32 0, .float .f32 0, .float .f32 0], .int .i64 0]) (by simp [results, Tryd.results10, go_sem]) rfl ⟨rfl, ?_⟩
  (repeat (first | exact Below.refl _ _ | assumption | (refine Below.setCell ?_ (by first | (simp; done) | (simp; omega) | omega) _) | (refine Below.drew ?_) | (refine below_drewN ?_ _) | (refine Below.alloc ?_ (by first | (simp; done) | (simp; omega) | omega) _) | (refine Below.trans ?_ (Below.mono (by assumption) (by first | (simp; done) | (simp; omega) | omega)))))
def knV1 : Value := .agg #[.string ⟨#[118, 105, 100, 101, 111]⟩, .float .f32 1059313418, .float .f32 1051260355, .float .f32 1050253722, .float .f32 1058642330, .float .f32 1041865114, .float .f32 1031127695, .float .f32 1050679863, .float .f32 1051226800, .int .i64 3, .float .f32 1075419546, .float .f32 1029785518, .float .f32 1095678034]
set_option maxRecDepth 100000 in
set_option maxHeartbeats 3200000 in
theorem KnownS_video (w : World) : Calls Tryd.prog 10 #[.string ⟨#[118, 105, 100, 101, 111]⟩] w fun e w' => e = .returned (.tuple #[knV1, .int .i64 0]) ∧ Below w.heap.size w w' := by
  go_enter Tryd.func10, Tryd.ntmps10
  go_wp2
  refine bodyPost_ret (v := .tuple #[.agg #[.string ⟨#[118, 105, 100, 101, 111]⟩, .float .f32 1059313418, .float .f32 1051260355, .float .f32 1050253722, .float .f32 1058642330, .float .f32 1041865114, .float .f32 1031127695, .float .f32 1050679863, .float .f32 1051226800, .int .i64 3, .float .f32 1075419546, .float .f32 1029785518, .float .f32 1095678034], .int .i64 0]) (by simp [results, Tryd.results10, go_sem]) rfl ⟨rfl, ?_⟩
  (repeat (first | exact Below.refl _ _ | assumption | (refine Below.setCell ?_ (by first | (simp; done) | (simp; omega) | omega) _) | (refine Below.drew ?_) | (refine below_drewN ?_ _) | (refine Below.alloc ?_ (by first | (simp; done) | (simp; omega) | omega) _) | (refine Below.trans ?_ (Below.mono (by assumption) (by first | (simp; done) | (simp; omega) | omega)))))
def knV2 : Value := .agg #[.string ⟨#[99, 105, 110, 101, 109, 97]⟩, .float .f32 1059984507, .float .f32 1050924810, .float .f32 1049079316, .float .f32 1060152279, .float .f32 1041865114, .float .f32 1031127695, .float .f32 1050723484, .float .f32 1051964998, .int .i64 2, .float .f32 1076258406, .float .f32 0, .float .f32 0]
set_option maxRecDepth 100000 in
set_option maxHeartbeats 3200000 in
theorem KnownS_cinema (w : World) : Calls Tryd.prog 10 #[.string ⟨#[99, 105, 110, 101, 109, 97]⟩] w fun e w' => e = .returned (.tuple #[knV2, .int .i64 0]) ∧ Below w.heap.size w w' := by
  go_enter Tryd.func10, Tryd.ntmps10
  go_wp2
  refine bodyPost_ret (v := .tuple #[.agg #[.string ⟨#[99, 105, 110, 101, 109, 97]⟩, .float .f32 1059984507, .float .f32 1050924810, .float .f32 1049079316, .float .f32 1060152279, .float .f32 1041865114, .float .f32 1031127695, .float .f32 1050723484, .float .f32 1051964998, .int .i64 2, .float .f32 1076258406, .float .f32 0, .float .f32 0], .int .i64 0]) (by simp [results, Tryd.results10, go_sem]) rfl ⟨rfl, ?_⟩
  (repeat (first | exact Below.refl _ _ | assumption | (refine Below.setCell ?_ (by first | (simp; done) | (simp; omega) | omega) _) | (refine Below.drew ?_) | (refine below_drewN ?_ _) | (refine Below.alloc ?_ (by first | (simp; done) | (simp; omega) | omega) _) | (refine Below.trans ?_ (Below.mono (by assumption) (by first | (simp; done) | (simp; omega) | omega)))))
def knV3 : Value := .agg #[.string ⟨#[119, 105, 100, 101]⟩, .float .f32 1060454269, .float .f32 1049985286, .float .f32 1043207291, .float .f32 1061947441, .float .f32 1040590045, .float .f32 1027369599, .float .f32 1050679863, .float .f32 1051226800, .int .i64 2, .float .f32 1075419546, .float .f32 0, .float .f32 0]
set_option maxRecDepth 100000 in
set_option maxHeartbeats 3200000 in
theorem KnownS_wide (w : World) : Calls Tryd.prog 10 #[.string ⟨#[119, 105, 100, 101]⟩] w fun e w' => e = .returned (.tuple #[knV3, .int .i64 0]) ∧ Below w.heap.size w w' := by
  go_enter Tryd.func10, Tryd.ntmps10
  go_wp2
  refine bodyPost_ret (v := .tuple #[.agg #[.string ⟨#[119, 105, 100, 101]⟩, .float .f32 1060454269, .float .f32 1049985286, .float .f32 1043207291, .float .f32 1061947441, .float .f32 1040590045, .float .f32 1027369599, .float .f32 1050679863, .float .f32 1051226800, .int .i64 2, .float .f32 1075419546, .float .f32 0, .float .f32 0], .int .i64 0]) (by simp [results, Tryd.results10, go_sem]) rfl ⟨rfl, ?_⟩
  (repeat (first | exact Below.refl _ _ | assumption | (refine Below.setCell ?_ (by first | (simp; done) | (simp; omega) | omega) _) | (refine Below.drew ?_) | (refine below_drewN ?_ _) | (refine Below.alloc ?_ (by first | (simp; done) | (simp; omega) | omega) _) | (refine Below.trans ?_ (Below.mono (by assumption) (by first | (simp; done) | (simp; omega) | omega)))))
def knV4 : Value := .agg #[.string ⟨#[115, 99, 101, 110, 101]⟩, .float .f32 1060538155, .float .f32 1050018841, .float .f32 1042871747, .float .f32 1062501089, .float .f32 1040388719, .float .f32 1026832728, .float .f32 1050981182, .float .f32 1051517717, .int .i64 1, .float .f32 0, .float .f32 0, .float .f32 0]
set_option maxRecDepth 100000 in
set_option maxHeartbeats 3200000 in
theorem KnownS_scene (w : World) : Calls Tryd.prog 10 #[.string ⟨#[115, 99, 101, 110, 101]⟩] w fun e w' => e = .returned (.tuple #[knV4, .int .i64 0]) ∧ Below w.heap.size w w' := by
  go_enter Tryd.func10, Tryd.ntmps10
  go_wp2
  go_region
  go_wp2
  refine bodyPost_ret (v := .tuple #[.agg #[.string ⟨#[115, 99, 101, 110, 101]⟩, .float .f32 1060538155, .float .f32 1050018841, .float .f32 1042871747, .float .f32 1062501089, .float .f32 1040388719, .float .f32 1026832728, .float .f32 1050981182, .float .f32 1051517717, .int .i64 1, .float .f32 0, .float .f32 0, .float .f32 0], .int .i64 0]) (by simp [results, Tryd.results10, go_sem]) rfl ⟨rfl, ?_⟩
  (repeat (first | exact Below.refl _ _ | assumption | (refine Below.setCell ?_ (by first | (simp; done) | (simp; omega) | omega) _) | (refine Below.drew ?_) | (refine below_drewN ?_ _) | (refine Below.alloc ?_ (by first | (simp; done) | (simp; omega) | omega) _) | (refine Below.trans ?_ (Below.mono (by assumption) (by first | (simp; done) | (simp; omega) | omega)))))
def knV5 : Value := .agg #[.string ⟨#[102, 105, 108, 109]⟩, .float .f32 1060538155, .float .f32 1050018841, .float .f32 1042871747, .float .f32 1062501089, .float .f32 1040388719, .float .f32 1026832728, .float .f32 1050981182, .float .f32 1051517717, .int .i64 4, .float .f32 1132462080, .float .f32 1031798784, .float .f32 0]
set_option maxRecDepth 100000 in
set_option maxHeartbeats 3200000 in
theorem KnownS_film (w : World) : Calls Tryd.prog 10 #[.string ⟨#[102, 105, 108, 109]⟩] w fun e w' => e = .returned (.tuple #[knV5, .int .i64 0]) ∧ Below w.heap.size w w' := by
  go_enter Tryd.func10, Tryd.ntmps10
  go_wp2
  refine bodyPost_ret (v := .tuple #[.agg #[.string ⟨#[102, 105, 108, 109]⟩, .float .f32 1060538155, .float .f32 1050018841, .float .f32 1042871747, .float .f32 1062501089, .float .f32 1040388719, .float .f32 1026832728, .float .f32 1050981182, .float .f32 1051517717, .int .i64 4, .float .f32 1132462080, .float .f32 1031798784, .float .f32 0], .int .i64 0]) (by simp [results, Tryd.results10, go_sem]) rfl ⟨rfl, ?_⟩
  (repeat (first | exact Below.refl _ _ | assumption | (refine Below.setCell ?_ (by first | (simp; done) | (simp; omega) | omega) _) | (refine Below.drew ?_) | (refine below_drewN ?_ _) | (refine Below.alloc ?_ (by first | (simp; done) | (simp; omega) | omega) _) | (refine Below.trans ?_ (Below.mono (by assumption) (by first | (simp; done) | (simp; omega) | omega)))))
end Go.Proofs.YtfmdnibfeckmaaaDoor
