/- strconv.ParseFloat at one digit: the numbers 1, 2, 3, 4. Conditions: the library's own switch 'optimize' reads as true. -/
import Derived.Test.YtjcakbikpficbaaGreatDoorProg
import Derived.WalkKit
import Derived.LoopN
import Derived.BigQuiet
import Derived.Deep.DeepCutAuto
import Derived.WalkMore
namespace Go.Proofs.YtjcakbikpficbaaGreatDoor
open Go Go.RowKit
theorem results_tmp7 {fn : Func} {a b c d e f g : Tmp} (h : fn.results = #[.tmp a, .tmp b, .tmp c, .tmp d, .tmp e, .tmp f, .tmp g]) (tmps : Array Value) (P : Program) (w : World) :
    (results fn tmps).run P w = .ok (.tuple #[tmps.getD a undef, tmps.getD b undef, tmps.getD c undef, tmps.getD d undef, tmps.getD e undef, tmps.getD f undef, tmps.getD g undef]) w := by
  simp [results, h]
theorem bool2_no (w : World) : Calls Tryz.prog 237 #[.bool false] w fun e w' => e = .returned (.int .u32 0) ∧ w = w' := by
  go_enter Tryz.func237, Tryz.ntmps237
  go_wp2_with fail
  go_ret
  exact ⟨rfl, rfl⟩
theorem special_49 (w : World) : Calls Tryz.prog 234 #[.string ⟨#[49]⟩] w fun e w' => e = .returned (.tuple #[.float .f64 0, .int .i64 0, .bool false]) ∧ w = w' := by
  go_enter Tryz.func234, Tryz.ntmps234
  go_wp2_with fail
  go_ret3
  exact ⟨rfl, rfl⟩
set_option maxRecDepth 100000 in
set_option maxHeartbeats 1600000 in
theorem readFloat_49 (w : World) : Calls Tryz.prog 235 #[.string ⟨#[49]⟩] w fun e w' => e = .returned (.tuple #[.int .u64 1, .int .i64 0, .bool false, .bool false, .bool false, .int .i64 1, .bool true]) ∧ w = w' := by
  go_enter Tryz.func235, Tryz.ntmps235
  go_wp2_with fail
  go_step3
  go_wp2_with fail
  go_step3
  go_wp2_with fail
  refine wp_loop_rounds 2 ?_
  rw [rounds_succ]
  go_wp2_with fail
  rw [rounds_succ]
  go_wp2_with fail
  rw [Exit.noGoto_ret]
  refine bodyPost_ret (results_tmp7 rfl _ _ _) rfl ?_
  exact ⟨rfl, rfl⟩
set_option maxRecDepth 100000 in
theorem exact32_49 (w : World) : Calls Tryz.prog 239 #[.int .u64 1, .int .i64 0, .bool false] w fun e w' => e = .returned (.tuple #[.float .f32 1065353216, .bool true]) ∧ w = w' := by
  have hcv : ∀ w, Sem.run Tryz.prog (convert 240 54 (.int .u64 1)) w = .ok (.float .f32 1065353216) w := fun _ => by kernel_rfl
  go_enter Tryz.func239, Tryz.ntmps239
  go_wp2_with fail
  go_ret2
  exact ⟨rfl, rfl⟩
set_option maxRecDepth 100000 in
theorem atof32_49 (w : World) (ho : w.cell? ⟨8, 0, none⟩ = some (.bool true)) : Calls Tryz.prog 228 #[.string ⟨#[49]⟩] w fun e w' => e = .returned (.tuple #[.float .f32 1065353216, .int .i64 1, .nilIface]) ∧ w = w' := by
  go_enter Tryz.func228, Tryz.ntmps228
  go_wp2_with (first | (go_at_call 237; refine (bool2_no _).mono ?_; rintro e w' ⟨rfl, rfl⟩) | (go_at_call 234; refine (special_49 _).mono ?_; rintro e w' ⟨rfl, rfl⟩) | (go_at_call 235; refine (readFloat_49 _).mono ?_; rintro e w' ⟨rfl, rfl⟩) | (go_at_call 239; refine (exact32_49 _).mono ?_; rintro e w' ⟨rfl, rfl⟩))
  go_ret3
  exact ⟨rfl, rfl⟩
theorem prefix_49 (w : World) (ho : w.cell? ⟨8, 0, none⟩ = some (.bool true)) : Calls Tryz.prog 219 #[.string ⟨#[49]⟩, .int .i64 32] w fun e w' => e = .returned (.tuple #[.float .f64 4607182418800017408, .int .i64 1, .nilIface]) ∧ w = w' := by
  have hcv : ∀ w, Sem.run Tryz.prog (convert 54 250 (.float .f32 1065353216)) w = .ok (.float .f64 4607182418800017408) w := fun _ => by kernel_rfl
  go_enter Tryz.func219, Tryz.ntmps219
  go_wp2_with (go_at_call 228; refine (atof32_49 _ ho).mono ?_; rintro e w' ⟨rfl, rfl⟩)
  go_ret3
  exact ⟨rfl, rfl⟩
theorem parseFloat_49 (w : World) (ho : w.cell? ⟨8, 0, none⟩ = some (.bool true)) : Calls Tryz.prog 202 #[.string ⟨#[49]⟩, .int .i64 32] w fun e w' => e = .returned (.tuple #[.float .f64 4607182418800017408, .nilIface]) ∧ w = w' := by
  go_enter Tryz.func202, Tryz.ntmps202
  go_wp2_with (go_at_call 219; refine (prefix_49 _ ho).mono ?_; rintro e w' ⟨rfl, rfl⟩)
  go_ret2
  exact ⟨rfl, rfl⟩
theorem ParseFloat_49 (w : World) (ho : w.cell? ⟨8, 0, none⟩ = some (.bool true)) : Calls Tryz.prog 173 #[.string ⟨#[49]⟩, .int .i64 32] w fun e w' => e = .returned (.tuple #[.float .f64 4607182418800017408, .nilIface]) ∧ w = w' := by
  go_enter Tryz.func173, Tryz.ntmps173
  go_wp2_with (go_at_call 202; refine (parseFloat_49 _ ho).mono ?_; rintro e w' ⟨rfl, rfl⟩)
  go_ret2
  exact ⟨rfl, rfl⟩
theorem special_50 (w : World) : Calls Tryz.prog 234 #[.string ⟨#[50]⟩] w fun e w' => e = .returned (.tuple #[.float .f64 0, .int .i64 0, .bool false]) ∧ w = w' := by
  go_enter Tryz.func234, Tryz.ntmps234
  go_wp2_with fail
  go_ret3
  exact ⟨rfl, rfl⟩
set_option maxRecDepth 100000 in
set_option maxHeartbeats 1600000 in
theorem readFloat_50 (w : World) : Calls Tryz.prog 235 #[.string ⟨#[50]⟩] w fun e w' => e = .returned (.tuple #[.int .u64 2, .int .i64 0, .bool false, .bool false, .bool false, .int .i64 1, .bool true]) ∧ w = w' := by
  go_enter Tryz.func235, Tryz.ntmps235
  go_wp2_with fail
  go_step3
  go_wp2_with fail
  go_step3
  go_wp2_with fail
  refine wp_loop_rounds 2 ?_
  rw [rounds_succ]
  go_wp2_with fail
  rw [rounds_succ]
  go_wp2_with fail
  rw [Exit.noGoto_ret]
  refine bodyPost_ret (results_tmp7 rfl _ _ _) rfl ?_
  exact ⟨rfl, rfl⟩
set_option maxRecDepth 100000 in
theorem exact32_50 (w : World) : Calls Tryz.prog 239 #[.int .u64 2, .int .i64 0, .bool false] w fun e w' => e = .returned (.tuple #[.float .f32 1073741824, .bool true]) ∧ w = w' := by
  have hcv : ∀ w, Sem.run Tryz.prog (convert 240 54 (.int .u64 2)) w = .ok (.float .f32 1073741824) w := fun _ => by kernel_rfl
  go_enter Tryz.func239, Tryz.ntmps239
  go_wp2_with fail
  go_ret2
  exact ⟨rfl, rfl⟩
set_option maxRecDepth 100000 in
theorem atof32_50 (w : World) (ho : w.cell? ⟨8, 0, none⟩ = some (.bool true)) : Calls Tryz.prog 228 #[.string ⟨#[50]⟩] w fun e w' => e = .returned (.tuple #[.float .f32 1073741824, .int .i64 1, .nilIface]) ∧ w = w' := by
  go_enter Tryz.func228, Tryz.ntmps228
  go_wp2_with (first | (go_at_call 237; refine (bool2_no _).mono ?_; rintro e w' ⟨rfl, rfl⟩) | (go_at_call 234; refine (special_50 _).mono ?_; rintro e w' ⟨rfl, rfl⟩) | (go_at_call 235; refine (readFloat_50 _).mono ?_; rintro e w' ⟨rfl, rfl⟩) | (go_at_call 239; refine (exact32_50 _).mono ?_; rintro e w' ⟨rfl, rfl⟩))
  go_ret3
  exact ⟨rfl, rfl⟩
theorem prefix_50 (w : World) (ho : w.cell? ⟨8, 0, none⟩ = some (.bool true)) : Calls Tryz.prog 219 #[.string ⟨#[50]⟩, .int .i64 32] w fun e w' => e = .returned (.tuple #[.float .f64 4611686018427387904, .int .i64 1, .nilIface]) ∧ w = w' := by
  have hcv : ∀ w, Sem.run Tryz.prog (convert 54 250 (.float .f32 1073741824)) w = .ok (.float .f64 4611686018427387904) w := fun _ => by kernel_rfl
  go_enter Tryz.func219, Tryz.ntmps219
  go_wp2_with (go_at_call 228; refine (atof32_50 _ ho).mono ?_; rintro e w' ⟨rfl, rfl⟩)
  go_ret3
  exact ⟨rfl, rfl⟩
theorem parseFloat_50 (w : World) (ho : w.cell? ⟨8, 0, none⟩ = some (.bool true)) : Calls Tryz.prog 202 #[.string ⟨#[50]⟩, .int .i64 32] w fun e w' => e = .returned (.tuple #[.float .f64 4611686018427387904, .nilIface]) ∧ w = w' := by
  go_enter Tryz.func202, Tryz.ntmps202
  go_wp2_with (go_at_call 219; refine (prefix_50 _ ho).mono ?_; rintro e w' ⟨rfl, rfl⟩)
  go_ret2
  exact ⟨rfl, rfl⟩
theorem ParseFloat_50 (w : World) (ho : w.cell? ⟨8, 0, none⟩ = some (.bool true)) : Calls Tryz.prog 173 #[.string ⟨#[50]⟩, .int .i64 32] w fun e w' => e = .returned (.tuple #[.float .f64 4611686018427387904, .nilIface]) ∧ w = w' := by
  go_enter Tryz.func173, Tryz.ntmps173
  go_wp2_with (go_at_call 202; refine (parseFloat_50 _ ho).mono ?_; rintro e w' ⟨rfl, rfl⟩)
  go_ret2
  exact ⟨rfl, rfl⟩
theorem special_51 (w : World) : Calls Tryz.prog 234 #[.string ⟨#[51]⟩] w fun e w' => e = .returned (.tuple #[.float .f64 0, .int .i64 0, .bool false]) ∧ w = w' := by
  go_enter Tryz.func234, Tryz.ntmps234
  go_wp2_with fail
  go_ret3
  exact ⟨rfl, rfl⟩
set_option maxRecDepth 100000 in
set_option maxHeartbeats 1600000 in
theorem readFloat_51 (w : World) : Calls Tryz.prog 235 #[.string ⟨#[51]⟩] w fun e w' => e = .returned (.tuple #[.int .u64 3, .int .i64 0, .bool false, .bool false, .bool false, .int .i64 1, .bool true]) ∧ w = w' := by
  go_enter Tryz.func235, Tryz.ntmps235
  go_wp2_with fail
  go_step3
  go_wp2_with fail
  go_step3
  go_wp2_with fail
  refine wp_loop_rounds 2 ?_
  rw [rounds_succ]
  go_wp2_with fail
  rw [rounds_succ]
  go_wp2_with fail
  rw [Exit.noGoto_ret]
  refine bodyPost_ret (results_tmp7 rfl _ _ _) rfl ?_
  exact ⟨rfl, rfl⟩
set_option maxRecDepth 100000 in
theorem exact32_51 (w : World) : Calls Tryz.prog 239 #[.int .u64 3, .int .i64 0, .bool false] w fun e w' => e = .returned (.tuple #[.float .f32 1077936128, .bool true]) ∧ w = w' := by
  have hcv : ∀ w, Sem.run Tryz.prog (convert 240 54 (.int .u64 3)) w = .ok (.float .f32 1077936128) w := fun _ => by kernel_rfl
  go_enter Tryz.func239, Tryz.ntmps239
  go_wp2_with fail
  go_ret2
  exact ⟨rfl, rfl⟩
set_option maxRecDepth 100000 in
theorem atof32_51 (w : World) (ho : w.cell? ⟨8, 0, none⟩ = some (.bool true)) : Calls Tryz.prog 228 #[.string ⟨#[51]⟩] w fun e w' => e = .returned (.tuple #[.float .f32 1077936128, .int .i64 1, .nilIface]) ∧ w = w' := by
  go_enter Tryz.func228, Tryz.ntmps228
  go_wp2_with (first | (go_at_call 237; refine (bool2_no _).mono ?_; rintro e w' ⟨rfl, rfl⟩) | (go_at_call 234; refine (special_51 _).mono ?_; rintro e w' ⟨rfl, rfl⟩) | (go_at_call 235; refine (readFloat_51 _).mono ?_; rintro e w' ⟨rfl, rfl⟩) | (go_at_call 239; refine (exact32_51 _).mono ?_; rintro e w' ⟨rfl, rfl⟩))
  go_ret3
  exact ⟨rfl, rfl⟩
theorem prefix_51 (w : World) (ho : w.cell? ⟨8, 0, none⟩ = some (.bool true)) : Calls Tryz.prog 219 #[.string ⟨#[51]⟩, .int .i64 32] w fun e w' => e = .returned (.tuple #[.float .f64 4613937818241073152, .int .i64 1, .nilIface]) ∧ w = w' := by
  have hcv : ∀ w, Sem.run Tryz.prog (convert 54 250 (.float .f32 1077936128)) w = .ok (.float .f64 4613937818241073152) w := fun _ => by kernel_rfl
  go_enter Tryz.func219, Tryz.ntmps219
  go_wp2_with (go_at_call 228; refine (atof32_51 _ ho).mono ?_; rintro e w' ⟨rfl, rfl⟩)
  go_ret3
  exact ⟨rfl, rfl⟩
theorem parseFloat_51 (w : World) (ho : w.cell? ⟨8, 0, none⟩ = some (.bool true)) : Calls Tryz.prog 202 #[.string ⟨#[51]⟩, .int .i64 32] w fun e w' => e = .returned (.tuple #[.float .f64 4613937818241073152, .nilIface]) ∧ w = w' := by
  go_enter Tryz.func202, Tryz.ntmps202
  go_wp2_with (go_at_call 219; refine (prefix_51 _ ho).mono ?_; rintro e w' ⟨rfl, rfl⟩)
  go_ret2
  exact ⟨rfl, rfl⟩
theorem ParseFloat_51 (w : World) (ho : w.cell? ⟨8, 0, none⟩ = some (.bool true)) : Calls Tryz.prog 173 #[.string ⟨#[51]⟩, .int .i64 32] w fun e w' => e = .returned (.tuple #[.float .f64 4613937818241073152, .nilIface]) ∧ w = w' := by
  go_enter Tryz.func173, Tryz.ntmps173
  go_wp2_with (go_at_call 202; refine (parseFloat_51 _ ho).mono ?_; rintro e w' ⟨rfl, rfl⟩)
  go_ret2
  exact ⟨rfl, rfl⟩
theorem special_52 (w : World) : Calls Tryz.prog 234 #[.string ⟨#[52]⟩] w fun e w' => e = .returned (.tuple #[.float .f64 0, .int .i64 0, .bool false]) ∧ w = w' := by
  go_enter Tryz.func234, Tryz.ntmps234
  go_wp2_with fail
  go_ret3
  exact ⟨rfl, rfl⟩
set_option maxRecDepth 100000 in
set_option maxHeartbeats 1600000 in
theorem readFloat_52 (w : World) : Calls Tryz.prog 235 #[.string ⟨#[52]⟩] w fun e w' => e = .returned (.tuple #[.int .u64 4, .int .i64 0, .bool false, .bool false, .bool false, .int .i64 1, .bool true]) ∧ w = w' := by
  go_enter Tryz.func235, Tryz.ntmps235
  go_wp2_with fail
  go_step3
  go_wp2_with fail
  go_step3
  go_wp2_with fail
  refine wp_loop_rounds 2 ?_
  rw [rounds_succ]
  go_wp2_with fail
  rw [rounds_succ]
  go_wp2_with fail
  rw [Exit.noGoto_ret]
  refine bodyPost_ret (results_tmp7 rfl _ _ _) rfl ?_
  exact ⟨rfl, rfl⟩
set_option maxRecDepth 100000 in
theorem exact32_52 (w : World) : Calls Tryz.prog 239 #[.int .u64 4, .int .i64 0, .bool false] w fun e w' => e = .returned (.tuple #[.float .f32 1082130432, .bool true]) ∧ w = w' := by
  have hcv : ∀ w, Sem.run Tryz.prog (convert 240 54 (.int .u64 4)) w = .ok (.float .f32 1082130432) w := fun _ => by kernel_rfl
  go_enter Tryz.func239, Tryz.ntmps239
  go_wp2_with fail
  go_ret2
  exact ⟨rfl, rfl⟩
set_option maxRecDepth 100000 in
theorem atof32_52 (w : World) (ho : w.cell? ⟨8, 0, none⟩ = some (.bool true)) : Calls Tryz.prog 228 #[.string ⟨#[52]⟩] w fun e w' => e = .returned (.tuple #[.float .f32 1082130432, .int .i64 1, .nilIface]) ∧ w = w' := by
  go_enter Tryz.func228, Tryz.ntmps228
  go_wp2_with (first | (go_at_call 237; refine (bool2_no _).mono ?_; rintro e w' ⟨rfl, rfl⟩) | (go_at_call 234; refine (special_52 _).mono ?_; rintro e w' ⟨rfl, rfl⟩) | (go_at_call 235; refine (readFloat_52 _).mono ?_; rintro e w' ⟨rfl, rfl⟩) | (go_at_call 239; refine (exact32_52 _).mono ?_; rintro e w' ⟨rfl, rfl⟩))
  go_ret3
  exact ⟨rfl, rfl⟩
theorem prefix_52 (w : World) (ho : w.cell? ⟨8, 0, none⟩ = some (.bool true)) : Calls Tryz.prog 219 #[.string ⟨#[52]⟩, .int .i64 32] w fun e w' => e = .returned (.tuple #[.float .f64 4616189618054758400, .int .i64 1, .nilIface]) ∧ w = w' := by
  have hcv : ∀ w, Sem.run Tryz.prog (convert 54 250 (.float .f32 1082130432)) w = .ok (.float .f64 4616189618054758400) w := fun _ => by kernel_rfl
  go_enter Tryz.func219, Tryz.ntmps219
  go_wp2_with (go_at_call 228; refine (atof32_52 _ ho).mono ?_; rintro e w' ⟨rfl, rfl⟩)
  go_ret3
  exact ⟨rfl, rfl⟩
theorem parseFloat_52 (w : World) (ho : w.cell? ⟨8, 0, none⟩ = some (.bool true)) : Calls Tryz.prog 202 #[.string ⟨#[52]⟩, .int .i64 32] w fun e w' => e = .returned (.tuple #[.float .f64 4616189618054758400, .nilIface]) ∧ w = w' := by
  go_enter Tryz.func202, Tryz.ntmps202
  go_wp2_with (go_at_call 219; refine (prefix_52 _ ho).mono ?_; rintro e w' ⟨rfl, rfl⟩)
  go_ret2
  exact ⟨rfl, rfl⟩
theorem ParseFloat_52 (w : World) (ho : w.cell? ⟨8, 0, none⟩ = some (.bool true)) : Calls Tryz.prog 173 #[.string ⟨#[52]⟩, .int .i64 32] w fun e w' => e = .returned (.tuple #[.float .f64 4616189618054758400, .nilIface]) ∧ w = w' := by
  go_enter Tryz.func173, Tryz.ntmps173
  go_wp2_with (go_at_call 202; refine (parseFloat_52 _ ho).mono ?_; rintro e w' ⟨rfl, rfl⟩)
  go_ret2
  exact ⟨rfl, rfl⟩
end Go.Proofs.YtjcakbikpficbaaGreatDoor
