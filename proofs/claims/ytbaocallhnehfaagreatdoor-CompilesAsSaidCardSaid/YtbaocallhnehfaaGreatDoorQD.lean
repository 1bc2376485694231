/- strconv.ParseFloat at one digit: the numbers 1, 2, 3, 4. Conditions: the library's own switch 'optimize' reads as true. (with: NgA, KpA, NfP, NfQ, NfC, NfO, NgB, NgC, PgP, NgD, NfA) -/
import Derived.Test.YtbaocallhnehfaaGreatDoorProg
import Derived.WalkKit
import Derived.LoopN
import Derived.BigQuiet
import Derived.Deep.DeepCutAuto
import Derived.WalkMore
import Derived.Test.YtbaocallhnehfaaGreatDoorQC
import Derived.Lib.SlicesS
import Derived.Test.YtbaocallhnehfaaGreatDoorBG
import Derived.ArgAppend
import Derived.Maps.OwnSet
import Derived.Lib.ItoaLen
import Derived.Test.YtbaocallhnehfaaGreatDoorQA
import Derived.Test.YtbaocallhnehfaaGreatDoorQB
import Derived.Maps.StringElems
import Derived.Maps.OwnOps
import Derived.WalkSpells
namespace Go.Proofs.YtbaocallhnehfaaGreatDoor
open Go Go.RowKit
theorem results_tmp7 {fn : Func} {a b c d e f g : Tmp} (h : fn.results = #[.tmp a, .tmp b, .tmp c, .tmp d, .tmp e, .tmp f, .tmp g]) (tmps : Array Value) (P : Program) (w : World) :
    (results fn tmps).run P w = .ok (.tuple #[tmps.getD a undef, tmps.getD b undef, tmps.getD c undef, tmps.getD d undef, tmps.getD e undef, tmps.getD f undef, tmps.getD g undef]) w := by
  simp [results, h]
theorem bool2_no (w : World) : Calls Tryz.prog 177 #[.bool false] w fun e w' => e = .returned (.int .u32 0) ∧ w = w' := by
  go_enter Tryz.func177, Tryz.ntmps177
  go_wp2_with fail
  go_ret
  exact ⟨rfl, rfl⟩
theorem special_49 (w : World) : Calls Tryz.prog 174 #[.string ⟨#[49]⟩] w fun e w' => e = .returned (.tuple #[.float .f64 0, .int .i64 0, .bool false]) ∧ w = w' := by
  go_enter Tryz.func174, Tryz.ntmps174
  go_wp2_with fail
  go_ret3
  exact ⟨rfl, rfl⟩
set_option maxRecDepth 100000 in
set_option maxHeartbeats 1600000 in
theorem readFloat_49 (w : World) : Calls Tryz.prog 175 #[.string ⟨#[49]⟩] w fun e w' => e = .returned (.tuple #[.int .u64 1, .int .i64 0, .bool false, .bool false, .bool false, .int .i64 1, .bool true]) ∧ w = w' := by
  go_enter Tryz.func175, Tryz.ntmps175
  go_wp2_with fail
  go_step3
  go_wp2_with fail
  go_step3
  go_wp2_with fail
  refine wp_loop_rounds 2 ?_
  rw [rounds_succ]
  go_wp2_with fail
  rw [rounds_succ]
  go_wp2_with fail
  rw [Exit.noGoto_ret]
  refine bodyPost_ret (results_tmp7 rfl _ _ _) rfl ?_
  exact ⟨rfl, rfl⟩
set_option maxRecDepth 100000 in
theorem exact32_49 (w : World) : Calls Tryz.prog 179 #[.int .u64 1, .int .i64 0, .bool false] w fun e w' => e = .returned (.tuple #[.float .f32 1065353216, .bool true]) ∧ w = w' := by
  have hcv : ∀ w, Sem.run Tryz.prog (convert 168 41 (.int .u64 1)) w = .ok (.float .f32 1065353216) w := fun _ => by kernel_rfl
  go_enter Tryz.func179, Tryz.ntmps179
  go_wp2_with fail
  go_ret2
  exact ⟨rfl, rfl⟩
set_option maxRecDepth 100000 in
theorem atof32_49 (w : World) (ho : w.cell? ⟨10, 0, none⟩ = some (.bool true)) : Calls Tryz.prog 172 #[.string ⟨#[49]⟩] w fun e w' => e = .returned (.tuple #[.float .f32 1065353216, .int .i64 1, .nilIface]) ∧ w = w' := by
  go_enter Tryz.func172, Tryz.ntmps172
  go_wp2_with (first | (go_at_call 177; refine (bool2_no _).mono ?_; rintro e w' ⟨rfl, rfl⟩) | (go_at_call 174; refine (special_49 _).mono ?_; rintro e w' ⟨rfl, rfl⟩) | (go_at_call 175; refine (readFloat_49 _).mono ?_; rintro e w' ⟨rfl, rfl⟩) | (go_at_call 179; refine (exact32_49 _).mono ?_; rintro e w' ⟨rfl, rfl⟩))
  go_ret3
  exact ⟨rfl, rfl⟩
theorem prefix_49 (w : World) (ho : w.cell? ⟨10, 0, none⟩ = some (.bool true)) : Calls Tryz.prog 164 #[.string ⟨#[49]⟩, .int .i64 32] w fun e w' => e = .returned (.tuple #[.float .f64 4607182418800017408, .int .i64 1, .nilIface]) ∧ w = w' := by
  have hcv : ∀ w, Sem.run Tryz.prog (convert 41 157 (.float .f32 1065353216)) w = .ok (.float .f64 4607182418800017408) w := fun _ => by kernel_rfl
  go_enter Tryz.func164, Tryz.ntmps164
  go_wp2_with (go_at_call 172; refine (atof32_49 _ ho).mono ?_; rintro e w' ⟨rfl, rfl⟩)
  go_ret3
  exact ⟨rfl, rfl⟩
theorem parseFloat_49 (w : World) (ho : w.cell? ⟨10, 0, none⟩ = some (.bool true)) : Calls Tryz.prog 142 #[.string ⟨#[49]⟩, .int .i64 32] w fun e w' => e = .returned (.tuple #[.float .f64 4607182418800017408, .nilIface]) ∧ w = w' := by
  go_enter Tryz.func142, Tryz.ntmps142
  go_wp2_with (go_at_call 164; refine (prefix_49 _ ho).mono ?_; rintro e w' ⟨rfl, rfl⟩)
  go_ret2
  exact ⟨rfl, rfl⟩
theorem ParseFloat_49 (w : World) (ho : w.cell? ⟨10, 0, none⟩ = some (.bool true)) : Calls Tryz.prog 110 #[.string ⟨#[49]⟩, .int .i64 32] w fun e w' => e = .returned (.tuple #[.float .f64 4607182418800017408, .nilIface]) ∧ w = w' := by
  go_enter Tryz.func110, Tryz.ntmps110
  go_wp2_with (go_at_call 142; refine (parseFloat_49 _ ho).mono ?_; rintro e w' ⟨rfl, rfl⟩)
  go_ret2
  exact ⟨rfl, rfl⟩
theorem special_50 (w : World) : Calls Tryz.prog 174 #[.string ⟨#[50]⟩] w fun e w' => e = .returned (.tuple #[.float .f64 0, .int .i64 0, .bool false]) ∧ w = w' := by
  go_enter Tryz.func174, Tryz.ntmps174
  go_wp2_with fail
  go_ret3
  exact ⟨rfl, rfl⟩
set_option maxRecDepth 100000 in
set_option maxHeartbeats 1600000 in
theorem readFloat_50 (w : World) : Calls Tryz.prog 175 #[.string ⟨#[50]⟩] w fun e w' => e = .returned (.tuple #[.int .u64 2, .int .i64 0, .bool false, .bool false, .bool false, .int .i64 1, .bool true]) ∧ w = w' := by
  go_enter Tryz.func175, Tryz.ntmps175
  go_wp2_with fail
  go_step3
  go_wp2_with fail
  go_step3
  go_wp2_with fail
  refine wp_loop_rounds 2 ?_
  rw [rounds_succ]
  go_wp2_with fail
  rw [rounds_succ]
  go_wp2_with fail
  rw [Exit.noGoto_ret]
  refine bodyPost_ret (results_tmp7 rfl _ _ _) rfl ?_
  exact ⟨rfl, rfl⟩
set_option maxRecDepth 100000 in
theorem exact32_50 (w : World) : Calls Tryz.prog 179 #[.int .u64 2, .int .i64 0, .bool false] w fun e w' => e = .returned (.tuple #[.float .f32 1073741824, .bool true]) ∧ w = w' := by
  have hcv : ∀ w, Sem.run Tryz.prog (convert 168 41 (.int .u64 2)) w = .ok (.float .f32 1073741824) w := fun _ => by kernel_rfl
  go_enter Tryz.func179, Tryz.ntmps179
  go_wp2_with fail
  go_ret2
  exact ⟨rfl, rfl⟩
set_option maxRecDepth 100000 in
theorem atof32_50 (w : World) (ho : w.cell? ⟨10, 0, none⟩ = some (.bool true)) : Calls Tryz.prog 172 #[.string ⟨#[50]⟩] w fun e w' => e = .returned (.tuple #[.float .f32 1073741824, .int .i64 1, .nilIface]) ∧ w = w' := by
  go_enter Tryz.func172, Tryz.ntmps172
  go_wp2_with (first | (go_at_call 177; refine (bool2_no _).mono ?_; rintro e w' ⟨rfl, rfl⟩) | (go_at_call 174; refine (special_50 _).mono ?_; rintro e w' ⟨rfl, rfl⟩) | (go_at_call 175; refine (readFloat_50 _).mono ?_; rintro e w' ⟨rfl, rfl⟩) | (go_at_call 179; refine (exact32_50 _).mono ?_; rintro e w' ⟨rfl, rfl⟩))
  go_ret3
  exact ⟨rfl, rfl⟩
theorem prefix_50 (w : World) (ho : w.cell? ⟨10, 0, none⟩ = some (.bool true)) : Calls Tryz.prog 164 #[.string ⟨#[50]⟩, .int .i64 32] w fun e w' => e = .returned (.tuple #[.float .f64 4611686018427387904, .int .i64 1, .nilIface]) ∧ w = w' := by
  have hcv : ∀ w, Sem.run Tryz.prog (convert 41 157 (.float .f32 1073741824)) w = .ok (.float .f64 4611686018427387904) w := fun _ => by kernel_rfl
  go_enter Tryz.func164, Tryz.ntmps164
  go_wp2_with (go_at_call 172; refine (atof32_50 _ ho).mono ?_; rintro e w' ⟨rfl, rfl⟩)
  go_ret3
  exact ⟨rfl, rfl⟩
theorem parseFloat_50 (w : World) (ho : w.cell? ⟨10, 0, none⟩ = some (.bool true)) : Calls Tryz.prog 142 #[.string ⟨#[50]⟩, .int .i64 32] w fun e w' => e = .returned (.tuple #[.float .f64 4611686018427387904, .nilIface]) ∧ w = w' := by
  go_enter Tryz.func142, Tryz.ntmps142
  go_wp2_with (go_at_call 164; refine (prefix_50 _ ho).mono ?_; rintro e w' ⟨rfl, rfl⟩)
  go_ret2
  exact ⟨rfl, rfl⟩
theorem ParseFloat_50 (w : World) (ho : w.cell? ⟨10, 0, none⟩ = some (.bool true)) : Calls Tryz.prog 110 #[.string ⟨#[50]⟩, .int .i64 32] w fun e w' => e = .returned (.tuple #[.float .f64 4611686018427387904, .nilIface]) ∧ w = w' := by
  go_enter Tryz.func110, Tryz.ntmps110
  go_wp2_with (go_at_call 142; refine (parseFloat_50 _ ho).mono ?_; rintro e w' ⟨rfl, rfl⟩)
  go_ret2
  exact ⟨rfl, rfl⟩
theorem special_51 (w : World) : Calls Tryz.prog 174 #[.string ⟨#[51]⟩] w fun e w' => e = .returned (.tuple #[.float .f64 0, .int .i64 0, .bool false]) ∧ w = w' := by
  go_enter Tryz.func174, Tryz.ntmps174
  go_wp2_with fail
  go_ret3
  exact ⟨rfl, rfl⟩
set_option maxRecDepth 100000 in
set_option maxHeartbeats 1600000 in
theorem readFloat_51 (w : World) : Calls Tryz.prog 175 #[.string ⟨#[51]⟩] w fun e w' => e = .returned (.tuple #[.int .u64 3, .int .i64 0, .bool false, .bool false, .bool false, .int .i64 1, .bool true]) ∧ w = w' := by
  go_enter Tryz.func175, Tryz.ntmps175
  go_wp2_with fail
  go_step3
  go_wp2_with fail
  go_step3
  go_wp2_with fail
  refine wp_loop_rounds 2 ?_
  rw [rounds_succ]
  go_wp2_with fail
  rw [rounds_succ]
  go_wp2_with fail
  rw [Exit.noGoto_ret]
  refine bodyPost_ret (results_tmp7 rfl _ _ _) rfl ?_
  exact ⟨rfl, rfl⟩
set_option maxRecDepth 100000 in
theorem exact32_51 (w : World) : Calls Tryz.prog 179 #[.int .u64 3, .int .i64 0, .bool false] w fun e w' => e = .returned (.tuple #[.float .f32 1077936128, .bool true]) ∧ w = w' := by
  have hcv : ∀ w, Sem.run Tryz.prog (convert 168 41 (.int .u64 3)) w = .ok (.float .f32 1077936128) w := fun _ => by kernel_rfl
  go_enter Tryz.func179, Tryz.ntmps179
  go_wp2_with fail
  go_ret2
  exact ⟨rfl, rfl⟩
set_option maxRecDepth 100000 in
theorem atof32_51 (w : World) (ho : w.cell? ⟨10, 0, none⟩ = some (.bool true)) : Calls Tryz.prog 172 #[.string ⟨#[51]⟩] w fun e w' => e = .returned (.tuple #[.float .f32 1077936128, .int .i64 1, .nilIface]) ∧ w = w' := by
  go_enter Tryz.func172, Tryz.ntmps172
  go_wp2_with (first | (go_at_call 177; refine (bool2_no _).mono ?_; rintro e w' ⟨rfl, rfl⟩) | (go_at_call 174; refine (special_51 _).mono ?_; rintro e w' ⟨rfl, rfl⟩) | (go_at_call 175; refine (readFloat_51 _).mono ?_; rintro e w' ⟨rfl, rfl⟩) | (go_at_call 179; refine (exact32_51 _).mono ?_; rintro e w' ⟨rfl, rfl⟩))
  go_ret3
  exact ⟨rfl, rfl⟩
theorem prefix_51 (w : World) (ho : w.cell? ⟨10, 0, none⟩ = some (.bool true)) : Calls Tryz.prog 164 #[.string ⟨#[51]⟩, .int .i64 32] w fun e w' => e = .returned (.tuple #[.float .f64 4613937818241073152, .int .i64 1, .nilIface]) ∧ w = w' := by
  have hcv : ∀ w, Sem.run Tryz.prog (convert 41 157 (.float .f32 1077936128)) w = .ok (.float .f64 4613937818241073152) w := fun _ => by kernel_rfl
  go_enter Tryz.func164, Tryz.ntmps164
  go_wp2_with (go_at_call 172; refine (atof32_51 _ ho).mono ?_; rintro e w' ⟨rfl, rfl⟩)
  go_ret3
  exact ⟨rfl, rfl⟩
theorem parseFloat_51 (w : World) (ho : w.cell? ⟨10, 0, none⟩ = some (.bool true)) : Calls Tryz.prog 142 #[.string ⟨#[51]⟩, .int .i64 32] w fun e w' => e = .returned (.tuple #[.float .f64 4613937818241073152, .nilIface]) ∧ w = w' := by
  go_enter Tryz.func142, Tryz.ntmps142
  go_wp2_with (go_at_call 164; refine (prefix_51 _ ho).mono ?_; rintro e w' ⟨rfl, rfl⟩)
  go_ret2
  exact ⟨rfl, rfl⟩
theorem ParseFloat_51 (w : World) (ho : w.cell? ⟨10, 0, none⟩ = some (.bool true)) : Calls Tryz.prog 110 #[.string ⟨#[51]⟩, .int .i64 32] w fun e w' => e = .returned (.tuple #[.float .f64 4613937818241073152, .nilIface]) ∧ w = w' := by
  go_enter Tryz.func110, Tryz.ntmps110
  go_wp2_with (go_at_call 142; refine (parseFloat_51 _ ho).mono ?_; rintro e w' ⟨rfl, rfl⟩)
  go_ret2
  exact ⟨rfl, rfl⟩
theorem special_52 (w : World) : Calls Tryz.prog 174 #[.string ⟨#[52]⟩] w fun e w' => e = .returned (.tuple #[.float .f64 0, .int .i64 0, .bool false]) ∧ w = w' := by
  go_enter Tryz.func174, Tryz.ntmps174
  go_wp2_with fail
  go_ret3
  exact ⟨rfl, rfl⟩
set_option maxRecDepth 100000 in
set_option maxHeartbeats 1600000 in
theorem readFloat_52 (w : World) : Calls Tryz.prog 175 #[.string ⟨#[52]⟩] w fun e w' => e = .returned (.tuple #[.int .u64 4, .int .i64 0, .bool false, .bool false, .bool false, .int .i64 1, .bool true]) ∧ w = w' := by
  go_enter Tryz.func175, Tryz.ntmps175
  go_wp2_with fail
  go_step3
  go_wp2_with fail
  go_step3
  go_wp2_with fail
  refine wp_loop_rounds 2 ?_
  rw [rounds_succ]
  go_wp2_with fail
  rw [rounds_succ]
  go_wp2_with fail
  rw [Exit.noGoto_ret]
  refine bodyPost_ret (results_tmp7 rfl _ _ _) rfl ?_
  exact ⟨rfl, rfl⟩
set_option maxRecDepth 100000 in
theorem exact32_52 (w : World) : Calls Tryz.prog 179 #[.int .u64 4, .int .i64 0, .bool false] w fun e w' => e = .returned (.tuple #[.float .f32 1082130432, .bool true]) ∧ w = w' := by
  have hcv : ∀ w, Sem.run Tryz.prog (convert 168 41 (.int .u64 4)) w = .ok (.float .f32 1082130432) w := fun _ => by kernel_rfl
  go_enter Tryz.func179, Tryz.ntmps179
  go_wp2_with fail
  go_ret2
  exact ⟨rfl, rfl⟩
set_option maxRecDepth 100000 in
theorem atof32_52 (w : World) (ho : w.cell? ⟨10, 0, none⟩ = some (.bool true)) : Calls Tryz.prog 172 #[.string ⟨#[52]⟩] w fun e w' => e = .returned (.tuple #[.float .f32 1082130432, .int .i64 1, .nilIface]) ∧ w = w' := by
  go_enter Tryz.func172, Tryz.ntmps172
  go_wp2_with (first | (go_at_call 177; refine (bool2_no _).mono ?_; rintro e w' ⟨rfl, rfl⟩) | (go_at_call 174; refine (special_52 _).mono ?_; rintro e w' ⟨rfl, rfl⟩) | (go_at_call 175; refine (readFloat_52 _).mono ?_; rintro e w' ⟨rfl, rfl⟩) | (go_at_call 179; refine (exact32_52 _).mono ?_; rintro e w' ⟨rfl, rfl⟩))
  go_ret3
  exact ⟨rfl, rfl⟩
theorem prefix_52 (w : World) (ho : w.cell? ⟨10, 0, none⟩ = some (.bool true)) : Calls Tryz.prog 164 #[.string ⟨#[52]⟩, .int .i64 32] w fun e w' => e = .returned (.tuple #[.float .f64 4616189618054758400, .int .i64 1, .nilIface]) ∧ w = w' := by
  have hcv : ∀ w, Sem.run Tryz.prog (convert 41 157 (.float .f32 1082130432)) w = .ok (.float .f64 4616189618054758400) w := fun _ => by kernel_rfl
  go_enter Tryz.func164, Tryz.ntmps164
  go_wp2_with (go_at_call 172; refine (atof32_52 _ ho).mono ?_; rintro e w' ⟨rfl, rfl⟩)
  go_ret3
  exact ⟨rfl, rfl⟩
theorem parseFloat_52 (w : World) (ho : w.cell? ⟨10, 0, none⟩ = some (.bool true)) : Calls Tryz.prog 142 #[.string ⟨#[52]⟩, .int .i64 32] w fun e w' => e = .returned (.tuple #[.float .f64 4616189618054758400, .nilIface]) ∧ w = w' := by
  go_enter Tryz.func142, Tryz.ntmps142
  go_wp2_with (go_at_call 164; refine (prefix_52 _ ho).mono ?_; rintro e w' ⟨rfl, rfl⟩)
  go_ret2
  exact ⟨rfl, rfl⟩
theorem ParseFloat_52 (w : World) (ho : w.cell? ⟨10, 0, none⟩ = some (.bool true)) : Calls Tryz.prog 110 #[.string ⟨#[52]⟩, .int .i64 32] w fun e w' => e = .returned (.tuple #[.float .f64 4616189618054758400, .nilIface]) ∧ w = w' := by
  go_enter Tryz.func110, Tryz.ntmps110
  go_wp2_with (go_at_call 142; refine (parseFloat_52 _ ho).mono ?_; rintro e w' ⟨rfl, rfl⟩)
  go_ret2
  exact ⟨rfl, rfl⟩
end Go.Proofs.YtbaocallhnehfaaGreatDoor

namespace Go.Proofs.YtbaocallhnehfaaGreatDoor
open Go Go.RowKit
/-- What the library's variables hold, and its switch 'optimize'. -/
structure LibN (w : World) : Prop where
  l : LibW w
  o : w.cell? ⟨10, 0, none⟩ = some (.bool true)
theorem LibN.past {w w' : World} (h : LibN w) (hb : Below w.heap.size w w') : LibN w' := ⟨h.l.past hb, by rw [hb.cell (p := ⟨10, 0, none⟩) (cell_lt h.o)]; exact h.o⟩
theorem cutp_no (p : UInt8) (w : World) : Calls Tryz.prog 141 #[.string ⟨#[]⟩, .string ⟨#[p]⟩] w fun e w' => e = .returned (.tuple #[.string ⟨#[]⟩, .bool false]) ∧ w' = w := Tryz.strings_CutPrefix ⟨#[]⟩ ⟨#[p]⟩ w
theorem trimL_49 (w : World) : Calls Tryz.prog 162 #[.string ⟨#[49]⟩, .string setD] w fun e w' => e = .returned (.string ⟨#[]⟩) ∧ Below w.heap.size w w' := by
  refine (Any.strings_TrimLeft_laid Tryz.lays161 (by kernel_rfl) ⟨#[49]⟩ setD w (by decide) (ascii_of_all (by decide))).mono ?_
  rintro e w' ⟨rfl, hb⟩
  rw [show Lib.trimLeftS (⟨#[49]⟩ : ByteArray).data.toList setD.data.toList = [] from by decide +kernel]
  exact ⟨rfl, hb⟩
theorem digits_49 (w : World) : Calls Tryz.prog 140 #[.string ⟨#[49]⟩] w fun e w' => e = .returned (.tuple #[.int .i64 1, .string ⟨#[]⟩]) ∧ Below w.heap.size w w' := by
  go_enter Tryz.func140, Tryz.ntmps140
  go_wp2_with (go_at_call 162; refine (trimL_49 _).mono ?_; rintro e w1 ⟨rfl, hb⟩)
  go_ret2
  exact ⟨rfl, hb⟩
theorem trimM_49 (w : World) : Calls Tryz.prog 106 #[.string ⟨#[49]⟩, .string ⟨#[45]⟩] w fun e w' => e = .returned (.string ⟨#[49]⟩) ∧ w' = w := by
  refine (Tryz.strings_TrimPrefix ⟨#[49]⟩ ⟨#[45]⟩ w).mono ?_
  rintro e w' ⟨rfl, rfl⟩
  rw [show Lib.trimPrefix (⟨#[49]⟩ : ByteArray).data.toList (⟨#[45]⟩ : ByteArray).data.toList = [49] from by decide +kernel]
  exact ⟨rfl, rfl⟩
theorem isDecimal_49 (w : World) : Calls Tryz.prog 109 #[.string ⟨#[49]⟩] w fun e w' => e = .returned (.bool true) ∧ Below w.heap.size w w' := by
  go_enter Tryz.func109, Tryz.ntmps109
  go_wp2_with (first | (go_at_call 106; refine (trimM_49 _).mono ?_; rintro e w1 ⟨rfl, rfl⟩) | (go_at_call 140; refine (digits_49 _).mono ?_; rintro e w1 ⟨rfl, hb⟩) | (go_at_call 141; refine (cutp_no _ _).mono ?_; rintro e w2 ⟨rfl, rfl⟩))
  go_ret
  exact ⟨rfl, hb⟩
set_option maxRecDepth 100000 in
theorem nparse_49 (w : World) (hL : LibN w) : Calls Tryz.prog 75 #[.string ⟨#[49]⟩] w fun e w' => e = .returned (.tuple #[.float .f32 1065353216, .int .i64 0]) ∧ Below w.heap.size w w' := by
  have hcv : ∀ w, Sem.run Tryz.prog (convert 157 41 (.float .f64 4607182418800017408)) w = .ok (.float .f32 1065353216) w := fun _ => by kernel_rfl
  have HL := Lib.hid hL
  clear hL
  go_enter Tryz.func75, Tryz.ntmps75
  go_wp2_with (first | (go_at_call 109; refine (isDecimal_49 _).mono ?_; rintro e w1 ⟨rfl, hb⟩) | (go_at_call 110; refine (ParseFloat_49 _ (HL.out.past hb).o).mono ?_; rintro e w2 ⟨rfl, rfl⟩))
  go_ret2
  exact ⟨rfl, hb⟩
theorem trimL_50 (w : World) : Calls Tryz.prog 162 #[.string ⟨#[50]⟩, .string setD] w fun e w' => e = .returned (.string ⟨#[]⟩) ∧ Below w.heap.size w w' := by
  refine (Any.strings_TrimLeft_laid Tryz.lays161 (by kernel_rfl) ⟨#[50]⟩ setD w (by decide) (ascii_of_all (by decide))).mono ?_
  rintro e w' ⟨rfl, hb⟩
  rw [show Lib.trimLeftS (⟨#[50]⟩ : ByteArray).data.toList setD.data.toList = [] from by decide +kernel]
  exact ⟨rfl, hb⟩
theorem digits_50 (w : World) : Calls Tryz.prog 140 #[.string ⟨#[50]⟩] w fun e w' => e = .returned (.tuple #[.int .i64 1, .string ⟨#[]⟩]) ∧ Below w.heap.size w w' := by
  go_enter Tryz.func140, Tryz.ntmps140
  go_wp2_with (go_at_call 162; refine (trimL_50 _).mono ?_; rintro e w1 ⟨rfl, hb⟩)
  go_ret2
  exact ⟨rfl, hb⟩
theorem trimM_50 (w : World) : Calls Tryz.prog 106 #[.string ⟨#[50]⟩, .string ⟨#[45]⟩] w fun e w' => e = .returned (.string ⟨#[50]⟩) ∧ w' = w := by
  refine (Tryz.strings_TrimPrefix ⟨#[50]⟩ ⟨#[45]⟩ w).mono ?_
  rintro e w' ⟨rfl, rfl⟩
  rw [show Lib.trimPrefix (⟨#[50]⟩ : ByteArray).data.toList (⟨#[45]⟩ : ByteArray).data.toList = [50] from by decide +kernel]
  exact ⟨rfl, rfl⟩
theorem isDecimal_50 (w : World) : Calls Tryz.prog 109 #[.string ⟨#[50]⟩] w fun e w' => e = .returned (.bool true) ∧ Below w.heap.size w w' := by
  go_enter Tryz.func109, Tryz.ntmps109
  go_wp2_with (first | (go_at_call 106; refine (trimM_50 _).mono ?_; rintro e w1 ⟨rfl, rfl⟩) | (go_at_call 140; refine (digits_50 _).mono ?_; rintro e w1 ⟨rfl, hb⟩) | (go_at_call 141; refine (cutp_no _ _).mono ?_; rintro e w2 ⟨rfl, rfl⟩))
  go_ret
  exact ⟨rfl, hb⟩
set_option maxRecDepth 100000 in
theorem nparse_50 (w : World) (hL : LibN w) : Calls Tryz.prog 75 #[.string ⟨#[50]⟩] w fun e w' => e = .returned (.tuple #[.float .f32 1073741824, .int .i64 0]) ∧ Below w.heap.size w w' := by
  have hcv : ∀ w, Sem.run Tryz.prog (convert 157 41 (.float .f64 4611686018427387904)) w = .ok (.float .f32 1073741824) w := fun _ => by kernel_rfl
  have HL := Lib.hid hL
  clear hL
  go_enter Tryz.func75, Tryz.ntmps75
  go_wp2_with (first | (go_at_call 109; refine (isDecimal_50 _).mono ?_; rintro e w1 ⟨rfl, hb⟩) | (go_at_call 110; refine (ParseFloat_50 _ (HL.out.past hb).o).mono ?_; rintro e w2 ⟨rfl, rfl⟩))
  go_ret2
  exact ⟨rfl, hb⟩
theorem trimL_51 (w : World) : Calls Tryz.prog 162 #[.string ⟨#[51]⟩, .string setD] w fun e w' => e = .returned (.string ⟨#[]⟩) ∧ Below w.heap.size w w' := by
  refine (Any.strings_TrimLeft_laid Tryz.lays161 (by kernel_rfl) ⟨#[51]⟩ setD w (by decide) (ascii_of_all (by decide))).mono ?_
  rintro e w' ⟨rfl, hb⟩
  rw [show Lib.trimLeftS (⟨#[51]⟩ : ByteArray).data.toList setD.data.toList = [] from by decide +kernel]
  exact ⟨rfl, hb⟩
theorem digits_51 (w : World) : Calls Tryz.prog 140 #[.string ⟨#[51]⟩] w fun e w' => e = .returned (.tuple #[.int .i64 1, .string ⟨#[]⟩]) ∧ Below w.heap.size w w' := by
  go_enter Tryz.func140, Tryz.ntmps140
  go_wp2_with (go_at_call 162; refine (trimL_51 _).mono ?_; rintro e w1 ⟨rfl, hb⟩)
  go_ret2
  exact ⟨rfl, hb⟩
theorem trimM_51 (w : World) : Calls Tryz.prog 106 #[.string ⟨#[51]⟩, .string ⟨#[45]⟩] w fun e w' => e = .returned (.string ⟨#[51]⟩) ∧ w' = w := by
  refine (Tryz.strings_TrimPrefix ⟨#[51]⟩ ⟨#[45]⟩ w).mono ?_
  rintro e w' ⟨rfl, rfl⟩
  rw [show Lib.trimPrefix (⟨#[51]⟩ : ByteArray).data.toList (⟨#[45]⟩ : ByteArray).data.toList = [51] from by decide +kernel]
  exact ⟨rfl, rfl⟩
theorem isDecimal_51 (w : World) : Calls Tryz.prog 109 #[.string ⟨#[51]⟩] w fun e w' => e = .returned (.bool true) ∧ Below w.heap.size w w' := by
  go_enter Tryz.func109, Tryz.ntmps109
  go_wp2_with (first | (go_at_call 106; refine (trimM_51 _).mono ?_; rintro e w1 ⟨rfl, rfl⟩) | (go_at_call 140; refine (digits_51 _).mono ?_; rintro e w1 ⟨rfl, hb⟩) | (go_at_call 141; refine (cutp_no _ _).mono ?_; rintro e w2 ⟨rfl, rfl⟩))
  go_ret
  exact ⟨rfl, hb⟩
set_option maxRecDepth 100000 in
theorem nparse_51 (w : World) (hL : LibN w) : Calls Tryz.prog 75 #[.string ⟨#[51]⟩] w fun e w' => e = .returned (.tuple #[.float .f32 1077936128, .int .i64 0]) ∧ Below w.heap.size w w' := by
  have hcv : ∀ w, Sem.run Tryz.prog (convert 157 41 (.float .f64 4613937818241073152)) w = .ok (.float .f32 1077936128) w := fun _ => by kernel_rfl
  have HL := Lib.hid hL
  clear hL
  go_enter Tryz.func75, Tryz.ntmps75
  go_wp2_with (first | (go_at_call 109; refine (isDecimal_51 _).mono ?_; rintro e w1 ⟨rfl, hb⟩) | (go_at_call 110; refine (ParseFloat_51 _ (HL.out.past hb).o).mono ?_; rintro e w2 ⟨rfl, rfl⟩))
  go_ret2
  exact ⟨rfl, hb⟩
theorem trimL_52 (w : World) : Calls Tryz.prog 162 #[.string ⟨#[52]⟩, .string setD] w fun e w' => e = .returned (.string ⟨#[]⟩) ∧ Below w.heap.size w w' := by
  refine (Any.strings_TrimLeft_laid Tryz.lays161 (by kernel_rfl) ⟨#[52]⟩ setD w (by decide) (ascii_of_all (by decide))).mono ?_
  rintro e w' ⟨rfl, hb⟩
  rw [show Lib.trimLeftS (⟨#[52]⟩ : ByteArray).data.toList setD.data.toList = [] from by decide +kernel]
  exact ⟨rfl, hb⟩
theorem digits_52 (w : World) : Calls Tryz.prog 140 #[.string ⟨#[52]⟩] w fun e w' => e = .returned (.tuple #[.int .i64 1, .string ⟨#[]⟩]) ∧ Below w.heap.size w w' := by
  go_enter Tryz.func140, Tryz.ntmps140
  go_wp2_with (go_at_call 162; refine (trimL_52 _).mono ?_; rintro e w1 ⟨rfl, hb⟩)
  go_ret2
  exact ⟨rfl, hb⟩
theorem trimM_52 (w : World) : Calls Tryz.prog 106 #[.string ⟨#[52]⟩, .string ⟨#[45]⟩] w fun e w' => e = .returned (.string ⟨#[52]⟩) ∧ w' = w := by
  refine (Tryz.strings_TrimPrefix ⟨#[52]⟩ ⟨#[45]⟩ w).mono ?_
  rintro e w' ⟨rfl, rfl⟩
  rw [show Lib.trimPrefix (⟨#[52]⟩ : ByteArray).data.toList (⟨#[45]⟩ : ByteArray).data.toList = [52] from by decide +kernel]
  exact ⟨rfl, rfl⟩
theorem isDecimal_52 (w : World) : Calls Tryz.prog 109 #[.string ⟨#[52]⟩] w fun e w' => e = .returned (.bool true) ∧ Below w.heap.size w w' := by
  go_enter Tryz.func109, Tryz.ntmps109
  go_wp2_with (first | (go_at_call 106; refine (trimM_52 _).mono ?_; rintro e w1 ⟨rfl, rfl⟩) | (go_at_call 140; refine (digits_52 _).mono ?_; rintro e w1 ⟨rfl, hb⟩) | (go_at_call 141; refine (cutp_no _ _).mono ?_; rintro e w2 ⟨rfl, rfl⟩))
  go_ret
  exact ⟨rfl, hb⟩
set_option maxRecDepth 100000 in
theorem nparse_52 (w : World) (hL : LibN w) : Calls Tryz.prog 75 #[.string ⟨#[52]⟩] w fun e w' => e = .returned (.tuple #[.float .f32 1082130432, .int .i64 0]) ∧ Below w.heap.size w w' := by
  have hcv : ∀ w, Sem.run Tryz.prog (convert 157 41 (.float .f64 4616189618054758400)) w = .ok (.float .f32 1082130432) w := fun _ => by kernel_rfl
  have HL := Lib.hid hL
  clear hL
  go_enter Tryz.func75, Tryz.ntmps75
  go_wp2_with (first | (go_at_call 109; refine (isDecimal_52 _).mono ?_; rintro e w1 ⟨rfl, hb⟩) | (go_at_call 110; refine (ParseFloat_52 _ (HL.out.past hb).o).mono ?_; rintro e w2 ⟨rfl, rfl⟩))
  go_ret2
  exact ⟨rfl, hb⟩
end Go.Proofs.YtbaocallhnehfaaGreatDoor

namespace Go.Proofs.YtbaocallhnehfaaGreatDoor
open Go Go.RowKit
/-- w' is w but for the blocks of S, and new ones. -/
structure Tch (S : Nat → Prop) (w w' : World) : Prop where
  os : w'.os = w.os
  tape : w'.tape = w.tape
  output : w'.output = w.output
  size : w.heap.size ≤ w'.heap.size
  block : ∀ k, k < w.heap.size → ¬ S k → w'.heap[k]? = w.heap[k]?
theorem Tch.refl (S : Nat → Prop) (w : World) : Tch S w w := ⟨rfl, rfl, rfl, Nat.le_refl _, fun _ _ _ => rfl⟩
theorem Tch.trans {S : Nat → Prop} {a b c : World} (h : Tch S a b) (k : Tch S b c) : Tch S a c :=
  ⟨k.os.trans h.os, k.tape.trans h.tape, k.output.trans h.output, Nat.le_trans h.size k.size, fun i hi hS => (k.block i (Nat.lt_of_lt_of_le hi h.size) hS).trans (h.block i hi hS)⟩
theorem Tch.mono {S T : Nat → Prop} {a b : World} (h : Tch S a b) (hs : ∀ k, k < a.heap.size → S k → T k) : Tch T a b := ⟨h.os, h.tape, h.output, h.size, fun i hi hT => h.block i hi (fun hS => hT (hs i hi hS))⟩
/-- Behind another one; blocks that the first one made may be touched. -/
theorem Tch.then {S T : Nat → Prop} {a b c : World} (h : Tch S a b) (k : Tch T b c) (ht : ∀ i, i < a.heap.size → T i → S i) : Tch S a c :=
  ⟨k.os.trans h.os, k.tape.trans h.tape, k.output.trans h.output, Nat.le_trans h.size k.size, fun i hi hS => (k.block i (Nat.lt_of_lt_of_le hi h.size) (fun hT => hS (ht i hi hT))).trans (h.block i hi hS)⟩
theorem Tch.of_below {S : Nat → Prop} {w w' : World} (h : Below w.heap.size w w') : Tch S w w' := ⟨h.os, h.tape, h.output, h.size, fun k hk _ => h.block k hk⟩
theorem Tch.of_grown {S : Nat → Prop} {w w' : World} {r : Option Nat} (h : w.grownBy w' r) (hr : ∀ b, r = some b → S b) : Tch S w w' := ⟨h.os, h.tape, h.output, h.size, fun k hk hS => h.block k hk (fun e => hS (hr k e.symm))⟩
theorem Tch.set {S : Nat → Prop} {w w' : World} (h : Tch S w w') (q : Addr) (v : Value) (hq : S q.block) : Tch S w (w'.setCell q v) :=
  h.trans ⟨rfl, rfl, rfl, by simp [World.setCell], fun k _ hS => Below.heap_setCell _ _ _ _ (fun e => hS (e ▸ hq))⟩
theorem Tch.to_below {S : Nat → Prop} {w w' : World} {N : Nat} (h : Tch S w w') (hN : N ≤ w.heap.size) (hS : ∀ k, S k → N ≤ k) : Below N w w' := ⟨h.os, h.tape, h.output, h.size, fun k hk => h.block k (by omega) (fun hk' => by have := hS k hk'; omega)⟩
theorem Blk.tch {S : Nat → Prop} {w w' : World} {n : Nat} {vs : List Value} (k : Blk w n vs) (h : Tch S w w') (hn : ¬ S n) : Blk w' n vs := k.block h.size (h.block n k.lt hn)
/-- A slice whose elements' cells are xs, size each; its memory is there up to its capacity. -/
def RowV (w : World) (size : Nat) (v : Value) (n : Nat) (xs : List Value) : Prop :=
  xs.length = n * size ∧ ∃ ao cap, v = .slice ao n cap ∧ n ≤ cap ∧ cap ≤ maxLen ∧
    ((ao = none ∧ cap = 0) ∨ ∃ b off, ao = some ⟨b, off, none⟩ ∧ b < w.heap.size ∧ (∀ j u, xs[j]? = some u → w.cell? ⟨b, off + j, none⟩ = some u) ∧ ∀ j, j < cap * size → (w.cell? ⟨b, off + j, none⟩).isSome = true ∧ w.frozen? ⟨b, off + j, none⟩ = false)
theorem RowV.nil (w : World) (size : Nat) : RowV w size (.slice none 0 0) 0 [] := ⟨by simp, none, 0, rfl, Nat.le_refl _, by unfold maxLen; omega, .inl ⟨rfl, rfl⟩⟩
theorem RowV.lt {w : World} {size n : Nat} {v : Value} {xs : List Value} (h : RowV w size v n xs) {b : Nat} (hb : v.ownBlock = some b) : b < w.heap.size := by
  obtain ⟨-, ao, cap, rfl, -, -, ⟨rfl, -⟩ | ⟨b', off, rfl, hl, -⟩⟩ := h
  · simp [Value.ownBlock] at hb
  · simp [Value.ownBlock] at hb; omega
theorem RowV.block {w w' : World} {size n : Nat} {v : Value} {xs : List Value} (h : RowV w size v n xs) (hs : w.heap.size ≤ w'.heap.size) (hb : ∀ b, v.ownBlock = some b → w'.heap[b]? = w.heap[b]?) : RowV w' size v n xs := by
  obtain ⟨h0, ao, cap, rfl, h1, h2, ⟨rfl, h3⟩ | ⟨b, off, rfl, hl, hc, hf⟩⟩ := h
  · exact ⟨h0, none, cap, rfl, h1, h2, .inl ⟨rfl, h3⟩⟩
  · have e := hb b rfl
    exact ⟨h0, _, cap, rfl, h1, h2, .inr ⟨b, off, rfl, by omega, fun j u hu => (World.cell?_of_block e).trans (hc j u hu), fun j hj => by rw [World.cell?_of_block (a := ⟨b, off + j, none⟩) e, World.frozen?_of_block (a := ⟨b, off + j, none⟩) e]; exact hf j hj⟩⟩
theorem RowV.tch {S : Nat → Prop} {w w' : World} {size n : Nat} {v : Value} {xs : List Value} (h : RowV w size v n xs) (t : Tch S w w') (hb : ∀ b, v.ownBlock = some b → ¬ S b) : RowV w' size v n xs :=
  h.block t.size (fun b e => t.block b (h.lt e) (hb b e))
theorem RowV.past {w w' : World} {size n : Nat} {v : Value} {xs : List Value} (h : RowV w size v n xs) (t : Below w.heap.size w w') : RowV w' size v n xs :=
  h.block t.size (fun b e => t.block b (h.lt e))
theorem RowV.of_own {w : World} {base size n : Nat} {e : TypeId} {v : Value} {xs : List Value} (h : w.ownsRow base e size v n xs) : RowV w size v n xs := by
  obtain ⟨h0, ⟨rfl, rfl⟩ | ⟨g, cap, cur, rfl, h1, h2, h3, h4, h5, h6⟩⟩ := h
  · exact ⟨h0, none, 0, rfl, Nat.le_refl _, by unfold maxLen; omega, .inl ⟨rfl, rfl⟩⟩
  · refine ⟨h0, _, cap, rfl, h3, h4, .inr ⟨g, 0, rfl, ?_, fun j u hu => ?_, fun j hj => ?_⟩⟩
    · rcases Nat.lt_or_ge g w.heap.size with h' | h'
      · exact h'
      · rw [Array.getElem?_eq_none h'] at h2; cases h2
    · rw [← h6, List.getElem?_take] at hu
      split at hu
      · simpa [World.cell?, h2] using hu
      · cases hu
    · refine ⟨?_, ?_⟩
      · rw [← h5] at hj
        simp [World.cell?, h2, hj]
      · simp [World.frozen?, h2]
theorem grown_setCells (b : Nat) : ∀ (vs : List Value) (o : Nat) (w : World), w.grownBy (w.setCells b o vs) (some b)
  | [], _, w => ⟨rfl, rfl, rfl, Nat.le_refl _, fun _ _ _ => rfl⟩
  | v :: r, o, w => by
    have h := grown_setCells b r (o + 1) (w.setCell ⟨b, o, none⟩ v)
    exact ⟨h.os, h.tape, h.output, Nat.le_trans (Nat.le_of_eq (show w.heap.size = (w.setCell ⟨b, o, none⟩ v).heap.size by simp [World.setCell])) h.size, fun k hk hne => (h.block k (by simpa [World.setCell] using hk) hne).trans (Below.heap_setCell _ _ _ _ (fun e => hne (by simp at e; rw [e])))⟩
section
variable {P : Program}
/-- One element more. -/
theorem run_append_row {w : World} {t ty e : TypeId} {i : TypeInfo} {z : Value} {size bytes : Nat} (ht : P.underlying t = some (.slice e)) (hi : P.info? e = some i) (hz : i.zero = some z) (hsize : i.size = size) (hby : i.bytes = bytes) (hzs : z.cells.size = size) (hsz : 0 < size)
    {v : Value} {n : Nat} {xs : List Value} (h : RowV w size v n xs) (ad : Addr) (c : Nat) (news : List Value) (hl : news.length = 1 * size) (hnews : ∀ j u, news[j]? = some u → w.cell? (ad.add j) = some u) (h1 : ∀ u ∈ news, u.oneCell' = true)
    (h63 : n + 1 ≤ maxLen) (hbytes : (n + 1) * bytes ≤ 140737488355328) :
    ∃ v' w', (Builtin.append_ #[t, t] ty #[v, .slice (some ad) 1 c]).run P w = .ok v' w' ∧ RowV w' size v' (n + 1) (xs ++ news) ∧ w.grownBy w' v.ownBlock ∧ (v'.ownBlock = v.ownBlock ∨ ∀ b, v'.ownBlock = some b → w.heap.size ≤ b) := by
  subst hsize
  obtain ⟨h0, ao, cap, rfl, hn, hm, ⟨rfl, h3⟩ | ⟨b, off, rfl, hb, hc, hf⟩⟩ := h
  · obtain rfl : cap = 0 := h3
    obtain rfl : n = 0 := by omega
    obtain rfl : xs = [] := List.eq_nil_of_length_eq_zero (by simpa using h0)
    obtain ⟨v', w', hrun, r1, r2, -⟩ := run_append_own (P := P) w w.heap.size t ty e i z i.size bytes ht hi hz rfl hby hzs hsz (.slice none 0 0) 0 [] (World.ownsRow_nil w _ e i.size) ad 1 c news hl hnews h1 h63 hbytes (Nat.le_refl _)
    refine ⟨v', w', hrun, RowV.of_own r1, r2, .inr (fun g hg => ?_)⟩
    exact (r1.lt g hg).1
  · by_cases hr : n + 1 ≤ cap
    · have hnl : news.length = i.size := by omega
      have hcs : (n + 1) * i.size ≤ cap * i.size := Nat.mul_le_mul_right _ hr
      rw [Nat.add_mul, Nat.one_mul] at hcs
      have hsp : ∀ j, j < news.length → (w.cell? ⟨b, off + n * i.size + j, none⟩).isSome = true ∧ w.frozen? ⟨b, off + n * i.size + j, none⟩ = false := fun j hj => by
        have := hf (n * i.size + j) (by omega)
        rwa [← Nat.add_assoc] at this
      have hrun := run_append_room_cells (P := P) w t ty e i ht hi b off n cap ad 1 c news hl hnews h1 hr (fun j hj => (hsp j hj).1) (fun j hj => (hsp j hj).2)
      refine ⟨_, _, hrun, ⟨by rw [List.length_append, h0, hnl, Nat.add_mul, Nat.one_mul], _, cap, rfl, hr, hm, .inr ⟨b, off, rfl, ?_, fun j u hu => ?_, fun j hj => ?_⟩⟩, ?_, .inl rfl⟩
      · exact Nat.lt_of_lt_of_le hb (grown_setCells b _ _ w).size
      · by_cases hj : j < xs.length
        · rw [List.getElem?_append_left hj] at hu
          rw [World.cell?_setCells_out b _ _ _ _ (fun _ _ => Or.inl (by show off + j < off + n * i.size; omega))]
          exact hc j u hu
        · rw [List.getElem?_append_right (by omega)] at hu
          have hlt := (List.getElem?_eq_some_iff.1 hu).1
          have := World.cell?_setCells_in b news (off + n * i.size) w (fun j hj => (hsp j hj).1) (j - xs.length) hlt
          rw [show off + n * i.size + (j - xs.length) = off + j by omega] at this
          rw [this, ← hu, List.getElem?_eq_getElem hlt]
      · rw [World.frozen?_setCells]
        refine ⟨?_, (hf j hj).2⟩
        by_cases hj2 : n * i.size ≤ j ∧ j < n * i.size + news.length
        · have := World.cell?_setCells_in b news (off + n * i.size) w (fun j hj => (hsp j hj).1) (j - n * i.size) (by omega)
          rw [show off + n * i.size + (j - n * i.size) = off + j by omega] at this
          rw [this]; rfl
        · rw [World.cell?_setCells_out b _ _ _ _ (fun _ _ => by show off + j < off + n * i.size ∨ off + n * i.size + news.length ≤ off + j; omega)]
          exact (hf j hj).1
      · exact grown_setCells b _ _ w
    · obtain ⟨v', w', hrun, r1, r2⟩ := run_append_arg_grows (P := P) w t ty e i z i.size bytes ht hi hz rfl hby hzs hsz ⟨b, off, none⟩ n cap xs h0 (fun j u hu => by rw [Addr.add_lit]; exact hc j u hu) ad 1 c news hl hnews (by omega) h63 hbytes
      refine ⟨v', w', hrun, RowV.of_own r1, ⟨r2.os, r2.tape, r2.output, r2.size, fun k hk _ => r2.block k hk (by simp)⟩, .inr (fun g hg => ?_)⟩
      exact (r1.lt g hg).1
theorem wpList_append_row (w : World) {ops : Array Oper} {rest : List Oper} {o : Oper} {a : Act} {Q : Exit → Act → World → Prop} (hgd : o.guard = none) (s x : Operand) (t : TypeId)
    (ho : o.op = .call { callee := .builtin .append, args := #[s, x], argTypes := #[t, t] })
    {e : TypeId} {i : TypeInfo} {z : Value} {size bytes : Nat} (ht : P.underlying t = some (.slice e)) (hi : P.info? e = some i) (hz : i.zero = some z) (hsize : i.size = size) (hby : i.bytes = bytes) (hzs : z.cells.size = size) (hsz : 0 < size)
    {v : Value} {n : Nat} {xs : List Value} (hs : a.eval s = v) (h : RowV w size v n xs) (ad : Addr) (c : Nat) (news : List Value) (hx : a.eval x = .slice (some ad) 1 c) (hl : news.length = 1 * size) (hnews : ∀ j u, news[j]? = some u → w.cell? (ad.add j) = some u) (h1 : ∀ u ∈ news, u.oneCell' = true)
    (h63 : n + 1 ≤ maxLen) (hbytes : (n + 1) * bytes ≤ 140737488355328)
    (hK : ∀ ao' cap' w', RowV w' size (.slice ao' (n + 1) cap') (n + 1) (xs ++ news) → w.grownBy w' v.ownBlock → ((Value.slice ao' (n + 1) cap').ownBlock = v.ownBlock ∨ ∀ b, (Value.slice ao' (n + 1) cap').ownBlock = some b → w.heap.size ≤ b) → wpList P ops Q rest (a.put o.dst (.slice ao' (n + 1) cap')) w') : wpList P ops Q (o :: rest) a w := by
  refine wpList_plain hgd fun K hK' => ?_
  obtain ⟨v', w', hrun, r1, r2, r3⟩ := run_append_row (P := P) (ty := o.type) ht hi hz hsize hby hzs hsz h ad c news hl hnews h1 h63 hbytes
  obtain ⟨ao', cap', rfl⟩ : ∃ ao' cap', v' = .slice ao' (n + 1) cap' := by obtain ⟨-, ao', cap', e, -⟩ := r1; exact ⟨_, _, e⟩
  unfold Oper.wp
  simp [execOp, ho, resolve, invoke, builtin, hs, hx, hrun, Result.andThen]
  exact hK' _ _ (hK ao' cap' w' r1 r2 r3)
/-- .. in a region that draws its order. -/
theorem step_append_row {ops : Array Oper} {o : Oper} {a : Act} {w : World} {K : Act → World → Prop} {Q : Exit → Act → World → Prop} {E : Prop} (hgd : o.guard = none) (s x : Operand) (t : TypeId)
    (ho : o.op = .call { callee := .builtin .append, args := #[s, x], argTypes := #[t, t] })
    {e : TypeId} {i : TypeInfo} {z : Value} {size bytes : Nat} (ht : P.underlying t = some (.slice e)) (hi : P.info? e = some i) (hz : i.zero = some z) (hsize : i.size = size) (hby : i.bytes = bytes) (hzs : z.cells.size = size) (hsz : 0 < size)
    {v : Value} {n : Nat} {xs : List Value} (hs : a.eval s = v) (h : RowV w size v n xs) (ad : Addr) (c : Nat) (news : List Value) (hx : a.eval x = .slice (some ad) 1 c) (hl : news.length = 1 * size) (hnews : ∀ j u, news[j]? = some u → w.cell? (ad.add j) = some u) (h1 : ∀ u ∈ news, u.oneCell' = true)
    (h63 : n + 1 ≤ maxLen) (hbytes : (n + 1) * bytes ≤ 140737488355328)
    (hK : ∀ ao' cap' w', RowV w' size (.slice ao' (n + 1) cap') (n + 1) (xs ++ news) → w.grownBy w' v.ownBlock → ((Value.slice ao' (n + 1) cap').ownBlock = v.ownBlock ∨ ∀ b, (Value.slice ao' (n + 1) cap').ownBlock = some b → w.heap.size ≤ b) → K (a.put o.dst (.slice ao' (n + 1) cap')) w') :
    if Region.wanted o (yielded ops a.tmps) = true then Oper.wp P o a w K Q else E := by
  have hw : Region.wanted o (yielded ops a.tmps) = true := by simp [Region.wanted, hgd]
  rw [if_pos hw]
  obtain ⟨v', w', hrun, r1, r2, r3⟩ := run_append_row (P := P) (ty := o.type) ht hi hz hsize hby hzs hsz h ad c news hl hnews h1 h63 hbytes
  obtain ⟨ao', cap', rfl⟩ : ∃ ao' cap', v' = .slice ao' (n + 1) cap' := by obtain ⟨-, ao', cap', e, -⟩ := r1; exact ⟨_, _, e⟩
  unfold Oper.wp
  simp [execOp, ho, resolve, invoke, builtin, hs, hx, hrun, Result.andThen]
  exact hK ao' cap' w' r1 r2 r3
end
/-- An element cut out of a row: what stands behind the two stores. -/
theorem RowV.cut {w : World} {size n cap b off k : Nat} {xs zs : List Value} (h0 : xs.length = n * size) (hb : b < w.heap.size) (hn : n ≤ cap) (hm : cap ≤ maxLen) (hc : ∀ j u, xs[j]? = some u → w.cell? ⟨b, off + j, none⟩ = some u) (hf : ∀ j, j < cap * size → (w.cell? ⟨b, off + j, none⟩).isSome = true ∧ w.frozen? ⟨b, off + j, none⟩ = false)
    (hk : k < n) (hz : zs.length = size) :
    RowV ((w.setCells b (off + k * size) (xs.drop ((k + 1) * size))).setCells b (off + (n - 1) * size) zs) size (.slice (some ⟨b, off, none⟩) (n - 1) cap) (n - 1) (xs.take (k * size) ++ xs.drop ((k + 1) * size)) := by
  have e1 : (k + 1) * size ≤ n * size := Nat.mul_le_mul_right _ hk
  have e2 : (n - 1) * size = n * size - size := by rw [Nat.sub_mul, Nat.one_mul]
  have e3 : (k + 1) * size = k * size + size := by rw [Nat.add_mul, Nat.one_mul]
  have e4 : n * size ≤ cap * size := Nat.mul_le_mul_right _ hn
  have hd : (xs.drop ((k + 1) * size)).length = n * size - (k + 1) * size := by rw [List.length_drop, h0]
  have hs1 : ∀ j, j < (xs.drop ((k + 1) * size)).length → (w.cell? ⟨b, off + k * size + j, none⟩).isSome = true := fun j hj => by rw [Nat.add_assoc]; exact (hf (k * size + j) (by omega)).1
  have g1 : ∀ j, j < cap * size → ((w.setCells b (off + k * size) (xs.drop ((k + 1) * size))).cell? ⟨b, off + j, none⟩).isSome = true := fun j hj => by
    by_cases hj2 : k * size ≤ j ∧ j < k * size + (xs.drop ((k + 1) * size)).length
    · have := World.cell?_setCells_in b (xs.drop ((k + 1) * size)) (off + k * size) w hs1 (j - k * size) (by omega)
      rw [show off + k * size + (j - k * size) = off + j by omega] at this
      rw [this]; rfl
    · rw [World.cell?_setCells_out b _ _ _ _ (fun _ _ => by show off + j < off + k * size ∨ off + k * size + (xs.drop ((k + 1) * size)).length ≤ off + j; omega)]
      exact (hf j hj).1
  have hs2 : ∀ j, j < zs.length → ((w.setCells b (off + k * size) (xs.drop ((k + 1) * size))).cell? ⟨b, off + (n - 1) * size + j, none⟩).isSome = true := fun j hj => by rw [Nat.add_assoc]; exact g1 _ (by omega)
  have z1 := (grown_setCells b (xs.drop ((k + 1) * size)) (off + k * size) w).size
  have z2 := (grown_setCells b zs (off + (n - 1) * size) (w.setCells b (off + k * size) (xs.drop ((k + 1) * size)))).size
  refine ⟨by rw [List.length_append, List.length_take, hd, h0]; omega, _, cap, rfl, by omega, hm, .inr ⟨b, off, rfl, by omega, fun j u hu => ?_, fun j hj => ?_⟩⟩
  · have hjl : j < (n - 1) * size := by
      have := (List.getElem?_eq_some_iff.1 hu).1
      rw [List.length_append, List.length_take, hd, h0] at this
      omega
    rw [World.cell?_setCells_out b _ _ _ _ (fun _ _ => Or.inl (by show off + j < off + (n - 1) * size; omega))]
    have ht : (xs.take (k * size)).length = k * size := by rw [List.length_take, h0]; omega
    by_cases hj : j < k * size
    · rw [List.getElem?_append_left (by omega), List.getElem?_take, if_pos hj] at hu
      rw [World.cell?_setCells_out b _ _ _ _ (fun _ _ => Or.inl (by show off + j < off + k * size; omega))]
      exact hc j u hu
    · rw [List.getElem?_append_right (by omega), ht] at hu
      have hlt := (List.getElem?_eq_some_iff.1 hu).1
      have := World.cell?_setCells_in b (xs.drop ((k + 1) * size)) (off + k * size) w hs1 (j - k * size) hlt
      rw [show off + k * size + (j - k * size) = off + j by omega] at this
      rw [this, ← hu, List.getElem?_eq_getElem hlt]
  · rw [World.frozen?_setCells, World.frozen?_setCells]
    refine ⟨?_, (hf j hj).2⟩
    by_cases hj2 : (n - 1) * size ≤ j ∧ j < (n - 1) * size + zs.length
    · have := World.cell?_setCells_in b zs (off + (n - 1) * size) _ hs2 (j - (n - 1) * size) (by omega)
      rw [show off + (n - 1) * size + (j - (n - 1) * size) = off + j by omega] at this
      rw [this]; rfl
    · rw [World.cell?_setCells_out b _ _ _ _ (fun _ _ => by show off + j < off + (n - 1) * size ∨ off + (n - 1) * size + zs.length ≤ off + j; omega)]
      exact g1 j hj
/-- The first element left behind. -/
theorem RowV.tail {w : World} {size n : Nat} {v : Value} {xs : List Value} (h : RowV w size v n xs) (hn : 0 < n) : ∃ b off cap, v = .slice (some ⟨b, off, none⟩) n cap ∧ n ≤ cap ∧ cap ≤ maxLen ∧
    RowV w size (.slice (if cap = 1 then some ⟨b, off, none⟩ else some ⟨b, off + size, none⟩) (n - 1) (cap - 1)) (n - 1) (xs.drop size) := by
  obtain ⟨h0, ao, cap, rfl, h1, h2, ⟨rfl, h3⟩ | ⟨b, off, rfl, hl, hc, hf⟩⟩ := h
  · omega
  · refine ⟨b, off, cap, rfl, h1, h2, by rw [List.length_drop, h0, Nat.sub_mul, Nat.one_mul], _, cap - 1, rfl, by omega, by omega, .inr ?_⟩
    by_cases h : cap = 1
    · subst h
      obtain rfl : n = 1 := by omega
      refine ⟨b, off, by simp, hl, fun j u hu => ?_, fun j hj => by simp at hj⟩
      rw [List.drop_eq_nil_of_le (by omega)] at hu
      cases hu
    · have e2 : (cap - 1) * size = cap * size - size := by rw [Nat.sub_mul, Nat.one_mul]
      refine ⟨b, off + size, by simp [h], hl, fun j u hu => ?_, fun j hj => ?_⟩
      · rw [List.getElem?_drop] at hu
        rw [Nat.add_assoc]
        exact hc _ u hu
      · rw [Nat.add_assoc]
        exact hf _ (by omega)
end Go.Proofs.YtbaocallhnehfaaGreatDoor

namespace Go.Proofs.YtbaocallhnehfaaGreatDoor
open Go Go.RowKit
/-- What is told of an operation. -/
structure FormD where
  nm : List UInt8
  ins : List Int
  out : Int
  ints : Int
  reals : Int
  area : Bool
def fT : List FormD := [⟨[115, 111, 117, 114, 99, 101], [], 1, 1, 0, false⟩,
  ⟨[102, 105, 108, 108], [], 1, 0, 4, false⟩,
  ⟨[103, 114, 97, 100, 101], [1], 1, 1, 0, false⟩,
  ⟨[99, 117, 98, 101], [1], 1, 2, 0, false⟩,
  ⟨[99, 111, 110, 118, 101, 114, 116], [1], 1, 2, 0, false⟩,
  ⟨[115, 97, 116, 117, 114, 97, 116, 101], [1], 1, 0, 1, false⟩,
  ⟨[116, 117, 114, 110], [1], 1, 0, 1, false⟩,
  ⟨[116, 111, 110, 101], [1], 1, 1, 2, false⟩,
  ⟨[101, 120, 112, 111, 115, 101], [1], 1, 0, 1, false⟩,
  ⟨[99, 111, 109, 112, 114, 101, 115, 115], [1], 1, 0, 1, false⟩,
  ⟨[103, 114, 97, 105, 110], [1], 1, 3, 2, false⟩,
  ⟨[118, 105, 103, 110, 101, 116, 116, 101], [1], 1, 0, 5, false⟩,
  ⟨[115, 104, 97, 114, 112, 101, 110], [1], 1, 0, 2, true⟩,
  ⟨[98, 108, 117, 114], [1], 1, 1, 0, true⟩,
  ⟨[109, 105, 120], [1, 1], 1, 0, 1, false⟩,
  ⟨[99, 111, 109, 98, 105, 110, 101], [1, 1], 1, 1, 0, false⟩,
  ⟨[116, 104, 114, 111, 117, 103, 104], [1, 1, 2], 1, 0, 0, false⟩,
  ⟨[97, 108, 112, 104, 97], [1], 2, 0, 0, false⟩,
  ⟨[99, 111, 118, 101, 114], [1, 2], 1, 0, 0, false⟩,
  ⟨[108, 117, 109, 97], [1], 2, 0, 3, false⟩,
  ⟨[104, 117, 101], [1], 2, 0, 9, false⟩,
  ⟨[119, 105, 110, 100, 111, 119], [], 2, 1, 0, false⟩,
  ⟨[105, 110, 118, 101, 114, 116], [2], 2, 0, 0, false⟩,
  ⟨[109, 101, 101, 116], [2, 2], 2, 1, 0, false⟩,
  ⟨[115, 112, 114, 101, 97, 100], [2], 2, 1, 0, true⟩,
  ⟨[115, 104, 114, 105, 110, 107], [2], 2, 1, 0, true⟩,
  ⟨[102, 101, 97, 116, 104, 101, 114], [2], 2, 1, 0, true⟩]
def F (k : Nat) : FormD := fT.getD k ⟨[], [], 0, 0, 0, false⟩
/-- The words of a part of the text. -/
def fW : List (List (List UInt8)) := [[[115, 111, 117, 114, 99, 101], [], [112], [49], [48]],
  [[102, 105, 108, 108], [], [112], [48], [52]],
  [[103, 114, 97, 100, 101], [112], [112], [49], [48]],
  [[99, 117, 98, 101], [112], [112], [50], [48]],
  [[99, 111, 110, 118, 101, 114, 116], [112], [112], [50], [48]],
  [[115, 97, 116, 117, 114, 97, 116, 101], [112], [112], [48], [49]],
  [[116, 117, 114, 110], [112], [112], [48], [49]],
  [[116, 111, 110, 101], [112], [112], [49], [50]],
  [[101, 120, 112, 111, 115, 101], [112], [112], [48], [49]],
  [[99, 111, 109, 112, 114, 101, 115, 115], [112], [112], [48], [49]],
  [[103, 114, 97, 105, 110], [112], [112], [51], [50]],
  [[118, 105, 103, 110, 101, 116, 116, 101], [112], [112], [48], [53]],
  [[115, 104, 97, 114, 112, 101, 110], [112], [112], [48], [50]],
  [[98, 108, 117, 114], [112], [112], [49], [48]],
  [[109, 105, 120], [112, 112], [112], [48], [49]],
  [[99, 111, 109, 98, 105, 110, 101], [112, 112], [112], [49], [48]],
  [[116, 104, 114, 111, 117, 103, 104], [112, 112, 109], [112], [48], [48]],
  [[97, 108, 112, 104, 97], [112], [109], [48], [48]],
  [[99, 111, 118, 101, 114], [112, 109], [112], [48], [48]],
  [[108, 117, 109, 97], [112], [109], [48], [51]],
  [[104, 117, 101], [112], [109], [48], [57]],
  [[119, 105, 110, 100, 111, 119], [], [109], [49], [48]],
  [[105, 110, 118, 101, 114, 116], [109], [109], [48], [48]],
  [[109, 101, 101, 116], [109, 109], [109], [49], [48]],
  [[115, 112, 114, 101, 97, 100], [109], [109], [49], [48]],
  [[115, 104, 114, 105, 110, 107], [109], [109], [49], [48]],
  [[102, 101, 97, 116, 104, 101, 114], [109], [109], [49], [48]]]
/-- The parts of the text. -/
def fQ : List (List UInt8) := [[115, 111, 117, 114, 99, 101, 32, 32, 112, 32, 49, 32, 48],
  [102, 105, 108, 108, 32, 32, 112, 32, 48, 32, 52],
  [103, 114, 97, 100, 101, 32, 112, 32, 112, 32, 49, 32, 48],
  [99, 117, 98, 101, 32, 112, 32, 112, 32, 50, 32, 48],
  [99, 111, 110, 118, 101, 114, 116, 32, 112, 32, 112, 32, 50, 32, 48],
  [115, 97, 116, 117, 114, 97, 116, 101, 32, 112, 32, 112, 32, 48, 32, 49],
  [116, 117, 114, 110, 32, 112, 32, 112, 32, 48, 32, 49],
  [116, 111, 110, 101, 32, 112, 32, 112, 32, 49, 32, 50],
  [101, 120, 112, 111, 115, 101, 32, 112, 32, 112, 32, 48, 32, 49],
  [99, 111, 109, 112, 114, 101, 115, 115, 32, 112, 32, 112, 32, 48, 32, 49],
  [103, 114, 97, 105, 110, 32, 112, 32, 112, 32, 51, 32, 50],
  [118, 105, 103, 110, 101, 116, 116, 101, 32, 112, 32, 112, 32, 48, 32, 53],
  [115, 104, 97, 114, 112, 101, 110, 32, 112, 32, 112, 32, 48, 32, 50],
  [98, 108, 117, 114, 32, 112, 32, 112, 32, 49, 32, 48],
  [109, 105, 120, 32, 112, 112, 32, 112, 32, 48, 32, 49],
  [99, 111, 109, 98, 105, 110, 101, 32, 112, 112, 32, 112, 32, 49, 32, 48],
  [116, 104, 114, 111, 117, 103, 104, 32, 112, 112, 109, 32, 112, 32, 48, 32, 48],
  [97, 108, 112, 104, 97, 32, 112, 32, 109, 32, 48, 32, 48],
  [99, 111, 118, 101, 114, 32, 112, 109, 32, 112, 32, 48, 32, 48],
  [108, 117, 109, 97, 32, 112, 32, 109, 32, 48, 32, 51],
  [104, 117, 101, 32, 112, 32, 109, 32, 48, 32, 57],
  [119, 105, 110, 100, 111, 119, 32, 32, 109, 32, 49, 32, 48],
  [105, 110, 118, 101, 114, 116, 32, 109, 32, 109, 32, 48, 32, 48],
  [109, 101, 101, 116, 32, 109, 109, 32, 109, 32, 49, 32, 48],
  [115, 112, 114, 101, 97, 100, 32, 109, 32, 109, 32, 49, 32, 48],
  [115, 104, 114, 105, 110, 107, 32, 109, 32, 109, 32, 49, 32, 48],
  [102, 101, 97, 116, 104, 101, 114, 32, 109, 32, 109, 32, 49, 32, 48]]
def fX : List UInt8 := [115, 111, 117, 114, 99, 101, 32, 32, 112, 32, 49, 32, 48, 59, 102, 105, 108, 108, 32, 32, 112, 32, 48, 32, 52, 59, 103, 114, 97, 100, 101, 32, 112, 32, 112, 32, 49, 32, 48, 59, 99, 117, 98, 101, 32, 112, 32, 112, 32, 50, 32, 48, 59, 99, 111, 110, 118, 101, 114, 116, 32, 112, 32, 112, 32, 50, 32, 48, 59, 115, 97, 116, 117, 114, 97, 116, 101, 32, 112, 32, 112, 32, 48, 32, 49, 59, 116, 117, 114, 110, 32, 112, 32, 112, 32, 48, 32, 49, 59, 116, 111, 110, 101, 32, 112, 32, 112, 32, 49, 32, 50, 59, 101, 120, 112, 111, 115, 101, 32, 112, 32, 112, 32, 48, 32, 49, 59, 99, 111, 109, 112, 114, 101, 115, 115, 32, 112, 32, 112, 32, 48, 32, 49, 59, 103, 114, 97, 105, 110, 32, 112, 32, 112, 32, 51, 32, 50, 59, 118, 105, 103, 110, 101, 116, 116, 101, 32, 112, 32, 112, 32, 48, 32, 53, 59, 115, 104, 97, 114, 112, 101, 110, 32, 112, 32, 112, 32, 48, 32, 50, 59, 98, 108, 117, 114, 32, 112, 32, 112, 32, 49, 32, 48, 59, 109, 105, 120, 32, 112, 112, 32, 112, 32, 48, 32, 49, 59, 99, 111, 109, 98, 105, 110, 101, 32, 112, 112, 32, 112, 32, 49, 32, 48, 59, 116, 104, 114, 111, 117, 103, 104, 32, 112, 112, 109, 32, 112, 32, 48, 32, 48, 59, 97, 108, 112, 104, 97, 32, 112, 32, 109, 32, 48, 32, 48, 59, 99, 111, 118, 101, 114, 32, 112, 109, 32, 112, 32, 48, 32, 48, 59, 108, 117, 109, 97, 32, 112, 32, 109, 32, 48, 32, 51, 59, 104, 117, 101, 32, 112, 32, 109, 32, 48, 32, 57, 59, 119, 105, 110, 100, 111, 119, 32, 32, 109, 32, 49, 32, 48, 59, 105, 110, 118, 101, 114, 116, 32, 109, 32, 109, 32, 48, 32, 48, 59, 109, 101, 101, 116, 32, 109, 109, 32, 109, 32, 49, 32, 48, 59, 115, 112, 114, 101, 97, 100, 32, 109, 32, 109, 32, 49, 32, 48, 59, 115, 104, 114, 105, 110, 107, 32, 109, 32, 109, 32, 49, 32, 48, 59, 102, 101, 97, 116, 104, 101, 114, 32, 109, 32, 109, 32, 49, 32, 48]
theorem fT_len : fT.length = 27 := by decide
theorem F_get {k : Nat} (h : k < 27) : fT[k]? = some (F k) := by
  have hl : k < fT.length := by rw [fT_len]; exact h
  unfold F
  rw [List.getD_eq_getElem?_getD, List.getElem?_eq_getElem hl]; rfl
/-- What is told of the operation of a name, if there is one. -/
def opF (nm : List UInt8) : Option FormD := fT.find? (fun f => f.nm == nm)
theorem opF_at {nm : List UInt8} {k : Nat} (hk : k < 27) (h0 : ∀ j, j < k → (F j).nm ≠ nm) (h : (F k).nm = nm) : opF nm = some (F k) := by
  unfold opF
  rw [List.find?_eq_some_iff_getElem]
  refine ⟨by simpa using h, k, by rw [fT_len]; exact hk, ?_, fun j hj => ?_⟩
  · have := F_get hk
    rw [List.getElem?_eq_some_iff] at this
    obtain ⟨_, e⟩ := this; exact e
  · have := F_get (show j < 27 by omega)
    rw [List.getElem?_eq_some_iff] at this
    obtain ⟨_, e⟩ := this
    rw [e]
    simpa using h0 j hj
theorem opF_no {nm : List UInt8} (h0 : ∀ j, j < 27 → (F j).nm ≠ nm) : opF nm = none := by
  unfold opF
  rw [List.find?_eq_none]
  intro f hf
  obtain ⟨j, hj, rfl⟩ := List.getElem_of_mem hf
  rw [fT_len] at hj
  have := F_get hj
  rw [List.getElem?_eq_some_iff] at this
  obtain ⟨_, e⟩ := this
  rw [e]
  simpa using h0 j hj
theorem F_inj {j k : Nat} (hj : j < 27) (hk : k < 27) (h : (F j).nm = (F k).nm) : j = k := by
  have : ∀ j, j < 27 → ∀ k, k < 27 → (F j).nm = (F k).nm → j = k := by decide +kernel
  exact this j hj k hk h
theorem opF_F {k : Nat} (hk : k < 27) : opF (F k).nm = some (F k) := opF_at hk (fun j hj e => by have := F_inj (show j < 27 by omega) hk e; omega) rfl
theorem F_area {k : Nat} (hk : k < 27) : (F k).area = ((F k).nm == [115, 104, 97, 114, 112, 101, 110] || (F k).nm == [98, 108, 117, 114] || (F k).nm == [115, 112, 114, 101, 97, 100] || (F k).nm == [115, 104, 114, 105, 110, 107] || (F k).nm == [102, 101, 97, 116, 104, 101, 114]) := by
  have : ∀ k, k < 27 → (F k).area = ((F k).nm == [115, 104, 97, 114, 112, 101, 110] || (F k).nm == [98, 108, 117, 114] || (F k).nm == [115, 112, 114, 101, 97, 100] || (F k).nm == [115, 104, 114, 105, 110, 107] || (F k).nm == [102, 101, 97, 116, 104, 101, 114]) := by decide +kernel
  exact this k hk
theorem F_small {k : Nat} (hk : k < 27) : (F k).nm.length ≤ 8 ∧ (F k).ins.length ≤ 3 ∧ (F k).ins.length = (F k).ins.length := by
  have : ∀ k, k < 27 → (F k).nm.length ≤ 8 ∧ (F k).ins.length ≤ 3 := by decide +kernel
  exact ⟨(this k hk).1, (this k hk).2, rfl⟩
end Go.Proofs.YtbaocallhnehfaaGreatDoor

namespace Go.Proofs.YtbaocallhnehfaaGreatDoor
open Go Go.RowKit
/-- A slice's integers, on a block that is not below B. -/
def IntsAt (B : Nat) (w : World) (a : Option Addr) (l : List Int) : Prop := l = [] ∨ ∃ b off, a = some ⟨b, off, none⟩ ∧ B ≤ b ∧ b < w.heap.size ∧ ∀ i v, l[i]? = some v → w.cell? ⟨b, off + i, none⟩ = some (.int .i64 v)
theorem IntsAt.past {B : Nat} {w w' : World} {a : Option Addr} {l : List Int} (h : IntsAt B w a l) (hb : Below w.heap.size w w') : IntsAt B w' a l := by
  rcases h with h | ⟨b, off, h1, h0, h2, h3⟩
  · exact .inl h
  · exact .inr ⟨b, off, h1, h0, Nat.lt_of_lt_of_le h2 hb.size, fun i v hv => by rw [hb.cell (p := ⟨b, off + i, none⟩) h2]; exact h3 i v hv⟩
theorem IntsAt.mono {B B' : Nat} {w : World} {a : Option Addr} {l : List Int} (h : IntsAt B w a l) (hb : B' ≤ B) : IntsAt B' w a l := by
  rcases h with h | ⟨b, off, h1, h0, h2⟩
  · exact .inl h
  · exact .inr ⟨b, off, h1, Nat.le_trans hb h0, h2⟩
theorem IntsAt.tch {B : Nat} {S : Nat → Prop} {w w' : World} {a : Option Addr} {l : List Int} (h : IntsAt B w a l) (t : Tch S w w') (hn : ∀ b, S b → b < B) : IntsAt B w' a l := by
  rcases h with h | ⟨b, off, h1, h0, h2, h3⟩
  · exact .inl h
  · exact .inr ⟨b, off, h1, h0, Nat.lt_of_lt_of_le h2 t.size, fun i v hv => by rw [World.cell?_of_block (a := ⟨b, off + i, none⟩) (t.block b h2 (fun hS => by have := hn b hS; omega))]; exact h3 i v hv⟩
/-- Bytes as a string. -/
def bs (l : List UInt8) : ByteArray := ⟨l.toArray⟩
theorem bs_data (l : List UInt8) : (bs l).data.toList = l := by simp [bs]
theorem bs_of (s : ByteArray) : bs s.data.toList = s := by cases s; simp [bs]
/-- A form as a value. -/
def formV (f : FormD) (a : Option Addr) (c : Nat) : Value := .agg #[.string (bs f.nm), .slice a f.ins.length c, .int .i64 f.out, .int .i64 f.ints, .int .i64 f.reals, .bool f.area]
def FormIs (w : World) (v : Value) (f : FormD) : Prop := ∃ a c, v = formV f a c ∧ IntsAt 0 w a f.ins
theorem FormIs.past {w w' : World} {v : Value} {f : FormD} (h : FormIs w v f) (hb : Below w.heap.size w w') : FormIs w' v f := by
  obtain ⟨a, c, h1, h2⟩ := h; exact ⟨a, c, h1, h2.past hb⟩
/-- The cells of a form. -/
structure FormC (B : Nat) (w : World) (b o : Nat) (f : FormD) : Prop where
  c0 : w.cell? ⟨b, o, none⟩ = some (.string (bs f.nm))
  c1 : ∃ a c, w.cell? ⟨b, o + 1, none⟩ = some (.slice a f.ins.length c) ∧ IntsAt B w a f.ins
  c2 : w.cell? ⟨b, o + 2, none⟩ = some (.int .i64 f.out)
  c3 : w.cell? ⟨b, o + 3, none⟩ = some (.int .i64 f.ints)
  c4 : w.cell? ⟨b, o + 4, none⟩ = some (.int .i64 f.reals)
  c5 : w.cell? ⟨b, o + 5, none⟩ = some (.bool f.area)
theorem FormC.past {B : Nat} {w w' : World} {b o : Nat} {f : FormD} (h : FormC B w b o f) (hb : Below w.heap.size w w') : FormC B w' b o f := by
  obtain ⟨h0, ⟨a, c, h1, h1'⟩, h2, h3, h4, h5⟩ := h
  have hl := cell_lt h0
  simp only at hl
  have g : ∀ j, w'.cell? ⟨b, j, none⟩ = w.cell? ⟨b, j, none⟩ := fun j => hb.cell (p := ⟨b, j, none⟩) hl
  exact ⟨by rw [g]; exact h0, ⟨a, c, by rw [g]; exact h1, h1'.past hb⟩, by rw [g]; exact h2, by rw [g]; exact h3, by rw [g]; exact h4, by rw [g]; exact h5⟩
/-- The row of all forms. -/
def FormRow (B : Nat) (w : World) (v : Value) : Prop := ∃ b off c, v = .slice (some ⟨b, off, none⟩) 27 c ∧ B ≤ b ∧ ∀ q, q < 27 → FormC B w b (off + q * 6) (F q)
theorem FormRow.past {B : Nat} {w w' : World} {v : Value} (h : FormRow B w v) (hb : Below w.heap.size w w') : FormRow B w' v := by
  obtain ⟨b, off, c, h1, h0, h2⟩ := h; exact ⟨b, off, c, h1, h0, fun q hq => (h2 q hq).past hb⟩
/-- What a function that hands back all forms leaves. -/
def FormsP (w : World) (e : Ending) (w' : World) : Prop := ∃ v, e = .returned v ∧ FormRow w.heap.size w' v ∧ Below w.heap.size w w'
/-- The zero form. -/
def zForm : Value := .agg #[.string ⟨#[]⟩, .slice none 0 0, .int .i64 0, .int .i64 0, .int .i64 0, .bool false]
def zCells : List Value := [.string ⟨#[]⟩, .slice none 0 0, .int .i64 0, .int .i64 0, .int .i64 0, .bool false]
def fCells (f : FormD) (a : Option Addr) (c : Nat) : List Value := [.string (bs f.nm), .slice a f.ins.length c, .int .i64 f.out, .int .i64 f.ints, .int .i64 f.reals, .bool f.area]
/-- Six cells of one block are written. -/
theorem tch6 (W : World) (n : Nat) (v0 v1 v2 v3 v4 v5 : Value) : Tch (fun b => b = n) W ((((((W.setCell ⟨n, 0, none⟩ v0).setCell ⟨n, 1, none⟩ v1).setCell ⟨n, 2, none⟩ v2).setCell ⟨n, 3, none⟩ v3).setCell ⟨n, 4, none⟩ v4).setCell ⟨n, 5, none⟩ v5) :=
  ((((((Tch.refl (fun b => b = n) W).set ⟨n, 0, none⟩ v0 rfl).set ⟨n, 1, none⟩ v1 rfl).set ⟨n, 2, none⟩ v2 rfl).set ⟨n, 3, none⟩ v3 rfl).set ⟨n, 4, none⟩ v4 rfl).set ⟨n, 5, none⟩ v5 rfl
/-- A new block is written: nothing below it is touched. -/
theorem below_own {w W W' : World} {n : Nat} (h : Below w.heap.size w W) (t : Tch (fun b => b = n) W W') (hn : w.heap.size ≤ n) : Below w.heap.size w W' :=
  ((Tch.of_below (S := fun _ => False) h).then t (fun i hi e => by subst e; omega)).to_below (Nat.le_refl _) (fun _ hk => hk.elim)
end Go.Proofs.YtbaocallhnehfaaGreatDoor

namespace Go.Proofs.YtbaocallhnehfaaGreatDoor
open Go Go.RowKit
/-- What is handed back for a name. -/
def OpR (ok no : Value) (name : ByteArray) (e : Ending) (w' : World) : Prop :=
  (∃ f v, opF name.data.toList = some f ∧ e = .returned (.tuple #[v, ok]) ∧ FormIs w' v f) ∨ (opF name.data.toList = none ∧ e = .returned (.tuple #[zForm, no]))
theorem bodyPost_retN {P : Program} {fn : Func} {R : Ending → World → Prop} {a : Act} {w : World} {v : Value} (hr : (results fn a.tmps).run P w = .ok v w) (hd : a.defers = []) (hR : ∀ W, W = w → R (.returned v) W) : bodyPost P fn R .ret a w := bodyPost_ret hr hd (hR w rfl)
theorem zCells_at {W : World} {n : Nat} (h : Blk W n zCells) : W.cell? ⟨n, 0, none⟩ = some (.string ⟨#[]⟩) ∧ W.cell? ⟨n, 1, none⟩ = some (.slice none 0 0) ∧ W.cell? ⟨n, 2, none⟩ = some (.int .i64 0) ∧ W.cell? ⟨n, 3, none⟩ = some (.int .i64 0) ∧ W.cell? ⟨n, 4, none⟩ = some (.int .i64 0) ∧ W.cell? ⟨n, 5, none⟩ = some (.bool false) := ⟨h.c 0 _ rfl, h.c 1 _ rfl, h.c 2 _ rfl, h.c 3 _ rfl, h.c 4 _ rfl, h.c 5 _ rfl⟩
theorem fCells_at {W : World} {n : Nat} {f : FormD} {a : Option Addr} {c : Nat} (h : Blk W n (fCells f a c)) : W.cell? ⟨n, 0, none⟩ = some (.string (bs f.nm)) ∧ W.cell? ⟨n, 1, none⟩ = some (.slice a f.ins.length c) ∧ W.cell? ⟨n, 2, none⟩ = some (.int .i64 f.out) ∧ W.cell? ⟨n, 3, none⟩ = some (.int .i64 f.ints) ∧ W.cell? ⟨n, 4, none⟩ = some (.int .i64 f.reals) ∧ W.cell? ⟨n, 5, none⟩ = some (.bool f.area) := ⟨h.c 0 _ rfl, h.c 1 _ rfl, h.c 2 _ rfl, h.c 3 _ rfl, h.c 4 _ rfl, h.c 5 _ rfl⟩
set_option maxRecDepth 100000 in
set_option maxHeartbeats 3200000 in
theorem Op_any (name : ByteArray) (w : World) (hF : ∀ w', Below w.heap.size w w' → Calls Tryz.prog 53 #[] w' (FormsP w')) : Calls Tryz.prog 29 #[.string name] w fun e w' => OpR (.int .i64 0) (.int .i64 6) name e w' ∧ Below w.heap.size w w' := by
  have HF := Lib.hid hF
  clear hF
  go_enter Tryz.func29, Tryz.ntmps29
  go_wp2_with (go_at_call 53; refine (HF.out _ (by (repeat (first | exact Below.refl _ _ | assumption | (refine Below.setCell ?_ (by first | (simp; done) | (simp; omega) | omega) _) | (refine Below.drew ?_) | (refine below_drewN ?_ _) | (refine Below.alloc ?_ (by first | (simp; done) | (simp; omega) | omega) _) | (refine Below.trans ?_ (Below.mono (by assumption) (by first | (simp; done) | (simp; omega) | omega))))))).mono ?_; rintro e w1 ⟨v, rfl, hr, hb⟩; obtain ⟨b, off, c, rfl, -, hc⟩ := hr)
  have hN : Blk w1 w.heap.size zCells := (Blk.new w zCells 58 _ rfl).past hb
  have HC := Lib.hid (And.intro hc hN)
  have HB1 : Hid (Below w.heap.size w w1) := Lib.hid (by (repeat (first | exact Below.refl _ _ | assumption | (refine Below.setCell ?_ (by first | (simp; done) | (simp; omega) | omega) _) | (refine Below.drew ?_) | (refine below_drewN ?_ _) | (refine Below.alloc ?_ (by first | (simp; done) | (simp; omega) | omega) _) | (refine Below.trans ?_ (Below.mono (by assumption) (by first | (simp; done) | (simp; omega) | omega))))))
  clear hc hN hb
  go_loopw [8] (fun s8 wr => ∃ k : Nat, k ≤ 27 ∧ s8 = .int .i64 k ∧ (∀ j, j < k → (F j).nm ≠ name.data.toList) ∧ Below w1.heap.size w1 wr) (fun s8 _ => 27 - (intOf s8).toNat)
  case atStart => exact ⟨0, by omega, rfl, fun j hj => by omega, Below.refl _ _⟩
  case round =>
    obtain ⟨k, hk, rfl, hno, hB⟩ := hrel
    have HNO := Lib.hid hno
    have HB := Lib.hid hB
    clear hno hB
    by_cases hkn : k < 27
    · have hkm : (k : Int) < 27 := by omega
      obtain ⟨c0, ⟨ia, ic, c1, ci⟩, c2, c3, c4, c5⟩ := (HC.out.1 k hkn).past HB.out
      have HK := Lib.hid hkn
      obtain ⟨f, hf⟩ : ∃ f, f = F k := ⟨_, rfl⟩
      rw [← hf] at c0 c1 c2 c3 c4 c5 ci
      have HFK := Lib.hid hf
      have HCI := Lib.hid ci
      have l0 := cell_lt c0; simp only at l0
      have HLB := Lib.hid l0
      clear hf ci hkn
      go_upto_region 4 with fail
      refine wp_world (fun W4 hW4 => ?_)
      have H4 : Hid (Blk W4 wr.heap.size (fCells f ia ic) ∧ Below wr.heap.size wr W4) := Lib.hid (by rw [hW4]; exact ⟨Blk.new _ _ _ _ rfl, by (repeat (first | exact Below.refl _ _ | assumption | (refine Below.setCell ?_ (by first | (simp; done) | (simp; omega) | omega) _) | (refine Below.drew ?_) | (refine below_drewN ?_ _) | (refine Below.alloc ?_ (by first | (simp; done) | (simp; omega) | omega) _) | (refine Below.trans ?_ (Below.mono (by assumption) (by first | (simp; done) | (simp; omega) | omega)))))⟩)
      clear hW4 c0 c1 c2 c3 c4 c5 l0
      obtain ⟨m0, m1, m2, m3, m4, m5⟩ := fCells_at H4.out.1
      have ml := H4.out.1.lt
      have HZ : Hid (Blk W4 w.heap.size zCells) := Lib.hid ((HC.out.2.past HB.out).past H4.out.2)
      cases hq : ((bs f.nm).toList == name.toList) with
      | true =>
        have he := (Lib.bytes_beq_iff _ _).1 hq
        have HE := Lib.hid he
        obtain ⟨z0, z1, z2, z3, z4, z5⟩ := zCells_at HZ.out
        have zf := HZ.out.f
        have zl := HZ.out.lt
        clear he
        go_wp2_with fail
        refine bodyPost_retN (v := .tuple #[formV f ia ic, .int .i64 0]) (by simp [results, Tryz.results29, go_sem, z0, z1, z2, z3, z4, z5, formV]) rfl (fun WF hWF => ?_)
        have hT : Tch (fun b => b = w.heap.size) W4 WF := by rw [hWF]; exact tch6 _ _ _ _ _ _ _ _
        have hB4 : Below w.heap.size w W4 := HB1.out.trans ((HB.out.trans (H4.out.2.mono HB.out.size)).mono HB1.out.size)
        have hI : IntsAt 0 WF ia f.ins := ((HCI.out.past H4.out.2).tch hT (fun b hb => by subst hb; simp)).mono (Nat.zero_le _)
        exact ⟨.inl ⟨f, _, by rw [HFK.out, show name.data.toList = (F k).nm by rw [← HE.out, bs_data, HFK.out]]; exact opF_F HK.out, rfl, ia, ic, rfl, hI⟩, below_own hB4 hT (Nat.le_refl _)⟩
      | false =>
        have he := (Lib.bytes_beq_false_iff _ _).1 hq
        have HE := Lib.hid he
        clear he
        go_wp2_with fail
        go_roundw
        case rel =>
          refine ⟨k + 1, by have := HK.out; omega, by go_num, fun j hj => ?_, HB.out.trans (H4.out.2.mono HB.out.size)⟩
          by_cases e : j = k
          · subst e
            intro h
            exact HE.out (by rw [HFK.out, h, bs_of])
          · exact HNO.out j (by omega)
        case measure => simp [intOf]; have := HK.out; omega
    · have hkm : ¬ (k : Int) < 27 := by omega
      have HZ : Hid (Blk wr w.heap.size zCells) := Lib.hid (HC.out.2.past HB.out)
      obtain ⟨z0, z1, z2, z3, z4, z5⟩ := zCells_at HZ.out
      have zf := HZ.out.f
      have zl := HZ.out.lt
      have HN : Hid (opF name.data.toList = none) := Lib.hid (opF_no fun j hj => HNO.out j (by omega))
      clear hkn
      go_wp2_with fail
      refine bodyPost_retN (v := .tuple #[zForm, .int .i64 6]) (by simp [results, Tryz.results29, go_sem, z0, z1, z2, z3, z4, z5, zForm]) rfl (fun WF hWF => ⟨.inr ⟨HN.out, rfl⟩, ?_⟩)
      have hT : Tch (fun b => b = w.heap.size) wr WF := by rw [hWF]; exact tch6 _ _ _ _ _ _ _ _
      exact below_own (HB1.out.trans (HB.out.mono HB1.out.size)) hT (Nat.le_refl _)
end Go.Proofs.YtbaocallhnehfaaGreatDoor

namespace Go.Proofs.YtbaocallhnehfaaGreatDoor
open Go Go.RowKit
/-- A row whose memory, if any, is not below B. -/
def NewRow (B : Nat) (w : World) (size : Nat) (v : Value) (n : Nat) (xs : List Value) : Prop := RowV w size v n xs ∧ ∀ b, v.ownBlock = some b → B ≤ b
theorem NewRow.nil (B : Nat) (w : World) (size : Nat) : NewRow B w size (.slice none 0 0) 0 [] := ⟨RowV.nil w size, fun b h => by simp [Value.ownBlock] at h⟩
theorem NewRow.past {B : Nat} {w w' : World} {size n : Nat} {v : Value} {xs : List Value} (h : NewRow B w size v n xs) (hb : Below w.heap.size w w') : NewRow B w' size v n xs := ⟨h.1.past hb, h.2⟩
theorem NewRow.form {B : Nat} {w : World} {size n : Nat} {v : Value} {xs : List Value} (h : NewRow B w size v n xs) : ∃ ao cap, v = .slice ao n cap := by
  obtain ⟨⟨-, ao, cap, rfl, -⟩, -⟩ := h; exact ⟨_, _, rfl⟩
/-- Behind an append. -/
theorem NewRow.app {w0 wa w' : World} {size n : Nat} {v v' : Value} {xs ys : List Value} (h : NewRow w0.heap.size wa size v n xs) (hb : Below w0.heap.size w0 wa) (r1 : RowV w' size v' (n + 1) ys) (r2 : wa.grownBy w' v.ownBlock) (r3 : v'.ownBlock = v.ownBlock ∨ ∀ b, v'.ownBlock = some b → wa.heap.size ≤ b) :
    NewRow w0.heap.size w' size v' (n + 1) ys ∧ Below w0.heap.size w0 w' := by
  refine ⟨⟨r1, fun b e => ?_⟩, hb.grown r2 hb.size (fun j hj => h.2 j hj)⟩
  rcases r3 with r3 | r3
  · exact h.2 b (by rw [← r3]; exact e)
  · exact Nat.le_trans hb.size (r3 b e)
def nmsV (k : Nat) : List Value := (List.range k).map fun q => .string (bs (F q).nm)
end Go.Proofs.YtbaocallhnehfaaGreatDoor

namespace Go.Proofs.YtbaocallhnehfaaGreatDoor
open Go Go.RowKit
theorem and15 (x : Int) : bits .and .u32 x 15 = x % 16 := and_low .u32 x 4 (by decide) (.inr (.inr (.inl rfl))) (by decide)
def hexD (d : Nat) : UInt8 := [48, 49, 50, 51, 52, 53, 54, 55, 56, 57, 97, 98, 99, 100, 101, 102].getD d 0
def hexL (n : Nat) : List UInt8 := (List.range 8).map fun i => hexD (n / 2 ^ (28 - 4 * i) % 16)
theorem hexL_len (n : Nat) : (hexL n).length = 8 := by simp [hexL]
theorem ix_any (q : IntKind) (s : ByteArray) (i : Nat) (b : UInt8) (h : s.data.toList[i]? = some b) (w : World) : (Instr.index 9 (.string s) (.int q i)).run Tryz.prog w = .ok (.int .u8 (b.toNat : Int)) w := by
  have hl : i < s.data.toList.length := (List.getElem?_eq_some_iff.1 h).1
  have hl' : i < s.size := by rw [Lib.size_eq]; exact hl
  have h' : s[i]? = some b := by
    rw [getElem?_pos s i hl']
    have e : s[i] = s.data.toList[i] := rfl
    rw [e]
    rw [List.getElem?_eq_getElem hl] at h
    exact h
  simp [Instr.index, asIntOf, run_underlying Tryz.underlying9, h', go_sem]
theorem bits_any (v : Nat) (w : World) : Calls Tryz.prog 98 #[.float .f32 v] w fun e w' => e = .returned (.int .u32 (cn .f32 v)) ∧ w = w' := by
  go_enter Tryz.func98, Tryz.ntmps98
  go_wp2_with (first | (go_at_call 116; refine (Clean_any _ _).mono ?_; rintro e w' ⟨rfl, rfl⟩))
  go_ret
  exact ⟨rfl, rfl⟩
set_option maxRecDepth 100000 in
set_option maxHeartbeats 1600000 in
theorem hex_any (v : Nat) (w : World) : Calls Tryz.prog 68 #[.float .f32 v] w fun e w' => e = .returned (.string (bs (hexL (cn .f32 v)))) ∧ Below w.heap.size w w' := by
  obtain ⟨n, hn⟩ : ∃ n, n = cn .f32 v := ⟨_, rfl⟩
  have HB : Hid (∀ w, Calls Tryz.prog 98 #[.float .f32 v] w fun e w' => e = .returned (.int .u32 n) ∧ w = w') := Lib.hid (fun w => by rw [hn]; exact bits_any v w)
  rw [← hn]
  clear hn
  go_enter Tryz.func68, Tryz.ntmps68
  go_wp2_with (go_at_call 98; refine (HB.out _).mono ?_; rintro e w' ⟨rfl, rfl⟩)
  go_loopw [8] (fun s8 wr => ∃ (k : Nat) (vs : List Value), k ≤ 8 ∧ s8 = .int .i64 k ∧ vs.length = 8 ∧ Blk wr w.heap.size vs ∧ Below w.heap.size w wr ∧ ∀ j, j < k → vs[j]? = some (.int .u8 ((hexD (n / 2 ^ (28 - 4 * j) % 16)).toNat : Int))) (fun s8 _ => 8 - (intOf s8).toNat)
  case atStart => exact ⟨0, _, by omega, rfl, rfl, Blk.new w [.int .u8 0, .int .u8 0, .int .u8 0, .int .u8 0, .int .u8 0, .int .u8 0, .int .u8 0, .int .u8 0] _ _ rfl, by (repeat (first | exact Below.refl _ _ | assumption | (refine Below.setCell ?_ (by first | (simp; done) | (simp; omega) | omega) _) | (refine Below.drew ?_) | (refine below_drewN ?_ _) | (refine Below.alloc ?_ (by first | (simp; done) | (simp; omega) | omega) _) | (refine Below.trans ?_ (Below.mono (by assumption) (by first | (simp; done) | (simp; omega) | omega))))), fun j hj => by omega⟩
  case round =>
    obtain ⟨k, vs, hk, rfl, hl, hM, hB, hJ⟩ := hrel
    have HM := Lib.hid (And.intro hM (And.intro hB (And.intro hJ hl)))
    by_cases hkn : k < 8
    · have hkm : (k : Int) < 8 := by omega
      obtain ⟨old, ho⟩ : ∃ old, vs[k]? = some old := ⟨_, List.getElem?_eq_getElem (by omega)⟩
      have c0 := hM.c k _ ho
      have cl := hM.lt
      have cf := hM.f
      have h1 : ¬ (28 : Int) - 4 * (k : Int) < 0 := by omega
      obtain ⟨d, hd⟩ : ∃ d, d = n / 2 ^ (28 - 4 * k) % 16 := ⟨_, rfl⟩
      have hd16 : d < 16 := by rw [hd]; exact Nat.mod_lt _ (by omega)
      have hand : bits .and .u32 ((n : Int) / 2 ^ (28 - 4 * k)) 15 = (d : Int) := by rw [and15, hd]; simp
      have hix := ix_any .u32 ⟨#[48, 49, 50, 51, 52, 53, 54, 55, 56, 57, 97, 98, 99, 100, 101, 102]⟩ d (hexD d) (by
        have : ∀ d, d < 16 → [48, 49, 50, 51, 52, 53, 54, 55, 56, 57, 97, 98, 99, 100, 101, 102][d]? = some (hexD d) := by decide +kernel
        exact this d hd16)
      have HD := Lib.hid hd
      clear hM hB hJ ho hd
      go_wp2_with fail
      go_roundw
      case rel =>
        refine ⟨k + 1, vs.set k (.int .u8 ((hexD d).toNat : Int)), by omega, by go_num, by rw [List.length_set]; exact HM.out.2.2.2, by simpa using HM.out.1.set k (.int .u8 ((hexD d).toNat : Int)), HM.out.2.1.setCell (Nat.le_refl _) _, fun j hj => ?_⟩
        by_cases e : j = k
        · subst e
          rw [List.getElem?_set, if_pos rfl, if_pos (by rw [HM.out.2.2.2]; exact hkn), HD.out]
        · rw [List.getElem?_set, if_neg (Ne.symm e)]
          exact HM.out.2.2.1 j (by omega)
      case measure => simp [intOf]; omega
    · obtain rfl : k = 8 := by omega
      have hkm : ¬ ((8 : Nat) : Int) < 8 := by omega
      have hcv : Sem.run Tryz.prog (convert 150 9 (.slice (some ⟨w.heap.size, 0, none⟩) 8 8)) wr = .ok (.string (bs (hexL n))) wr := by
        have h := run_convert_bytes_back wr 150 9 5 ⟨w.heap.size, 0, none⟩ 8 (hexL n) Tryz.underlying150 Tryz.underlying5 Tryz.underlying9 (fun j hj => by
          have hj8 : j < 8 := by rwa [hexL_len] at hj
          rw [Addr.add_lit, Nat.zero_add, hM.c j _ (hJ j hj8)]
          simp [hexL])
        rw [hexL_len] at h
        exact h
      clear hM hB hJ
      go_wp2_with fail
      go_ret
      exact ⟨rfl, HM.out.2.1⟩
end Go.Proofs.YtbaocallhnehfaaGreatDoor

namespace Go.Proofs.YtbaocallhnehfaaGreatDoor
open Go Go.RowKit
/-- A slice's singles. -/
def RealsAt (B : Nat) (w : World) (a : Option Addr) (l : List Nat) : Prop := l = [] ∨ ∃ b off, a = some ⟨b, off, none⟩ ∧ B ≤ b ∧ b < w.heap.size ∧ ∀ i v, l[i]? = some v → w.cell? ⟨b, off + i, none⟩ = some (.float .f32 v)
theorem RealsAt.past {B : Nat} {w w' : World} {a : Option Addr} {l : List Nat} (h : RealsAt B w a l) (hb : Below w.heap.size w w') : RealsAt B w' a l := by
  rcases h with h | ⟨b, off, h1, h0, h2, h3⟩
  · exact .inl h
  · exact .inr ⟨b, off, h1, h0, Nat.lt_of_lt_of_le h2 hb.size, fun i v hv => by rw [hb.cell (p := ⟨b, off + i, none⟩) h2]; exact h3 i v hv⟩
theorem RealsAt.mono {B B' : Nat} {w : World} {a : Option Addr} {l : List Nat} (h : RealsAt B w a l) (hb : B' ≤ B) : RealsAt B' w a l := by
  rcases h with h | ⟨b, off, h1, h0, h2⟩
  · exact .inl h
  · exact .inr ⟨b, off, h1, Nat.le_trans hb h0, h2⟩
theorem RealsAt.get {B : Nat} {w : World} {a : Option Addr} {l : List Nat} (h : RealsAt B w a l) {i : Nat} {v : Nat} (hi : l[i]? = some v) : ∃ b off, a = some ⟨b, off, none⟩ ∧ w.cell? ⟨b, off + i, none⟩ = some (.float .f32 v) := by
  rcases h with rfl | ⟨b, off, h1, -, -, h2⟩
  · simp at hi
  · exact ⟨b, off, h1, h2 i v hi⟩
theorem IntsAt.one {B : Nat} {w : World} {a : Option Addr} {l : List Int} (h : IntsAt B w a l) {i : Nat} {v : Int} (hi : l[i]? = some v) : ∃ b off, a = some ⟨b, off, none⟩ ∧ w.cell? ⟨b, off + i, none⟩ = some (.int .i64 v) := by
  rcases h with rfl | ⟨b, off, h1, -, -, h2⟩
  · simp at hi
  · exact ⟨b, off, h1, h2 i v hi⟩
def intW (i : Int) : List UInt8 := 32 :: Lib.itoa i
def reaW (v : Nat) : List UInt8 := 32 :: hexL (cn .f32 v)
def numT (is : List Int) (rs : List Nat) : List UInt8 := is.flatMap intW ++ rs.flatMap reaW
def Int64 (i : Int) : Prop := -9223372036854775808 ≤ i ∧ i ≤ 9223372036854775807
theorem intW_len {i : Int} (h : Int64 i) : (intW i).length ≤ 22 := by
  have := Lib.itoa_length_le i h.1 h.2
  simp only [intW, List.length_cons]; omega
theorem reaW_len (v : Nat) : (reaW v).length = 9 := by simp [reaW, hexL_len]
theorem flatL_len {α : Type} (f : α → List UInt8) (c : Nat) : ∀ l : List α, (∀ x ∈ l, (f x).length ≤ c) → (l.flatMap f).length ≤ c * l.length
  | [], _ => by simp
  | x :: l, h => by
    have h1 := h x (by simp)
    have h2 := flatL_len f c l (fun y hy => h y (by simp [hy]))
    simp only [List.flatMap_cons, List.length_append, List.length_cons, Nat.mul_add, Nat.mul_one]; omega
theorem flatL_take {α : Type} (f : α → List UInt8) (l : List α) (k : Nat) (x : α) (h : l[k]? = some x) : (l.take (k + 1)).flatMap f = (l.take k).flatMap f ++ f x := by
  rw [List.take_add_one, h]; simp
set_option maxRecDepth 100000 in
set_option maxHeartbeats 3200000 in
theorem numbers_any (op : ByteArray) (ain ai ar : Option Addr) (nin cin ni ci nr cr : Nat) (is : List Int) (rs : List Nat) (w : World) (hL : LibW w) (hni : is.length = ni) (hnr : rs.length = nr) (hi1 : ni ≤ 100) (hr1 : nr ≤ 100) (hi : IntsAt 0 w ai is) (hr : RealsAt 0 w ar rs) (h64 : ∀ i ∈ is, Int64 i) :
    Calls Tryz.prog 33 #[.agg #[.string op, .slice ain nin cin, .slice ai ni ci, .slice ar nr cr]] w fun e w' => e = .returned (.string (bs (numT is rs))) ∧ Below w.heap.size w w' := by
  have HH := Lib.hid (And.intro hL (And.intro hni (And.intro hnr (And.intro hi (And.intro hr h64)))))
  clear hL hni hnr hi hr h64
  go_enter Tryz.func33, Tryz.ntmps33
  go_wp2_with fail
  refine wp_world (fun W hW => ?_)
  have HW : Hid (Below w.heap.size w W ∧ Blk W w.heap.size [.string op, .slice ain nin cin, .slice ai ni ci, .slice ar nr cr]) := Lib.hid (by rw [hW]; exact ⟨by (repeat (first | exact Below.refl _ _ | assumption | (refine Below.setCell ?_ (by first | (simp; done) | (simp; omega) | omega) _) | (refine Below.drew ?_) | (refine below_drewN ?_ _) | (refine Below.alloc ?_ (by first | (simp; done) | (simp; omega) | omega) _) | (refine Below.trans ?_ (Below.mono (by assumption) (by first | (simp; done) | (simp; omega) | omega))))), Blk.new _ _ _ _ rfl⟩)
  clear hW
  go_loopw [11, 3] (fun s11 s3 wr => ∃ (k : Nat) (T : ByteArray), k ≤ ni ∧ s11 = .int .i64 k ∧ s3 = .string T ∧ T.data.toList = (is.take k).flatMap intW ∧ Below W.heap.size W wr) (fun s11 _ _ => ni - (intOf s11).toNat)
  case atStart => exact ⟨0, ⟨#[]⟩, Nat.zero_le _, rfl, rfl, rfl, Below.refl _ _⟩
  case round =>
    obtain ⟨k, T, hk, rfl, rfl, hT, hB⟩ := hrel
    have HT := Lib.hid (And.intro hT hB)
    clear hT hB
    by_cases hkn : k < ni
    · have hkm : (k : Int) < (ni : Int) := by omega
      obtain ⟨z, hz⟩ : ∃ z, is[k]? = some z := ⟨_, List.getElem?_eq_getElem (by have := HH.out.2.1; omega)⟩
      have HZ := Lib.hid hz
      have hbw := HW.out.1.trans (HT.out.2.mono HW.out.1.size)
      obtain ⟨b, off, rfl, c0⟩ := (HH.out.2.2.2.1.past hbw).one hz
      have hz64 : Int64 z := HH.out.2.2.2.2.2 z (List.mem_of_getElem? hz)
      have HIT : Hid (∀ w', LibW w' → Calls Tryz.prog 32 #[.int .i64 z] w' fun e w'' => e = .returned (.string (bs (Lib.itoa z))) ∧ Below w'.heap.size w' w'') := Lib.hid (fun w' h' => Itoa_any z w' h' hz64.1 hz64.2)
      have HLW := Lib.hid (HH.out.1.past hbw)
      have htl : T.size ≤ 22 * k := by
        rw [Lib.size_eq, HT.out.1]
        have h1 := flatL_len intW 22 (is.take k) (fun x hx => intW_len (HH.out.2.2.2.2.2 x (List.mem_of_mem_take hx)))
        rw [List.length_take] at h1
        omega
      have hil := intW_len hz64
      have hi2 : (bs (Lib.itoa z)).size ≤ 22 := by rw [Lib.size_eq, bs_data]; simp only [intW, List.length_cons] at hil; omega
      obtain ⟨I, hI⟩ : ∃ I, I = bs (Lib.itoa z) := ⟨_, rfl⟩
      rw [← hI] at HIT hi2
      have HI := Lib.hid hI
      have l0 := cell_lt c0; simp only at l0
      have q1 : ¬ 9223372036854775807 < 1 + I.size := by omega
      have q2 : ¬ 9223372036854775807 < T.size + (1 + I.size) := by omega
      clear hz hbw hz64 hil hI
      go_wp2_with (go_at_call 32; refine (HIT.out _ HLW.out).mono ?_; rintro e w2 ⟨rfl, hb2⟩; have HB2 := Lib.hid (HT.out.2.trans (hb2.mono HT.out.2.size)); clear hb2)
      go_roundw
      case rel =>
        refine ⟨k + 1, _, by omega, by go_num, rfl, ?_, HB2.out⟩
        rw [flatL_take _ _ _ _ HZ.out, ← HT.out.1, HI.out]
        simp [intW, bs]
      case measure => simp [intOf]; omega
    · have hkm : ¬ (k : Int) < (ni : Int) := by omega
      have hte : T.data.toList = is.flatMap intW := by rw [HT.out.1, List.take_of_length_le (by have := HH.out.2.1; omega)]
      have htl : T.size ≤ 2200 := by
        rw [Lib.size_eq, hte]
        have h1 := flatL_len intW 22 is (fun x hx => intW_len (HH.out.2.2.2.2.2 x hx))
        have := HH.out.2.1
        omega
      have HT2 := Lib.hid (And.intro hte htl)
      have HB0 := Lib.hid (HW.out.1.trans (HT.out.2.mono HW.out.1.size))
      have HK := Lib.hid (HW.out.2.past HT.out.2)
      have m3 := HK.out.c 3 _ rfl
      have ml := HK.out.lt
      clear hte htl
      go_wp2_with fail
      clear m3 ml
      go_loopw [24, 3] (fun s24 s3 wx => ∃ (j : Nat) (S : ByteArray), j ≤ nr ∧ s24 = .int .i64 j ∧ s3 = .string S ∧ S.data.toList = is.flatMap intW ++ (rs.take j).flatMap reaW ∧ Below wr.heap.size wr wx) (fun s24 _ _ => nr - (intOf s24).toNat)
      case atStart => exact ⟨0, T, Nat.zero_le _, rfl, rfl, by rw [HT2.out.1]; simp, Below.refl _ _⟩
      case round =>
        obtain ⟨j, S, hj, rfl, rfl, hS, hBx⟩ := hrel
        have HS := Lib.hid (And.intro hS hBx)
        clear hS hBx
        by_cases hjn : j < nr
        · have hjm : (j : Int) < (nr : Int) := by omega
          obtain ⟨v, hv⟩ : ∃ v, rs[j]? = some v := ⟨_, List.getElem?_eq_getElem (by have := HH.out.2.2.1; omega)⟩
          have HV := Lib.hid hv
          have hbw := HB0.out.trans (HS.out.2.mono HB0.out.size)
          obtain ⟨b, off, rfl, c0⟩ := (HH.out.2.2.2.2.1.past hbw).get hv
          have htl : S.size ≤ 2200 + 9 * j := by
            rw [Lib.size_eq, HS.out.1, List.length_append]
            have h1 := flatL_len reaW 9 (rs.take j) (fun x _ => Nat.le_of_eq (reaW_len x))
            have h2 := HT2.out.2
            rw [Lib.size_eq, HT2.out.1] at h2
            rw [List.length_take] at h1
            omega
          obtain ⟨I, hI⟩ : ∃ I, I = bs (hexL (cn .f32 v)) := ⟨_, rfl⟩
          have hi2 : I.size = 8 := by rw [hI, Lib.size_eq, bs_data, hexL_len]
          have HHX : Hid (∀ w', Calls Tryz.prog 68 #[.float .f32 v] w' fun e w'' => e = .returned (.string I) ∧ Below w'.heap.size w' w'') := Lib.hid (fun w' => by rw [hI]; exact hex_any v w')
          have HI := Lib.hid hI
          have l0 := cell_lt c0; simp only at l0
          have q1 : ¬ 9223372036854775807 < 1 + I.size := by omega
          have q2 : ¬ 9223372036854775807 < S.size + (1 + I.size) := by omega
          clear hv hbw hI
          go_wp2_with (go_at_call 68; refine (HHX.out _).mono ?_; rintro e w2 ⟨rfl, hb2⟩; have HB2 := Lib.hid (HS.out.2.trans (hb2.mono HS.out.2.size)); clear hb2)
          go_roundw
          case rel =>
            refine ⟨j + 1, _, by omega, by go_num, rfl, ?_, HB2.out⟩
            rw [flatL_take _ _ _ _ HV.out, ← List.append_assoc, ← HS.out.1, HI.out]
            simp [reaW, bs]
          case measure => simp [intOf]; omega
        · have hjm : ¬ (j : Int) < (nr : Int) := by omega
          have HE : Hid (S = bs (numT is rs)) := Lib.hid (by
            have : S.data.toList = numT is rs := by rw [HS.out.1, List.take_of_length_le (by have := HH.out.2.2.1; omega)]; rfl
            rw [← this, bs_of])
          go_wp2_with fail
          go_ret
          exact ⟨by rw [← HE.out]; rfl, HB0.out.trans (HS.out.2.mono HB0.out.size)⟩
theorem numT_len {is : List Int} {rs : List Nat} (h : ∀ i ∈ is, Int64 i) : (numT is rs).length ≤ 22 * is.length + 9 * rs.length := by
  unfold numT
  rw [List.length_append]
  have h1 := flatL_len intW 22 is (fun x hx => intW_len (h x hx))
  have h2 := flatL_len reaW 9 rs (fun x _ => Nat.le_of_eq (reaW_len x))
  omega
/-- What goes into a node, and its parameters. -/
def wordT (ins is : List Int) (rs : List Nat) : List UInt8 := ins.flatMap intW ++ numT is rs
set_option maxRecDepth 100000 in
set_option maxHeartbeats 3200000 in
theorem words_any (op : ByteArray) (ain ai ar : Option Addr) (nin cin ni ci nr cr : Nat) (ins is : List Int) (rs : List Nat) (w : World) (hL : LibW w) (hnin : ins.length = nin) (hni : is.length = ni) (hnr : rs.length = nr) (hin1 : nin ≤ 100) (hi1 : ni ≤ 100) (hr1 : nr ≤ 100) (hin : IntsAt 0 w ain ins) (hi : IntsAt 0 w ai is) (hr : RealsAt 0 w ar rs) (hin64 : ∀ i ∈ ins, Int64 i) (h64 : ∀ i ∈ is, Int64 i) :
    Calls Tryz.prog 16 #[.agg #[.string op, .slice ain nin cin, .slice ai ni ci, .slice ar nr cr]] w fun e w' => e = .returned (.string (bs (wordT ins is rs))) ∧ Below w.heap.size w w' := by
  have HH := Lib.hid (And.intro hL (And.intro hnin (And.intro hin hin64)))
  have HN := Lib.hid (fun w' (hw' : Below w.heap.size w w') => numbers_any op ain ai ar nin cin ni ci nr cr is rs w' (hL.past hw') hni hnr hi1 hr1 (hi.past hw') (hr.past hw') h64 : ∀ w', _)
  have hnl := numT_len (rs := rs) h64
  obtain ⟨NT, hNT⟩ : ∃ NT, NT = bs (numT is rs) := ⟨_, rfl⟩
  have hns : NT.size ≤ 3100 := by rw [hNT, Lib.size_eq, bs_data]; omega
  rw [← hNT] at HN
  have HNT := Lib.hid hNT
  clear hL hnin hni hnr hi hr h64 hin hin64 hnl hNT
  go_enter Tryz.func16, Tryz.ntmps16
  go_wp2_with fail
  refine wp_world (fun W hW => ?_)
  have HW : Hid (Below w.heap.size w W ∧ Blk W w.heap.size [.string op, .slice ain nin cin, .slice ai ni ci, .slice ar nr cr]) := Lib.hid (by rw [hW]; exact ⟨by (repeat (first | exact Below.refl _ _ | assumption | (refine Below.setCell ?_ (by first | (simp; done) | (simp; omega) | omega) _) | (refine Below.drew ?_) | (refine below_drewN ?_ _) | (refine Below.alloc ?_ (by first | (simp; done) | (simp; omega) | omega) _) | (refine Below.trans ?_ (Below.mono (by assumption) (by first | (simp; done) | (simp; omega) | omega))))), Blk.new _ _ _ _ rfl⟩)
  clear hW
  go_loopw [9, 3] (fun s9 s3 wr => ∃ (k : Nat) (T : ByteArray), k ≤ nin ∧ s9 = .int .i64 k ∧ s3 = .string T ∧ T.data.toList = (ins.take k).flatMap intW ∧ Below W.heap.size W wr) (fun s9 _ _ => nin - (intOf s9).toNat)
  case atStart => exact ⟨0, ⟨#[]⟩, Nat.zero_le _, rfl, rfl, rfl, Below.refl _ _⟩
  case round =>
    obtain ⟨k, T, hk, rfl, rfl, hT, hB⟩ := hrel
    have HT := Lib.hid (And.intro hT hB)
    clear hT hB
    have htl : T.size ≤ 22 * k := by
      rw [Lib.size_eq, HT.out.1]
      have h1 := flatL_len intW 22 (ins.take k) (fun x hx => intW_len (HH.out.2.2.2 x (List.mem_of_mem_take hx)))
      rw [List.length_take] at h1
      omega
    by_cases hkn : k < nin
    · have hkm : (k : Int) < (nin : Int) := by omega
      obtain ⟨z, hz⟩ : ∃ z, ins[k]? = some z := ⟨_, List.getElem?_eq_getElem (by have := HH.out.2.1; omega)⟩
      have HZ := Lib.hid hz
      have hbw := HW.out.1.trans (HT.out.2.mono HW.out.1.size)
      obtain ⟨b, off, rfl, c0⟩ := (HH.out.2.2.1.past hbw).one hz
      have hz64 : Int64 z := HH.out.2.2.2 z (List.mem_of_getElem? hz)
      have HIT : Hid (∀ w', LibW w' → Calls Tryz.prog 32 #[.int .i64 z] w' fun e w'' => e = .returned (.string (bs (Lib.itoa z))) ∧ Below w'.heap.size w' w'') := Lib.hid (fun w' h' => Itoa_any z w' h' hz64.1 hz64.2)
      have HLW := Lib.hid (HH.out.1.past hbw)
      have hil := intW_len hz64
      have hi2 : (bs (Lib.itoa z)).size ≤ 22 := by rw [Lib.size_eq, bs_data]; simp only [intW, List.length_cons] at hil; omega
      obtain ⟨I, hI⟩ : ∃ I, I = bs (Lib.itoa z) := ⟨_, rfl⟩
      rw [← hI] at HIT hi2
      have HI := Lib.hid hI
      have l0 := cell_lt c0; simp only at l0
      have q1 : ¬ 9223372036854775807 < 1 + I.size := by omega
      have q2 : ¬ 9223372036854775807 < T.size + (1 + I.size) := by omega
      clear hz hbw hz64 hil hI
      go_wp2_with (go_at_call 32; refine (HIT.out _ HLW.out).mono ?_; rintro e w2 ⟨rfl, hb2⟩; have HB2 := Lib.hid (HT.out.2.trans (hb2.mono HT.out.2.size)); clear hb2)
      go_roundw
      case rel =>
        refine ⟨k + 1, _, by omega, by go_num, rfl, ?_, HB2.out⟩
        rw [flatL_take _ _ _ _ HZ.out, ← HT.out.1, HI.out]
        simp [intW, bs]
      case measure => simp [intOf]; omega
    · have hkm : ¬ (k : Int) < (nin : Int) := by omega
      have hte : T.data.toList = ins.flatMap intW := by rw [HT.out.1, List.take_of_length_le (by have := HH.out.2.1; omega)]
      have HTE := Lib.hid hte
      have HB0 := Lib.hid (HW.out.1.trans (HT.out.2.mono HW.out.1.size))
      have HK := Lib.hid (HW.out.2.past HT.out.2)
      have m0 := HK.out.c 0 _ rfl
      have m1 := HK.out.c 1 _ rfl
      have m2 := HK.out.c 2 _ rfl
      have m3 := HK.out.c 3 _ rfl
      have ml := HK.out.lt
      have q3 : ¬ 9223372036854775807 < T.size + NT.size := by omega
      clear hte
      go_wp2_with (go_at_call 33; refine (HN.out _ HB0.out).mono ?_; rintro e w2 ⟨rfl, hb2⟩; have HB2 := Lib.hid (HB0.out.trans (hb2.mono HB0.out.size)); clear hb2)
      go_ret
      refine ⟨?_, HB2.out⟩
      have e1 : T ++ NT = bs (wordT ins is rs) := by
        rw [← bs_of (T ++ NT)]
        congr 1
        rw [HNT.out]
        simp only [wordT, ByteArray.data_append, Array.toList_append, HTE.out, bs_data]
      rw [← e1]; rfl
end Go.Proofs.YtbaocallhnehfaaGreatDoor

namespace Go.Proofs.YtbaocallhnehfaaGreatDoor
open Go Go.RowKit
/-- The integers of an operation are in their ranges. -/
def rngK : Nat → List Int → Bool
  | 0, is => inB (is.getD 0 0) 0 7
  | 2, is => inB (is.getD 0 0) 0 15
  | 3, is => inB (is.getD 0 0) 0 15 && inB (is.getD 1 0) 1 2
  | 4, is => inB (is.getD 0 0) 0 5 && inB (is.getD 1 0) 0 5
  | 7, is => inB (is.getD 0 0) 1 3
  | 10, is => inB (is.getD 0 0) 0 4294967295 && inB (is.getD 2 0) 0 1
  | 13, is => inB (is.getD 0 0) 0 16
  | 15, is => inB (is.getD 0 0) 1 8
  | 21, is => inB (is.getD 0 0) 0 15
  | 23, is => inB (is.getD 0 0) 1 4
  | 24, is => inB (is.getD 0 0) 0 16
  | 25, is => inB (is.getD 0 0) 0 16
  | 26, is => inB (is.getD 0 0) 0 16
  | _, _ => true
/-- What else is wrong with the parameters of an operation. -/
def subK : Nat → List Int → List Nat → Int
  | 7, is, rs => toneE (is.getD 0 0) (rs.getD 0 0) (rs.getD 1 0)
  | 9, _, rs => cmpE (rs.getD 0 0)
  | 10, is, rs => graE (is.getD 1 0) (rs.getD 0 0) (rs.getD 1 0)
  | 11, _, rs => vigE (rs.getD 0 0) (rs.getD 1 0) (rs.getD 2 0) (rs.getD 3 0) (rs.getD 4 0)
  | 12, _, rs => shE (rs.getD 0 0) (rs.getD 1 0)
  | 19, _, rs => rampE (rs.getD 0 0) (rs.getD 1 0) (rs.getD 2 0)
  | 20, _, rs => hueE (rs.getD 0 0) (rs.getD 1 0) (rs.getD 2 0) (rampE (rs.getD 3 0) (rs.getD 4 0) (rs.getD 5 0)) (rampE (rs.getD 6 0) (rs.getD 7 0) (rs.getD 8 0))
  | _, _, _ => 0
/-- What is wrong with the parameters of the operation number k. -/
def paE (k : Nat) (is : List Int) (rs : List Nat) : Int := if (k != 1) && !allNum rs then 2 else if rngK k is then subK k is rs else 3
theorem paE_form {k : Nat} {is : List Int} {rs : List Nat} (hk : k ≠ 1) (h : allNum rs = false) : paE k is rs = 2 := by
  unfold paE
  rw [h, show (k != 1) = true from by simpa using hk]; rfl
theorem paE_rest {k : Nat} {is : List Int} {rs : List Nat} (h : k = 1 ∨ allNum rs = true) : paE k is rs = if rngK k is then subK k is rs else 3 := by
  unfold paE
  rcases h with h | h
  · subst h; rfl
  · rw [h]; simp
theorem allNum_get : ∀ {l : List Nat}, allNum l = true → ∀ (i v : Nat), l[i]? = some v → isNum .f32 v = true
  | [], _, i, v, h => by simp at h
  | x :: l, h, 0, v, hv => by
    simp only [allNum, Bool.and_eq_true] at h
    simp at hv; subst hv; exact h.1
  | x :: l, h, i + 1, v, hv => by
    simp only [allNum, Bool.and_eq_true] at h
    exact allNum_get h.2 i v (by simpa using hv)
theorem allNum_not : ∀ {l : List Nat}, allNum l = false → ∃ (i v : Nat), l[i]? = some v ∧ isNum .f32 v = false ∧ ∀ (j u : Nat), j < i → l[j]? = some u → isNum .f32 u = true
  | [], h => by simp [allNum] at h
  | x :: l, h => by
    cases hx : isNum .f32 x with
    | false => exact ⟨0, x, rfl, hx, fun j u hj => by omega⟩
    | true =>
      simp only [allNum, hx, Bool.true_and] at h
      obtain ⟨i, v, h1, h2, h3⟩ := allNum_not h
      refine ⟨i + 1, v, by simpa using h1, h2, fun j u hj hu => ?_⟩
      cases j with
      | zero => simp at hu; subst hu; exact hx
      | succ j => exact h3 j u (by omega) (by simpa using hu)
end Go.Proofs.YtbaocallhnehfaaGreatDoor

namespace Go.Proofs.YtbaocallhnehfaaGreatDoor
open Go Go.RowKit
/-- How a value in a map reads: as it stands. -/
def heldV (v : Value) : Option (DataW Value × List MemPlace) := some (.held v, [])
theorem lawStr : Maps.Keyed Tryz.prog 9 := Maps.string_keyed Tryz.underlying9
def keyS (nm : ByteArray) : Lit := .string nm.data.toList
theorem keyS_mk {nm : ByteArray} (h : nm.size ≤ maxLen) : keyOf Tryz.prog 9 (.string nm) = some (keyS nm) := WideMaps.keyOf_string_mk Tryz.underlying9 h
/-- m[k], its value known. -/
theorem wpList_look0 {P : Program} (w : World) {ops : Array Oper} {rest : List Oper} {o : Oper} {a : Act} {Q : Exit → Act → World → Prop} (hg : o.guard = none) (m x : Operand) (t : TypeId) (hop : o.op = Op.lookup t m x false)
    (k e : TypeId) (K : Maps.Keyed P k) (ht : P.underlying t = some (.map k e)) {z : Value} (hz : (zeroValue e).run P w = .ok z w) (b n : Nat) (D : DataW Value) (hm : a.eval m = .map (some b)) (hown : w.ownsMap P k heldV b n D) (key : Value) (kl : Lit) (hx : a.eval x = key) (hkey : keyOf P k key = some kl)
    (v : Value) (hat : D.atKey kl (.held z) = .held v) (hK : wpList P ops Q rest (a.put o.dst v) w) : wpList P ops Q (o :: rest) a w := by
  refine wpList_plain hg fun K' hK' => ?_
  obtain ⟨v', ps, hrun, hv⟩ := hown.lookup K ht hz (zd := .held z) (zp := []) rfl hkey
  unfold heldV at hv
  rw [hat] at hv
  injection hv with hv
  injection hv with hv _
  injection hv with hv
  subst hv
  unfold Oper.wp
  simp [execOp, hop, hm, hx, hrun, Result.andThen]
  exact hK' _ _ hK
/-- v, ok := m[k], its value known. -/
theorem wpList_look1 {P : Program} (w : World) {ops : Array Oper} {rest : List Oper} {o : Oper} {a : Act} {Q : Exit → Act → World → Prop} (hg : o.guard = none) (m x : Operand) (t : TypeId) (hop : o.op = Op.lookup t m x true)
    (k e : TypeId) (K : Maps.Keyed P k) (ht : P.underlying t = some (.map k e)) {z : Value} (hz : (zeroValue e).run P w = .ok z w) (b n : Nat) (D : DataW Value) (hm : a.eval m = .map (some b)) (hown : w.ownsMap P k heldV b n D) (key : Value) (kl : Lit) (hx : a.eval x = key) (hkey : keyOf P k key = some kl)
    (v : Value) (is : Bool) (hat : D.atKey kl (.held z) = .held v) (his : Maps.has D kl = is) (hK : wpList P ops Q rest (a.put o.dst (.tuple #[v, .bool is])) w) : wpList P ops Q (o :: rest) a w :=
  wpList_lookup_own_ok w hg m x t hop k e K ht heldV hz (.held z) [] rfl b n D hm hown key kl hx hkey (fun v' ps hv => by
    unfold heldV at hv
    rw [hat] at hv
    injection hv with hv
    injection hv with hv _
    injection hv with hv
    subst hv
    rw [his]; exact hK)
def nmSet : ByteArray := ⟨#[97, 98, 99, 100, 101, 102, 103, 104, 105, 106, 107, 108, 109, 110, 111, 112, 113, 114, 115, 116, 117, 118, 119, 120, 121, 122, 48, 49, 50, 51, 52, 53, 54, 55, 56, 57, 95]⟩
theorem trimA (w : World) : Calls Tryz.prog 52 #[.string ⟨#[97]⟩, .string nmSet] w fun e w' => e = .returned (.string ⟨#[]⟩) ∧ Below w.heap.size w w' := by
  refine (Any.strings_Trim_laid Tryz.lays160 (by kernel_rfl) ⟨#[97]⟩ nmSet w (by decide) (by decide) (ascii_of_all (by decide))).mono ?_
  rintro e w' ⟨rfl, hb⟩
  rw [show Lib.trimS (⟨#[97]⟩ : ByteArray).data.toList nmSet.data.toList = [] from by decide +kernel]
  exact ⟨rfl, hb⟩
set_option maxRecDepth 100000 in
set_option maxHeartbeats 1600000 in
theorem isName_a (w : World) : Calls Tryz.prog 28 #[.string ⟨#[97]⟩] w fun e w' => e = .returned (.bool true) ∧ Below w.heap.size w w' := by
  go_enter Tryz.func28, Tryz.ntmps28
  go_wp2_with (go_at_call 52; refine (trimA _).mono ?_; rintro e w1 ⟨rfl, hb⟩)
  go_ret
  exact ⟨rfl, hb⟩
set_option maxRecDepth 100000 in
set_option maxHeartbeats 1600000 in
theorem beyond_fill (w : World) : Calls Tryz.prog 55 #[.string ⟨#[102, 105, 108, 108]⟩, .slice none 0 0] w fun e w' => e = .returned (.bool false) ∧ Below w.heap.size w w' := by
  go_enter Tryz.func55, Tryz.ntmps55
  go_wp2_with fail
  go_ret
  exact ⟨rfl, by (repeat (first | exact Below.refl _ _ | assumption | (refine Below.setCell ?_ (by first | (simp; done) | (simp; omega) | omega) _) | (refine Below.drew ?_) | (refine below_drewN ?_ _) | (refine Below.alloc ?_ (by first | (simp; done) | (simp; omega) | omega) _) | (refine Below.trans ?_ (Below.mono (by assumption) (by first | (simp; done) | (simp; omega) | omega)))))⟩
set_option maxRecDepth 100000 in
set_option maxHeartbeats 1600000 in
theorem parameters_fill (v : Value) (w : World) : Calls Tryz.prog 30 #[.string ⟨#[102, 105, 108, 108]⟩, .slice none 0 0, v] w fun e w' => e = .returned (.int .i64 0) ∧ Below w.heap.size w w' := by
  go_enter Tryz.func30, Tryz.ntmps30
  go_wp2_with (go_at_call 55; refine (beyond_fill _).mono ?_; rintro e w1 ⟨rfl, hb⟩)
  go_ret
  exact ⟨rfl, hb⟩
theorem outKind_1 (w : World) : Calls Tryz.prog 31 #[.int .i64 1] w fun e w' => e = .returned (.int .i64 0) ∧ w = w' := by
  go_enter Tryz.func31, Tryz.ntmps31
  go_wp2_with fail
  go_ret
  exact ⟨rfl, rfl⟩
end Go.Proofs.YtbaocallhnehfaaGreatDoor

namespace Go.Proofs.YtbaocallhnehfaaGreatDoor
open Go Go.RowKit
theorem form_any (name : ByteArray) (out ints reals : Int) (a : Option Addr) (n c : Nat) (w : World) : Calls Tryz.prog 84 #[.string name, .int .i64 out, .int .i64 ints, .int .i64 reals, .slice a n c] w fun e w' => e = .returned (.agg #[.string name, .slice a n c, .int .i64 out, .int .i64 ints, .int .i64 reals, .bool false]) ∧ Below w.heap.size w w' := by
  go_enter Tryz.func84, Tryz.ntmps84
  go_wp2_with fail
  refine bodyPost_ret (results_cell_row Tryz.results84 _ _ w.heap.size 58 _ _ _ rfl (heap_alloc_new _ _) Tryz.underlying58 rfl (by kernel_rfl)) rfl ?_
  exact ⟨rfl, by (repeat (first | exact Below.refl _ _ | assumption | (refine Below.setCell ?_ (by first | (simp; done) | (simp; omega) | omega) _) | (refine Below.drew ?_) | (refine below_drewN ?_ _) | (refine Below.alloc ?_ (by first | (simp; done) | (simp; omega) | omega) _) | (refine Below.trans ?_ (Below.mono (by assumption) (by first | (simp; done) | (simp; omega) | omega)))))⟩
end Go.Proofs.YtbaocallhnehfaaGreatDoor
