/- num.Parse at one digit: 1, 2, 3, 4. Conditions: the library's variables read as listed (LibN). -/
import Derived.Test.YtjcakbikpficbaaGreatDoorNtD
import Derived.Test.YtjcakbikpficbaaGreatDoorFpA
import Derived.Lib.SlicesS
namespace Go.Proofs.YtjcakbikpficbaaGreatDoor
open Go Go.RowKit
/-- What the library's variables hold, and its switch 'optimize'. -/
structure LibN (w : World) : Prop where
  l : LibW w
  o : w.cell? ⟨8, 0, none⟩ = some (.bool true)
theorem LibN.past {w w' : World} (h : LibN w) (hb : Below w.heap.size w w') : LibN w' := ⟨h.l.past hb, by rw [hb.cell (p := ⟨8, 0, none⟩) (cell_lt h.o)]; exact h.o⟩
theorem cutp_no (p : UInt8) (w : World) : Calls Tryz.prog 201 #[.string ⟨#[]⟩, .string ⟨#[p]⟩] w fun e w' => e = .returned (.tuple #[.string ⟨#[]⟩, .bool false]) ∧ w' = w := Tryz.strings_CutPrefix ⟨#[]⟩ ⟨#[p]⟩ w
theorem trimL_49 (w : World) : Calls Tryz.prog 217 #[.string ⟨#[49]⟩, .string setD] w fun e w' => e = .returned (.string ⟨#[]⟩) ∧ Below w.heap.size w w' := by
  refine (Any.strings_TrimLeft_laid Tryz.lays161 (by kernel_rfl) ⟨#[49]⟩ setD w (by decide) (ascii_of_all (by decide))).mono ?_
  rintro e w' ⟨rfl, hb⟩
  rw [show Lib.trimLeftS (⟨#[49]⟩ : ByteArray).data.toList setD.data.toList = [] from by decide +kernel]
  exact ⟨rfl, hb⟩
theorem digits_49 (w : World) : Calls Tryz.prog 200 #[.string ⟨#[49]⟩] w fun e w' => e = .returned (.tuple #[.int .i64 1, .string ⟨#[]⟩]) ∧ Below w.heap.size w w' := by
  go_enter Tryz.func200, Tryz.ntmps200
  go_wp2_with (go_at_call 217; refine (trimL_49 _).mono ?_; rintro e w1 ⟨rfl, hb⟩)
  go_ret2
  exact ⟨rfl, hb⟩
theorem trimM_49 (w : World) : Calls Tryz.prog 169 #[.string ⟨#[49]⟩, .string ⟨#[45]⟩] w fun e w' => e = .returned (.string ⟨#[49]⟩) ∧ w' = w := by
  refine (Tryz.strings_TrimPrefix ⟨#[49]⟩ ⟨#[45]⟩ w).mono ?_
  rintro e w' ⟨rfl, rfl⟩
  rw [show Lib.trimPrefix (⟨#[49]⟩ : ByteArray).data.toList (⟨#[45]⟩ : ByteArray).data.toList = [49] from by decide +kernel]
  exact ⟨rfl, rfl⟩
theorem isDecimal_49 (w : World) : Calls Tryz.prog 172 #[.string ⟨#[49]⟩] w fun e w' => e = .returned (.bool true) ∧ Below w.heap.size w w' := by
  go_enter Tryz.func172, Tryz.ntmps172
  go_wp2_with (first | (go_at_call 169; refine (trimM_49 _).mono ?_; rintro e w1 ⟨rfl, rfl⟩) | (go_at_call 200; refine (digits_49 _).mono ?_; rintro e w1 ⟨rfl, hb⟩) | (go_at_call 201; refine (cutp_no _ _).mono ?_; rintro e w2 ⟨rfl, rfl⟩))
  go_ret
  exact ⟨rfl, hb⟩
set_option maxRecDepth 100000 in
theorem nparse_49 (w : World) (hL : LibN w) : Calls Tryz.prog 139 #[.string ⟨#[49]⟩] w fun e w' => e = .returned (.tuple #[.float .f32 1065353216, .int .i64 0]) ∧ Below w.heap.size w w' := by
  have hcv : ∀ w, Sem.run Tryz.prog (convert 250 54 (.float .f64 4607182418800017408)) w = .ok (.float .f32 1065353216) w := fun _ => by kernel_rfl
  have HL := Lib.hid hL
  clear hL
  go_enter Tryz.func139, Tryz.ntmps139
  go_wp2_with (first | (go_at_call 172; refine (isDecimal_49 _).mono ?_; rintro e w1 ⟨rfl, hb⟩) | (go_at_call 173; refine (ParseFloat_49 _ (HL.out.past hb).o).mono ?_; rintro e w2 ⟨rfl, rfl⟩))
  go_ret2
  exact ⟨rfl, hb⟩
theorem trimL_50 (w : World) : Calls Tryz.prog 217 #[.string ⟨#[50]⟩, .string setD] w fun e w' => e = .returned (.string ⟨#[]⟩) ∧ Below w.heap.size w w' := by
  refine (Any.strings_TrimLeft_laid Tryz.lays161 (by kernel_rfl) ⟨#[50]⟩ setD w (by decide) (ascii_of_all (by decide))).mono ?_
  rintro e w' ⟨rfl, hb⟩
  rw [show Lib.trimLeftS (⟨#[50]⟩ : ByteArray).data.toList setD.data.toList = [] from by decide +kernel]
  exact ⟨rfl, hb⟩
theorem digits_50 (w : World) : Calls Tryz.prog 200 #[.string ⟨#[50]⟩] w fun e w' => e = .returned (.tuple #[.int .i64 1, .string ⟨#[]⟩]) ∧ Below w.heap.size w w' := by
  go_enter Tryz.func200, Tryz.ntmps200
  go_wp2_with (go_at_call 217; refine (trimL_50 _).mono ?_; rintro e w1 ⟨rfl, hb⟩)
  go_ret2
  exact ⟨rfl, hb⟩
theorem trimM_50 (w : World) : Calls Tryz.prog 169 #[.string ⟨#[50]⟩, .string ⟨#[45]⟩] w fun e w' => e = .returned (.string ⟨#[50]⟩) ∧ w' = w := by
  refine (Tryz.strings_TrimPrefix ⟨#[50]⟩ ⟨#[45]⟩ w).mono ?_
  rintro e w' ⟨rfl, rfl⟩
  rw [show Lib.trimPrefix (⟨#[50]⟩ : ByteArray).data.toList (⟨#[45]⟩ : ByteArray).data.toList = [50] from by decide +kernel]
  exact ⟨rfl, rfl⟩
theorem isDecimal_50 (w : World) : Calls Tryz.prog 172 #[.string ⟨#[50]⟩] w fun e w' => e = .returned (.bool true) ∧ Below w.heap.size w w' := by
  go_enter Tryz.func172, Tryz.ntmps172
  go_wp2_with (first | (go_at_call 169; refine (trimM_50 _).mono ?_; rintro e w1 ⟨rfl, rfl⟩) | (go_at_call 200; refine (digits_50 _).mono ?_; rintro e w1 ⟨rfl, hb⟩) | (go_at_call 201; refine (cutp_no _ _).mono ?_; rintro e w2 ⟨rfl, rfl⟩))
  go_ret
  exact ⟨rfl, hb⟩
set_option maxRecDepth 100000 in
theorem nparse_50 (w : World) (hL : LibN w) : Calls Tryz.prog 139 #[.string ⟨#[50]⟩] w fun e w' => e = .returned (.tuple #[.float .f32 1073741824, .int .i64 0]) ∧ Below w.heap.size w w' := by
  have hcv : ∀ w, Sem.run Tryz.prog (convert 250 54 (.float .f64 4611686018427387904)) w = .ok (.float .f32 1073741824) w := fun _ => by kernel_rfl
  have HL := Lib.hid hL
  clear hL
  go_enter Tryz.func139, Tryz.ntmps139
  go_wp2_with (first | (go_at_call 172; refine (isDecimal_50 _).mono ?_; rintro e w1 ⟨rfl, hb⟩) | (go_at_call 173; refine (ParseFloat_50 _ (HL.out.past hb).o).mono ?_; rintro e w2 ⟨rfl, rfl⟩))
  go_ret2
  exact ⟨rfl, hb⟩
theorem trimL_51 (w : World) : Calls Tryz.prog 217 #[.string ⟨#[51]⟩, .string setD] w fun e w' => e = .returned (.string ⟨#[]⟩) ∧ Below w.heap.size w w' := by
  refine (Any.strings_TrimLeft_laid Tryz.lays161 (by kernel_rfl) ⟨#[51]⟩ setD w (by decide) (ascii_of_all (by decide))).mono ?_
  rintro e w' ⟨rfl, hb⟩
  rw [show Lib.trimLeftS (⟨#[51]⟩ : ByteArray).data.toList setD.data.toList = [] from by decide +kernel]
  exact ⟨rfl, hb⟩
theorem digits_51 (w : World) : Calls Tryz.prog 200 #[.string ⟨#[51]⟩] w fun e w' => e = .returned (.tuple #[.int .i64 1, .string ⟨#[]⟩]) ∧ Below w.heap.size w w' := by
  go_enter Tryz.func200, Tryz.ntmps200
  go_wp2_with (go_at_call 217; refine (trimL_51 _).mono ?_; rintro e w1 ⟨rfl, hb⟩)
  go_ret2
  exact ⟨rfl, hb⟩
theorem trimM_51 (w : World) : Calls Tryz.prog 169 #[.string ⟨#[51]⟩, .string ⟨#[45]⟩] w fun e w' => e = .returned (.string ⟨#[51]⟩) ∧ w' = w := by
  refine (Tryz.strings_TrimPrefix ⟨#[51]⟩ ⟨#[45]⟩ w).mono ?_
  rintro e w' ⟨rfl, rfl⟩
  rw [show Lib.trimPrefix (⟨#[51]⟩ : ByteArray).data.toList (⟨#[45]⟩ : ByteArray).data.toList = [51] from by decide +kernel]
  exact ⟨rfl, rfl⟩
theorem isDecimal_51 (w : World) : Calls Tryz.prog 172 #[.string ⟨#[51]⟩] w fun e w' => e = .returned (.bool true) ∧ Below w.heap.size w w' := by
  go_enter Tryz.func172, Tryz.ntmps172
  go_wp2_with (first | (go_at_call 169; refine (trimM_51 _).mono ?_; rintro e w1 ⟨rfl, rfl⟩) | (go_at_call 200; refine (digits_51 _).mono ?_; rintro e w1 ⟨rfl, hb⟩) | (go_at_call 201; refine (cutp_no _ _).mono ?_; rintro e w2 ⟨rfl, rfl⟩))
  go_ret
  exact ⟨rfl, hb⟩
set_option maxRecDepth 100000 in
theorem nparse_51 (w : World) (hL : LibN w) : Calls Tryz.prog 139 #[.string ⟨#[51]⟩] w fun e w' => e = .returned (.tuple #[.float .f32 1077936128, .int .i64 0]) ∧ Below w.heap.size w w' := by
  have hcv : ∀ w, Sem.run Tryz.prog (convert 250 54 (.float .f64 4613937818241073152)) w = .ok (.float .f32 1077936128) w := fun _ => by kernel_rfl
  have HL := Lib.hid hL
  clear hL
  go_enter Tryz.func139, Tryz.ntmps139
  go_wp2_with (first | (go_at_call 172; refine (isDecimal_51 _).mono ?_; rintro e w1 ⟨rfl, hb⟩) | (go_at_call 173; refine (ParseFloat_51 _ (HL.out.past hb).o).mono ?_; rintro e w2 ⟨rfl, rfl⟩))
  go_ret2
  exact ⟨rfl, hb⟩
theorem trimL_52 (w : World) : Calls Tryz.prog 217 #[.string ⟨#[52]⟩, .string setD] w fun e w' => e = .returned (.string ⟨#[]⟩) ∧ Below w.heap.size w w' := by
  refine (Any.strings_TrimLeft_laid Tryz.lays161 (by kernel_rfl) ⟨#[52]⟩ setD w (by decide) (ascii_of_all (by decide))).mono ?_
  rintro e w' ⟨rfl, hb⟩
  rw [show Lib.trimLeftS (⟨#[52]⟩ : ByteArray).data.toList setD.data.toList = [] from by decide +kernel]
  exact ⟨rfl, hb⟩
theorem digits_52 (w : World) : Calls Tryz.prog 200 #[.string ⟨#[52]⟩] w fun e w' => e = .returned (.tuple #[.int .i64 1, .string ⟨#[]⟩]) ∧ Below w.heap.size w w' := by
  go_enter Tryz.func200, Tryz.ntmps200
  go_wp2_with (go_at_call 217; refine (trimL_52 _).mono ?_; rintro e w1 ⟨rfl, hb⟩)
  go_ret2
  exact ⟨rfl, hb⟩
theorem trimM_52 (w : World) : Calls Tryz.prog 169 #[.string ⟨#[52]⟩, .string ⟨#[45]⟩] w fun e w' => e = .returned (.string ⟨#[52]⟩) ∧ w' = w := by
  refine (Tryz.strings_TrimPrefix ⟨#[52]⟩ ⟨#[45]⟩ w).mono ?_
  rintro e w' ⟨rfl, rfl⟩
  rw [show Lib.trimPrefix (⟨#[52]⟩ : ByteArray).data.toList (⟨#[45]⟩ : ByteArray).data.toList = [52] from by decide +kernel]
  exact ⟨rfl, rfl⟩
theorem isDecimal_52 (w : World) : Calls Tryz.prog 172 #[.string ⟨#[52]⟩] w fun e w' => e = .returned (.bool true) ∧ Below w.heap.size w w' := by
  go_enter Tryz.func172, Tryz.ntmps172
  go_wp2_with (first | (go_at_call 169; refine (trimM_52 _).mono ?_; rintro e w1 ⟨rfl, rfl⟩) | (go_at_call 200; refine (digits_52 _).mono ?_; rintro e w1 ⟨rfl, hb⟩) | (go_at_call 201; refine (cutp_no _ _).mono ?_; rintro e w2 ⟨rfl, rfl⟩))
  go_ret
  exact ⟨rfl, hb⟩
set_option maxRecDepth 100000 in
theorem nparse_52 (w : World) (hL : LibN w) : Calls Tryz.prog 139 #[.string ⟨#[52]⟩] w fun e w' => e = .returned (.tuple #[.float .f32 1082130432, .int .i64 0]) ∧ Below w.heap.size w w' := by
  have hcv : ∀ w, Sem.run Tryz.prog (convert 250 54 (.float .f64 4616189618054758400)) w = .ok (.float .f32 1082130432) w := fun _ => by kernel_rfl
  have HL := Lib.hid hL
  clear hL
  go_enter Tryz.func139, Tryz.ntmps139
  go_wp2_with (first | (go_at_call 172; refine (isDecimal_52 _).mono ?_; rintro e w1 ⟨rfl, hb⟩) | (go_at_call 173; refine (ParseFloat_52 _ (HL.out.past hb).o).mono ?_; rintro e w2 ⟨rfl, rfl⟩))
  go_ret2
  exact ⟨rfl, hb⟩
end Go.Proofs.YtjcakbikpficbaaGreatDoor
