/- dyelaw2.FrameSums: its given statement, out of its walk. No condition. -/
import Derived.Test.YtnicamndlkdcmaaRows
import Derived.Test.YtnicamndlkdcmaaLawFs
import Derived.Test.YtnicamndlkdcmaaBO
namespace Go.Proofs.Ytnicamndlkdcmaa.frameSums
open Go Go.RowKit Go.ChangeShapes Go.WideShapes Go.ChangeAt
open Go.ChangeMaps (open_string shut_string)

theorem own : ownKnob Try.prog.godebug = none := by kernel_rfl
theorem laidOut : laidOutB Try.prog = true := by kernel_rfl
set_option maxRecDepth 100000 in
theorem lifted (os : Os) (started : os.Started) (H : Type) (enc : TypeId × Value → H) :
    ReturnsInHanded {} Try.checked os 4 .any (Rows.frameSumsSpec.pre6 enc Try.prog Try.f4 Rows.frameSumsRow.domain false) (Rows.frameSumsSpec.post enc Try.prog Try.f4 false true false false) := by
  refine returnsInHanded_of_change (C := Try.checked) own started (by kernel_rfl) Try.func4
    (ChangeSpec.witness6 (enc := enc) (C := Try.checked) false ⟨#[], #[.agg #[.int .i64 0, .int .i64 0, .int .i64 0, .int .i64 0, .slice none 0 0]], []⟩ 8 (by kernel_rfl) (by kernel_rfl) (by kernel_rfl) (by kernel_rfl)) ?_
  intro W base args ds gs before hval0 hW hcnd _
  have hval : ∀ (j : Nat) t v, Try.f4.params[j]? = some t → args[j]? = some v → Value.okWide Try.prog W .any base t v := hval0
  have hW' := hW
  obtain ⟨p, q, hA0, hV, rfl, hfz, hnd⟩ := hW
  have hA : DataW.TrodAll enc Try.prog W 0 (fun _ => true) true Try.f4.params.toList args.toList ds p := hA0
  rw [Try.params4] at hA hval
  obtain ⟨vv0, vvs0, dd0, dds0, pp0, qq0, hargs, rfl, rfl, hh0, rr0⟩ := trodAll_cons hA
  obtain ⟨rfl, rfl, rfl⟩ := trodAll_nil rr0
  obtain rfl : args = #[vv0] := by cases args; simp_all
  obtain ⟨rfl, rfl⟩ := trodVars_none hV
  have lt0 : ∀ x ∈ pp0, x.block < W.heap.size := by obtain ⟨m, hm⟩ := hh0; exact DataW.trod_lt m _ _ _ hm
  have kk0 := hh0
  obtain ⟨fcs, rfl, fln, fok⟩ := agg_cells (us := [3, 3, 3, 3, 41]) (by simp only [Try.underlying43]) (by kernel_rfl) (by kernel_rfl) (hval 0 43 vv0 rfl rfl)
  obtain ⟨fq0, fm0, rfl, fh0⟩ := list1 fln
  obtain ⟨fq1, fm1, rfl, fh1⟩ := list1 fh0
  obtain ⟨fq2, fm2, rfl, fh2⟩ := list1 fh1
  obtain ⟨fq3, fm3, rfl, fh3⟩ := list1 fh2
  obtain ⟨fq4, fm4, rfl, fh4⟩ := list1 fh3
  obtain rfl := list0 fh4
  obtain ⟨f0, rfl, f0l, f0u⟩ := cell_int (k := .i64) Try.underlying3 (fok 0 3 _ rfl rfl)
  obtain ⟨f1, rfl, f1l, f1u⟩ := cell_int (k := .i64) Try.underlying3 (fok 1 3 _ rfl rfl)
  obtain ⟨f2, rfl, f2l, f2u⟩ := cell_int (k := .i64) Try.underlying3 (fok 2 3 _ rfl rfl)
  obtain ⟨f3, rfl, f3l, f3u⟩ := cell_int (k := .i64) Try.underlying3 (fok 3 3 _ rfl rfl)
  obtain ⟨f4a, f4n, f4c, rfl⟩ := cell_slice Try.underlying41 (fok 4 41 _ rfl rfl)
  obtain ⟨f4z, f4w⟩ : ∃ fs, IsFloats W f4a f4n f4c fs := by
    obtain ⟨fm, fh⟩ := hh0
    obtain ⟨fm2, fy2, fh2⟩ := trod_field (i := 1) (off := 4) (ts := 41) Try.underlying43 rfl fh
    have fe : Try.prog.cellsOf 41 = 1 := by kernel_rfl
    rw [fe] at fh2
    exact open_floats_slice Try.underlying41 Try.underlying47 (by kernel_rfl) (by simpa [Value.cells] using fh2)
  clear hA0 hval0
  refine (fs_walk f0 f1 f2 f3 f4a f4n f4c f4z W ⟨f0l, f0u⟩ ⟨f1l, f1u⟩ ⟨f2l, f2u⟩ ⟨f3l, f3u⟩ f4w).mono fun e W' ⟨he, bel⟩ => ?_
  subst he
  exact ⟨_, rfl, _, _, _, [], _, [], hW', trodAll_mk1 (shut_bool Try.underlying4 _), (trodAll_cons_mk (Below.trod laidOut (by kernel_rfl) (of_decide_eq_true (by kernel_rfl)) kk0 bel lt0) trodAll_mk0), rfl, bel.frame _, fun h => by cases h⟩

theorem over : Rows.frameSumsRow.holds Try.pinned (OpenSpec.ofChange Rows.frameSumsSpec) :=
  OpenClaim.holds_of_wide 4 Try.f4 rfl rfl rfl rfl rfl rfl rfl ⟨rfl, rfl, rfl, rfl, rfl⟩ rfl rfl rfl rfl rfl (by kernel_rfl) Try.func4 (by kernel_rfl)
    (of_decide_eq_true (by kernel_rfl)) (by unfold Func.isWrapper; first | (rw [if_pos (by decide +kernel)]; kernel_rfl) | (rw [if_neg (by decide +kernel)]; exact ⟨rfl, rfl⟩))
    (fun os started H enc _ => lifted os started H enc)

/-- THE STATEMENT -/
theorem proved : Rows.FrameSumsSaid := over
#print axioms proved
end Go.Proofs.Ytnicamndlkdcmaa.frameSums
