/- dyelaw2.SplitsMatch: its given statement, out of its walk. No condition. -/
import Derived.Test.YtnicamndlkdcmaaRows
import Derived.Test.YtnicamndlkdcmaaLawSp
import Derived.Test.YtnicamndlkdcmaaBO
namespace Go.Proofs.Ytnicamndlkdcmaa.splitsMatch
open Go Go.RowKit Go.ChangeShapes Go.WideShapes Go.ChangeAt
open Go.ChangeMaps (open_string shut_string)

theorem own : ownKnob Try.prog.godebug = none := by kernel_rfl
theorem laidOut : laidOutB Try.prog = true := by kernel_rfl
set_option maxRecDepth 100000 in
theorem lifted (os : Os) (started : os.Started) (H : Type) (enc : TypeId × Value → H) :
    ReturnsInHanded {} Try.checked os 6 .any (Rows.splitsMatchSpec.pre6 enc Try.prog Try.f6 Rows.splitsMatchRow.domain false) (Rows.splitsMatchSpec.post enc Try.prog Try.f6 false true false false) := by
  refine returnsInHanded_of_change (C := Try.checked) own started (by kernel_rfl) Try.func6
    (ChangeSpec.witness6 (enc := enc) (C := Try.checked) false ⟨#[], #[.agg #[.int .i64 0, .int .i64 0, .int .i64 0, .int .i64 0], .int .i64 0, .int .i64 0, .int .i64 0], []⟩ 8 (by kernel_rfl) (by kernel_rfl) (by kernel_rfl) (by kernel_rfl)) ?_
  intro W base args ds gs before hval0 hW hcnd _
  have hval : ∀ (j : Nat) t v, Try.f6.params[j]? = some t → args[j]? = some v → Value.okWide Try.prog W .any base t v := hval0
  have hW' := hW
  obtain ⟨p, q, hA0, hV, rfl, hfz, hnd⟩ := hW
  have hA : DataW.TrodAll enc Try.prog W 0 (fun _ => true) true Try.f6.params.toList args.toList ds p := hA0
  rw [Try.params6] at hA hval
  obtain ⟨vv0, vvs0, dd0, dds0, pp0, qq0, hargs, rfl, rfl, hh0, rr0⟩ := trodAll_cons hA
  obtain ⟨vv1, vvs1, dd1, dds1, pp1, qq1, rfl, rfl, rfl, hh1, rr1⟩ := trodAll_cons rr0
  obtain ⟨vv2, vvs2, dd2, dds2, pp2, qq2, rfl, rfl, rfl, hh2, rr2⟩ := trodAll_cons rr1
  obtain ⟨vv3, vvs3, dd3, dds3, pp3, qq3, rfl, rfl, rfl, hh3, rr3⟩ := trodAll_cons rr2
  obtain ⟨rfl, rfl, rfl⟩ := trodAll_nil rr3
  obtain rfl : args = #[vv0, vv1, vv2, vv3] := by cases args; simp_all
  obtain ⟨rfl, rfl⟩ := trodVars_none hV
  have lt0 : ∀ x ∈ pp0, x.block < W.heap.size := by obtain ⟨m, hm⟩ := hh0; exact DataW.trod_lt m _ _ _ hm
  have kk0 := hh0
  have lt1 : ∀ x ∈ pp1, x.block < W.heap.size := by obtain ⟨m, hm⟩ := hh1; exact DataW.trod_lt m _ _ _ hm
  have kk1 := hh1
  have lt2 : ∀ x ∈ pp2, x.block < W.heap.size := by obtain ⟨m, hm⟩ := hh2; exact DataW.trod_lt m _ _ _ hm
  have kk2 := hh2
  have lt3 : ∀ x ∈ pp3, x.block < W.heap.size := by obtain ⟨m, hm⟩ := hh3; exact DataW.trod_lt m _ _ _ hm
  have kk3 := hh3
  obtain ⟨rcs, rfl, rln, rok⟩ := agg_cells (us := [3, 3, 3, 3]) (by simp only [Try.underlying40]) (by kernel_rfl) (by kernel_rfl) (hval 0 40 vv0 rfl rfl)
  obtain ⟨rq0, rm0, rfl, rh0⟩ := list1 rln
  obtain ⟨rq1, rm1, rfl, rh1⟩ := list1 rh0
  obtain ⟨rq2, rm2, rfl, rh2⟩ := list1 rh1
  obtain ⟨rq3, rm3, rfl, rh3⟩ := list1 rh2
  obtain rfl := list0 rh3
  obtain ⟨r0, rfl, r0l, r0u⟩ := cell_int (k := .i64) Try.underlying3 (rok 0 3 _ rfl rfl)
  obtain ⟨r1, rfl, r1l, r1u⟩ := cell_int (k := .i64) Try.underlying3 (rok 1 3 _ rfl rfl)
  obtain ⟨r2, rfl, r2l, r2u⟩ := cell_int (k := .i64) Try.underlying3 (rok 2 3 _ rfl rfl)
  obtain ⟨r3, rfl, r3l, r3u⟩ := cell_int (k := .i64) Try.underlying3 (rok 3 3 _ rfl rfl)
  obtain ⟨side, rfl, sidel, sideu⟩ := okWide_int' (k := .i64) Try.underlying3 (hval 1 3 vv1 rfl rfl)
  obtain ⟨first, rfl, firstl, firstu⟩ := okWide_int' (k := .i64) Try.underlying3 (hval 2 3 vv2 rfl rfl)
  obtain ⟨last, rfl, lastl, lastu⟩ := okWide_int' (k := .i64) Try.underlying3 (hval 3 3 vv3 rfl rfl)
  clear hA0 hval0
  refine (sp_walk r0 r1 r2 r3 side first last W ⟨r0l, r0u⟩ ⟨r1l, r1u⟩ ⟨r2l, r2u⟩ ⟨r3l, r3u⟩ ⟨sidel, sideu⟩ ⟨firstl, firstu⟩ ⟨lastl, lastu⟩).mono fun e W' ⟨he, bel⟩ => ?_
  subst he
  exact ⟨_, rfl, _, _, _, [], _, [], hW', trodAll_mk1 (shut_bool Try.underlying4 _), (trodAll_cons_mk (Below.trod laidOut (by kernel_rfl) (of_decide_eq_true (by kernel_rfl)) kk0 bel lt0) (trodAll_cons_mk (Below.trod laidOut (by kernel_rfl) (of_decide_eq_true (by kernel_rfl)) kk1 bel lt1) (trodAll_cons_mk (Below.trod laidOut (by kernel_rfl) (of_decide_eq_true (by kernel_rfl)) kk2 bel lt2) (trodAll_cons_mk (Below.trod laidOut (by kernel_rfl) (of_decide_eq_true (by kernel_rfl)) kk3 bel lt3) trodAll_mk0)))), rfl, bel.frame _, fun h => by cases h⟩

theorem over : Rows.splitsMatchRow.holds Try.pinned (OpenSpec.ofChange Rows.splitsMatchSpec) :=
  OpenClaim.holds_of_wide 6 Try.f6 rfl rfl rfl rfl rfl rfl rfl ⟨rfl, rfl, rfl, rfl, rfl⟩ rfl rfl rfl rfl rfl (by kernel_rfl) Try.func6 (by kernel_rfl)
    (of_decide_eq_true (by kernel_rfl)) (by unfold Func.isWrapper; first | (rw [if_pos (by decide +kernel)]; kernel_rfl) | (rw [if_neg (by decide +kernel)]; exact ⟨rfl, rfl⟩))
    (fun os started H enc _ => lifted os started H enc)

/-- THE STATEMENT -/
theorem proved : Rows.SplitsMatchSaid := over
#print axioms proved
end Go.Proofs.Ytnicamndlkdcmaa.splitsMatch
