/- dyelaw2.CubesSearch: its given statement, out of its walk. No condition. -/
import Derived.Test.YtkmjboffjhcoaaaRows
import Derived.Test.YtkmjboffjhcoaaaLawCr
import Derived.Test.YtkmjboffjhcoaaaBO
namespace Go.Proofs.Ytkmjboffjhcoaaa.cubesSearch
open Go Go.RowKit Go.ChangeShapes Go.WideShapes Go.ChangeAt
open Go.ChangeMaps (open_string shut_string)

theorem own : ownKnob Try.prog.godebug = none := by kernel_rfl
theorem laidOut : laidOutB Try.prog = true := by kernel_rfl
set_option maxRecDepth 100000 in
theorem lifted (os : Os) (started : os.Started) (H : Type) (enc : TypeId × Value → H) :
    ReturnsInHanded {} Try.checked os 15 .any (Rows.cubesSearchSpec.pre6 enc Try.prog Try.f15 Rows.cubesSearchRow.domain false) (Rows.cubesSearchSpec.post enc Try.prog Try.f15 false true false false) := by
  refine returnsInHanded_of_change (C := Try.checked) own started (by kernel_rfl) Try.func15
    (ChangeSpec.witness6 (enc := enc) (C := Try.checked) false ⟨#[], #[.agg #[.int .i64 0, .float .f32 0, .float .f32 0, .slice none 0 0], .agg #[.float .f32 0, .float .f32 0, .float .f32 0], .int .i64 0], []⟩ 8 (by kernel_rfl) (by kernel_rfl) (by kernel_rfl) (by kernel_rfl)) ?_
  intro W base args ds gs before hval0 hW hcnd _
  have hval : ∀ (j : Nat) t v, Try.f15.params[j]? = some t → args[j]? = some v → Value.okWide Try.prog W .any base t v := hval0
  have hW' := hW
  obtain ⟨p, q, hA0, hV, rfl, hfz, hnd⟩ := hW
  have hA : DataW.TrodAll enc Try.prog W 0 (fun _ => true) true Try.f15.params.toList args.toList ds p := hA0
  rw [Try.params15] at hA hval
  obtain ⟨vv0, vvs0, dd0, dds0, pp0, qq0, hargs, rfl, rfl, hh0, rr0⟩ := trodAll_cons hA
  obtain ⟨vv1, vvs1, dd1, dds1, pp1, qq1, rfl, rfl, rfl, hh1, rr1⟩ := trodAll_cons rr0
  obtain ⟨vv2, vvs2, dd2, dds2, pp2, qq2, rfl, rfl, rfl, hh2, rr2⟩ := trodAll_cons rr1
  obtain ⟨rfl, rfl, rfl⟩ := trodAll_nil rr2
  obtain rfl : args = #[vv0, vv1, vv2] := by cases args; simp_all
  obtain ⟨rfl, rfl⟩ := trodVars_none hV
  have lt0 : ∀ x ∈ pp0, x.block < W.heap.size := by obtain ⟨m, hm⟩ := hh0; exact DataW.trod_lt m _ _ _ hm
  have kk0 := hh0
  have lt1 : ∀ x ∈ pp1, x.block < W.heap.size := by obtain ⟨m, hm⟩ := hh1; exact DataW.trod_lt m _ _ _ hm
  have kk1 := hh1
  have lt2 : ∀ x ∈ pp2, x.block < W.heap.size := by obtain ⟨m, hm⟩ := hh2; exact DataW.trod_lt m _ _ _ hm
  have kk2 := hh2
  obtain ⟨ccs, rfl, cln, cok⟩ := agg_cells (us := [3, 38, 38, 25]) (by simp only [Try.underlying52]) (by kernel_rfl) (by kernel_rfl) (hval 0 52 vv0 rfl rfl)
  obtain ⟨cq0, cm0, rfl, ch0⟩ := list1 cln
  obtain ⟨cq1, cm1, rfl, ch1⟩ := list1 ch0
  obtain ⟨cq2, cm2, rfl, ch2⟩ := list1 ch1
  obtain ⟨cq3, cm3, rfl, ch3⟩ := list1 ch2
  obtain rfl := list0 ch3
  obtain ⟨c0, rfl, c0l, c0u⟩ := cell_int (k := .i64) Try.underlying3 (cok 0 3 _ rfl rfl)
  obtain ⟨c1, rfl, c1l⟩ := cell_float (k := .f32) Try.underlying38 (cok 1 38 _ rfl rfl)
  obtain ⟨c2, rfl, c2l⟩ := cell_float (k := .f32) Try.underlying38 (cok 2 38 _ rfl rfl)
  obtain ⟨c3a, c3n, c3c, rfl⟩ := cell_slice Try.underlying25 (cok 3 25 _ rfl rfl)
  obtain ⟨c3z, c3w⟩ : ∃ fs, IsFloats W c3a c3n c3c fs := by
    obtain ⟨fm, fh⟩ := hh0
    obtain ⟨fm2, fy2, fh2⟩ := trod_field (i := 3) (off := 3) (ts := 25) Try.underlying52 rfl fh
    have fe : Try.prog.cellsOf 25 = 1 := by kernel_rfl
    rw [fe] at fh2
    exact open_floats_slice Try.underlying25 Try.underlying38 (by kernel_rfl) (by simpa [Value.cells] using fh2)
  obtain ⟨pcs, rfl, pln, pok⟩ := agg_cells (us := [38, 38, 38]) (by simp only [Try.underlying58]) (by kernel_rfl) (by kernel_rfl) (hval 1 58 vv1 rfl rfl)
  obtain ⟨pq0, pm0, rfl, ph0⟩ := list1 pln
  obtain ⟨pq1, pm1, rfl, ph1⟩ := list1 ph0
  obtain ⟨pq2, pm2, rfl, ph2⟩ := list1 ph1
  obtain rfl := list0 ph2
  obtain ⟨p0, rfl, p0l⟩ := cell_float (k := .f32) Try.underlying38 (pok 0 38 _ rfl rfl)
  obtain ⟨p1, rfl, p1l⟩ := cell_float (k := .f32) Try.underlying38 (pok 1 38 _ rfl rfl)
  obtain ⟨p2, rfl, p2l⟩ := cell_float (k := .f32) Try.underlying38 (pok 2 38 _ rfl rfl)
  obtain ⟨steps, rfl, stepsl, stepsu⟩ := okWide_int' (k := .i64) Try.underlying3 (hval 2 3 vv2 rfl rfl)
  clear hA0 hval0
  refine (cr_walk c0 c1 c2 c3a c3n c3c c3z p0 p1 p2 steps W ⟨c0l, c0u⟩ c1l c2l c3w p0l p1l p2l ⟨stepsl, stepsu⟩).mono fun e W' ⟨he, bel⟩ => ?_
  subst he
  exact ⟨_, rfl, _, _, _, [], _, [], hW', trodAll_mk1 (shut_bool Try.underlying4 _), (trodAll_cons_mk (Below.trod laidOut (by kernel_rfl) (of_decide_eq_true (by kernel_rfl)) kk0 bel lt0) (trodAll_cons_mk (Below.trod laidOut (by kernel_rfl) (of_decide_eq_true (by kernel_rfl)) kk1 bel lt1) (trodAll_cons_mk (Below.trod laidOut (by kernel_rfl) (of_decide_eq_true (by kernel_rfl)) kk2 bel lt2) trodAll_mk0))), rfl, bel.frame _, fun h => by cases h⟩

theorem over : Rows.cubesSearchRow.holds Try.pinned (OpenSpec.ofChange Rows.cubesSearchSpec) :=
  OpenClaim.holds_of_wide 15 Try.f15 rfl rfl rfl rfl rfl rfl rfl ⟨rfl, rfl, rfl, rfl, rfl⟩ rfl rfl rfl rfl rfl (by kernel_rfl) Try.func15 (by kernel_rfl)
    (of_decide_eq_true (by kernel_rfl)) (by unfold Func.isWrapper; first | (rw [if_pos (by decide +kernel)]; kernel_rfl) | (rw [if_neg (by decide +kernel)]; exact ⟨rfl, rfl⟩))
    (fun os started H enc _ => lifted os started H enc)

/-- THE STATEMENT -/
theorem proved : Rows.CubesSearchSaid := over
#print axioms proved
end Go.Proofs.Ytkmjboffjhcoaaa.cubesSearch
