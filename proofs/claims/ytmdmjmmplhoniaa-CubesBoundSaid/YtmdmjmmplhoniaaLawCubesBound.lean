/- dyelaw2.CubesBound: its given statement, out of its walk. No condition. -/
import Derived.Test.YtmdmjmmplhoniaaRows
import Derived.Test.YtmdmjmmplhoniaaLawCb
import Derived.Test.YtmdmjmmplhoniaaBO
namespace Go.Proofs.Ytmdmjmmplhoniaa.cubesBound
open Go Go.RowKit Go.ChangeShapes Go.WideShapes Go.ChangeAt
open Go.ChangeMaps (open_string shut_string)

theorem own : ownKnob Try.prog.godebug = none := by kernel_rfl
theorem laidOut : laidOutB Try.prog = true := by kernel_rfl
set_option maxRecDepth 100000 in
theorem lifted (os : Os) (started : os.Started) (H : Type) (enc : TypeId × Value → H) :
    ReturnsInHanded {} Try.checked os 3 .any (Rows.cubesBoundSpec.pre6 enc Try.prog Try.f3 Rows.cubesBoundRow.domain false) (Rows.cubesBoundSpec.post enc Try.prog Try.f3 false true false false) := by
  refine returnsInHanded_of_change (C := Try.checked) own started (by kernel_rfl) Try.func3
    (ChangeSpec.witness6 (enc := enc) (C := Try.checked) false ⟨#[], #[.agg #[.int .i64 0, .float .f32 0, .float .f32 0, .slice none 0 0], .agg #[.float .f32 0, .float .f32 0, .float .f32 0, .float .f32 0]], []⟩ 8 (by kernel_rfl) (by kernel_rfl) (by kernel_rfl) (by kernel_rfl)) ?_
  intro W base args ds gs before hval0 hW hcnd _
  have hval : ∀ (j : Nat) t v, Try.f3.params[j]? = some t → args[j]? = some v → Value.okWide Try.prog W .any base t v := hval0
  have hW' := hW
  obtain ⟨p, q, hA0, hV, rfl, hfz, hnd⟩ := hW
  have hA : DataW.TrodAll enc Try.prog W 0 (fun _ => true) true Try.f3.params.toList args.toList ds p := hA0
  rw [Try.params3] at hA hval
  obtain ⟨vv0, vvs0, dd0, dds0, pp0, qq0, hargs, rfl, rfl, hh0, rr0⟩ := trodAll_cons hA
  obtain ⟨vv1, vvs1, dd1, dds1, pp1, qq1, rfl, rfl, rfl, hh1, rr1⟩ := trodAll_cons rr0
  obtain ⟨rfl, rfl, rfl⟩ := trodAll_nil rr1
  obtain rfl : args = #[vv0, vv1] := by cases args; simp_all
  obtain ⟨rfl, rfl⟩ := trodVars_none hV
  have lt0 : ∀ x ∈ pp0, x.block < W.heap.size := by obtain ⟨m, hm⟩ := hh0; exact DataW.trod_lt m _ _ _ hm
  have kk0 := hh0
  have lt1 : ∀ x ∈ pp1, x.block < W.heap.size := by obtain ⟨m, hm⟩ := hh1; exact DataW.trod_lt m _ _ _ hm
  have kk1 := hh1
  obtain ⟨ccs, rfl, cln, cok⟩ := agg_cells (us := [3, 22, 22, 23]) (by simp only [Try.underlying25]) (by kernel_rfl) (by kernel_rfl) (hval 0 25 vv0 rfl rfl)
  obtain ⟨cq0, cm0, rfl, ch0⟩ := list1 cln
  obtain ⟨cq1, cm1, rfl, ch1⟩ := list1 ch0
  obtain ⟨cq2, cm2, rfl, ch2⟩ := list1 ch1
  obtain ⟨cq3, cm3, rfl, ch3⟩ := list1 ch2
  obtain rfl := list0 ch3
  obtain ⟨c0, rfl, c0l, c0u⟩ := cell_int (k := .i64) Try.underlying3 (cok 0 3 _ rfl rfl)
  obtain ⟨c1, rfl, c1l⟩ := cell_float (k := .f32) Try.underlying22 (cok 1 22 _ rfl rfl)
  obtain ⟨c2, rfl, c2l⟩ := cell_float (k := .f32) Try.underlying22 (cok 2 22 _ rfl rfl)
  obtain ⟨c3a, c3n, c3c, rfl⟩ := cell_slice Try.underlying23 (cok 3 23 _ rfl rfl)
  obtain ⟨c3z, c3w⟩ : ∃ fs, IsFloats W c3a c3n c3c fs := by
    obtain ⟨fm, fh⟩ := hh0
    obtain ⟨fm2, fy2, fh2⟩ := trod_field (i := 3) (off := 3) (ts := 23) Try.underlying25 rfl fh
    have fe : Try.prog.cellsOf 23 = 1 := by kernel_rfl
    rw [fe] at fh2
    exact open_floats_slice Try.underlying23 Try.underlying22 (by kernel_rfl) (by simpa [Value.cells] using fh2)
  obtain ⟨pcs, rfl, pln, pok⟩ := agg_cells (us := [22, 22, 22, 22]) (by simp only [Try.underlying27]) (by kernel_rfl) (by kernel_rfl) (hval 1 27 vv1 rfl rfl)
  obtain ⟨pq0, pm0, rfl, ph0⟩ := list1 pln
  obtain ⟨pq1, pm1, rfl, ph1⟩ := list1 ph0
  obtain ⟨pq2, pm2, rfl, ph2⟩ := list1 ph1
  obtain ⟨pq3, pm3, rfl, ph3⟩ := list1 ph2
  obtain rfl := list0 ph3
  obtain ⟨p0, rfl, p0l⟩ := cell_float (k := .f32) Try.underlying22 (pok 0 22 _ rfl rfl)
  obtain ⟨p1, rfl, p1l⟩ := cell_float (k := .f32) Try.underlying22 (pok 1 22 _ rfl rfl)
  obtain ⟨p2, rfl, p2l⟩ := cell_float (k := .f32) Try.underlying22 (pok 2 22 _ rfl rfl)
  obtain ⟨p3, rfl, p3l⟩ := cell_float (k := .f32) Try.underlying22 (pok 3 22 _ rfl rfl)
  clear hA0 hval0
  refine (cb_walk c0 c1 c2 c3a c3n c3c c3z p0 p1 p2 p3 W ⟨c0l, c0u⟩ c1l c2l c3w p0l p1l p2l p3l).mono fun e W' ⟨he, bel⟩ => ?_
  subst he
  exact ⟨_, rfl, _, _, _, [], _, [], hW', trodAll_mk1 (shut_bool Try.underlying4 _), (trodAll_cons_mk (Below.trod laidOut (by kernel_rfl) (of_decide_eq_true (by kernel_rfl)) kk0 bel lt0) (trodAll_cons_mk (Below.trod laidOut (by kernel_rfl) (of_decide_eq_true (by kernel_rfl)) kk1 bel lt1) trodAll_mk0)), rfl, bel.frame _, fun h => by cases h⟩

theorem over : Rows.cubesBoundRow.holds Try.pinned (OpenSpec.ofChange Rows.cubesBoundSpec) :=
  OpenClaim.holds_of_wide 3 Try.f3 rfl rfl rfl rfl rfl rfl rfl ⟨rfl, rfl, rfl, rfl, rfl⟩ rfl rfl rfl rfl rfl (by kernel_rfl) Try.func3 (by kernel_rfl)
    (of_decide_eq_true (by kernel_rfl)) (by unfold Func.isWrapper; first | (rw [if_pos (by decide +kernel)]; kernel_rfl) | (rw [if_neg (by decide +kernel)]; exact ⟨rfl, rfl⟩))
    (fun os started H enc _ => lifted os started H enc)

/-- THE STATEMENT -/
theorem proved : Rows.CubesBoundSaid := over
#print axioms proved
end Go.Proofs.Ytmdmjmmplhoniaa.cubesBound
