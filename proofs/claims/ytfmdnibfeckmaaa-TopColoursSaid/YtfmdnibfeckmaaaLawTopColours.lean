/- dyetop.TopColours: its given statement, out of its walk. No condition. -/
import Derived.Test.YtfmdnibfeckmaaaRows
import Derived.Test.YtfmdnibfeckmaaaLawTc
import Derived.Test.YtfmdnibfeckmaaaBO
namespace Go.Proofs.Ytfmdnibfeckmaaa.topColours
open Go Go.RowKit Go.ChangeShapes Go.WideShapes Go.ChangeAt
open Go.ChangeMaps (open_string shut_string)

theorem own : ownKnob Try.prog.godebug = none := by kernel_rfl
theorem laidOut : laidOutB Try.prog = true := by kernel_rfl
set_option maxRecDepth 100000 in
theorem lifted (os : Os) (started : os.Started) (H : Type) (enc : TypeId × Value → H) :
    ReturnsInHanded {} Try.checked os 4 .any (Rows.topColoursSpec.pre6 enc Try.prog Try.f4 Rows.topColoursRow.domain false) (Rows.topColoursSpec.post enc Try.prog Try.f4 false true false false) := by
  refine returnsInHanded_of_change (C := Try.checked) own started (by kernel_rfl) Try.func4
    (ChangeSpec.witness6 (enc := enc) (C := Try.checked) false ⟨#[], #[.agg #[.float .f32 0, .float .f32 0, .float .f32 0, .float .f32 0], .int .i64 0, .int .i64 0], []⟩ 8 (by kernel_rfl) (by kernel_rfl) (by kernel_rfl) (by kernel_rfl)) ?_
  intro W base args ds gs before hval0 hW hcnd _
  have hval : ∀ (j : Nat) t v, Try.f4.params[j]? = some t → args[j]? = some v → Value.okWide Try.prog W .any base t v := hval0
  have hW' := hW
  obtain ⟨p, q, hA0, hV, rfl, hfz, hnd⟩ := hW
  have hA : DataW.TrodAll enc Try.prog W 0 (fun _ => true) true Try.f4.params.toList args.toList ds p := hA0
  rw [Try.params4] at hA hval
  obtain ⟨vv0, vvs0, dd0, dds0, pp0, qq0, hargs, rfl, rfl, hh0, rr0⟩ := trodAll_cons hA
  obtain ⟨vv1, vvs1, dd1, dds1, pp1, qq1, rfl, rfl, rfl, hh1, rr1⟩ := trodAll_cons rr0
  obtain ⟨vv2, vvs2, dd2, dds2, pp2, qq2, rfl, rfl, rfl, hh2, rr2⟩ := trodAll_cons rr1
  obtain ⟨rfl, rfl, rfl⟩ := trodAll_nil rr2
  obtain rfl : args = #[vv0, vv1, vv2] := by cases args; simp_all
  obtain ⟨rfl, rfl⟩ := trodVars_none hV
  have lt0 : ∀ x ∈ pp0, x.block < W.heap.size := by obtain ⟨m, hm⟩ := hh0; exact DataW.trod_lt m _ _ _ hm
  have kk0 := hh0
  have lt1 : ∀ x ∈ pp1, x.block < W.heap.size := by obtain ⟨m, hm⟩ := hh1; exact DataW.trod_lt m _ _ _ hm
  have kk1 := hh1
  have lt2 : ∀ x ∈ pp2, x.block < W.heap.size := by obtain ⟨m, hm⟩ := hh2; exact DataW.trod_lt m _ _ _ hm
  have kk2 := hh2
  obtain ⟨pcs, rfl, pln, pok⟩ := agg_cells (us := [22, 22, 22, 22]) (by simp only [Try.underlying35]) (by kernel_rfl) (by kernel_rfl) (hval 0 35 vv0 rfl rfl)
  obtain ⟨pq0, pm0, rfl, ph0⟩ := list1 pln
  obtain ⟨pq1, pm1, rfl, ph1⟩ := list1 ph0
  obtain ⟨pq2, pm2, rfl, ph2⟩ := list1 ph1
  obtain ⟨pq3, pm3, rfl, ph3⟩ := list1 ph2
  obtain rfl := list0 ph3
  obtain ⟨p0, rfl, p0l⟩ := cell_float (k := .f32) Try.underlying22 (pok 0 22 _ rfl rfl)
  obtain ⟨p1, rfl, p1l⟩ := cell_float (k := .f32) Try.underlying22 (pok 1 22 _ rfl rfl)
  obtain ⟨p2, rfl, p2l⟩ := cell_float (k := .f32) Try.underlying22 (pok 2 22 _ rfl rfl)
  obtain ⟨p3, rfl, p3l⟩ := cell_float (k := .f32) Try.underlying22 (pok 3 22 _ rfl rfl)
  obtain ⟨a, rfl, al, au⟩ := okWide_int' (k := .i64) Try.underlying3 (hval 1 3 vv1 rfl rfl)
  obtain ⟨b, rfl, bl, bu⟩ := okWide_int' (k := .i64) Try.underlying3 (hval 2 3 vv2 rfl rfl)
  clear hA0 hval0
  refine (tc_walk p0 p1 p2 p3 a b W p0l p1l p2l p3l ⟨al, au⟩ ⟨bl, bu⟩).mono fun e W' ⟨he, bel⟩ => ?_
  subst he
  exact ⟨_, rfl, _, _, _, [], _, [], hW', trodAll_mk1 (shut_bool Try.underlying4 _), (trodAll_cons_mk (Below.trod laidOut (by kernel_rfl) (of_decide_eq_true (by kernel_rfl)) kk0 bel lt0) (trodAll_cons_mk (Below.trod laidOut (by kernel_rfl) (of_decide_eq_true (by kernel_rfl)) kk1 bel lt1) (trodAll_cons_mk (Below.trod laidOut (by kernel_rfl) (of_decide_eq_true (by kernel_rfl)) kk2 bel lt2) trodAll_mk0))), rfl, bel.frame _, fun h => by cases h⟩

theorem over : Rows.topColoursRow.holds Try.pinned (OpenSpec.ofChange Rows.topColoursSpec) :=
  OpenClaim.holds_of_wide 4 Try.f4 rfl rfl rfl rfl rfl rfl rfl ⟨rfl, rfl, rfl, rfl, rfl⟩ rfl rfl rfl rfl rfl (by kernel_rfl) Try.func4 (by kernel_rfl)
    (of_decide_eq_true (by kernel_rfl)) (by unfold Func.isWrapper; first | (rw [if_pos (by decide +kernel)]; kernel_rfl) | (rw [if_neg (by decide +kernel)]; exact ⟨rfl, rfl⟩))
    (fun os started H enc _ => lifted os started H enc)

/-- THE STATEMENT -/
theorem proved : Rows.TopColoursSaid := over
#print axioms proved
end Go.Proofs.Ytfmdnibfeckmaaa.topColours
