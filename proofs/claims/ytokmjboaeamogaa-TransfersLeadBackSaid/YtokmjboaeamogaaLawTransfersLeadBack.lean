/- dyelaw2.TransfersLeadBack: its given statement, out of its walk. No condition. -/
import Derived.Test.YtokmjboaeamogaaRows
import Derived.Test.YtokmjboaeamogaaLawTb
import Derived.Test.YtokmjboaeamogaaBO
namespace Go.Proofs.Ytokmjboaeamogaa.transfersLeadBack
open Go Go.RowKit Go.ChangeShapes Go.WideShapes Go.ChangeAt
open Go.ChangeMaps (open_string shut_string)

theorem own : ownKnob Try.prog.godebug = none := by kernel_rfl
theorem laidOut : laidOutB Try.prog = true := by kernel_rfl
set_option maxRecDepth 100000 in
theorem lifted (os : Os) (started : os.Started) (H : Type) (enc : TypeId × Value → H) :
    ReturnsInHanded {} Try.checked os 3 .any (Rows.transfersLeadBackSpec.pre6 enc Try.prog Try.f3 Rows.transfersLeadBackRow.domain false) (Rows.transfersLeadBackSpec.post enc Try.prog Try.f3 false true false false) := by
  refine returnsInHanded_of_change (C := Try.checked) own started (by kernel_rfl) Try.func3
    (ChangeSpec.witness6 (enc := enc) (C := Try.checked) false ⟨#[], #[.agg #[.int .i64 0, .float .f32 0, .float .f32 0, .float .f32 0], .float .f32 0], []⟩ 8 (by kernel_rfl) (by kernel_rfl) (by kernel_rfl) (by kernel_rfl)) ?_
  intro W base args ds gs before hval0 hW hcnd _
  have hval : ∀ (j : Nat) t v, Try.f3.params[j]? = some t → args[j]? = some v → Value.okWide Try.prog W .any base t v := hval0
  have hW' := hW
  obtain ⟨p, q, hA0, hV, rfl, hfz, hnd⟩ := hW
  have hA : DataW.TrodAll enc Try.prog W 0 (fun _ => true) true Try.f3.params.toList args.toList ds p := hA0
  rw [Try.params3] at hA hval
  obtain ⟨vv0, vvs0, dd0, dds0, pp0, qq0, hargs, rfl, rfl, hh0, rr0⟩ := trodAll_cons hA
  obtain ⟨vv1, vvs1, dd1, dds1, pp1, qq1, rfl, rfl, rfl, hh1, rr1⟩ := trodAll_cons rr0
  obtain ⟨rfl, rfl, rfl⟩ := trodAll_nil rr1
  obtain rfl : args = #[vv0, vv1] := by cases args; simp_all
  obtain ⟨rfl, rfl⟩ := trodVars_none hV
  have lt0 : ∀ x ∈ pp0, x.block < W.heap.size := by obtain ⟨m, hm⟩ := hh0; exact DataW.trod_lt m _ _ _ hm
  have kk0 := hh0
  have lt1 : ∀ x ∈ pp1, x.block < W.heap.size := by obtain ⟨m, hm⟩ := hh1; exact DataW.trod_lt m _ _ _ hm
  have kk1 := hh1
  obtain ⟨tcs, rfl, tln, tok⟩ := agg_cells (us := [3, 22, 22, 22]) (by simp only [Try.underlying24]) (by kernel_rfl) (by kernel_rfl) (hval 0 24 vv0 rfl rfl)
  obtain ⟨tq0, tm0, rfl, th0⟩ := list1 tln
  obtain ⟨tq1, tm1, rfl, th1⟩ := list1 th0
  obtain ⟨tq2, tm2, rfl, th2⟩ := list1 th1
  obtain ⟨tq3, tm3, rfl, th3⟩ := list1 th2
  obtain rfl := list0 th3
  obtain ⟨t0, rfl, t0l, t0u⟩ := cell_int (k := .i64) Try.underlying3 (tok 0 3 _ rfl rfl)
  obtain ⟨t1, rfl, t1l⟩ := cell_float (k := .f32) Try.underlying22 (tok 1 22 _ rfl rfl)
  obtain ⟨t2, rfl, t2l⟩ := cell_float (k := .f32) Try.underlying22 (tok 2 22 _ rfl rfl)
  obtain ⟨t3, rfl, t3l⟩ := cell_float (k := .f32) Try.underlying22 (tok 3 22 _ rfl rfl)
  obtain ⟨v, rfl, vl⟩ := okWide_float' (k := .f32) Try.underlying22 (hval 1 22 vv1 rfl rfl)
  clear hA0 hval0
  refine (tb_walk t0 t1 t2 t3 v W ⟨t0l, t0u⟩ t1l t2l t3l vl).mono fun e W' ⟨he, bel⟩ => ?_
  subst he
  exact ⟨_, rfl, _, _, _, [], _, [], hW', trodAll_mk1 (shut_bool Try.underlying4 _), (trodAll_cons_mk (Below.trod laidOut (by kernel_rfl) (of_decide_eq_true (by kernel_rfl)) kk0 bel lt0) (trodAll_cons_mk (Below.trod laidOut (by kernel_rfl) (of_decide_eq_true (by kernel_rfl)) kk1 bel lt1) trodAll_mk0)), rfl, bel.frame _, fun h => by cases h⟩

theorem over : Rows.transfersLeadBackRow.holds Try.pinned (OpenSpec.ofChange Rows.transfersLeadBackSpec) :=
  OpenClaim.holds_of_wide 3 Try.f3 rfl rfl rfl rfl rfl rfl rfl ⟨rfl, rfl, rfl, rfl, rfl⟩ rfl rfl rfl rfl rfl (by kernel_rfl) Try.func3 (by kernel_rfl)
    (of_decide_eq_true (by kernel_rfl)) (by unfold Func.isWrapper; first | (rw [if_pos (by decide +kernel)]; kernel_rfl) | (rw [if_neg (by decide +kernel)]; exact ⟨rfl, rfl⟩))
    (fun os started H enc _ => lifted os started H enc)

/-- THE STATEMENT -/
theorem proved : Rows.TransfersLeadBackSaid := over
#print axioms proved
end Go.Proofs.Ytokmjboaeamogaa.transfersLeadBack
