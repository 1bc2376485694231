/- dyelaw2.DoneMatches: its given statement, out of its walk. No condition. -/
import Derived.Test.YtnicamndlkdcmaaRows
import Derived.Test.YtnicamndlkdcmaaLawDn
import Derived.Test.YtnicamndlkdcmaaBO
namespace Go.Proofs.Ytnicamndlkdcmaa.doneMatches
open Go Go.RowKit Go.ChangeShapes Go.WideShapes Go.ChangeAt
open Go.ChangeMaps (open_string shut_string)

theorem own : ownKnob Try.prog.godebug = none := by kernel_rfl
theorem laidOut : laidOutB Try.prog = true := by kernel_rfl
set_option maxRecDepth 100000 in
theorem lifted (os : Os) (started : os.Started) (H : Type) (enc : TypeId × Value → H) :
    ReturnsInHanded {} Try.checked os 5 .any (Rows.doneMatchesSpec.pre6 enc Try.prog Try.f5 Rows.doneMatchesRow.domain false) (Rows.doneMatchesSpec.post enc Try.prog Try.f5 false true false false) := by
  refine returnsInHanded_of_change (C := Try.checked) own started (by kernel_rfl) Try.func5
    (ChangeSpec.witness6 (enc := enc) (C := Try.checked) false ⟨#[], #[.slice none 0 0, .slice none 0 0], []⟩ 8 (by kernel_rfl) (by kernel_rfl) (by kernel_rfl) (by kernel_rfl)) ?_
  intro W base args ds gs before hval0 hW hcnd _
  have hval : ∀ (j : Nat) t v, Try.f5.params[j]? = some t → args[j]? = some v → Value.okWide Try.prog W .any base t v := hval0
  have hW' := hW
  obtain ⟨p, q, hA0, hV, rfl, hfz, hnd⟩ := hW
  have hA : DataW.TrodAll enc Try.prog W 0 (fun _ => true) true Try.f5.params.toList args.toList ds p := hA0
  rw [Try.params5] at hA hval
  obtain ⟨vv0, vvs0, dd0, dds0, pp0, qq0, hargs, rfl, rfl, hh0, rr0⟩ := trodAll_cons hA
  obtain ⟨vv1, vvs1, dd1, dds1, pp1, qq1, rfl, rfl, rfl, hh1, rr1⟩ := trodAll_cons rr0
  obtain ⟨rfl, rfl, rfl⟩ := trodAll_nil rr1
  obtain rfl : args = #[vv0, vv1] := by cases args; simp_all
  obtain ⟨rfl, rfl⟩ := trodVars_none hV
  have lt0 : ∀ x ∈ pp0, x.block < W.heap.size := by obtain ⟨m, hm⟩ := hh0; exact DataW.trod_lt m _ _ _ hm
  have kk0 := hh0
  have lt1 : ∀ x ∈ pp1, x.block < W.heap.size := by obtain ⟨m, hm⟩ := hh1; exact DataW.trod_lt m _ _ _ hm
  have kk1 := hh1
  obtain ⟨worka, workn, workc, rfl⟩ := okWide_slice Try.underlying22 (hval 0 22 vv0 rfl rfl)
  obtain ⟨workz, workw⟩ : ∃ ks, IsWorks W worka workn workc ks := by
    obtain ⟨fuel, hf⟩ := hh0
    exact open_works Try.underlying22 Try.underlying56 (by kernel_rfl) (by kernel_rfl) Try.underlying3 (by kernel_rfl) Try.underlying51 (by kernel_rfl) (by simpa [Value.cells] using hf)
  obtain ⟨runsa, runsn, runsc, rfl⟩ := okWide_slice Try.underlying24 (hval 1 24 vv1 rfl rfl)
  obtain ⟨runsz, runsw⟩ : ∃ ks, IsRuns W runsa runsn runsc ks := by
    obtain ⟨fuel, hf⟩ := hh1
    exact open_runs Try.underlying24 Try.underlying36 (by kernel_rfl) (by kernel_rfl) Try.underlying3 (by kernel_rfl) Try.underlying4 (by kernel_rfl) (by simpa [Value.cells] using hf)
  clear hA0 hval0
  refine (dn_walk worka workn workc workz runsa runsn runsc runsz W workw runsw).mono fun e W' ⟨he, bel⟩ => ?_
  subst he
  exact ⟨_, rfl, _, _, _, [], _, [], hW', trodAll_mk1 (shut_bool Try.underlying4 _), (trodAll_cons_mk (Below.trod laidOut (by kernel_rfl) (of_decide_eq_true (by kernel_rfl)) kk0 bel lt0) (trodAll_cons_mk (Below.trod laidOut (by kernel_rfl) (of_decide_eq_true (by kernel_rfl)) kk1 bel lt1) trodAll_mk0)), rfl, bel.frame _, fun h => by cases h⟩

theorem over : Rows.doneMatchesRow.holds Try.pinned (OpenSpec.ofChange Rows.doneMatchesSpec) :=
  OpenClaim.holds_of_wide 5 Try.f5 rfl rfl rfl rfl rfl rfl rfl ⟨rfl, rfl, rfl, rfl, rfl⟩ rfl rfl rfl rfl rfl (by kernel_rfl) Try.func5 (by kernel_rfl)
    (of_decide_eq_true (by kernel_rfl)) (by unfold Func.isWrapper; first | (rw [if_pos (by decide +kernel)]; kernel_rfl) | (rw [if_neg (by decide +kernel)]; exact ⟨rfl, rfl⟩))
    (fun os started H enc _ => lifted os started H enc)

/-- THE STATEMENT -/
theorem proved : Rows.DoneMatchesSaid := over
#print axioms proved
end Go.Proofs.Ytnicamndlkdcmaa.doneMatches
