/- dyelaw2.CollectsMatch: its given statement, out of its walk. No condition. -/
import Derived.Test.YtnicamndlkdcmaaRows
import Derived.Test.YtnicamndlkdcmaaLawCo
import Derived.Test.YtnicamndlkdcmaaBO
import Derived.SizedLaws
namespace Go.Proofs.Ytnicamndlkdcmaa.collectsMatch
open Go Go.RowKit Go.ChangeShapes Go.WideShapes Go.ChangeAt
open Go.ChangeMaps (open_string shut_string)

theorem own : ownKnob Try.prog.godebug = none := by kernel_rfl
theorem laidOut : laidOutB Try.prog = true := by kernel_rfl
set_option maxRecDepth 100000 in
theorem lifted (os : Os) (started : os.Started) (H : Type) (enc : TypeId × Value → H) :
    ReturnsInHanded {} Try.checked os 7 .any (Rows.collectsMatchSpec.pre6 enc Try.prog Try.f7 Rows.collectsMatchRow.domain false) (Rows.collectsMatchSpec.post enc Try.prog Try.f7 false true false false) := by
  refine returnsInHanded_of_change_sized (C := Try.checked) own started (by kernel_rfl) Try.func7
    (ChangeSpec.witness6 (enc := enc) (C := Try.checked) false ⟨#[], #[.agg #[.int .i64 0, .int .i64 0, .int .i64 0, .int .i64 0], .slice none 0 0, .slice none 0 0, .int .i64 0], []⟩ 8 (by kernel_rfl) (by kernel_rfl) (by kernel_rfl) (by kernel_rfl)) ?_
  intro W base args ds gs before hval0 hW hcnd hsz0 _
  have hsz : (DataW.weightsEach Try.prog (Try.f7.params.toList ++ Rows.collectsMatchSpec.plain.varTypes Try.prog) (ds ++ gs)).all (· ≤ reachBytes) = true := hsz0
  have hval : ∀ (j : Nat) t v, Try.f7.params[j]? = some t → args[j]? = some v → Value.okWide Try.prog W .any base t v := hval0
  have hW' := hW
  obtain ⟨p, q, hA0, hV, rfl, hfz, hnd⟩ := hW
  have hA : DataW.TrodAll enc Try.prog W 0 (fun _ => true) true Try.f7.params.toList args.toList ds p := hA0
  rw [Try.params7] at hA hval hsz
  clear hsz0
  obtain ⟨vv0, vvs0, dd0, dds0, pp0, qq0, hargs, rfl, rfl, hh0, rr0⟩ := trodAll_cons hA
  obtain ⟨vv1, vvs1, dd1, dds1, pp1, qq1, rfl, rfl, rfl, hh1, rr1⟩ := trodAll_cons rr0
  obtain ⟨vv2, vvs2, dd2, dds2, pp2, qq2, rfl, rfl, rfl, hh2, rr2⟩ := trodAll_cons rr1
  obtain ⟨vv3, vvs3, dd3, dds3, pp3, qq3, rfl, rfl, rfl, hh3, rr3⟩ := trodAll_cons rr2
  obtain ⟨rfl, rfl, rfl⟩ := trodAll_nil rr3
  obtain rfl : args = #[vv0, vv1, vv2, vv3] := by cases args; simp_all
  obtain ⟨rfl, rfl⟩ := trodVars_none hV
  have lt0 : ∀ x ∈ pp0, x.block < W.heap.size := by obtain ⟨m, hm⟩ := hh0; exact DataW.trod_lt m _ _ _ hm
  have kk0 := hh0
  have lt1 : ∀ x ∈ pp1, x.block < W.heap.size := by obtain ⟨m, hm⟩ := hh1; exact DataW.trod_lt m _ _ _ hm
  have kk1 := hh1
  have lt2 : ∀ x ∈ pp2, x.block < W.heap.size := by obtain ⟨m, hm⟩ := hh2; exact DataW.trod_lt m _ _ _ hm
  have kk2 := hh2
  have lt3 : ∀ x ∈ pp3, x.block < W.heap.size := by obtain ⟨m, hm⟩ := hh3; exact DataW.trod_lt m _ _ _ hm
  have kk3 := hh3
  obtain ⟨rgcs, rfl, rgln, rgok⟩ := agg_cells (us := [3, 3, 3, 3]) (by simp only [Try.underlying40]) (by kernel_rfl) (by kernel_rfl) (hval 0 40 vv0 rfl rfl)
  obtain ⟨rgq0, rgm0, rfl, rgh0⟩ := list1 rgln
  obtain ⟨rgq1, rgm1, rfl, rgh1⟩ := list1 rgh0
  obtain ⟨rgq2, rgm2, rfl, rgh2⟩ := list1 rgh1
  obtain ⟨rgq3, rgm3, rfl, rgh3⟩ := list1 rgh2
  obtain rfl := list0 rgh3
  obtain ⟨rg0, rfl, rg0l, rg0u⟩ := cell_int (k := .i64) Try.underlying3 (rgok 0 3 _ rfl rfl)
  obtain ⟨rg1, rfl, rg1l, rg1u⟩ := cell_int (k := .i64) Try.underlying3 (rgok 1 3 _ rfl rfl)
  obtain ⟨rg2, rfl, rg2l, rg2u⟩ := cell_int (k := .i64) Try.underlying3 (rgok 2 3 _ rfl rfl)
  obtain ⟨rg3, rfl, rg3l, rg3u⟩ := cell_int (k := .i64) Try.underlying3 (rgok 3 3 _ rfl rfl)
  obtain ⟨tsa, tsn, tsc, rfl⟩ := okWide_slice Try.underlying61 (hval 1 61 vv1 rfl rfl)
  obtain ⟨tsz, tsw⟩ : ∃ ks, IsTasks W tsa tsn ks := by
    obtain ⟨fuel, hf⟩ := hh1
    exact open_tasks Try.underlying61 Try.underlying69 (by kernel_rfl) (by kernel_rfl) Try.underlying3 (by kernel_rfl) Try.underlying40 (by kernel_rfl) (by kernel_rfl) (by simpa [Value.cells] using hf)
  obtain ⟨fsa, fsn, fsc, rfl⟩ := okWide_slice Try.underlying72 (hval 2 72 vv2 rfl rfl)
  have fsbd : fsn * 56 ≤ 140737488351232 := by
    obtain ⟨fuel, hf⟩ := hh2
    rcases slice_len Try.underlying72 (show DataW.trod enc Try.prog W 0 (fun _ => true) true fuel _ [.slice fsa fsn fsc] = some _ by simpa [Value.cells] using hf) with h0 | ⟨es, rs, hx, hle⟩
    · rw [h0]; decide
    · have hx2 : dd2 = .slice es rs := hx
      have h1 := sized_slice hsz (j := 2) (t := 72) (e := 43) (elems := es) (spare := rs) rfl (by rw [hx2]; rfl) Try.underlying72
      have h2 : Try.prog.bytesOf 43 = 56 := by kernel_rfl
      rw [h2] at h1
      have h3 : reachBytes = 140737488351232 := rfl
      rw [h3] at h1
      have h4 := Nat.mul_le_mul_right 56 hle
      omega
  obtain ⟨fsz, fsw⟩ : ∃ ks, IsFrames W fsa fsn ks := by
    obtain ⟨fuel, hf⟩ := hh2
    exact open_frames Try.underlying72 Try.underlying43 (by kernel_rfl) (by kernel_rfl) Try.underlying3 (by kernel_rfl) Try.underlying40 (by kernel_rfl) (by kernel_rfl) Try.underlying41 (by kernel_rfl) Try.underlying47 (by kernel_rfl) (by simpa [Value.cells] using hf)
  obtain ⟨no, rfl, nol, nou⟩ := okWide_int' (k := .i64) Try.underlying3 (hval 3 3 vv3 rfl rfl)
  clear hA0 hval0
  refine (co_walk rg0 rg1 rg2 rg3 tsa tsn tsc tsz fsa fsn fsc fsz no W ⟨rg0l, rg0u⟩ ⟨rg1l, rg1u⟩ ⟨rg2l, rg2u⟩ ⟨rg3l, rg3u⟩ tsw ⟨fsw, fsbd⟩ ⟨nol, nou⟩).mono fun e W' ⟨he, bel⟩ => ?_
  subst he
  exact ⟨_, rfl, _, _, _, [], _, [], hW', trodAll_mk1 (shut_bool Try.underlying4 _), (trodAll_cons_mk (Below.trod laidOut (by kernel_rfl) (of_decide_eq_true (by kernel_rfl)) kk0 bel lt0) (trodAll_cons_mk (Below.trod laidOut (by kernel_rfl) (of_decide_eq_true (by kernel_rfl)) kk1 bel lt1) (trodAll_cons_mk (Below.trod laidOut (by kernel_rfl) (of_decide_eq_true (by kernel_rfl)) kk2 bel lt2) (trodAll_cons_mk (Below.trod laidOut (by kernel_rfl) (of_decide_eq_true (by kernel_rfl)) kk3 bel lt3) trodAll_mk0)))), rfl, bel.frame _, fun h => by cases h⟩

theorem over : Rows.collectsMatchRow.holds Try.pinned (OpenSpec.ofChange Rows.collectsMatchSpec) :=
  OpenClaim.holds_of_wide 7 Try.f7 rfl rfl rfl rfl rfl rfl rfl ⟨rfl, rfl, rfl, rfl, rfl⟩ rfl rfl rfl rfl rfl (by kernel_rfl) Try.func7 (by kernel_rfl)
    (of_decide_eq_true (by kernel_rfl)) (by unfold Func.isWrapper; first | (rw [if_pos (by decide +kernel)]; kernel_rfl) | (rw [if_neg (by decide +kernel)]; exact ⟨rfl, rfl⟩))
    (fun os started H enc _ => lifted os started H enc)

/-- THE STATEMENT -/
theorem proved : Rows.CollectsMatchSaid := over
#print axioms proved
end Go.Proofs.Ytnicamndlkdcmaa.collectsMatch
