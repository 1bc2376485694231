/- dyelaw2.GraphsMatch: its given statement, out of its walk. No condition. -/
import Derived.Test.YtbclecoblcfboaaGreatDoorRows
import Derived.Test.YtbclecoblcfboaaGreatDoorCards
import Derived.Test.YtbclecoblcfboaaGreatDoorTie
import Derived.Test.YtbclecoblcfboaaGreatDoorLawGm
import Derived.Test.YtbclecoblcfboaaGreatDoorBO
import Derived.Test.YtbclecoblcfboaaGreatDoorOpG
import Derived.Test.YtbclecoblcfboaaGreatDoorDoorN
import Derived.Lay
import Derived.LaidOnce
import Derived.SevenTiedAt
namespace Go.Proofs.YtbclecoblcfboaaGreatDoor.GraphsMatch
open Go Go.RowKit Go.ChangeShapes Go.WideShapes Go.ChangeAt
open Go.ChangeMaps (open_string shut_string)

abbrev laid := Rows.graphsMatchRow.laid
/-- A string by value, inside a struct. -/
theorem cell_string {P : Program} {w : World} {r : Reach} {b0 : Nat} {u : TypeId} {c : Value} (hu : P.underlying u = some .string) (h : Cell.okWide P w r b0 u c) : ∃ s, c = .string s ∧ (s.size : Int) ≤ IntKind.i64.max := by
  simp only [Cell.okWide, hu] at h
  cases c <;> simp_all [Cell.ok]
theorem own : ownKnob Tryz.prog.godebug = none := by kernel_rfl
theorem laidOut : laidOutB Tryz.prog = true := by kernel_rfl
set_option maxRecDepth 100000 in
theorem lifted (os : Os) (started : os.Started) (H : Type) (enc : TypeId × Value → H) :
    ReturnsInHanded {} Tryz.checked os 4 .any (fun w args => (Rows.graphsMatchSpec.pre enc Tryz.prog Tryz.f4 [] false w args ∧ laidMetH Tryz.prog laid w) ∧ sizedMet enc Tryz.prog Tryz.f4 (OpenSpec.ofChange Rows.graphsMatchSpec) false w args)
      (Rows.graphsMatchSpec.post enc Tryz.prog Tryz.f4 false true false false) := by
  refine returnsInHanded_of_change_and_shaped (C := Tryz.checked) (X := fun w _ => laidMetH Tryz.prog laid w) (fun _ _ _ hh h => h.of_heap hh) own started (by kernel_rfl) Tryz.func4
    (ChangeSpec.witness_shaped (enc := enc) (C := Tryz.checked) (os := os) (X := fun w _ => laidMetH Tryz.prog laid w) false (World.laidAll Tryz.prog os laid) #[.agg #[.slice none 0 0, .int .i64 0], .agg #[.int .i64 0, .int .i64 0, .int .i64 0, .int .i64 0], .int .i64 0] 8 (World.laidAll_os _ _ _)
      (World.shaped_of_ZipB (by kernel_rfl) (by kernel_rfl)) (by kernel_rfl) (by kernel_rfl) (by kernel_rfl)
      (by rw [MakeChecks.laidMetH_plain _ _ _ (by kernel_rfl)]; exact laidMet_laidAll _ (by kernel_rfl) (by kernel_rfl))) ?_
  intro W base args ds gs before hval0 hW _ _ hL hsh _
  have hLW := libN_of hL hsh
  have hval : ∀ (j : Nat) t v, Tryz.f4.params[j]? = some t → args[j]? = some v → Value.okWide Tryz.prog W .any base t v := hval0
  have hW' := hW
  obtain ⟨p, q, hA0, hV, rfl, hfz, hnd⟩ := hW
  have hA : DataW.TrodAll enc Tryz.prog W 0 (fun _ => true) true Tryz.f4.params.toList args.toList ds p := hA0
  rw [Tryz.params4] at hA hval
  obtain ⟨vv0, vvs0, dd0, dds0, pp0, qq0, hargs, rfl, rfl, hh0, rr0⟩ := trodAll_cons hA
  obtain ⟨vv1, vvs1, dd1, dds1, pp1, qq1, rfl, rfl, rfl, hh1, rr1⟩ := trodAll_cons rr0
  obtain ⟨vv2, vvs2, dd2, dds2, pp2, qq2, rfl, rfl, rfl, hh2, rr2⟩ := trodAll_cons rr1
  obtain ⟨rfl, rfl, rfl⟩ := trodAll_nil rr2
  obtain rfl : args = #[vv0, vv1, vv2] := by cases args; simp_all
  obtain ⟨rfl, rfl⟩ := trodVars_none hV
  have lt0 : ∀ x ∈ pp0, x.block < W.heap.size := by obtain ⟨m, hm⟩ := hh0; exact DataW.trod_lt m _ _ _ hm
  have kk0 := hh0
  have lt1 : ∀ x ∈ pp1, x.block < W.heap.size := by obtain ⟨m, hm⟩ := hh1; exact DataW.trod_lt m _ _ _ hm
  have kk1 := hh1
  have lt2 : ∀ x ∈ pp2, x.block < W.heap.size := by obtain ⟨m, hm⟩ := hh2; exact DataW.trod_lt m _ _ _ hm
  have kk2 := hh2
  obtain ⟨gcs, rfl, gln, gok⟩ := agg_cells (us := [22, 3]) (by simp only [Tryz.underlying24]) (by kernel_rfl) (by kernel_rfl) (hval 0 24 vv0 rfl rfl)
  obtain ⟨gq0, gm0, rfl, gh0⟩ := list1 gln
  obtain ⟨gq1, gm1, rfl, gh1⟩ := list1 gh0
  obtain rfl := list0 gh1
  obtain ⟨g0a, g0n, g0c, rfl⟩ := cell_slice Tryz.underlying22 (gok 0 22 _ rfl rfl)
  obtain ⟨g0z, g0l, g0w⟩ : ∃ ns, ns.length = g0n ∧ IsNodes W g0a g0c ns := by
    obtain ⟨fm, fh⟩ := hh0
    obtain ⟨fm2, fy2, fh2⟩ := trod_field (i := 0) (off := 0) (ts := 22) Tryz.underlying24 rfl fh
    have fe : Tryz.prog.cellsOf 22 = 1 := by kernel_rfl
    rw [fe] at fh2
    exact open_nodes Tryz.underlying22 Tryz.underlying35 (by kernel_rfl) (by kernel_rfl) Tryz.underlying9 (by kernel_rfl) Tryz.underlying3 (by kernel_rfl) Tryz.underlying25 (by kernel_rfl) Tryz.underlying104 (by kernel_rfl) Tryz.underlying33 (by kernel_rfl) (by simpa [Value.cells] using fh2)
  subst g0l
  obtain ⟨g1, rfl, g1l, g1u⟩ := cell_int (k := .i64) Tryz.underlying3 (gok 1 3 _ rfl rfl)
  obtain ⟨rcs, rfl, rln, rok⟩ := agg_cells (us := [3, 3, 3, 3]) (by simp only [Tryz.underlying49]) (by kernel_rfl) (by kernel_rfl) (hval 1 49 vv1 rfl rfl)
  obtain ⟨rq0, rm0, rfl, rh0⟩ := list1 rln
  obtain ⟨rq1, rm1, rfl, rh1⟩ := list1 rh0
  obtain ⟨rq2, rm2, rfl, rh2⟩ := list1 rh1
  obtain ⟨rq3, rm3, rfl, rh3⟩ := list1 rh2
  obtain rfl := list0 rh3
  obtain ⟨r0, rfl, r0l, r0u⟩ := cell_int (k := .i64) Tryz.underlying3 (rok 0 3 _ rfl rfl)
  obtain ⟨r1, rfl, r1l, r1u⟩ := cell_int (k := .i64) Tryz.underlying3 (rok 1 3 _ rfl rfl)
  obtain ⟨r2, rfl, r2l, r2u⟩ := cell_int (k := .i64) Tryz.underlying3 (rok 2 3 _ rfl rfl)
  obtain ⟨r3, rfl, r3l, r3u⟩ := cell_int (k := .i64) Tryz.underlying3 (rok 3 3 _ rfl rfl)
  obtain ⟨k, rfl, kl, ku⟩ := okWide_int' (k := .i64) Tryz.underlying3 (hval 2 3 vv2 rfl rfl)
  clear hA0 hval0
  refine (gm_walk g0a g0c g0z g1 r0 r1 r2 r3 k W hLW g0w ⟨g1l, g1u⟩ ⟨r0l, r0u⟩ ⟨r1l, r1u⟩).mono fun e W' ⟨he, bel⟩ => ?_
  subst he
  exact ⟨_, rfl, _, _, _, [], _, [], hW', trodAll_mk1 (shut_bool Tryz.underlying4 _), (trodAll_cons_mk (Below.trod laidOut (by kernel_rfl) (of_decide_eq_true (by kernel_rfl)) kk0 bel lt0) (trodAll_cons_mk (Below.trod laidOut (by kernel_rfl) (of_decide_eq_true (by kernel_rfl)) kk1 bel lt1) (trodAll_cons_mk (Below.trod laidOut (by kernel_rfl) (of_decide_eq_true (by kernel_rfl)) kk2 bel lt2) trodAll_mk0))), rfl, bel.frame _, fun h => by cases h⟩

set_option maxHeartbeats 12800000 in
theorem facts : joinedFacts Tryz.pinned.checked.prog 4 Tryz.f4 Rows.graphsMatchSpec Rows.graphsMatchRow = true := by
  unfold joinedFacts
  simp only [Bool.and_eq_true]
  and_intros
  all_goals as_aux_lemma => kernel_rfl
theorem named_f : Tryz.pinned.checked.prog.funcNamed Rows.graphsMatchRow.func = some 4 := by kernel_rfl
theorem inst_f : Tryz.f4.isInstance Tryz.pinned.checked.prog Rows.graphsMatchRow.origin Rows.graphsMatchRow.targs := of_decide_eq_true (by kernel_rfl)
theorem over : Rows.graphsMatchRow.holds Tryz.pinned (OpenSpec.ofChange Rows.graphsMatchSpec) :=
  OpenClaim.holds_of_wide 4 Tryz.f4 rfl rfl rfl rfl rfl rfl rfl ⟨rfl, rfl, rfl, rfl, rfl⟩ rfl rfl rfl rfl rfl named_f Tryz.func4 facts
    inst_f (by unfold Func.isWrapper; first | (rw [if_pos (by decide +kernel)]; kernel_rfl) | (rw [if_neg (by decide +kernel)]; exact ⟨rfl, rfl⟩))
    (fun os started H enc _ => lifted os started H enc)

theorem shut : Claim7.holds Tryz.pinned (.plain (OpenSpec.ofChange Rows.graphsMatchSpec)) Rows.graphsMatchCard :=
  Claim7.holds_tied_plain_at .later [] [.data, .data, .widerDeep, .widerDeep, .data, .data, .data, .data, .data, .data, .sentinel, .sentinel, .pinned, .pinned, .pinned] true (true, "1753797cb941ad96a41dd67fc9e11bde51dd8a448c4a06dcdc564bdf1f782614") true over (fun _ h => by cases h) (by kernel_rfl) (fun _ h => by cases h) graphsMatch_row_tie rfl ⟨rfl, rfl⟩ (by kernel_rfl) rfl
    (fun f fn hf hfn => by
      obtain rfl : f = 4 := Option.some.inj ((show Tryz.prog.funcNamed "dyehouse/dyelaw2.GraphsMatch" = some 4 by kernel_rfl).symm.trans hf) |>.symm
      obtain rfl : fn = Tryz.f4 := (Option.some.inj (Tryz.func4.symm.trans hfn)).symm
      exact ⟨by kernel_rfl, fun j t ht => by
        rw [Tryz.params4] at ht
        have hm : t ∈ [24, 49, 3] := by simpa using Array.mem_of_getElem? ht
        have hall : ([24, 49, 3].all fun u => !Tryz.prog.wantsStandIn u) = true := by kernel_rfl
        exact (show Tryz.prog.wantsStandIn t = false by simpa using List.all_eq_true.1 hall t hm)⟩)
    (by kernel_rfl)
/-- THE STATEMENT -/
theorem proved : Rows.GraphsMatchCardSaid := shut
#print axioms proved
end Go.Proofs.YtbclecoblcfboaaGreatDoor.GraphsMatch
