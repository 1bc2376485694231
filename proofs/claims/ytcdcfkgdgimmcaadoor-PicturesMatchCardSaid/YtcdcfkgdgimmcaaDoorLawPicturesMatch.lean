/- dyelaw2.PicturesMatch: its given statement, out of its walk. No condition. -/
import Derived.Test.YtcdcfkgdgimmcaaDoorRows
import Derived.Test.YtcdcfkgdgimmcaaDoorCards
import Derived.Test.YtcdcfkgdgimmcaaDoorTie
import Derived.Test.YtcdcfkgdgimmcaaDoorLawPd
import Derived.Test.YtcdcfkgdgimmcaaDoorBO
import Derived.Test.YtcdcfkgdgimmcaaDoorDoorF
import Derived.Lay
import Derived.LaidOnce
import Derived.SevenTiedAt
namespace Go.Proofs.YtcdcfkgdgimmcaaDoor.PicturesMatch
open Go Go.RowKit Go.ChangeShapes Go.WideShapes Go.ChangeAt
open Go.ChangeMaps (open_string shut_string)

abbrev laid := Rows.picturesMatchRow.laid
/-- A string by value, inside a struct. -/
theorem cell_string {P : Program} {w : World} {r : Reach} {b0 : Nat} {u : TypeId} {c : Value} (hu : P.underlying u = some .string) (h : Cell.okWide P w r b0 u c) : ∃ s, c = .string s ∧ (s.size : Int) ≤ IntKind.i64.max := by
  simp only [Cell.okWide, hu] at h
  cases c <;> simp_all [Cell.ok]
theorem own : ownKnob Tryd.prog.godebug = none := by kernel_rfl
theorem laidOut : laidOutB Tryd.prog = true := by kernel_rfl
set_option maxRecDepth 100000 in
theorem lifted (os : Os) (started : os.Started) (H : Type) (enc : TypeId × Value → H) :
    ReturnsInHanded {} Tryd.checked os 5 .any (fun w args => (Rows.picturesMatchSpec.pre enc Tryd.prog Tryd.f5 [] false w args ∧ laidMetH Tryd.prog laid w) ∧ sizedMet enc Tryd.prog Tryd.f5 (OpenSpec.ofChange Rows.picturesMatchSpec) false w args)
      (Rows.picturesMatchSpec.post enc Tryd.prog Tryd.f5 false true false false) := by
  refine returnsInHanded_of_change_and_shaped (C := Tryd.checked) (X := fun w _ => laidMetH Tryd.prog laid w) (fun _ _ _ hh h => h.of_heap hh) own started (by kernel_rfl) Tryd.func5
    (ChangeSpec.witness_shaped (enc := enc) (C := Tryd.checked) (os := os) (X := fun w _ => laidMetH Tryd.prog laid w) false (World.laidAll Tryd.prog os laid) #[.agg #[.int .i64 0, .int .i64 0, .int .i64 0, .int .i64 0, .slice none 0 0], .int .i64 0, .int .u32 0] 8 (World.laidAll_os _ _ _)
      (World.shaped_of_ZipB (by kernel_rfl) (by kernel_rfl)) (by kernel_rfl) (by kernel_rfl) (by kernel_rfl)
      (by rw [MakeChecks.laidMetH_plain _ _ _ (by kernel_rfl)]; exact laidMet_laidAll _ (by kernel_rfl) (by kernel_rfl))) ?_
  intro W base args ds gs before hval0 hW _ _ hL hsh _
  have hLW := libW_of hL hsh
  have hval : ∀ (j : Nat) t v, Tryd.f5.params[j]? = some t → args[j]? = some v → Value.okWide Tryd.prog W .any base t v := hval0
  have hW' := hW
  obtain ⟨p, q, hA0, hV, rfl, hfz, hnd⟩ := hW
  have hA : DataW.TrodAll enc Tryd.prog W 0 (fun _ => true) true Tryd.f5.params.toList args.toList ds p := hA0
  rw [Tryd.params5] at hA hval
  obtain ⟨vv0, vvs0, dd0, dds0, pp0, qq0, hargs, rfl, rfl, hh0, rr0⟩ := trodAll_cons hA
  obtain ⟨vv1, vvs1, dd1, dds1, pp1, qq1, rfl, rfl, rfl, hh1, rr1⟩ := trodAll_cons rr0
  obtain ⟨vv2, vvs2, dd2, dds2, pp2, qq2, rfl, rfl, rfl, hh2, rr2⟩ := trodAll_cons rr1
  obtain ⟨rfl, rfl, rfl⟩ := trodAll_nil rr2
  obtain rfl : args = #[vv0, vv1, vv2] := by cases args; simp_all
  obtain ⟨rfl, rfl⟩ := trodVars_none hV
  have lt0 : ∀ x ∈ pp0, x.block < W.heap.size := by obtain ⟨m, hm⟩ := hh0; exact DataW.trod_lt m _ _ _ hm
  have kk0 := hh0
  have lt1 : ∀ x ∈ pp1, x.block < W.heap.size := by obtain ⟨m, hm⟩ := hh1; exact DataW.trod_lt m _ _ _ hm
  have kk1 := hh1
  have lt2 : ∀ x ∈ pp2, x.block < W.heap.size := by obtain ⟨m, hm⟩ := hh2; exact DataW.trod_lt m _ _ _ hm
  have kk2 := hh2
  obtain ⟨fcs, rfl, fln, fok⟩ := agg_cells (us := [3, 3, 3, 3, 36]) (by simp only [Tryd.underlying38]) (by kernel_rfl) (by kernel_rfl) (hval 0 38 vv0 rfl rfl)
  obtain ⟨fq0, fm0, rfl, fh0⟩ := list1 fln
  obtain ⟨fq1, fm1, rfl, fh1⟩ := list1 fh0
  obtain ⟨fq2, fm2, rfl, fh2⟩ := list1 fh1
  obtain ⟨fq3, fm3, rfl, fh3⟩ := list1 fh2
  obtain ⟨fq4, fm4, rfl, fh4⟩ := list1 fh3
  obtain rfl := list0 fh4
  obtain ⟨f0, rfl, f0l, f0u⟩ := cell_int (k := .i64) Tryd.underlying3 (fok 0 3 _ rfl rfl)
  obtain ⟨f1, rfl, f1l, f1u⟩ := cell_int (k := .i64) Tryd.underlying3 (fok 1 3 _ rfl rfl)
  obtain ⟨f2, rfl, f2l, f2u⟩ := cell_int (k := .i64) Tryd.underlying3 (fok 2 3 _ rfl rfl)
  obtain ⟨f3, rfl, f3l, f3u⟩ := cell_int (k := .i64) Tryd.underlying3 (fok 3 3 _ rfl rfl)
  obtain ⟨f4a, f4n, f4c, rfl⟩ := cell_slice Tryd.underlying36 (fok 4 36 _ rfl rfl)
  obtain ⟨f4z, f4w⟩ : ∃ fs, IsFloats W f4a f4n f4c fs := by
    obtain ⟨fm, fh⟩ := hh0
    obtain ⟨fm2, fy2, fh2⟩ := trod_field (i := 1) (off := 4) (ts := 36) Tryd.underlying38 rfl fh
    have fe : Tryd.prog.cellsOf 36 = 1 := by kernel_rfl
    rw [fe] at fh2
    exact open_floats_slice Tryd.underlying36 Tryd.underlying50 (by kernel_rfl) (by simpa [Value.cells] using fh2)
  obtain ⟨how, rfl, howl, howu⟩ := okWide_int' (k := .i64) Tryd.underlying3 (hval 1 3 vv1 rfl rfl)
  obtain ⟨seed, rfl, seedl, seedu⟩ := okWide_int' (k := .u32) Tryd.underlying78 (hval 2 78 vv2 rfl rfl)
  clear hA0 hval0
  refine (pc_walk f0 f1 f2 f3 f4a f4n f4c f4z how seed W hLW ⟨f0l, f0u⟩ ⟨f1l, f1u⟩ ⟨f2l, f2u⟩ ⟨f3l, f3u⟩ f4w ⟨howl, howu⟩ ⟨seedl, seedu⟩).mono fun e W' ⟨he, bel⟩ => ?_
  subst he
  exact ⟨_, rfl, _, _, _, [], _, [], hW', trodAll_mk1 (shut_bool Tryd.underlying4 _), (trodAll_cons_mk (Below.trod laidOut (by kernel_rfl) (of_decide_eq_true (by kernel_rfl)) kk0 bel lt0) (trodAll_cons_mk (Below.trod laidOut (by kernel_rfl) (of_decide_eq_true (by kernel_rfl)) kk1 bel lt1) (trodAll_cons_mk (Below.trod laidOut (by kernel_rfl) (of_decide_eq_true (by kernel_rfl)) kk2 bel lt2) trodAll_mk0))), rfl, bel.frame _, fun h => by cases h⟩

theorem over : Rows.picturesMatchRow.holds Tryd.pinned (OpenSpec.ofChange Rows.picturesMatchSpec) :=
  OpenClaim.holds_of_wide 5 Tryd.f5 rfl rfl rfl rfl rfl rfl rfl ⟨rfl, rfl, rfl, rfl, rfl⟩ rfl rfl rfl rfl rfl (by kernel_rfl) Tryd.func5 (by kernel_rfl)
    (of_decide_eq_true (by kernel_rfl)) (by unfold Func.isWrapper; first | (rw [if_pos (by decide +kernel)]; kernel_rfl) | (rw [if_neg (by decide +kernel)]; exact ⟨rfl, rfl⟩))
    (fun os started H enc _ => lifted os started H enc)

theorem shut : Claim7.holds Tryd.pinned (.plain (OpenSpec.ofChange Rows.picturesMatchSpec)) Rows.picturesMatchCard :=
  Claim7.holds_tied_plain_at .later [] [.data, .data, .data, .data, .sentinel, .sentinel, .pinned] true (true, "2cb8f75ec417080d3ea8335714d09d98e3e26ca310f948ee066b0799fe9b3056") true over (fun _ h => by cases h) (by kernel_rfl) (fun _ h => by cases h) picturesMatch_row_tie rfl ⟨rfl, rfl⟩ (by kernel_rfl) rfl
    (fun f fn hf hfn => by
      obtain rfl : f = 5 := Option.some.inj ((show Tryd.prog.funcNamed "dyehouse/dyelaw2.PicturesMatch" = some 5 by kernel_rfl).symm.trans hf) |>.symm
      obtain rfl : fn = Tryd.f5 := (Option.some.inj (Tryd.func5.symm.trans hfn)).symm
      exact ⟨by kernel_rfl, fun j t ht => by
        rw [Tryd.params5] at ht
        have hm : t ∈ [38, 3, 78] := by simpa using Array.mem_of_getElem? ht
        have hall : ([38, 3, 78].all fun u => !Tryd.prog.wantsStandIn u) = true := by kernel_rfl
        exact (show Tryd.prog.wantsStandIn t = false by simpa using List.all_eq_true.1 hall t hm)⟩)
    (by kernel_rfl)
/-- THE STATEMENT -/
theorem proved : Rows.PicturesMatchCardSaid := shut
#print axioms proved
end Go.Proofs.YtcdcfkgdgimmcaaDoor.PicturesMatch
