/- dyelaw2.CachesMatch: its given statement, out of its walk. No condition. -/
import Derived.Test.YtcdcfkgdgimmcaaDoorRows
import Derived.Test.YtcdcfkgdgimmcaaDoorCards
import Derived.Test.YtcdcfkgdgimmcaaDoorTie
import Derived.Test.YtcdcfkgdgimmcaaDoorLawKe
import Derived.Test.YtcdcfkgdgimmcaaDoorBO
import Derived.Lay
import Derived.LaidOnce
import Derived.SevenTiedAt
namespace Go.Proofs.YtcdcfkgdgimmcaaDoor.CachesMatch
open Go Go.RowKit Go.ChangeShapes Go.WideShapes Go.ChangeAt
open Go.ChangeMaps (open_string shut_string)

abbrev laid := Rows.cachesMatchRow.laid
/-- A string by value, inside a struct. -/
theorem cell_string {P : Program} {w : World} {r : Reach} {b0 : Nat} {u : TypeId} {c : Value} (hu : P.underlying u = some .string) (h : Cell.okWide P w r b0 u c) : ∃ s, c = .string s ∧ (s.size : Int) ≤ IntKind.i64.max := by
  simp only [Cell.okWide, hu] at h
  cases c <;> simp_all [Cell.ok]
theorem own : ownKnob Tryd.prog.godebug = none := by kernel_rfl
theorem laidOut : laidOutB Tryd.prog = true := by kernel_rfl
set_option maxRecDepth 100000 in
theorem lifted (os : Os) (started : os.Started) (H : Type) (enc : TypeId × Value → H) :
    ReturnsInHanded {} Tryd.checked os 3 .any (fun w args => (Rows.cachesMatchSpec.pre enc Tryd.prog Tryd.f3 [] false w args ∧ laidMetH Tryd.prog laid w) ∧ sizedMet enc Tryd.prog Tryd.f3 (OpenSpec.ofChange Rows.cachesMatchSpec) false w args)
      (Rows.cachesMatchSpec.post enc Tryd.prog Tryd.f3 false true false false) := by
  refine returnsInHanded_of_change_and (C := Tryd.checked) (X := fun w _ => laidMetH Tryd.prog laid w) (fun _ _ _ hh h => h.of_heap hh) own started (by kernel_rfl) Tryd.func3
    (ChangeSpec.witness_shaped (enc := enc) (C := Tryd.checked) (os := os) (X := fun w _ => laidMetH Tryd.prog laid w) false (World.laidAll Tryd.prog os laid) #[.int .i64 0, .slice none 0 0, .slice none 0 0, .slice none 0 0] 8 (World.laidAll_os _ _ _)
      (World.shaped_of_ZipB (by kernel_rfl) (by kernel_rfl)) (by kernel_rfl) (by kernel_rfl) (by kernel_rfl)
      (by rw [MakeChecks.laidMetH_plain _ _ _ (by kernel_rfl)]; exact laidMet_laidAll _ (by kernel_rfl) (by kernel_rfl))) ?_
  intro W base args ds gs before hval0 hW _ _ hL _
  have hval : ∀ (j : Nat) t v, Tryd.f3.params[j]? = some t → args[j]? = some v → Value.okWide Tryd.prog W .any base t v := hval0
  have hW' := hW
  obtain ⟨p, q, hA0, hV, rfl, hfz, hnd⟩ := hW
  have hA : DataW.TrodAll enc Tryd.prog W 0 (fun _ => true) true Tryd.f3.params.toList args.toList ds p := hA0
  rw [Tryd.params3] at hA hval
  obtain ⟨vv0, vvs0, dd0, dds0, pp0, qq0, hargs, rfl, rfl, hh0, rr0⟩ := trodAll_cons hA
  obtain ⟨vv1, vvs1, dd1, dds1, pp1, qq1, rfl, rfl, rfl, hh1, rr1⟩ := trodAll_cons rr0
  obtain ⟨vv2, vvs2, dd2, dds2, pp2, qq2, rfl, rfl, rfl, hh2, rr2⟩ := trodAll_cons rr1
  obtain ⟨vv3, vvs3, dd3, dds3, pp3, qq3, rfl, rfl, rfl, hh3, rr3⟩ := trodAll_cons rr2
  obtain ⟨rfl, rfl, rfl⟩ := trodAll_nil rr3
  obtain rfl : args = #[vv0, vv1, vv2, vv3] := by cases args; simp_all
  obtain ⟨rfl, rfl⟩ := trodVars_none hV
  have lt0 : ∀ x ∈ pp0, x.block < W.heap.size := by obtain ⟨m, hm⟩ := hh0; exact DataW.trod_lt m _ _ _ hm
  have kk0 := hh0
  have lt1 : ∀ x ∈ pp1, x.block < W.heap.size := by obtain ⟨m, hm⟩ := hh1; exact DataW.trod_lt m _ _ _ hm
  have kk1 := hh1
  have lt2 : ∀ x ∈ pp2, x.block < W.heap.size := by obtain ⟨m, hm⟩ := hh2; exact DataW.trod_lt m _ _ _ hm
  have kk2 := hh2
  have lt3 : ∀ x ∈ pp3, x.block < W.heap.size := by obtain ⟨m, hm⟩ := hh3; exact DataW.trod_lt m _ _ _ hm
  have kk3 := hh3
  obtain ⟨most, rfl, mostl, mostu⟩ := okWide_int' (k := .i64) Tryd.underlying3 (hval 0 3 vv0 rfl rfl)
  obtain ⟨callsa, callsn, callsc, rfl⟩ := okWide_slice Tryd.underlying22 (hval 1 22 vv1 rfl rfl)
  obtain ⟨callsy, callsz, callsw⟩ : ∃ z0 z1, IsPairs W callsa callsn callsc z0 z1 := by
    obtain ⟨fuel, hf⟩ := hh1
    exact open_pairs Tryd.underlying22 Tryd.underlying32 (by kernel_rfl) Tryd.underlying3 (by kernel_rfl) (by simpa [Value.cells] using hf)
  obtain ⟨namesa, namesn, namesc, rfl⟩ := okWide_slice Tryd.underlying23 (hval 2 23 vv2 rfl rfl)
  obtain ⟨namesz, namesw⟩ : ∃ ss, IsNames W namesa namesn namesc ss := by
    obtain ⟨fuel, hf⟩ := hh2
    exact open_names Tryd.underlying23 Tryd.underlying9 (by kernel_rfl) (by simpa [Value.cells] using hf)
  obtain ⟨picsa, picsn, picsc, rfl⟩ := okWide_slice Tryd.underlying24 (hval 3 24 vv3 rfl rfl)
  obtain ⟨picsz, picsw⟩ : ∃ ks, IsFrames W picsa picsn ks ∧ ∀ q, q < picsn → (ks q).an ≤ (ks q).ac ∧ (ks q).ac ≤ maxLen := by
    obtain ⟨fuel, hf⟩ := hh3
    exact open_framesC Tryd.underlying24 Tryd.underlying38 (by kernel_rfl) (by kernel_rfl) Tryd.underlying3 (by kernel_rfl) Tryd.underlying35 (by kernel_rfl) (by kernel_rfl) Tryd.underlying36 (by kernel_rfl) Tryd.underlying50 (by kernel_rfl) (by simpa [Value.cells] using hf)
  clear hA0 hval0
  refine (kc_walk most callsa callsn callsc callsy callsz namesa namesn namesc namesz picsa picsn picsc picsz W ⟨mostl, mostu⟩ callsw namesw picsw).mono fun e W' ⟨he, bel⟩ => ?_
  subst he
  exact ⟨_, rfl, _, _, _, [], _, [], hW', trodAll_mk1 (shut_bool Tryd.underlying4 _), (trodAll_cons_mk (Below.trod laidOut (by kernel_rfl) (of_decide_eq_true (by kernel_rfl)) kk0 bel lt0) (trodAll_cons_mk (Below.trod laidOut (by kernel_rfl) (of_decide_eq_true (by kernel_rfl)) kk1 bel lt1) (trodAll_cons_mk (Below.trod laidOut (by kernel_rfl) (of_decide_eq_true (by kernel_rfl)) kk2 bel lt2) (trodAll_cons_mk (Below.trod laidOut (by kernel_rfl) (of_decide_eq_true (by kernel_rfl)) kk3 bel lt3) trodAll_mk0)))), rfl, bel.frame _, fun h => by cases h⟩

theorem over : Rows.cachesMatchRow.holds Tryd.pinned (OpenSpec.ofChange Rows.cachesMatchSpec) :=
  OpenClaim.holds_of_wide 3 Tryd.f3 rfl rfl rfl rfl rfl rfl rfl ⟨rfl, rfl, rfl, rfl, rfl⟩ rfl rfl rfl rfl rfl (by kernel_rfl) Tryd.func3 (by kernel_rfl)
    (of_decide_eq_true (by kernel_rfl)) (by unfold Func.isWrapper; first | (rw [if_pos (by decide +kernel)]; kernel_rfl) | (rw [if_neg (by decide +kernel)]; exact ⟨rfl, rfl⟩))
    (fun os started H enc _ => lifted os started H enc)

theorem shut : Claim7.holds Tryd.pinned (.plain (OpenSpec.ofChange Rows.cachesMatchSpec)) Rows.cachesMatchCard :=
  Claim7.holds_tied_plain_at .later [] [.data, .pinned] true (true, "2cb8f75ec417080d3ea8335714d09d98e3e26ca310f948ee066b0799fe9b3056") true over (fun _ h => by cases h) (by kernel_rfl) (fun _ h => by cases h) cachesMatch_row_tie rfl ⟨rfl, rfl⟩ (by kernel_rfl) rfl
    (fun f fn hf hfn => by
      obtain rfl : f = 3 := Option.some.inj ((show Tryd.prog.funcNamed "dyehouse/dyelaw2.CachesMatch" = some 3 by kernel_rfl).symm.trans hf) |>.symm
      obtain rfl : fn = Tryd.f3 := (Option.some.inj (Tryd.func3.symm.trans hfn)).symm
      exact ⟨by kernel_rfl, fun j t ht => by
        rw [Tryd.params3] at ht
        have hm : t ∈ [3, 22, 23, 24] := by simpa using Array.mem_of_getElem? ht
        have hall : ([3, 22, 23, 24].all fun u => !Tryd.prog.wantsStandIn u) = true := by kernel_rfl
        exact (show Tryd.prog.wantsStandIn t = false by simpa using List.all_eq_true.1 hall t hm)⟩)
    (by kernel_rfl)
/-- THE STATEMENT -/
theorem proved : Rows.CachesMatchCardSaid := shut
#print axioms proved
end Go.Proofs.YtcdcfkgdgimmcaaDoor.CachesMatch
