/- dyelaw2.SpacesMatch: its given statement, out of its walk. No condition. -/
import Derived.Test.YtfmdnibfeckmaaaDoorRows
import Derived.Test.YtfmdnibfeckmaaaDoorCards
import Derived.Test.YtfmdnibfeckmaaaDoorTie
import Derived.Test.YtfmdnibfeckmaaaDoorLawSm
import Derived.Test.YtfmdnibfeckmaaaDoorBO
import Derived.Lay
import Derived.LaidOnce
import Derived.SevenTiedAt
namespace Go.Proofs.YtfmdnibfeckmaaaDoor.SpacesMatch
open Go Go.RowKit Go.ChangeShapes Go.WideShapes Go.ChangeAt
open Go.ChangeMaps (open_string shut_string)

abbrev laid := Rows.spacesMatchRow.laid
/-- A string by value, inside a struct. -/
theorem cell_string {P : Program} {w : World} {r : Reach} {b0 : Nat} {u : TypeId} {c : Value} (hu : P.underlying u = some .string) (h : Cell.okWide P w r b0 u c) : ∃ s, c = .string s ∧ (s.size : Int) ≤ IntKind.i64.max := by
  simp only [Cell.okWide, hu] at h
  cases c <;> simp_all [Cell.ok]
theorem own : ownKnob Tryd.prog.godebug = none := by kernel_rfl
theorem laidOut : laidOutB Tryd.prog = true := by kernel_rfl
set_option maxRecDepth 100000 in
theorem lifted (os : Os) (started : os.Started) (H : Type) (enc : TypeId × Value → H) :
    ReturnsInHanded {} Tryd.checked os 3 .any (fun w args => (Rows.spacesMatchSpec.pre enc Tryd.prog Tryd.f3 [] false w args ∧ laidMetH Tryd.prog laid w) ∧ sizedMet enc Tryd.prog Tryd.f3 (OpenSpec.ofChange Rows.spacesMatchSpec) false w args)
      (Rows.spacesMatchSpec.post enc Tryd.prog Tryd.f3 false true false false) := by
  refine returnsInHanded_of_change_and (C := Tryd.checked) (X := fun w _ => laidMetH Tryd.prog laid w) (fun _ _ _ hh h => h.of_heap hh) own started (by kernel_rfl) Tryd.func3
    (ChangeSpec.witness_shaped (enc := enc) (C := Tryd.checked) (os := os) (X := fun w _ => laidMetH Tryd.prog laid w) false (World.laidAll Tryd.prog os laid) #[.agg #[.string ⟨#[]⟩, .float .f32 0, .float .f32 0, .float .f32 0, .float .f32 0, .float .f32 0, .float .f32 0, .float .f32 0, .float .f32 0, .int .i64 0, .float .f32 0, .float .f32 0, .float .f32 0], .string ⟨#[]⟩] 8 (World.laidAll_os _ _ _)
      (World.shaped_of_ZipB (by kernel_rfl) (by kernel_rfl)) (by kernel_rfl) (by kernel_rfl) (by kernel_rfl)
      (by rw [MakeChecks.laidMetH_plain _ _ _ (by kernel_rfl)]; exact laidMet_laidAll _ (by kernel_rfl) (by kernel_rfl))) ?_
  intro W base args ds gs before hval0 hW _ _ hL _
  have hval : ∀ (j : Nat) t v, Tryd.f3.params[j]? = some t → args[j]? = some v → Value.okWide Tryd.prog W .any base t v := hval0
  have hW' := hW
  obtain ⟨p, q, hA0, hV, rfl, hfz, hnd⟩ := hW
  have hA : DataW.TrodAll enc Tryd.prog W 0 (fun _ => true) true Tryd.f3.params.toList args.toList ds p := hA0
  rw [Tryd.params3] at hA hval
  obtain ⟨vv0, vvs0, dd0, dds0, pp0, qq0, hargs, rfl, rfl, hh0, rr0⟩ := trodAll_cons hA
  obtain ⟨vv1, vvs1, dd1, dds1, pp1, qq1, rfl, rfl, rfl, hh1, rr1⟩ := trodAll_cons rr0
  obtain ⟨rfl, rfl, rfl⟩ := trodAll_nil rr1
  obtain rfl : args = #[vv0, vv1] := by cases args; simp_all
  obtain ⟨rfl, rfl⟩ := trodVars_none hV
  have lt0 : ∀ x ∈ pp0, x.block < W.heap.size := by obtain ⟨m, hm⟩ := hh0; exact DataW.trod_lt m _ _ _ hm
  have kk0 := hh0
  have lt1 : ∀ x ∈ pp1, x.block < W.heap.size := by obtain ⟨m, hm⟩ := hh1; exact DataW.trod_lt m _ _ _ hm
  have kk1 := hh1
  obtain ⟨scs, rfl, sln, sok⟩ := agg_cells (us := [9, 22, 22, 22, 22, 22, 22, 22, 22, 3, 22, 22, 22]) (by simp only [Tryd.underlying30]) (by kernel_rfl) (by kernel_rfl) (hval 0 30 vv0 rfl rfl)
  obtain ⟨sq0, sm0, rfl, sh0⟩ := list1 sln
  obtain ⟨sq1, sm1, rfl, sh1⟩ := list1 sh0
  obtain ⟨sq2, sm2, rfl, sh2⟩ := list1 sh1
  obtain ⟨sq3, sm3, rfl, sh3⟩ := list1 sh2
  obtain ⟨sq4, sm4, rfl, sh4⟩ := list1 sh3
  obtain ⟨sq5, sm5, rfl, sh5⟩ := list1 sh4
  obtain ⟨sq6, sm6, rfl, sh6⟩ := list1 sh5
  obtain ⟨sq7, sm7, rfl, sh7⟩ := list1 sh6
  obtain ⟨sq8, sm8, rfl, sh8⟩ := list1 sh7
  obtain ⟨sq9, sm9, rfl, sh9⟩ := list1 sh8
  obtain ⟨sq10, sm10, rfl, sh10⟩ := list1 sh9
  obtain ⟨sq11, sm11, rfl, sh11⟩ := list1 sh10
  obtain ⟨sq12, sm12, rfl, sh12⟩ := list1 sh11
  obtain rfl := list0 sh12
  obtain ⟨s0, rfl, s0l⟩ := cell_string Tryd.underlying9 (sok 0 9 _ rfl rfl)
  obtain ⟨s1, rfl, s1l⟩ := cell_float (k := .f32) Tryd.underlying22 (sok 1 22 _ rfl rfl)
  obtain ⟨s2, rfl, s2l⟩ := cell_float (k := .f32) Tryd.underlying22 (sok 2 22 _ rfl rfl)
  obtain ⟨s3, rfl, s3l⟩ := cell_float (k := .f32) Tryd.underlying22 (sok 3 22 _ rfl rfl)
  obtain ⟨s4, rfl, s4l⟩ := cell_float (k := .f32) Tryd.underlying22 (sok 4 22 _ rfl rfl)
  obtain ⟨s5, rfl, s5l⟩ := cell_float (k := .f32) Tryd.underlying22 (sok 5 22 _ rfl rfl)
  obtain ⟨s6, rfl, s6l⟩ := cell_float (k := .f32) Tryd.underlying22 (sok 6 22 _ rfl rfl)
  obtain ⟨s7, rfl, s7l⟩ := cell_float (k := .f32) Tryd.underlying22 (sok 7 22 _ rfl rfl)
  obtain ⟨s8, rfl, s8l⟩ := cell_float (k := .f32) Tryd.underlying22 (sok 8 22 _ rfl rfl)
  obtain ⟨s9, rfl, s9l, s9u⟩ := cell_int (k := .i64) Tryd.underlying3 (sok 9 3 _ rfl rfl)
  obtain ⟨s10, rfl, s10l⟩ := cell_float (k := .f32) Tryd.underlying22 (sok 10 22 _ rfl rfl)
  obtain ⟨s11, rfl, s11l⟩ := cell_float (k := .f32) Tryd.underlying22 (sok 11 22 _ rfl rfl)
  obtain ⟨s12, rfl, s12l⟩ := cell_float (k := .f32) Tryd.underlying22 (sok 12 22 _ rfl rfl)
  obtain ⟨m, rfl, -, -, ml⟩ := open_string Tryd.underlying9 (hval 1 9 vv1 rfl rfl) hh1
  clear hA0 hval0
  refine (sm_walk s0 s1 s2 s3 s4 s5 s6 s7 s8 s9 s10 s11 s12 m W (by have := s0l; simp [IntKind.max, IntKind.signed, IntKind.bits] at this; omega)).mono fun e W' ⟨he, bel⟩ => ?_
  subst he
  exact ⟨_, rfl, _, _, _, [], _, [], hW', trodAll_mk1 (shut_bool Tryd.underlying4 _), (trodAll_cons_mk (Below.trod laidOut (by kernel_rfl) (of_decide_eq_true (by kernel_rfl)) kk0 bel lt0) (trodAll_cons_mk (Below.trod laidOut (by kernel_rfl) (of_decide_eq_true (by kernel_rfl)) kk1 bel lt1) trodAll_mk0)), rfl, bel.frame _, fun h => by cases h⟩

theorem over : Rows.spacesMatchRow.holds Tryd.pinned (OpenSpec.ofChange Rows.spacesMatchSpec) :=
  OpenClaim.holds_of_wide 3 Tryd.f3 rfl rfl rfl rfl rfl rfl rfl ⟨rfl, rfl, rfl, rfl, rfl⟩ rfl rfl rfl rfl rfl (by kernel_rfl) Tryd.func3 (by kernel_rfl)
    (of_decide_eq_true (by kernel_rfl)) (by unfold Func.isWrapper; first | (rw [if_pos (by decide +kernel)]; kernel_rfl) | (rw [if_neg (by decide +kernel)]; exact ⟨rfl, rfl⟩))
    (fun os started H enc _ => lifted os started H enc)

theorem shut : Claim7.holds Tryd.pinned (.plain (OpenSpec.ofChange Rows.spacesMatchSpec)) Rows.spacesMatchCard :=
  Claim7.holds_tied_plain_at .later [] [.data, .pinned] true (true, "65e9ab1665888b383f509638317a1cc3ecceadd95d684554ca69f38bd18481e7") false over (fun _ h => by cases h) (by kernel_rfl) (fun _ h => by cases h) spacesMatch_row_tie rfl ⟨rfl, rfl⟩ (by kernel_rfl) rfl
    (fun f fn hf hfn => by
      obtain rfl : f = 3 := Option.some.inj ((show Tryd.prog.funcNamed "dyehouse/dyelaw2.SpacesMatch" = some 3 by kernel_rfl).symm.trans hf) |>.symm
      obtain rfl : fn = Tryd.f3 := (Option.some.inj (Tryd.func3.symm.trans hfn)).symm
      exact ⟨by kernel_rfl, fun j t ht => by
        rw [Tryd.params3] at ht
        have hm : t ∈ [30, 9] := by simpa using Array.mem_of_getElem? ht
        have hall : ([30, 9].all fun u => !Tryd.prog.wantsStandIn u) = true := by kernel_rfl
        exact (show Tryd.prog.wantsStandIn t = false by simpa using List.all_eq_true.1 hall t hm)⟩)
    (by kernel_rfl)
/-- THE STATEMENT -/
theorem proved : Rows.SpacesMatchCardSaid := shut
#print axioms proved
end Go.Proofs.YtfmdnibfeckmaaaDoor.SpacesMatch
