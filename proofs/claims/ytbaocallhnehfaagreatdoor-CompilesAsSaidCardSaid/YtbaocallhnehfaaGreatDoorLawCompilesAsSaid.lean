/- dyelaw2.CompilesAsSaid: its given statement, out of its walk. No condition. -/
import Derived.Test.YtbaocallhnehfaaGreatDoorRows
import Derived.Test.YtbaocallhnehfaaGreatDoorCards
import Derived.Test.YtbaocallhnehfaaGreatDoorTie
import Derived.Test.YtbaocallhnehfaaGreatDoorLawCs2
import Derived.Test.YtbaocallhnehfaaGreatDoorBO
import Derived.Test.YtbaocallhnehfaaGreatDoorPrO
import Derived.Test.YtbaocallhnehfaaGreatDoorDoorN
import Derived.Lay
import Derived.LaidOnce
import Derived.SevenTiedAt
namespace Go.Proofs.YtbaocallhnehfaaGreatDoor.CompilesAsSaid
open Go Go.RowKit Go.ChangeShapes Go.WideShapes Go.ChangeAt
open Go.ChangeMaps (open_string shut_string)

abbrev laid := Rows.compilesAsSaidRow.laid
/-- A string by value, inside a struct. -/
theorem cell_string {P : Program} {w : World} {r : Reach} {b0 : Nat} {u : TypeId} {c : Value} (hu : P.underlying u = some .string) (h : Cell.okWide P w r b0 u c) : ∃ s, c = .string s ∧ (s.size : Int) ≤ IntKind.i64.max := by
  simp only [Cell.okWide, hu] at h
  cases c <;> simp_all [Cell.ok]
theorem own : ownKnob Tryz.prog.godebug = none := by kernel_rfl
theorem laidOut : laidOutB Tryz.prog = true := by kernel_rfl
set_option maxRecDepth 100000 in
theorem lifted (os : Os) (started : os.Started) (H : Type) (enc : TypeId × Value → H) :
    ReturnsInHanded {} Tryz.checked os 3 .any (fun w args => (Rows.compilesAsSaidSpec.pre enc Tryz.prog Tryz.f3 [] false w args ∧ laidMetH Tryz.prog laid w) ∧ sizedMet enc Tryz.prog Tryz.f3 (OpenSpec.ofChange Rows.compilesAsSaidSpec) false w args)
      (Rows.compilesAsSaidSpec.post enc Tryz.prog Tryz.f3 false true false false) := by
  refine returnsInHanded_of_change_and_shaped (C := Tryz.checked) (X := fun w _ => laidMetH Tryz.prog laid w) (fun _ _ _ hh h => h.of_heap hh) own started (by kernel_rfl) Tryz.func3
    (ChangeSpec.witness_shaped (enc := enc) (C := Tryz.checked) (os := os) (X := fun w _ => laidMetH Tryz.prog laid w) false (World.laidAll Tryz.prog os laid) #[.agg #[.slice none 0 0, .string ⟨#[]⟩]] 8 (World.laidAll_os _ _ _)
      (World.shaped_of_ZipB (by kernel_rfl) (by kernel_rfl)) (by kernel_rfl) (by kernel_rfl) (by kernel_rfl)
      (by rw [MakeChecks.laidMetH_plain _ _ _ (by kernel_rfl)]; exact laidMet_laidAll _ (by kernel_rfl) (by kernel_rfl))) ?_
  intro W base args ds gs before hval0 hW _ _ hL hsh _
  have hLW := libN_of hL hsh
  have hval : ∀ (j : Nat) t v, Tryz.f3.params[j]? = some t → args[j]? = some v → Value.okWide Tryz.prog W .any base t v := hval0
  have hW' := hW
  obtain ⟨p, q, hA0, hV, rfl, hfz, hnd⟩ := hW
  have hA : DataW.TrodAll enc Tryz.prog W 0 (fun _ => true) true Tryz.f3.params.toList args.toList ds p := hA0
  rw [Tryz.params3] at hA hval
  obtain ⟨vv0, vvs0, dd0, dds0, pp0, qq0, hargs, rfl, rfl, hh0, rr0⟩ := trodAll_cons hA
  obtain ⟨rfl, rfl, rfl⟩ := trodAll_nil rr0
  obtain rfl : args = #[vv0] := by cases args; simp_all
  obtain ⟨rfl, rfl⟩ := trodVars_none hV
  have lt0 : ∀ x ∈ pp0, x.block < W.heap.size := by obtain ⟨m, hm⟩ := hh0; exact DataW.trod_lt m _ _ _ hm
  have kk0 := hh0
  obtain ⟨pcs, rfl, pln, pok⟩ := agg_cells (us := [22, 9]) (by simp only [Tryz.underlying24]) (by kernel_rfl) (by kernel_rfl) (hval 0 24 vv0 rfl rfl)
  obtain ⟨pq0, pm0, rfl, ph0⟩ := list1 pln
  obtain ⟨pq1, pm1, rfl, ph1⟩ := list1 ph0
  obtain rfl := list0 ph1
  obtain ⟨p0a, p0n, p0c, rfl⟩ := cell_slice Tryz.underlying22 (pok 0 22 _ rfl rfl)
  obtain ⟨p0z, p0w⟩ : ∃ S, StepsAt W p0a p0c p0n S := by
    obtain ⟨fm, fh⟩ := hh0
    obtain ⟨fm2, fy2, fh2⟩ := trod_field (i := 0) (off := 0) (ts := 22) Tryz.underlying24 rfl fh
    have fe : Tryz.prog.cellsOf 22 = 1 := by kernel_rfl
    rw [fe] at fh2
    exact open_prog (by simpa [Value.cells] using fh2)
  obtain ⟨p1, rfl, p1l⟩ := cell_string Tryz.underlying9 (pok 1 9 _ rfl rfl)
  clear hA0 hval0
  refine (co_walk p0a p0c p0n p0z p1 W hLW p0w (by have := p1l; simp [IntKind.max, IntKind.signed, IntKind.bits] at this; first | omega | (unfold maxLen; omega))).mono fun e W' ⟨he, bel⟩ => ?_
  subst he
  exact ⟨_, rfl, _, _, _, [], _, [], hW', trodAll_mk1 (shut_bool Tryz.underlying4 _), (trodAll_cons_mk (Below.trod laidOut (by kernel_rfl) (of_decide_eq_true (by kernel_rfl)) kk0 bel lt0) trodAll_mk0), rfl, bel.frame _, fun h => by cases h⟩

set_option maxHeartbeats 12800000 in
theorem facts : joinedFacts Tryz.pinned.checked.prog 3 Tryz.f3 Rows.compilesAsSaidSpec Rows.compilesAsSaidRow = true := by
  unfold joinedFacts
  simp only [Bool.and_eq_true]
  and_intros
  all_goals as_aux_lemma => kernel_rfl
theorem named_f : Tryz.pinned.checked.prog.funcNamed Rows.compilesAsSaidRow.func = some 3 := by kernel_rfl
theorem inst_f : Tryz.f3.isInstance Tryz.pinned.checked.prog Rows.compilesAsSaidRow.origin Rows.compilesAsSaidRow.targs := of_decide_eq_true (by kernel_rfl)
theorem over : Rows.compilesAsSaidRow.holds Tryz.pinned (OpenSpec.ofChange Rows.compilesAsSaidSpec) :=
  OpenClaim.holds_of_wide 3 Tryz.f3 rfl rfl rfl rfl rfl rfl rfl ⟨rfl, rfl, rfl, rfl, rfl⟩ rfl rfl rfl rfl rfl named_f Tryz.func3 facts
    inst_f (by unfold Func.isWrapper; first | (rw [if_pos (by decide +kernel)]; kernel_rfl) | (rw [if_neg (by decide +kernel)]; exact ⟨rfl, rfl⟩))
    (fun os started H enc _ => lifted os started H enc)

theorem shut : Claim7.holds Tryz.pinned (.plain (OpenSpec.ofChange Rows.compilesAsSaidSpec)) Rows.compilesAsSaidCard :=
  Claim7.holds_tied_plain_at .later [] [.data, .data, .widerDeep, .widerDeep, .data, .data, .data, .data, .data, .data, .sentinel, .sentinel, .pinned, .pinned, .pinned] true (true, "8060fe71c6d88646d810a8cfc6056f74fe1f0081683d09e1d9fac16ad510a58e") true over (fun _ h => by cases h) (by kernel_rfl) (fun _ h => by cases h) compilesAsSaid_row_tie rfl ⟨rfl, rfl⟩ (by kernel_rfl) rfl
    (fun f fn hf hfn => by
      obtain rfl : f = 3 := Option.some.inj ((show Tryz.prog.funcNamed "dyehouse/dyelaw2.CompilesAsSaid" = some 3 by kernel_rfl).symm.trans hf) |>.symm
      obtain rfl : fn = Tryz.f3 := (Option.some.inj (Tryz.func3.symm.trans hfn)).symm
      exact ⟨by kernel_rfl, fun j t ht => by
        rw [Tryz.params3] at ht
        have hm : t ∈ [24] := by simpa using Array.mem_of_getElem? ht
        have hall : ([24].all fun u => !Tryz.prog.wantsStandIn u) = true := by kernel_rfl
        exact (show Tryz.prog.wantsStandIn t = false by simpa using List.all_eq_true.1 hall t hm)⟩)
    (by kernel_rfl)
/-- THE STATEMENT -/
theorem proved : Rows.CompilesAsSaidCardSaid := shut
#print axioms proved
end Go.Proofs.YtbaocallhnehfaaGreatDoor.CompilesAsSaid
