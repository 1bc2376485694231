/- The frame of a statement whose row lists variables of the library's: what they hold goes to the walk (LibN). The rows of the nodes family. No condition. -/
import Derived.Test.YtbaocallhnehfaaGreatDoorRows
import Derived.Test.YtbaocallhnehfaaGreatDoorQD
import Derived.Handed
import Derived.MakeChecks
import Derived.LaidLaws
namespace Go
variable {H : Type} {enc : TypeId × Value → H}
/-- The plain wrap with a fact on the world and the world's shape kept. -/
theorem returnsInHanded_of_change_and_shaped {a : Assume} {C : Checked} {os : Os} {f : FuncId} {fn : Func} {s : ChangeSpec} {conds : List PathCond} {apart fresh handsOn again : Bool} {X : World → Array Value → Prop}
    (hX : ∀ (w w' : World) (args : Array Value), w.heap = w'.heap → X w args → X w' args)
    (own : ownKnob C.prog.godebug = none) (started : os.Started) (noInit : C.prog.inits.idxOf? f = none) (hfn : C.prog.funcs[f]? = some fn)
    (witness : ∃ (w : World) (tape : Tape) (i : Input), w.os = os ∧ (w.forCall tape i).Shaped C.prog ∧ i.vars = [] ∧ Input.okWide C.prog (w.forCall tape i) .any w.heap.size f i ∧
      ((s.pre enc C.prog fn conds apart (w.forCall tape i).memory i.args ∧ X (w.forCall tape i).memory i.args) ∧ sizedMet enc C.prog fn (OpenSpec.ofChange s) apart (w.forCall tape i).memory i.args) ∧ a.holds C.prog (lone (Frame.enter C.prog f i.args .normal) [] (w.forCall tape i)))
    (contract : ∀ (W : World) (base : Nat) (args : Array Value) (ds gs : List (DataW H)) (before : List MemPlace),
      (∀ (j : Nat) t v, fn.params[j]? = some t → args[j]? = some v → Value.okWide C.prog W .any base t v) →
      DataW.Whole enc C.prog fn.params.toList s.vars apart W args.toList ds gs before →
      conds.all (PathCond.test C.prog ⟨fn.params.toList, ds, s.plain.varTypes C.prog, gs⟩) = true →
      (DataW.weightsEach C.prog (fn.params.toList ++ s.plain.varTypes C.prog) (ds ++ gs)).all (· ≤ reachBytes) = true → X W args →
      W.ShapedOpen C.prog →
      a.holds C.prog (lone (Frame.enter C.prog f args .normal) [] W) →
      Calls C.prog f args W fun e W' => ∃ v, e = .returned v ∧ s.post enc C.prog fn apart fresh handsOn again W args v W') :
    ReturnsInHanded a C os f .any (fun w args => (s.pre enc C.prog fn conds apart w args ∧ X w args) ∧ sizedMet enc C.prog fn (OpenSpec.ofChange s) apart w args) (s.post enc C.prog fn apart fresh handsOn again) := by
  refine returnsInHanded_of_calls own started noInit witness ?_
  intro w tape i _ hsh _ hok hpre hholds
  obtain ⟨_, _, _, fn', hfn', _, _, _, _, hval⟩ := hok
  have e : fn' = fn := Option.some.inj (hfn'.symm.trans hfn)
  subst e
  obtain ⟨⟨⟨ds, gs, before, hw, hc⟩, hx⟩, hz⟩ := hpre
  have hw' := DataW.Whole.of_heap (w' := w.forCall tape i) (by rfl) hw
  refine (contract (w.forCall tape i) w.heap.size i.args ds gs before hval hw' hc (hz.weights hw) (hX _ _ _ (by rfl) hx) hsh hholds).mono fun e W' ⟨v, he, hp⟩ => ?_
  subst he
  exact ChangeSpec.post_blind hp
end Go
namespace Go.Proofs.YtbaocallhnehfaaGreatDoor
open Go Go.RowKit Go.Lib
theorem lTab : (Rows.laid_internal_strconv_uint64pow10 : DataW Unit) = Lib.tabData .u64 Lib.pow10Tab := by kernel_rfl
theorem lRow : ∀ u : TypeId, Tryz.prog.typeName? 3 u = some "*errors.errorString" → u = 215 := fun u h =>
  typeName_ptr_named (nm := "errors.errorString") (by rw [show "*" ++ "errors.errorString" = "*errors.errorString" by decide]; kernel_rfl) (by kernel_rfl) (by decide) u (by rw [show "*" ++ "errors.errorString" = "*errors.errorString" by decide]; exact h)
theorem gOpt : Tryz.prog.globalNamed "internal/strconv.optimize" = some 10 := by kernel_rfl
theorem libN_of {W : World} (h : laidMetH Tryz.prog Rows.compilesAsSaidRow.laid W) (hsh : W.ShapedOpen Tryz.prog) : LibN W := by
  rw [MakeChecks.laidMetH_plain _ _ _ (by kernel_rfl)] at h
  have h4 : laidMet Tryz.prog (("internal/strconv.optimize", Rows.laid_internal_strconv_optimize) :: _) W := h.tail.tail.tail.tail
  have h8 : laidMet Tryz.prog (("internal/strconv.uint64pow10", Rows.laid_internal_strconv_uint64pow10) :: _) W := h4.tail.tail.tail.tail
  rw [lTab] at h8
  have h10 : laidMet Tryz.prog (("strconv.ErrRange", Rows.laid_strconv_ErrRange) :: _) W := h8.tail.tail
  refine ⟨⟨Tryz.laysM145.s1_3 W hsh, ?_, ?_, ?_⟩, ?_⟩
  · exact Lib.tabIs_of_head gTab (by kernel_rfl) Tryz.underlying192 Tryz.underlying168 (by kernel_rfl) (by kernel_rfl) h8
  · obtain ⟨a0, s0, hv, -, -, -⟩ := laid_sentinel (ti := 124) (tp := 215) (te := 217) (ts := 9) h10.tail gSyn (by kernel_rfl) Tryz.underlying124 lRow Tryz.underlying215 Tryz.underlying217 rfl rfl Tryz.underlying9 (by kernel_rfl) (by kernel_rfl)
    exact ⟨_, _, hv⟩
  · obtain ⟨a0, s0, hv, -, -, -⟩ := laid_sentinel (ti := 124) (tp := 215) (te := 217) (ts := 9) h10 gRng (by kernel_rfl) Tryz.underlying124 lRow Tryz.underlying215 Tryz.underlying217 rfl rfl Tryz.underlying9 (by kernel_rfl) (by kernel_rfl)
    exact ⟨_, _, hv⟩
  · obtain ⟨ps, ⟨g', t', cs, fuel, p, q, hg', ht', hvar, hd, _, _⟩, _⟩ := h4
    obtain rfl := Option.some.inj (gOpt.symm.trans hg')
    have ht : (Tryz.prog.globals[10]?).map (·.type) = some 4 := by kernel_rfl
    obtain rfl := Option.some.inj (ht.symm.trans ht')
    obtain ⟨v, hcs, hv⟩ := DataW.trod_bool Tryz.underlying4 hd
    have e : v = true := by
      have h1 : (Rows.laid_internal_strconv_optimize : DataW Unit) = .lit (.bool v) := congrArg Prod.fst hv
      have h2 : (Rows.laid_internal_strconv_optimize : DataW Unit) = .lit (.bool true) := rfl
      rw [h2] at h1
      injection h1 with h1
      injection h1 with h1
      exact h1.symm
    subst e
    have h3 := World.var?_cell gOpt hvar 0
    have h5 : cs[0]? = some (.bool true) := by rw [← Array.getElem?_toList, hcs]; rfl
    rw [← h5]
    simpa using h3
end Go.Proofs.YtbaocallhnehfaaGreatDoor
