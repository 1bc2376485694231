/- A region that draws its order, whose operations may draw and make memory of their own: one walk in the text's order serves every order. A plain law of the walk, over any program. No condition. -/
import Derived.Test.YtefjkelakecanaaVal
import Derived.StillTailTactics
import Derived.KernelRfl
namespace Go.Proofs.Ytefjkelakecanaa
open Go Go.RowKit

/-- A world in which all that W holds is as it was. -/
structure Past (W : World) where
  w : World
  h : Below W.heap.size W w
@[go_sem] theorem Past.cell {W : World} (p : Past W) (b o : Nat) (hb : b < W.heap.size) : p.w.cell? ⟨b, o, none⟩ = W.cell? ⟨b, o, none⟩ := p.h.cell (p := ⟨b, o, none⟩) hb
@[go_sem] theorem Past.frozen {W : World} (p : Past W) (b o : Nat) (hb : b < W.heap.size) : p.w.frozen? ⟨b, o, none⟩ = W.frozen? ⟨b, o, none⟩ := p.h.frozen (p := ⟨b, o, none⟩) hb

section
variable {P : Program} {ops : Array Oper} {W : World} {Ψ : FuncId → Array Value → Value → Prop}

/-- What an operation may give: the value, or what a called function may hand back. -/
def Gives (Ψ : FuncId → Array Value → Value → Prop) (v : Value) : Result Next → Prop
  | .ok (.value u) _ => u = v
  | .ok .skip _ => v = undef
  | .ok (.enter f args) _ => Ψ f args v
  | _ => False
/-- That it goes well, and leaves what W holds as it was. -/
def Goes (P : Program) (W : World) (Ψ : FuncId → Array Value → Value → Prop) : Result Next → Prop
  | .ok (.value _) w' => Below W.heap.size W w'
  | .ok .skip w' => Below W.heap.size W w'
  | .ok (.enter f args) w' => Below W.heap.size W w' ∧ Calls P f args w' fun e w'' => ∃ u, e = .returned u ∧ Ψ f args u ∧ Below W.heap.size W w''
  | _ => False
def Lo (P : Program) (W : World) (Ψ : FuncId → Array Value → Value → Prop) (ev : Operand → Value) (o : Oper) (v : Value) : Prop := ∃ p : Past W, Gives Ψ v ((execOp ev o).run P p.w)
def Safe (P : Program) (W : World) (Ψ : FuncId → Array Value → Value → Prop) (ev : Operand → Value) (o : Oper) : Prop := ∀ p : Past W, Goes P W Ψ ((execOp ev o).run P p.w)

theorem lo_some {ev : Operand → Value} {o : Oper} (h : Safe P W Ψ ev o) : ∃ v, Lo P W Ψ ev o v := by
  have hp := h ⟨W, Below.refl _ _⟩
  cases hr : (execOp ev o).run P W with
  | ok n w' =>
    rw [hr] at hp
    cases n <;> simp only [Goes] at hp
    case value u => exact ⟨u, ⟨W, Below.refl _ _⟩, by rw [hr]; rfl⟩
    case skip => exact ⟨undef, ⟨W, Below.refl _ _⟩, by rw [hr]; rfl⟩
    case enter f args =>
      obtain ⟨e, w'', fr, ⟨u, -, hu, -⟩, -⟩ := hp.2 []
      exact ⟨u, ⟨W, Below.refl _ _⟩, by rw [hr]; exact hu⟩
  | halt x w' => rw [hr] at hp; exact hp.elim

/-- One operation, whatever it gives. -/
def lOp (P : Program) (ops : Array Oper) (W : World) (Ψ : FuncId → Array Value → Value → Prop) (o : Oper) (K : Act → Prop) (a : Act) : Prop :=
  if Region.wanted o (yielded ops a.tmps) then Safe P W Ψ a.eval o ∧ ∀ v, Lo P W Ψ a.eval o v → K (a.put o.dst v) else K (a.put o.dst undef)
/-- The walk in the text's order. -/
def wpLoose (P : Program) (ops : Array Oper) (W : World) (Ψ : FuncId → Array Value → Value → Prop) (L : Act → Prop) : List Oper → Act → Prop
  | [], a => L a
  | o :: rest, a => lOp P ops W Ψ o (wpLoose P ops W Ψ L rest) a
/-- Every order of the first n operations. -/
def wpEach (P : Program) (ops : Array Oper) (W : World) (Ψ : FuncId → Array Value → Value → Prop) (n : Nat) (L : Array Bool → Act → Prop) : Nat → Array Bool → Act → Prop
  | 0, listed, a => L listed a
  | f + 1, listed, a => Region.ready .any ops listed ≠ [] ∧ ∀ i ∈ Region.ready .any ops listed, i < n ∧ ∀ o, ops[i]? = some o → lOp P ops W Ψ o (wpEach P ops W Ψ n L f (listed.setIfInBounds i true)) a

theorem lOp_mono {o : Oper} {K K' : Act → Prop} {a : Act} (h : ∀ a, K a → K' a) (hh : lOp P ops W Ψ o K a) : lOp P ops W Ψ o K' a := by
  unfold lOp at *
  split
  · rename_i hw; rw [if_pos hw] at hh; exact ⟨hh.1, fun v hv => h _ (hh.2 v hv)⟩
  · rename_i hw; rw [if_neg hw] at hh; exact h _ hh
/-- An operation in any such world. -/
theorem wpOp_of_lOp {Q : Exit → Act → World → Prop} {i : Nat} {o : Oper} {K : Act → Prop} {K' : Act → World → Prop} {a : Act} {w : World} (hi : ops[i]? = some o) (hw : Below W.heap.size W w)
    (hk : ∀ a w, K a → Below W.heap.size W w → K' a w) (h : lOp P ops W Ψ o K a) : wpOp P ops Q i K' a w := by
  unfold wpOp
  rw [hi]
  simp only []
  unfold lOp at h
  split
  · rename_i hw'
    rw [if_pos hw'] at h
    obtain ⟨hs, hl⟩ := h
    refine .inl ?_
    unfold Oper.wp
    have h1 := hs ⟨w, hw⟩
    have h2 : ∀ v, Gives Ψ v ((execOp a.eval o).run P w) → K (a.put o.dst v) := fun v hv => hl v ⟨⟨w, hw⟩, hv⟩
    simp only [] at h1
    cases hr : (execOp a.eval o).run P w with
    | ok n w' =>
      rw [hr] at h1 h2
      cases n <;> simp only [Goes, Gives] at h1 h2
      case value u => exact hk _ _ (h2 u rfl) h1
      case skip => exact hk _ _ (h2 undef rfl) h1
      case enter f args =>
        refine Calls.mono h1.2 ?_
        rintro e w'' ⟨u, rfl, hu, hb⟩
        exact hk _ _ (h2 u hu) hb
    | halt x w' => rw [hr] at h1; exact h1.elim
  · rename_i hw'; rw [if_neg hw'] at h; exact hk _ _ h hw
theorem safe_put {o : Oper} (hs : ∀ cs b, o.op ≠ .select cs b) {a : Act} {dst : Option Tmp} {v : Value} (h : ∀ d, dst = some d → d ∉ o.looksAt ops) :
    (Safe P W Ψ (a.put dst v).eval o = Safe P W Ψ a.eval o) ∧ ∀ u, Lo P W Ψ (a.put dst v).eval o u = Lo P W Ψ a.eval o u := by
  have e := execOp_put o hs a dst v h
  exact ⟨by unfold Safe; rw [e], fun u => by unfold Lo; rw [e]⟩

/-- The first operation of the text may be taken first. -/
theorem wpEach_first {n i : Nat} {oi : Oper} {L : Array Bool → Act → Prop} (hi : ops[i]? = some oi) (hsel : ∀ (j : Nat) (o : Oper) cs b, ops[j]? = some o → o.op ≠ .select cs b)
    (hs : Region.sinkB .any ops n = true) (hc : Region.chainB .any ops n = true) (hn : n < ops.size) (hin : i < n)
    (hdone : ∀ listed a, L listed a → ∀ j ∈ Region.ready .any ops listed, n ≤ j) :
    ∀ (f : Nat) (listed : Array Bool) (a : Act), HeadInv .any ops n listed →
      (∀ j oj, ops[j]? = some oj → j ≠ i → listed.getD j true = false → (∀ e ∈ oj.after, Region.binds .any e = true → e.on ≠ i) → oi.apart ops oj = true) →
      i ∈ Region.ready .any ops listed → lOp P ops W Ψ oi (wpEach P ops W Ψ n L f (listed.setIfInBounds i true)) a → wpEach P ops W Ψ n L (f + 1) listed a := by
  intro f
  induction f with
  | zero =>
    intro listed a inv _ hr H
    have hun := (mem_ready.1 hr).1
    refine ⟨fun h => (by rw [h] at hr; cases hr), fun j hj => ?_⟩
    have hjn : j < n := by
      rcases Nat.lt_or_ge j n with h | h
      · exact h
      · exact absurd hj (tail_waits hs hc hn inv _ i rfl hin hun j h)
    refine ⟨hjn, fun o ho => ?_⟩
    by_cases hji : j = i
    · subst hji; rw [hi] at ho; cases ho; exact H
    · exfalso
      have hz : ∃ a', L (listed.setIfInBounds i true) a' := by
        unfold lOp at H
        split at H
        · obtain ⟨v, hv⟩ := lo_some H.1; exact ⟨_, H.2 v hv⟩
        · exact ⟨_, H⟩
      obtain ⟨a', ha'⟩ := hz
      have := hdone _ _ ha' j (ready_mono hj hji)
      omega
  | succ f ih =>
    intro listed a inv hfree hr H
    have hun := (mem_ready.1 hr).1
    refine ⟨fun h => (by rw [h] at hr; cases hr), fun j hj => ?_⟩
    have hjn : j < n := by
      rcases Nat.lt_or_ge j n with h | h
      · exact h
      · exact absurd hj (tail_waits hs hc hn inv _ i rfl hin hun j h)
    refine ⟨hjn, fun oj hoj => ?_⟩
    by_cases hji : j = i
    · subst hji; rw [hi] at hoj; cases hoj; exact H
    · obtain ⟨hjun, oj', hoj', hall⟩ := mem_ready.1 hj
      rw [hoj] at hoj'; cases hoj'
      have hnot : ∀ e ∈ oj.after, Region.binds .any e = true → e.on ≠ i := fun e he hb heq => by
        have h1 := hall e he hb
        rw [heq, getD_both hun] at h1
        cases h1
      have hap := hfree j oj hoj hji hjun hnot
      obtain ⟨p1, p2, p3⟩ := Oper.apart_spec hap
      have si := fun cs b => hsel i oi cs b hi
      have sj := fun cs b => hsel j oj cs b hoj
      have hfree' : ∀ k ok, ops[k]? = some ok → k ≠ i → (listed.setIfInBounds j true).getD k true = false →
          (∀ e ∈ ok.after, Region.binds .any e = true → e.on ≠ i) → oi.apart ops ok = true := fun k ok hk hki hun' hno => by
        refine hfree k ok hk hki ?_ hno
        by_cases hjk : j = k
        · subst hjk; exact hjun
        · rw [getD_set_ne true hjk] at hun'; exact hun'
      -- what j does behind each that i may give
      have step : ∀ v u, (wpEach P ops W Ψ n L (f + 1) (listed.setIfInBounds i true) (a.put oi.dst v)) →
          (Region.wanted oj (yielded ops a.tmps) = true → Lo P W Ψ a.eval oj u) → (Region.wanted oj (yielded ops a.tmps) = false → u = undef) →
          wpEach P ops W Ψ n L f ((listed.setIfInBounds j true).setIfInBounds i true) ((a.put oj.dst u).put oi.dst v) := by
        intro v u hE hu hu'
        have h1 := (hE.2 j (ready_mono hj hji)).2 oj hoj
        rw [Array.setIfInBounds_comm _ _ hji, ← Act.put_comm a v u p2]
        unfold lOp at h1
        rw [wanted_put oj a oi.dst v p1] at h1
        cases hwj : Region.wanted oj (yielded ops a.tmps) with
        | true =>
          rw [if_pos hwj] at h1
          exact h1.2 u (by rw [(safe_put sj p1).2]; exact hu hwj)
        | false =>
          rw [hwj] at h1
          simp only [Bool.false_eq_true, if_false] at h1
          rw [hu' hwj]; exact h1
      have safej : ∀ v, (wpEach P ops W Ψ n L (f + 1) (listed.setIfInBounds i true) (a.put oi.dst v)) → Region.wanted oj (yielded ops a.tmps) = true → Safe P W Ψ a.eval oj := by
        intro v hE hwj
        have h1 := (hE.2 j (ready_mono hj hji)).2 oj hoj
        unfold lOp at h1
        rw [wanted_put oj a oi.dst v p1, if_pos hwj, (safe_put sj p1).1] at h1
        exact h1.1
      have next : ∀ u, (Region.wanted oj (yielded ops a.tmps) = true → Lo P W Ψ a.eval oj u) → (Region.wanted oj (yielded ops a.tmps) = false → u = undef) →
          wpEach P ops W Ψ n L (f + 1) (listed.setIfInBounds j true) (a.put oj.dst u) := by
        intro u hu hu'
        refine ih (listed.setIfInBounds j true) _ (inv.set hj hjn) hfree' (ready_mono hr (Ne.symm hji)) ?_
        unfold lOp at H ⊢
        rw [wanted_put oi a oj.dst u p3]
        split
        · rename_i hwi
          rw [if_pos hwi] at H
          refine ⟨by rw [(safe_put si p3).1]; exact H.1, fun v hv => ?_⟩
          rw [(safe_put si p3).2] at hv
          exact step v u (H.2 v hv) hu hu'
        · rename_i hwi
          rw [if_neg hwi] at H
          exact step undef u H hu hu'
      have some : ∃ v, wpEach P ops W Ψ n L (f + 1) (listed.setIfInBounds i true) (a.put oi.dst v) := by
        unfold lOp at H
        split at H
        · obtain ⟨v, hv⟩ := lo_some H.1; exact ⟨v, H.2 v hv⟩
        · exact ⟨undef, H⟩
      obtain ⟨v0, hv0⟩ := some
      unfold lOp
      split
      · rename_i hwj
        exact ⟨safej v0 hv0 hwj, fun u hu => next u (fun _ => hu) (fun h => by rw [hwj] at h; cases h)⟩
      · rename_i hwj
        exact next undef (fun h => absurd h hwj) (fun _ => rfl)

theorem wpEach_lex {n g : Nat} {Lq : Act → Prop} (hsel : Region.noSelect ops = true) (hs : Region.sinkB .any ops n = true) (hc : Region.chainB .any ops n = true) (hn : n < ops.size) :
    ∀ (l : List Oper) (k : Nat) (listed : Array Bool) (a : Act), (∀ j, j < l.length → l[j]? = ops[k + j]?) → k + l.length = n → HeadInv .any ops n listed →
    Region.lexHead .any ops g l.length k listed = true → wpLoose P ops W Ψ Lq l a →
    wpEach P ops W Ψ n (fun listed' a' => Region.seqB .any ops g n listed' = true ∧ Lq a') l.length listed a
  | [], k, listed, a, _, hk, _, hB, h => by
    obtain rfl : k = n := by simpa using hk
    exact ⟨by simpa [Region.lexHead] using hB, h⟩
  | o :: l, k, listed, a, hl, hk, inv, hB, h => by
    have h0 : ops[k]? = some o := by simpa using (hl 0 (by simp)).symm
    simp only [List.length_cons, Region.lexHead, Bool.and_eq_true] at hB
    obtain ⟨⟨hr, hf⟩, hB'⟩ := hB
    have hkn : k < n := by simp only [List.length_cons] at hk; omega
    have hr' : k ∈ Region.ready .any ops listed := by simpa using hr
    refine wpEach_first h0 (Region.noSelect_spec hsel) hs hc hn hkn (fun listed' a' hL => seqB_ready hL.1) l.length listed a inv (Region.free_spec h0 hf) hr' ?_
    exact lOp_mono (fun a' h' => wpEach_lex hsel hs hc hn l (k + 1) _ a' (fun j hj => by
      have := hl (j + 1) (by simp; omega); simpa [Nat.add_assoc, Nat.add_comm 1 j] using this) (by simp only [List.length_cons] at hk; omega) (inv.set hr' hkn) hB' h') h

theorem wpAny_of_each {n g : Nat} {L : Array Bool → Act → Prop} {Q : Exit → Act → World → Prop} (hL : ∀ listed a w, L listed a → Below W.heap.size W w → wpAny P .any ops Q g listed a w) :
    ∀ (f : Nat) (listed : Array Bool) (a : Act) (w : World), wpEach P ops W Ψ n L f listed a → Below W.heap.size W w → wpAny P .any ops Q (f + g) listed a w
  | 0, listed, a, w, h, hw => by rw [Nat.zero_add]; exact hL _ _ _ h hw
  | f + 1, listed, a, w, h, hw => by
    rw [show f + 1 + g = (f + g) + 1 by omega]
    refine ⟨fun h0 => absurd h0 h.1, fun i hi => ?_⟩
    obtain ⟨-, oi, hoi, -⟩ := mem_ready.1 hi
    exact wpOp_of_lOp hoi hw (fun a' w' h' hw' => wpAny_of_each hL f _ a' w' h' hw') ((h.2 i hi).2 oi hoi)

/-- THE LAW: the first n operations once, in the text's order; the rest as they stand. -/
theorem wp_region_loose {id : Nat} {Q : Exit → Act → World → Prop} {a : Act} {l : List Oper} (n : Nat) (Ψ : FuncId → Array Value → Value → Prop) (hm : P.follows .mixedOrders = true) (hB : Region.lexTailB .any l.toArray n = true)
    (h : wpLoose P l.toArray W Ψ (fun a' => ∀ w, Below W.heap.size W w → wpList P l.toArray Q (l.drop n) a' w) (l.take n) a) : (Code.region id l.toArray true).wp P Q a W := by
  simp only [Region.lexTailB, Bool.and_eq_true, decide_eq_true_eq] at hB
  obtain ⟨⟨⟨⟨hsel, hn⟩, hs⟩, hc⟩, hlex⟩ := hB
  have hn' : n < l.length := by simpa using hn
  have htl : (l.take n).length = n := by simp; omega
  have hdl : (l.drop n).length = l.toArray.size - n := by simp
  have inv0 : HeadInv .any l.toArray n (Array.replicate l.toArray.size false) :=
    ⟨by simp, fun j oj _ hl => (by rw [getD_replicate_false] at hl; cases hl), fun t _ ht => getD_in (by simpa using ht) (getD_replicate_false _ _)⟩
  have H := wpEach_lex (g := l.toArray.size - n) hsel hs hc hn (l.take n) 0 _ a (fun j hj => by
    have hj' : j < n := by rw [htl] at hj; exact hj
    simp [hj']) (by simpa using htl) inv0 (by rw [htl]; exact hlex) h
  refine wp_region_any hm ?_
  have h2 := wpAny_of_each (Q := Q) (g := l.toArray.size - n) (fun listed a' w' hL hw' => by
    rw [← hdl]
    refine wpAny_of_seq (l.drop n) n listed a' w' (fun j => by simp) (by rw [hdl]; exact hL.1) (hL.2 w' hw')) _ _ _ { W with drawn := W.drawn + 1 } H (Below.drew (Below.refl _ _))
  rw [htl, show n + (l.toArray.size - n) = l.toArray.size by omega] at h2
  exact h2
end
end Go.Proofs.Ytefjkelakecanaa
