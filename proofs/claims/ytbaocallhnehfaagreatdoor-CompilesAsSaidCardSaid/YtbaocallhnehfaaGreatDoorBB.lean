/- A region that draws its order, whose operations may draw and make memory of their own: one walk in the text's order serves every order. A plain law of the walk, over any program. No condition. (with: LooseB, LooseM) -/
import Derived.Test.YtbaocallhnehfaaGreatDoorBA
import Derived.StillTailTactics
import Derived.KernelRfl
namespace Go.Proofs.YtbaocallhnehfaaGreatDoor
open Go Go.RowKit

/-- A world in which all that W holds is as it was. -/
structure Past (W : World) where
  w : World
  h : Below W.heap.size W w
@[go_sem] theorem Past.cell {W : World} (p : Past W) (b o : Nat) (hb : b < W.heap.size) : p.w.cell? ⟨b, o, none⟩ = W.cell? ⟨b, o, none⟩ := p.h.cell (p := ⟨b, o, none⟩) hb
@[go_sem] theorem Past.frozen {W : World} (p : Past W) (b o : Nat) (hb : b < W.heap.size) : p.w.frozen? ⟨b, o, none⟩ = W.frozen? ⟨b, o, none⟩ := p.h.frozen (p := ⟨b, o, none⟩) hb

section
variable {P : Program} {ops : Array Oper} {W : World} {Ψ : FuncId → Array Value → Value → Prop}

/-- What an operation may give: the value, or what a called function may hand back. -/
def Gives (Ψ : FuncId → Array Value → Value → Prop) (v : Value) : Result Next → Prop
  | .ok (.value u) _ => u = v
  | .ok .skip _ => v = undef
  | .ok (.enter f args) _ => Ψ f args v
  | _ => False
/-- That it goes well, and leaves what W holds as it was. -/
def Goes (P : Program) (W : World) (Ψ : FuncId → Array Value → Value → Prop) : Result Next → Prop
  | .ok (.value _) w' => Below W.heap.size W w'
  | .ok .skip w' => Below W.heap.size W w'
  | .ok (.enter f args) w' => Below W.heap.size W w' ∧ Calls P f args w' fun e w'' => ∃ u, e = .returned u ∧ Ψ f args u ∧ Below W.heap.size W w''
  | _ => False
def Lo (P : Program) (W : World) (Ψ : FuncId → Array Value → Value → Prop) (ev : Operand → Value) (o : Oper) (v : Value) : Prop := ∃ p : Past W, Gives Ψ v ((execOp ev o).run P p.w)
def Safe (P : Program) (W : World) (Ψ : FuncId → Array Value → Value → Prop) (ev : Operand → Value) (o : Oper) : Prop := ∀ p : Past W, Goes P W Ψ ((execOp ev o).run P p.w)

theorem lo_some {ev : Operand → Value} {o : Oper} (h : Safe P W Ψ ev o) : ∃ v, Lo P W Ψ ev o v := by
  have hp := h ⟨W, Below.refl _ _⟩
  cases hr : (execOp ev o).run P W with
  | ok n w' =>
    rw [hr] at hp
    cases n <;> simp only [Goes] at hp
    case value u => exact ⟨u, ⟨W, Below.refl _ _⟩, by rw [hr]; rfl⟩
    case skip => exact ⟨undef, ⟨W, Below.refl _ _⟩, by rw [hr]; rfl⟩
    case enter f args =>
      obtain ⟨e, w'', fr, ⟨u, -, hu, -⟩, -⟩ := hp.2 []
      exact ⟨u, ⟨W, Below.refl _ _⟩, by rw [hr]; exact hu⟩
  | halt x w' => rw [hr] at hp; exact hp.elim

/-- One operation, whatever it gives. -/
def lOp (P : Program) (ops : Array Oper) (W : World) (Ψ : FuncId → Array Value → Value → Prop) (o : Oper) (K : Act → Prop) (a : Act) : Prop :=
  if Region.wanted o (yielded ops a.tmps) then Safe P W Ψ a.eval o ∧ ∀ v, Lo P W Ψ a.eval o v → K (a.put o.dst v) else K (a.put o.dst undef)
/-- The walk in the text's order. -/
def wpLoose (P : Program) (ops : Array Oper) (W : World) (Ψ : FuncId → Array Value → Value → Prop) (L : Act → Prop) : List Oper → Act → Prop
  | [], a => L a
  | o :: rest, a => lOp P ops W Ψ o (wpLoose P ops W Ψ L rest) a
/-- Every order of the first n operations. -/
def wpEach (P : Program) (ops : Array Oper) (W : World) (Ψ : FuncId → Array Value → Value → Prop) (n : Nat) (L : Array Bool → Act → Prop) : Nat → Array Bool → Act → Prop
  | 0, listed, a => L listed a
  | f + 1, listed, a => Region.ready .any ops listed ≠ [] ∧ ∀ i ∈ Region.ready .any ops listed, i < n ∧ ∀ o, ops[i]? = some o → lOp P ops W Ψ o (wpEach P ops W Ψ n L f (listed.setIfInBounds i true)) a

theorem lOp_mono {o : Oper} {K K' : Act → Prop} {a : Act} (h : ∀ a, K a → K' a) (hh : lOp P ops W Ψ o K a) : lOp P ops W Ψ o K' a := by
  unfold lOp at *
  split
  · rename_i hw; rw [if_pos hw] at hh; exact ⟨hh.1, fun v hv => h _ (hh.2 v hv)⟩
  · rename_i hw; rw [if_neg hw] at hh; exact h _ hh
/-- An operation in any such world. -/
theorem wpOp_of_lOp {Q : Exit → Act → World → Prop} {i : Nat} {o : Oper} {K : Act → Prop} {K' : Act → World → Prop} {a : Act} {w : World} (hi : ops[i]? = some o) (hw : Below W.heap.size W w)
    (hk : ∀ a w, K a → Below W.heap.size W w → K' a w) (h : lOp P ops W Ψ o K a) : wpOp P ops Q i K' a w := by
  unfold wpOp
  rw [hi]
  simp only []
  unfold lOp at h
  split
  · rename_i hw'
    rw [if_pos hw'] at h
    obtain ⟨hs, hl⟩ := h
    refine .inl ?_
    unfold Oper.wp
    have h1 := hs ⟨w, hw⟩
    have h2 : ∀ v, Gives Ψ v ((execOp a.eval o).run P w) → K (a.put o.dst v) := fun v hv => hl v ⟨⟨w, hw⟩, hv⟩
    simp only [] at h1
    cases hr : (execOp a.eval o).run P w with
    | ok n w' =>
      rw [hr] at h1 h2
      cases n <;> simp only [Goes, Gives] at h1 h2
      case value u => exact hk _ _ (h2 u rfl) h1
      case skip => exact hk _ _ (h2 undef rfl) h1
      case enter f args =>
        refine Calls.mono h1.2 ?_
        rintro e w'' ⟨u, rfl, hu, hb⟩
        exact hk _ _ (h2 u hu) hb
    | halt x w' => rw [hr] at h1; exact h1.elim
  · rename_i hw'; rw [if_neg hw'] at h; exact hk _ _ h hw
theorem safe_put {o : Oper} (hs : ∀ cs b, o.op ≠ .select cs b) {a : Act} {dst : Option Tmp} {v : Value} (h : ∀ d, dst = some d → d ∉ o.looksAt ops) :
    (Safe P W Ψ (a.put dst v).eval o = Safe P W Ψ a.eval o) ∧ ∀ u, Lo P W Ψ (a.put dst v).eval o u = Lo P W Ψ a.eval o u := by
  have e := execOp_put o hs a dst v h
  exact ⟨by unfold Safe; rw [e], fun u => by unfold Lo; rw [e]⟩

/-- The first operation of the text may be taken first. -/
theorem wpEach_first {n i : Nat} {oi : Oper} {L : Array Bool → Act → Prop} (hi : ops[i]? = some oi) (hsel : ∀ (j : Nat) (o : Oper) cs b, ops[j]? = some o → o.op ≠ .select cs b)
    (hs : Region.sinkB .any ops n = true) (hc : Region.chainB .any ops n = true) (hn : n < ops.size) (hin : i < n)
    (hdone : ∀ listed a, L listed a → ∀ j ∈ Region.ready .any ops listed, n ≤ j) :
    ∀ (f : Nat) (listed : Array Bool) (a : Act), HeadInv .any ops n listed →
      (∀ j oj, ops[j]? = some oj → j ≠ i → listed.getD j true = false → (∀ e ∈ oj.after, Region.binds .any e = true → e.on ≠ i) → oi.apart ops oj = true) →
      i ∈ Region.ready .any ops listed → lOp P ops W Ψ oi (wpEach P ops W Ψ n L f (listed.setIfInBounds i true)) a → wpEach P ops W Ψ n L (f + 1) listed a := by
  intro f
  induction f with
  | zero =>
    intro listed a inv _ hr H
    have hun := (mem_ready.1 hr).1
    refine ⟨fun h => (by rw [h] at hr; cases hr), fun j hj => ?_⟩
    have hjn : j < n := by
      rcases Nat.lt_or_ge j n with h | h
      · exact h
      · exact absurd hj (tail_waits hs hc hn inv _ i rfl hin hun j h)
    refine ⟨hjn, fun o ho => ?_⟩
    by_cases hji : j = i
    · subst hji; rw [hi] at ho; cases ho; exact H
    · exfalso
      have hz : ∃ a', L (listed.setIfInBounds i true) a' := by
        unfold lOp at H
        split at H
        · obtain ⟨v, hv⟩ := lo_some H.1; exact ⟨_, H.2 v hv⟩
        · exact ⟨_, H⟩
      obtain ⟨a', ha'⟩ := hz
      have := hdone _ _ ha' j (ready_mono hj hji)
      omega
  | succ f ih =>
    intro listed a inv hfree hr H
    have hun := (mem_ready.1 hr).1
    refine ⟨fun h => (by rw [h] at hr; cases hr), fun j hj => ?_⟩
    have hjn : j < n := by
      rcases Nat.lt_or_ge j n with h | h
      · exact h
      · exact absurd hj (tail_waits hs hc hn inv _ i rfl hin hun j h)
    refine ⟨hjn, fun oj hoj => ?_⟩
    by_cases hji : j = i
    · subst hji; rw [hi] at hoj; cases hoj; exact H
    · obtain ⟨hjun, oj', hoj', hall⟩ := mem_ready.1 hj
      rw [hoj] at hoj'; cases hoj'
      have hnot : ∀ e ∈ oj.after, Region.binds .any e = true → e.on ≠ i := fun e he hb heq => by
        have h1 := hall e he hb
        rw [heq, getD_both hun] at h1
        cases h1
      have hap := hfree j oj hoj hji hjun hnot
      obtain ⟨p1, p2, p3⟩ := Oper.apart_spec hap
      have si := fun cs b => hsel i oi cs b hi
      have sj := fun cs b => hsel j oj cs b hoj
      have hfree' : ∀ k ok, ops[k]? = some ok → k ≠ i → (listed.setIfInBounds j true).getD k true = false →
          (∀ e ∈ ok.after, Region.binds .any e = true → e.on ≠ i) → oi.apart ops ok = true := fun k ok hk hki hun' hno => by
        refine hfree k ok hk hki ?_ hno
        by_cases hjk : j = k
        · subst hjk; exact hjun
        · rw [getD_set_ne true hjk] at hun'; exact hun'
      -- what j does behind each that i may give
      have step : ∀ v u, (wpEach P ops W Ψ n L (f + 1) (listed.setIfInBounds i true) (a.put oi.dst v)) →
          (Region.wanted oj (yielded ops a.tmps) = true → Lo P W Ψ a.eval oj u) → (Region.wanted oj (yielded ops a.tmps) = false → u = undef) →
          wpEach P ops W Ψ n L f ((listed.setIfInBounds j true).setIfInBounds i true) ((a.put oj.dst u).put oi.dst v) := by
        intro v u hE hu hu'
        have h1 := (hE.2 j (ready_mono hj hji)).2 oj hoj
        rw [Array.setIfInBounds_comm _ _ hji, ← Act.put_comm a v u p2]
        unfold lOp at h1
        rw [wanted_put oj a oi.dst v p1] at h1
        cases hwj : Region.wanted oj (yielded ops a.tmps) with
        | true =>
          rw [if_pos hwj] at h1
          exact h1.2 u (by rw [(safe_put sj p1).2]; exact hu hwj)
        | false =>
          rw [hwj] at h1
          simp only [Bool.false_eq_true, if_false] at h1
          rw [hu' hwj]; exact h1
      have safej : ∀ v, (wpEach P ops W Ψ n L (f + 1) (listed.setIfInBounds i true) (a.put oi.dst v)) → Region.wanted oj (yielded ops a.tmps) = true → Safe P W Ψ a.eval oj := by
        intro v hE hwj
        have h1 := (hE.2 j (ready_mono hj hji)).2 oj hoj
        unfold lOp at h1
        rw [wanted_put oj a oi.dst v p1, if_pos hwj, (safe_put sj p1).1] at h1
        exact h1.1
      have next : ∀ u, (Region.wanted oj (yielded ops a.tmps) = true → Lo P W Ψ a.eval oj u) → (Region.wanted oj (yielded ops a.tmps) = false → u = undef) →
          wpEach P ops W Ψ n L (f + 1) (listed.setIfInBounds j true) (a.put oj.dst u) := by
        intro u hu hu'
        refine ih (listed.setIfInBounds j true) _ (inv.set hj hjn) hfree' (ready_mono hr (Ne.symm hji)) ?_
        unfold lOp at H ⊢
        rw [wanted_put oi a oj.dst u p3]
        split
        · rename_i hwi
          rw [if_pos hwi] at H
          refine ⟨by rw [(safe_put si p3).1]; exact H.1, fun v hv => ?_⟩
          rw [(safe_put si p3).2] at hv
          exact step v u (H.2 v hv) hu hu'
        · rename_i hwi
          rw [if_neg hwi] at H
          exact step undef u H hu hu'
      have some : ∃ v, wpEach P ops W Ψ n L (f + 1) (listed.setIfInBounds i true) (a.put oi.dst v) := by
        unfold lOp at H
        split at H
        · obtain ⟨v, hv⟩ := lo_some H.1; exact ⟨v, H.2 v hv⟩
        · exact ⟨undef, H⟩
      obtain ⟨v0, hv0⟩ := some
      unfold lOp
      split
      · rename_i hwj
        exact ⟨safej v0 hv0 hwj, fun u hu => next u (fun _ => hu) (fun h => by rw [hwj] at h; cases h)⟩
      · rename_i hwj
        exact next undef (fun h => absurd h hwj) (fun _ => rfl)

theorem wpEach_lex {n g : Nat} {Lq : Act → Prop} (hsel : Region.noSelect ops = true) (hs : Region.sinkB .any ops n = true) (hc : Region.chainB .any ops n = true) (hn : n < ops.size) :
    ∀ (l : List Oper) (k : Nat) (listed : Array Bool) (a : Act), (∀ j, j < l.length → l[j]? = ops[k + j]?) → k + l.length = n → HeadInv .any ops n listed →
    Region.lexHead .any ops g l.length k listed = true → wpLoose P ops W Ψ Lq l a →
    wpEach P ops W Ψ n (fun listed' a' => Region.seqB .any ops g n listed' = true ∧ Lq a') l.length listed a
  | [], k, listed, a, _, hk, _, hB, h => by
    obtain rfl : k = n := by simpa using hk
    exact ⟨by simpa [Region.lexHead] using hB, h⟩
  | o :: l, k, listed, a, hl, hk, inv, hB, h => by
    have h0 : ops[k]? = some o := by simpa using (hl 0 (by simp)).symm
    simp only [List.length_cons, Region.lexHead, Bool.and_eq_true] at hB
    obtain ⟨⟨hr, hf⟩, hB'⟩ := hB
    have hkn : k < n := by simp only [List.length_cons] at hk; omega
    have hr' : k ∈ Region.ready .any ops listed := by simpa using hr
    refine wpEach_first h0 (Region.noSelect_spec hsel) hs hc hn hkn (fun listed' a' hL => seqB_ready hL.1) l.length listed a inv (Region.free_spec h0 hf) hr' ?_
    exact lOp_mono (fun a' h' => wpEach_lex hsel hs hc hn l (k + 1) _ a' (fun j hj => by
      have := hl (j + 1) (by simp; omega); simpa [Nat.add_assoc, Nat.add_comm 1 j] using this) (by simp only [List.length_cons] at hk; omega) (inv.set hr' hkn) hB' h') h

theorem wpAny_of_each {n g : Nat} {L : Array Bool → Act → Prop} {Q : Exit → Act → World → Prop} (hL : ∀ listed a w, L listed a → Below W.heap.size W w → wpAny P .any ops Q g listed a w) :
    ∀ (f : Nat) (listed : Array Bool) (a : Act) (w : World), wpEach P ops W Ψ n L f listed a → Below W.heap.size W w → wpAny P .any ops Q (f + g) listed a w
  | 0, listed, a, w, h, hw => by rw [Nat.zero_add]; exact hL _ _ _ h hw
  | f + 1, listed, a, w, h, hw => by
    rw [show f + 1 + g = (f + g) + 1 by omega]
    refine ⟨fun h0 => absurd h0 h.1, fun i hi => ?_⟩
    obtain ⟨-, oi, hoi, -⟩ := mem_ready.1 hi
    exact wpOp_of_lOp hoi hw (fun a' w' h' hw' => wpAny_of_each hL f _ a' w' h' hw') ((h.2 i hi).2 oi hoi)

/-- THE LAW: the first n operations once, in the text's order; the rest as they stand. -/
theorem wp_region_loose {id : Nat} {Q : Exit → Act → World → Prop} {a : Act} {l : List Oper} (n : Nat) (Ψ : FuncId → Array Value → Value → Prop) (hm : P.follows .mixedOrders = true) (hB : Region.lexTailB .any l.toArray n = true)
    (h : wpLoose P l.toArray W Ψ (fun a' => ∀ w, Below W.heap.size W w → wpList P l.toArray Q (l.drop n) a' w) (l.take n) a) : (Code.region id l.toArray true).wp P Q a W := by
  simp only [Region.lexTailB, Bool.and_eq_true, decide_eq_true_eq] at hB
  obtain ⟨⟨⟨⟨hsel, hn⟩, hs⟩, hc⟩, hlex⟩ := hB
  have hn' : n < l.length := by simpa using hn
  have htl : (l.take n).length = n := by simp; omega
  have hdl : (l.drop n).length = l.toArray.size - n := by simp
  have inv0 : HeadInv .any l.toArray n (Array.replicate l.toArray.size false) :=
    ⟨by simp, fun j oj _ hl => (by rw [getD_replicate_false] at hl; cases hl), fun t _ ht => getD_in (by simpa using ht) (getD_replicate_false _ _)⟩
  have H := wpEach_lex (g := l.toArray.size - n) hsel hs hc hn (l.take n) 0 _ a (fun j hj => by
    have hj' : j < n := by rw [htl] at hj; exact hj
    simp [hj']) (by simpa using htl) inv0 (by rw [htl]; exact hlex) h
  refine wp_region_any hm ?_
  have h2 := wpAny_of_each (Q := Q) (g := l.toArray.size - n) (fun listed a' w' hL hw' => by
    rw [← hdl]
    refine wpAny_of_seq (l.drop n) n listed a' w' (fun j => by simp) (by rw [hdl]; exact hL.1) (hL.2 w' hw')) _ _ _ { W with drawn := W.drawn + 1 } H (Below.drew (Below.refl _ _))
  rw [htl, show n + (l.toArray.size - n) = l.toArray.size by omega] at h2
  exact h2
end
end Go.Proofs.YtbaocallhnehfaaGreatDoor

namespace Go.Proofs.YtbaocallhnehfaaGreatDoor
open Go Go.RowKit

section
variable {P : Program} {ops : Array Oper} {W : World} {Ψ : FuncId → Array Value → Value → Prop} {L : Act → Prop} {rest : List Oper} {a : Act} {o : Oper}

/-- One operation, run in whatever such world. -/
def LooseR (P : Program) (W : World) (Ψ : FuncId → Array Value → Value → Prop) (K : Value → Prop) (r : Past W → Result Next) : Prop :=
  (∀ p : Past W, Goes P W Ψ (r p)) ∧ ∀ v, (∃ p : Past W, Gives Ψ v (r p)) → K v
@[go_sem] theorem LooseR_value (K : Value → Prop) (v : Value) : LooseR P W Ψ K (fun p => .ok (.value v) p.w) = K v := by
  apply propext
  constructor
  · intro h; exact h.2 v ⟨⟨W, Below.refl _ _⟩, rfl⟩
  · intro h; exact ⟨fun p => p.h, fun u ⟨p, hu⟩ => by cases hu; exact h⟩
@[go_sem] theorem LooseR_enter (K : Value → Prop) (f : FuncId) (args : Array Value) : LooseR P W Ψ K (fun p => .ok (.enter f args) p.w) =
    ((∀ p : Past W, Calls P f args p.w fun e w'' => ∃ u, e = .returned u ∧ Ψ f args u ∧ Below W.heap.size W w'') ∧ ∀ u, Ψ f args u → K u) := by
  apply propext
  constructor
  · intro h; exact ⟨fun p => (h.1 p).2, fun u hu => h.2 u ⟨⟨W, Below.refl _ _⟩, hu⟩⟩
  · intro h; exact ⟨fun p => ⟨p.h, h.1 p⟩, fun u ⟨p, hu⟩ => h.2 u hu⟩
theorem loose_step (hg : o.guard = none) (h : ∀ K : Act → Prop, (∀ a, wpLoose P ops W Ψ L rest a → K a) → LooseR P W Ψ (fun v => K (a.put o.dst v)) (fun p => (execOp a.eval o).run P p.w)) :
    wpLoose P ops W Ψ L (o :: rest) a := by
  have h1 := h _ (fun _ h => h)
  show lOp P ops W Ψ o _ a
  unfold lOp
  rw [if_pos (by simp [Region.wanted, hg])]
  exact ⟨h1.1, h1.2⟩
theorem loose_wanted (hw : Region.wanted o (yielded ops a.tmps) = true) (h : ∀ K : Act → Prop, (∀ a, wpLoose P ops W Ψ L rest a → K a) → LooseR P W Ψ (fun v => K (a.put o.dst v)) (fun p => (execOp a.eval o).run P p.w)) :
    wpLoose P ops W Ψ L (o :: rest) a := by
  have h1 := h _ (fun _ h => h)
  show lOp P ops W Ψ o _ a
  unfold lOp
  rw [if_pos hw]
  exact ⟨h1.1, h1.2⟩
theorem loose_nil (h : L a) : wpLoose P ops W Ψ L [] a := h

/-- An operation that hands back one of some values, and draws at most. -/
theorem looseR_draws {K : Value → Prop} {r : Past W → Result Next} (R : Value → Prop) (hr : ∀ p : Past W, ∃ v n, r p = .ok (.value v) (p.w.drewN n) ∧ R v) (h : ∀ v, R v → K v) : LooseR P W Ψ K r := by
  refine ⟨fun p => ?_, fun u ⟨p, hu⟩ => ?_⟩
  · obtain ⟨v, n, e, -⟩ := hr p
    rw [e]; exact below_drewN p.h n
  · obtain ⟨v, n, e, hv⟩ := hr p
    rw [e] at hu
    have e2 : v = u := hu
    subst e2; exact h _ hv
variable {dst : Option Tmp} {ty : TypeId} {pos : String} {after : Array Edge} {guard : Option (Nat × Bool)}
theorem loose_farith {op : BinOp} {t t' : TypeId} {x y : Operand} {k : FloatKind} {u v : Nat} (hw : Region.wanted { dst, op := .binOp op t x y t', type := ty, pos, after, guard } (yielded ops a.tmps) = true)
    (ho : arith op = true) (hx : a.eval x = .float k u) (hy : a.eval y = .float k v)
    (h : ∀ r, FR k r (fop op k (cn k u) (cn k v)) → wpLoose P ops W Ψ L rest (a.put dst (.float k r))) :
    wpLoose P ops W Ψ L ({ dst, op := .binOp op t x y t', type := ty, pos, after, guard } :: rest) a := by
  refine loose_wanted hw fun K hK => looseR_draws (fun z => ∃ r, z = .float k r ∧ FR k r (fop op k u v)) ?_ ?_
  · intro p
    obtain ⟨r, n, hr, hf⟩ := run_farith (P := P) ho t k u v p.w
    refine ⟨.float k r, n, ?_, r, rfl, hf⟩
    unfold execOp
    simp only [hx, hy, eqGuard_at_float, Sem.run_bind, Sem.run_pure, Result.andThen_ok, hr]
  · rintro z ⟨r, rfl, hf⟩
    exact hK _ (h r (by rw [fop_cn_left, fop_cn_right]; exact hf))
theorem loose_up {src d : TypeId} {x : Operand} {b : Nat} (hw : Region.wanted { dst, op := .convert src d x, type := ty, pos, after, guard } (yielded ops a.tmps) = true)
    (hx : a.eval x = .float .f32 b) (hs : P.underlying src = some (.float .f32)) (hd : P.underlying d = some (.float .f64))
    (h : ∀ r, FR .f64 r (fcv .f32 .f64 (cn .f32 b)) → wpLoose P ops W Ψ L rest (a.put dst (.float .f64 r))) :
    wpLoose P ops W Ψ L ({ dst, op := .convert src d x, type := ty, pos, after, guard } :: rest) a := by
  refine loose_wanted hw fun K hK => looseR_draws (fun z => ∃ r, z = .float .f64 r ∧ FR .f64 r (fcv .f32 .f64 b)) ?_ ?_
  · intro p
    obtain ⟨r, n, hr, -, hf⟩ := run_fcv (P := P) (s := .f32) (k := .f64) (by decide) b p.w
    refine ⟨.float .f64 r, n, ?_, r, rfl, hf (ovf_up b)⟩
    unfold execOp
    simp only [hx, Sem.run_bind, Sem.run_pure, Result.andThen_ok, convert_ff hs hd, hr]
  · rintro z ⟨r, rfl, hf⟩
    exact hK _ (h r (by rw [fcv_cn]; exact hf))
end
/-- A round that makes memory of its own and writes one cell of one row. -/
theorem grown_step {W a b : World} {g k : Nat} (h : W.grownBy a (some g)) (hb : Below a.heap.size a b) (v : Value) : W.grownBy (b.setCell ⟨g, k, none⟩ v) (some g) :=
  ⟨hb.os.trans h.os, hb.tape.trans h.tape, hb.output.trans h.output, by have := h.size; have := hb.size; simp [World.setCell]; omega, fun j hj hne => by
    have h1 : j ≠ g := fun e => hne (by rw [e])
    rw [Below.heap_setCell _ _ _ _ h1, hb.block j (by have := h.size; omega)]
    exact h.block j hj hne⟩
end Go.Proofs.YtbaocallhnehfaaGreatDoor

namespace Go.Proofs.YtbaocallhnehfaaGreatDoor
open Go Go.RowKit
section
variable {P : Program} {ops : Array Oper} {W : World} {Ψ : FuncId → Array Value → Value → Prop}
/-- That it goes well, and leaves what W holds as it was. -/
def GoesM (P : Program) (W : World) (Ψ : FuncId → Array Value → Value → Prop) : Result Next → Prop
  | .ok (.value _) w' => Below W.heap.size W w'
  | .ok .skip w' => Below W.heap.size W w'
  | .ok (.enter f args) w' => Below W.heap.size W w' ∧ Calls P f args w' fun e w'' => ∃ u, e = .returned u ∧ Ψ f args u ∧ Below W.heap.size W w''
  | _ => False
def LoM (P : Program) (W : World) (Ψ : FuncId → Array Value → Value → Prop) (ev : Operand → Value) (o : Oper) (v : Value) : Prop := ∃ p : Past W, Gives Ψ v ((execOp ev o).run P p.w)
def SafeM (P : Program) (W : World) (Ψ : FuncId → Array Value → Value → Prop) (ev : Operand → Value) (o : Oper) : Prop := ∀ p : Past W, GoesM P p.w Ψ ((execOp ev o).run P p.w)

theorem lo_someM {ev : Operand → Value} {o : Oper} (h : SafeM P W Ψ ev o) : ∃ v, LoM P W Ψ ev o v := by
  have hp := h ⟨W, Below.refl _ _⟩
  cases hr : (execOp ev o).run P W with
  | ok n w' =>
    rw [hr] at hp
    cases n <;> simp only [GoesM] at hp
    case value u => exact ⟨u, ⟨W, Below.refl _ _⟩, by rw [hr]; rfl⟩
    case skip => exact ⟨undef, ⟨W, Below.refl _ _⟩, by rw [hr]; rfl⟩
    case enter f args =>
      obtain ⟨e, w'', fr, ⟨u, -, hu, -⟩, -⟩ := hp.2 []
      exact ⟨u, ⟨W, Below.refl _ _⟩, by rw [hr]; exact hu⟩
  | halt x w' => rw [hr] at hp; exact hp.elim

/-- One operation, whatever it gives. -/
def lOpM (P : Program) (ops : Array Oper) (W : World) (Ψ : FuncId → Array Value → Value → Prop) (o : Oper) (K : Act → Prop) (a : Act) : Prop :=
  if Region.wanted o (yielded ops a.tmps) then SafeM P W Ψ a.eval o ∧ ∀ v, LoM P W Ψ a.eval o v → K (a.put o.dst v) else K (a.put o.dst undef)
/-- The walk in the text's order. -/
def wpLooseM (P : Program) (ops : Array Oper) (W : World) (Ψ : FuncId → Array Value → Value → Prop) (L : Act → Prop) : List Oper → Act → Prop
  | [], a => L a
  | o :: rest, a => lOpM P ops W Ψ o (wpLooseM P ops W Ψ L rest) a
/-- Every order of the first n operations. -/
def wpEachM (P : Program) (ops : Array Oper) (W : World) (Ψ : FuncId → Array Value → Value → Prop) (n : Nat) (L : Array Bool → Act → Prop) : Nat → Array Bool → Act → Prop
  | 0, listed, a => L listed a
  | f + 1, listed, a => Region.ready .any ops listed ≠ [] ∧ ∀ i ∈ Region.ready .any ops listed, i < n ∧ ∀ o, ops[i]? = some o → lOpM P ops W Ψ o (wpEachM P ops W Ψ n L f (listed.setIfInBounds i true)) a

theorem lOp_monoM {o : Oper} {K K' : Act → Prop} {a : Act} (h : ∀ a, K a → K' a) (hh : lOpM P ops W Ψ o K a) : lOpM P ops W Ψ o K' a := by
  unfold lOpM at *
  split
  · rename_i hw; rw [if_pos hw] at hh; exact ⟨hh.1, fun v hv => h _ (hh.2 v hv)⟩
  · rename_i hw; rw [if_neg hw] at hh; exact h _ hh
/-- What an operation's own run leaves, told with the world. -/
theorem wpOp_of_lOpM {Q : Exit → Act → World → Prop} {i : Nat} {o : Oper} {K : Act → Prop} {K' : Act → World → Prop} {a : Act} {w : World} (hi : ops[i]? = some o) (hw : Below W.heap.size W w)
    (hk : ∀ v w', K (a.put o.dst v) → Below w.heap.size w w' → (Region.wanted o (yielded ops a.tmps) = true → ∀ u w2, (execOp a.eval o).run P w = .ok (.value u) w2 → v = u ∧ w' = w2) → K' (a.put o.dst v) w') (h : lOpM P ops W Ψ o K a) : wpOp P ops Q i K' a w := by
  unfold wpOp
  rw [hi]
  simp only []
  unfold lOpM at h
  split
  · rename_i hw'
    rw [if_pos hw'] at h
    obtain ⟨hs, hl⟩ := h
    refine .inl ?_
    unfold Oper.wp
    have h1 := hs ⟨w, hw⟩
    have h2 : ∀ v, Gives Ψ v ((execOp a.eval o).run P w) → K (a.put o.dst v) := fun v hv => hl v ⟨⟨w, hw⟩, hv⟩
    simp only [] at h1
    cases hr : (execOp a.eval o).run P w with
    | ok n w' =>
      rw [hr] at h1 h2
      cases n <;> simp only [GoesM, Gives] at h1 h2
      case value u => exact hk _ _ (h2 u rfl) h1 (fun _ u' w2 e => by rw [hr] at e; cases e; exact ⟨rfl, rfl⟩)
      case skip => exact hk _ _ (h2 undef rfl) h1 (fun _ u' w2 e => by rw [hr] at e; cases e)
      case enter f args =>
        refine Calls.mono h1.2 ?_
        rintro e w'' ⟨u, rfl, hu, hb⟩
        exact hk _ _ (h2 u hu) hb (fun _ u' w2 e => by rw [hr] at e; cases e)
    | halt x w' => rw [hr] at h1; exact h1.elim
  · rename_i hw'; rw [if_neg hw'] at h; exact hk _ _ h (Below.refl _ _) (fun h => absurd h hw')
theorem safe_putM {o : Oper} (hs : ∀ cs b, o.op ≠ .select cs b) {a : Act} {dst : Option Tmp} {v : Value} (h : ∀ d, dst = some d → d ∉ o.looksAt ops) :
    (SafeM P W Ψ (a.put dst v).eval o = SafeM P W Ψ a.eval o) ∧ ∀ u, LoM P W Ψ (a.put dst v).eval o u = LoM P W Ψ a.eval o u := by
  have e := execOp_put o hs a dst v h
  exact ⟨by unfold SafeM; rw [e], fun u => by unfold LoM; rw [e]⟩

/-- The first operation of the text may be taken first. -/
theorem wpEach_firstM {n i : Nat} {oi : Oper} {L : Array Bool → Act → Prop} (hi : ops[i]? = some oi) (hsel : ∀ (j : Nat) (o : Oper) cs b, ops[j]? = some o → o.op ≠ .select cs b)
    (hs : Region.sinkB .any ops n = true) (hc : Region.chainB .any ops n = true) (hn : n < ops.size) (hin : i < n)
    (hdone : ∀ listed a, L listed a → ∀ j ∈ Region.ready .any ops listed, n ≤ j) :
    ∀ (f : Nat) (listed : Array Bool) (a : Act), HeadInv .any ops n listed →
      (∀ j oj, ops[j]? = some oj → j ≠ i → listed.getD j true = false → (∀ e ∈ oj.after, Region.binds .any e = true → e.on ≠ i) → oi.apart ops oj = true) →
      i ∈ Region.ready .any ops listed → lOpM P ops W Ψ oi (wpEachM P ops W Ψ n L f (listed.setIfInBounds i true)) a → wpEachM P ops W Ψ n L (f + 1) listed a := by
  intro f
  induction f with
  | zero =>
    intro listed a inv _ hr H
    have hun := (mem_ready.1 hr).1
    refine ⟨fun h => (by rw [h] at hr; cases hr), fun j hj => ?_⟩
    have hjn : j < n := by
      rcases Nat.lt_or_ge j n with h | h
      · exact h
      · exact absurd hj (tail_waits hs hc hn inv _ i rfl hin hun j h)
    refine ⟨hjn, fun o ho => ?_⟩
    by_cases hji : j = i
    · subst hji; rw [hi] at ho; cases ho; exact H
    · exfalso
      have hz : ∃ a', L (listed.setIfInBounds i true) a' := by
        unfold lOpM at H
        split at H
        · obtain ⟨v, hv⟩ := lo_someM H.1; exact ⟨_, H.2 v hv⟩
        · exact ⟨_, H⟩
      obtain ⟨a', ha'⟩ := hz
      have := hdone _ _ ha' j (ready_mono hj hji)
      omega
  | succ f ih =>
    intro listed a inv hfree hr H
    have hun := (mem_ready.1 hr).1
    refine ⟨fun h => (by rw [h] at hr; cases hr), fun j hj => ?_⟩
    have hjn : j < n := by
      rcases Nat.lt_or_ge j n with h | h
      · exact h
      · exact absurd hj (tail_waits hs hc hn inv _ i rfl hin hun j h)
    refine ⟨hjn, fun oj hoj => ?_⟩
    by_cases hji : j = i
    · subst hji; rw [hi] at hoj; cases hoj; exact H
    · obtain ⟨hjun, oj', hoj', hall⟩ := mem_ready.1 hj
      rw [hoj] at hoj'; cases hoj'
      have hnot : ∀ e ∈ oj.after, Region.binds .any e = true → e.on ≠ i := fun e he hb heq => by
        have h1 := hall e he hb
        rw [heq, getD_both hun] at h1
        cases h1
      have hap := hfree j oj hoj hji hjun hnot
      obtain ⟨p1, p2, p3⟩ := Oper.apart_spec hap
      have si := fun cs b => hsel i oi cs b hi
      have sj := fun cs b => hsel j oj cs b hoj
      have hfree' : ∀ k ok, ops[k]? = some ok → k ≠ i → (listed.setIfInBounds j true).getD k true = false →
          (∀ e ∈ ok.after, Region.binds .any e = true → e.on ≠ i) → oi.apart ops ok = true := fun k ok hk hki hun' hno => by
        refine hfree k ok hk hki ?_ hno
        by_cases hjk : j = k
        · subst hjk; exact hjun
        · rw [getD_set_ne true hjk] at hun'; exact hun'
      -- what j does behind each that i may give
      have step : ∀ v u, (wpEachM P ops W Ψ n L (f + 1) (listed.setIfInBounds i true) (a.put oi.dst v)) →
          (Region.wanted oj (yielded ops a.tmps) = true → LoM P W Ψ a.eval oj u) → (Region.wanted oj (yielded ops a.tmps) = false → u = undef) →
          wpEachM P ops W Ψ n L f ((listed.setIfInBounds j true).setIfInBounds i true) ((a.put oj.dst u).put oi.dst v) := by
        intro v u hE hu hu'
        have h1 := (hE.2 j (ready_mono hj hji)).2 oj hoj
        rw [Array.setIfInBounds_comm _ _ hji, ← Act.put_comm a v u p2]
        unfold lOpM at h1
        rw [wanted_put oj a oi.dst v p1] at h1
        cases hwj : Region.wanted oj (yielded ops a.tmps) with
        | true =>
          rw [if_pos hwj] at h1
          exact h1.2 u (by rw [(safe_putM sj p1).2]; exact hu hwj)
        | false =>
          rw [hwj] at h1
          simp only [Bool.false_eq_true, if_false] at h1
          rw [hu' hwj]; exact h1
      have safej : ∀ v, (wpEachM P ops W Ψ n L (f + 1) (listed.setIfInBounds i true) (a.put oi.dst v)) → Region.wanted oj (yielded ops a.tmps) = true → SafeM P W Ψ a.eval oj := by
        intro v hE hwj
        have h1 := (hE.2 j (ready_mono hj hji)).2 oj hoj
        unfold lOpM at h1
        rw [wanted_put oj a oi.dst v p1, if_pos hwj, (safe_putM sj p1).1] at h1
        exact h1.1
      have next : ∀ u, (Region.wanted oj (yielded ops a.tmps) = true → LoM P W Ψ a.eval oj u) → (Region.wanted oj (yielded ops a.tmps) = false → u = undef) →
          wpEachM P ops W Ψ n L (f + 1) (listed.setIfInBounds j true) (a.put oj.dst u) := by
        intro u hu hu'
        refine ih (listed.setIfInBounds j true) _ (inv.set hj hjn) hfree' (ready_mono hr (Ne.symm hji)) ?_
        unfold lOpM at H ⊢
        rw [wanted_put oi a oj.dst u p3]
        split
        · rename_i hwi
          rw [if_pos hwi] at H
          refine ⟨by rw [(safe_putM si p3).1]; exact H.1, fun v hv => ?_⟩
          rw [(safe_putM si p3).2] at hv
          exact step v u (H.2 v hv) hu hu'
        · rename_i hwi
          rw [if_neg hwi] at H
          exact step undef u H hu hu'
      have some : ∃ v, wpEachM P ops W Ψ n L (f + 1) (listed.setIfInBounds i true) (a.put oi.dst v) := by
        unfold lOpM at H
        split at H
        · obtain ⟨v, hv⟩ := lo_someM H.1; exact ⟨v, H.2 v hv⟩
        · exact ⟨undef, H⟩
      obtain ⟨v0, hv0⟩ := some
      unfold lOpM
      split
      · rename_i hwj
        exact ⟨safej v0 hv0 hwj, fun u hu => next u (fun _ => hu) (fun h => by rw [hwj] at h; cases h)⟩
      · rename_i hwj
        exact next undef (fun h => absurd h hwj) (fun _ => rfl)

theorem getD_setM {l : Array Bool} {i j : Nat} : (l.setIfInBounds i true).getD j true = (if j = i then true else l.getD j true) := by
  by_cases h : j = i
  · subst h
    rw [if_pos rfl]
    simp only [Array.getD_eq_getD_getElem?, Array.getElem?_setIfInBounds_self]
    split <;> rfl
  · rw [if_neg h]
    simp only [Array.getD_eq_getD_getElem?, Array.getElem?_setIfInBounds_ne (Ne.symm h)]
theorem wpEach_lexM {n g : Nat} {Lq : Act → Prop} (hsel : Region.noSelect ops = true) (hs : Region.sinkB .any ops n = true) (hc : Region.chainB .any ops n = true) (hn : n < ops.size) :
    ∀ (l : List Oper) (k : Nat) (listed : Array Bool) (a : Act), (∀ j, j < l.length → l[j]? = ops[k + j]?) → k + l.length = n → HeadInv .any ops n listed → (∀ j, j < k → listed.getD j true = true) →
    Region.lexHead .any ops g l.length k listed = true → wpLooseM P ops W Ψ Lq l a →
    wpEachM P ops W Ψ n (fun listed' a' => Region.seqB .any ops g n listed' = true ∧ (∀ j, j < n → listed'.getD j true = true) ∧ Lq a') l.length listed a
  | [], k, listed, a, _, hk, _, hls, hB, h => by
    obtain rfl : k = n := by simpa using hk
    exact ⟨by simpa [Region.lexHead] using hB, hls, h⟩
  | o :: l, k, listed, a, hl, hk, inv, hls, hB, h => by
    have h0 : ops[k]? = some o := by simpa using (hl 0 (by simp)).symm
    simp only [List.length_cons, Region.lexHead, Bool.and_eq_true] at hB
    obtain ⟨⟨hr, hf⟩, hB'⟩ := hB
    have hkn : k < n := by simp only [List.length_cons] at hk; omega
    have hr' : k ∈ Region.ready .any ops listed := by simpa using hr
    refine wpEach_firstM h0 (Region.noSelect_spec hsel) hs hc hn hkn (fun listed' a' hL => seqB_ready hL.1) l.length listed a inv (Region.free_spec h0 hf) hr' ?_
    exact lOp_monoM (fun a' h' => wpEach_lexM hsel hs hc hn l (k + 1) _ a' (fun j hj => by
      have := hl (j + 1) (by simp; omega); simpa [Nat.add_assoc, Nat.add_comm 1 j] using this) (by simp only [List.length_cons] at hk; omega) (inv.set hr' hkn) (fun j hj => by
      rw [getD_setM]; split
      · rfl
      · exact hls j (by omega)) hB' h') h


/-- An operation that lays a block: its slot, the block. -/
structure LaysB (P : Program) (o : Oper) (d : Tmp) (blk : Obj) : Prop where
  dst : o.dst = some d
  guard : o.guard = none
  run : ∀ ev w, (execOp ev o).run P w = .ok (.value (.pointer (some ⟨w.heap.size, 0, none⟩))) (w.alloc blk)
/-- What is known of the new blocks: a list of places in the text, with slots and blocks. -/
def NewOK (ms : List (Nat × Tmp × Obj)) (listed : Array Bool) (a : Act) (w : World) : Prop :=
  (∀ m ∈ ms, listed.getD m.1 true = true → ∃ g, a.eval (.tmp m.2.1) = .pointer (some ⟨g, 0, none⟩) ∧ w.heap[g]? = some m.2.2) ∧
  ∀ m ∈ ms, ∀ m' ∈ ms, m.1 ≠ m'.1 → listed.getD m.1 true = true → listed.getD m'.1 true = true → a.eval (.tmp m.2.1) ≠ a.eval (.tmp m'.2.1)
theorem eval_put_ne {a : Act} {d : Tmp} {dst : Option Tmp} {v : Value} (h : dst ≠ some d) : (a.put dst v).eval (.tmp d) = a.eval (.tmp d) := by
  cases dst with
  | none => rfl
  | some e =>
    have hne : e ≠ d := fun h' => h (by rw [h'])
    simp only [Act.put, Act.eval, Array.getD_eq_getD_getElem?, Array.getElem?_setIfInBounds_ne hne]
theorem eval_put_self {a : Act} {d : Tmp} {v : Value} (h : d < a.tmps.size) : (a.put (some d) v).eval (.tmp d) = v := by
  simp only [Act.put, Act.eval, Array.getD_eq_getD_getElem?, Array.getElem?_setIfInBounds_self, if_pos h, Option.getD_some]
theorem size_put {a : Act} {dst : Option Tmp} {v : Value} : (a.put dst v).tmps.size = a.tmps.size := by
  cases dst with
  | none => rfl
  | some e => simp [Act.put]
theorem wpAny_of_eachM {n g : Nat} {L : Array Bool → Act → Prop} {Q : Exit → Act → World → Prop} (ms : List (Nat × Tmp × Obj)) (hms : ∀ m ∈ ms, ∃ o, ops[m.1]? = some o ∧ LaysB P o m.2.1 m.2.2)
    (hd : ∀ m ∈ ms, ∀ i o, i < n → i ≠ m.1 → ops[i]? = some o → o.dst ≠ some m.2.1) (hL : ∀ listed a w, L listed a → Below W.heap.size W w → NewOK ms listed a w → wpAny P .any ops Q g listed a w) :
    ∀ (f : Nat) (listed : Array Bool) (a : Act) (w : World), wpEachM P ops W Ψ n L f listed a → Below W.heap.size W w → NewOK ms listed a w → (∀ m ∈ ms, m.2.1 < a.tmps.size) → wpAny P .any ops Q (f + g) listed a w
  | 0, listed, a, w, h, hw, hn, _ => by rw [Nat.zero_add]; exact hL _ _ _ h hw hn
  | f + 1, listed, a, w, h, hw, hn, hsz => by
    rw [show f + 1 + g = (f + g) + 1 by omega]
    refine ⟨fun h0 => absurd h0 h.1, fun i hi => ?_⟩
    obtain ⟨hun, oi, hoi, -⟩ := mem_ready.1 hi
    obtain ⟨hin, hlo⟩ := h.2 i hi
    refine wpOp_of_lOpM hoi hw (fun v w' hK hb hrun => wpAny_of_eachM ms hms hd hL f _ _ w' hK (hw.trans (hb.mono hw.size)) ?_ (fun m hm => by rw [size_put]; exact hsz m hm)) (hlo oi hoi)
    have old : ∀ m ∈ ms, i ≠ m.1 → (listed.setIfInBounds i true).getD m.1 true = true → listed.getD m.1 true = true ∧ (a.put oi.dst v).eval (.tmp m.2.1) = a.eval (.tmp m.2.1) := fun m hm hmi hl => by
      rw [getD_setM, if_neg (Ne.symm hmi)] at hl
      exact ⟨hl, eval_put_ne (hd m hm i oi hin hmi hoi)⟩
    have hlt : ∀ {g' : Nat} {o : Obj}, w.heap[g']? = some o → g' < w.heap.size := fun {g' o} h => by
      rcases Nat.lt_or_ge g' w.heap.size with h' | h'
      · exact h'
      · rw [Array.getElem?_eq_none h'] at h; cases h
    have new : ∀ m ∈ ms, i = m.1 → (a.put oi.dst v).eval (.tmp m.2.1) = .pointer (some ⟨w.heap.size, 0, none⟩) ∧ w'.heap[w.heap.size]? = some m.2.2 := fun m hm hmi => by
      obtain ⟨om, hom, lay⟩ := hms m hm
      subst hmi
      rw [hoi] at hom
      cases hom
      have hwt : Region.wanted oi (yielded ops a.tmps) = true := by simp [Region.wanted, lay.guard]
      obtain ⟨rfl, rfl⟩ := hrun hwt _ _ (lay.run a.eval w)
      exact ⟨by rw [lay.dst]; exact eval_put_self (hsz m hm), heap_alloc_new _ _⟩
    refine ⟨fun m hm hl => ?_, fun m hm m' hm' hne hl hl' => ?_⟩
    · by_cases hmi : i = m.1
      · exact ⟨_, new m hm hmi⟩
      · obtain ⟨h1, h2⟩ := old m hm hmi hl
        obtain ⟨g', hg1, hg2⟩ := hn.1 m hm h1
        exact ⟨g', by rw [h2]; exact hg1, by rw [hb.block g' (hlt hg2)]; exact hg2⟩
    · by_cases hmi : i = m.1
      · have hmi' : i ≠ m'.1 := by omega
        obtain ⟨h1, h2⟩ := old m' hm' hmi' hl'
        obtain ⟨g', hg1, hg2⟩ := hn.1 m' hm' h1
        rw [(new m hm hmi).1, h2, hg1]
        intro h
        have := hlt hg2
        simp only [Value.pointer.injEq, Option.some.injEq, Addr.mk.injEq] at h
        omega
      · obtain ⟨h1, h2⟩ := old m hm hmi hl
        by_cases hmi' : i = m'.1
        · obtain ⟨g', hg1, hg2⟩ := hn.1 m hm h1
          rw [(new m' hm' hmi').1, h2, hg1]
          intro h
          have := hlt hg2
          simp only [Value.pointer.injEq, Option.some.injEq, Addr.mk.injEq] at h
          omega
        · obtain ⟨h3, h4⟩ := old m' hm' hmi' hl'
          rw [h2, h4]
          exact hn.2 m hm m' hm' hne h1 h3
/-- THE LAW: the first n operations once, in the text's order, some of which lay new blocks; the rest as they stand. -/
theorem wp_region_looseM {id : Nat} {Q : Exit → Act → World → Prop} {a : Act} {l : List Oper} (n : Nat) (Ψ : FuncId → Array Value → Value → Prop) (ms : List (Nat × Tmp × Obj)) (hm : P.follows .mixedOrders = true) (hB : Region.lexTailB .any l.toArray n = true)
    (hD : (ms.all fun m => decide (m.1 < n) && (List.range n).all fun i => decide (i = m.1) || (match l[i]? with | some o => o.dst != some m.2.1 | none => true)) = true)
    (hms : ∀ m ∈ ms, ∃ o, l[m.1]? = some o ∧ LaysB P o m.2.1 m.2.2) (hsz : ∀ m ∈ ms, m.2.1 < a.tmps.size)
    (h : wpLooseM P l.toArray W Ψ (fun a' => ∀ w, Below W.heap.size W w → (∀ m ∈ ms, ∃ g, a'.eval (.tmp m.2.1) = .pointer (some ⟨g, 0, none⟩) ∧ w.heap[g]? = some m.2.2) → (∀ m ∈ ms, ∀ m' ∈ ms, m.1 ≠ m'.1 → a'.eval (.tmp m.2.1) ≠ a'.eval (.tmp m'.2.1)) → wpList P l.toArray Q (l.drop n) a' w) (l.take n) a) : (Code.region id l.toArray true).wp P Q a W := by
  simp only [Region.lexTailB, Bool.and_eq_true, decide_eq_true_eq] at hB
  obtain ⟨⟨⟨⟨hsel, hn⟩, hs⟩, hc⟩, hlex⟩ := hB
  have hn' : n < l.length := by simpa using hn
  have htl : (l.take n).length = n := by simp; omega
  have hdl : (l.drop n).length = l.toArray.size - n := by simp
  have inv0 : HeadInv .any l.toArray n (Array.replicate l.toArray.size false) :=
    ⟨by simp, fun j oj _ hl => (by rw [getD_replicate_false] at hl; cases hl), fun t _ ht => getD_in (by simpa using ht) (getD_replicate_false _ _)⟩
  have H := wpEach_lexM (g := l.toArray.size - n) hsel hs hc hn (l.take n) 0 _ a (fun j hj => by
    have hj' : j < n := by rw [htl] at hj; exact hj
    simp [hj']) (by simpa using htl) inv0 (fun j hj => absurd hj (Nat.not_lt_zero _)) (by rw [htl]; exact hlex) h
  refine wp_region_any hm ?_
  rw [List.all_eq_true] at hD
  have h2 := wpAny_of_eachM (Q := Q) (g := l.toArray.size - n) ms (by simpa using hms) (fun m hmm i o hi hne ho => by
      have hd := hD m hmm
      rw [Bool.and_eq_true, List.all_eq_true] at hd
      have hd2 := hd.2 i (List.mem_range.2 hi)
      have ho' : l[i]? = some o := by simpa using ho
      rw [ho'] at hd2
      simpa [hne] using hd2)
    (fun listed a' w' hL hw' hnew => by
      rw [← hdl]
      have hin : ∀ m ∈ ms, m.1 < n := fun m hmm => by
        have hd := hD m hmm
        rw [Bool.and_eq_true, decide_eq_true_eq] at hd
        exact hd.1
      exact wpAny_of_seq (l.drop n) n listed a' w' (fun j => by simp) (by rw [hdl]; exact hL.1) (hL.2.2 w' hw' (fun m hmm => hnew.1 m hmm (hL.2.1 m.1 (hin m hmm))) (fun m hmm m' hmm' hne => hnew.2 m hmm m' hmm' hne (hL.2.1 m.1 (hin m hmm)) (hL.2.1 m'.1 (hin m' hmm'))))) _ _ _ { W with drawn := W.drawn + 1 } H (Below.drew (Below.refl _ _)) (by
        have no : ∀ m ∈ ms, ¬ (Array.replicate l.toArray.size false).getD m.1 true = true := fun m hmm hl => by
          have hd := hD m hmm
          rw [Bool.and_eq_true, decide_eq_true_eq] at hd
          rw [getD_in (by simp; omega) (getD_replicate_false _ _)] at hl
          cases hl
        exact ⟨fun m hmm hl => absurd hl (no m hmm), fun m hmm m' _ _ hl => absurd hl (no m hmm)⟩) hsz
  rw [htl, show n + (l.toArray.size - n) = l.toArray.size by omega] at h2
  exact h2

/-! ### The steps -/
section
variable {L : Act → Prop} {rest : List Oper} {a : Act} {o : Oper}
/-- One operation, run in whatever such world. -/
def LooseRM (P : Program) (W : World) (Ψ : FuncId → Array Value → Value → Prop) (K : Value → Prop) (r : Past W → Result Next) : Prop :=
  (∀ p : Past W, GoesM P p.w Ψ (r p)) ∧ ∀ v, (∃ p : Past W, Gives Ψ v (r p)) → K v
@[go_sem] theorem LooseRM_value (K : Value → Prop) (v : Value) : LooseRM P W Ψ K (fun p => .ok (.value v) p.w) = K v := by
  apply propext
  constructor
  · intro h; exact h.2 v ⟨⟨W, Below.refl _ _⟩, rfl⟩
  · intro h; exact ⟨fun p => Below.refl _ _, fun u ⟨p, hu⟩ => by cases hu; exact h⟩
@[go_sem] theorem LooseRM_enter (K : Value → Prop) (f : FuncId) (args : Array Value) : LooseRM P W Ψ K (fun p => .ok (.enter f args) p.w) =
    ((∀ p : Past W, Calls P f args p.w fun e w'' => ∃ u, e = .returned u ∧ Ψ f args u ∧ Below p.w.heap.size p.w w'') ∧ ∀ u, Ψ f args u → K u) := by
  apply propext
  constructor
  · intro h; exact ⟨fun p => (h.1 p).2, fun u hu => h.2 u ⟨⟨W, Below.refl _ _⟩, hu⟩⟩
  · intro h; exact ⟨fun p => ⟨Below.refl _ _, h.1 p⟩, fun u ⟨p, hu⟩ => h.2 u hu⟩
theorem looseM_wanted (hw : Region.wanted o (yielded ops a.tmps) = true) (h : ∀ K : Act → Prop, (∀ a, wpLooseM P ops W Ψ L rest a → K a) → LooseRM P W Ψ (fun v => K (a.put o.dst v)) (fun p => (execOp a.eval o).run P p.w)) :
    wpLooseM P ops W Ψ L (o :: rest) a := by
  have h1 := h _ (fun _ h => h)
  show lOpM P ops W Ψ o _ a
  unfold lOpM
  rw [if_pos hw]
  exact ⟨h1.1, h1.2⟩
theorem looseM_nil (h : L a) : wpLooseM P ops W Ψ L [] a := h
/-- An operation that lays a block: an address of its own. -/
theorem looseM_lays {d : Tmp} {blk : Obj} (hl : LaysB P o d blk) (h : ∀ g, W.heap.size ≤ g → wpLooseM P ops W Ψ L rest (a.put (some d) (.pointer (some ⟨g, 0, none⟩)))) : wpLooseM P ops W Ψ L (o :: rest) a := by
  refine looseM_wanted (by simp [Region.wanted, hl.guard]) (fun K hK => ?_)
  rw [hl.dst]
  refine ⟨fun p => ?_, fun v hv => ?_⟩
  · simp only [hl.run a.eval p.w]
    exact (Below.refl _ _).alloc (Nat.le_refl _) _
  · obtain ⟨p, hp⟩ := hv
    have hp : Gives Ψ v ((execOp a.eval o).run P p.w) := hp
    rw [hl.run a.eval p.w] at hp
    have e : Value.pointer (some ⟨p.w.heap.size, 0, none⟩) = v := hp
    rw [← e]
    exact hK _ (h _ p.h.size)
/-- An operation that hands back one of some values, and draws at most. -/
theorem looseRM_draws {K : Value → Prop} {r : Past W → Result Next} (R : Value → Prop) (hr : ∀ p : Past W, ∃ v n, r p = .ok (.value v) (p.w.drewN n) ∧ R v) (h : ∀ v, R v → K v) : LooseRM P W Ψ K r := by
  refine ⟨fun p => ?_, fun u ⟨p, hu⟩ => ?_⟩
  · obtain ⟨v, n, e, -⟩ := hr p
    rw [e]; exact below_drewN (Below.refl _ _) n
  · obtain ⟨v, n, e, hv⟩ := hr p
    rw [e] at hu
    have e2 : v = u := hu
    subst e2; exact h _ hv
variable {dst : Option Tmp} {ty : TypeId} {pos : String} {after : Array Edge} {guard : Option (Nat × Bool)}
theorem looseM_farith {op : BinOp} {t t' : TypeId} {x y : Operand} {k : FloatKind} {u v : Nat} (hw : Region.wanted { dst, op := .binOp op t x y t', type := ty, pos, after, guard } (yielded ops a.tmps) = true)
    (ho : arith op = true) (hx : a.eval x = .float k u) (hy : a.eval y = .float k v)
    (h : ∀ r, FR k r (fop op k (cn k u) (cn k v)) → wpLooseM P ops W Ψ L rest (a.put dst (.float k r))) :
    wpLooseM P ops W Ψ L ({ dst, op := .binOp op t x y t', type := ty, pos, after, guard } :: rest) a := by
  refine looseM_wanted hw fun K hK => looseRM_draws (fun z => ∃ r, z = .float k r ∧ FR k r (fop op k u v)) ?_ ?_
  · intro p
    obtain ⟨r, n, hr, hf⟩ := run_farith (P := P) ho t k u v p.w
    refine ⟨.float k r, n, ?_, r, rfl, hf⟩
    unfold execOp
    simp only [hx, hy, eqGuard_at_float, Sem.run_bind, Sem.run_pure, Result.andThen_ok, hr]
  · rintro z ⟨r, rfl, hf⟩
    exact hK _ (h r (by rw [fop_cn_left, fop_cn_right]; exact hf))
end
end
end Go.Proofs.YtbaocallhnehfaaGreatDoor
