/- A region that draws its order and ends in an append and a store: what reads the slice may be taken first. A plain law of the walk, over any program, after the kit's own law of regions whose cells nobody writes. No condition. -/
import Derived.OrdersHeld
import Derived.Deep.RegionHeld3
import Derived.RowKit3
import Derived.StillTail
namespace Go.Proofs.YtjcakbikpficbaaGreatDoor
open Go Go.RowKit
section
variable {P : Program} {ops : Array Oper} {Q : Exit → Act → World → Prop} {md : Region.Mode} {C : World → Prop} {A : Nat}
/-- Whatever order is picked, and C holds behind every operation till number A has come up. -/
def wpAnyC (P : Program) (md : Region.Mode) (ops : Array Oper) (Q : Exit → Act → World → Prop) (C : World → Prop) (A : Nat) : Nat → Array Bool → Act → World → Prop
  | 0, listed, a, w => Region.ready md ops listed = [] ∧ Q .normal a w
  | fuel + 1, listed, a, w =>
    (Region.ready md ops listed = [] → Q .normal a w) ∧
    ∀ i ∈ Region.ready md ops listed, wpOp P ops Q i (fun a' w' => ((listed.setIfInBounds i true).getD A true = false → C w') ∧ wpAnyC P md ops Q C A fuel (listed.setIfInBounds i true) a' w') a w
theorem wpAny_of_C : ∀ (fuel : Nat) (listed : Array Bool) (a : Act) (w : World), wpAnyC P md ops Q C A fuel listed a w → wpAny P md ops Q fuel listed a w
  | 0, _, _, _, h => h
  | fuel + 1, _, _, _, h => ⟨h.1, fun i hi => wpOp_mono (fun a' w' h' => wpAny_of_C fuel _ a' w' h'.2) (h.2 i hi)⟩
theorem getD_setC {l : Array Bool} {i j : Nat} (h : j ≠ i) : (l.setIfInBounds i true).getD j true = l.getD j true := by
  simp only [Array.getD_eq_getD_getElem?, Array.getElem?_setIfInBounds_ne (Ne.symm h)]
/-- Number A waits for number i, by whatever road. -/
def waitsT (md : Region.Mode) (ops : Array Oper) (i : Nat) : Nat → Nat → Bool
  | 0, _ => false
  | f + 1, A => match ops[A]? with
    | some o => o.after.any fun e => Region.binds md e && (e.on == i || waitsT md ops i f e.on)
    | none => false
/-- What has come up had waited for nothing that has not. -/
def ClosedL (md : Region.Mode) (ops : Array Oper) (listed : Array Bool) : Prop := ∀ j oj, ops[j]? = some oj → listed.getD j false = true → ∀ e ∈ oj.after, Region.binds md e = true → listed.getD e.on false = true
theorem waits_listed {listed : Array Bool} {i : Nat} (hc : ClosedL md ops listed) : ∀ (f A : Nat), waitsT md ops i f A = true → listed.getD A false = true → listed.getD i false = true
  | 0, _, h, _ => by cases h
  | f + 1, A, h, hl => by
    unfold waitsT at h
    cases ho : ops[A]? with
    | none => rw [ho] at h; cases h
    | some o =>
      rw [ho] at h
      obtain ⟨e, he, hb⟩ := Array.any_eq_true'.1 h
      simp only [Bool.and_eq_true, Bool.or_eq_true, beq_iff_eq] at hb
      have h1 := hc A o ho hl e he hb.1
      rcases hb.2 with h2 | h2
      · rw [← h2]; exact h1
      · exact waits_listed hc f e.on h2 h1
theorem waits_ready {listed : Array Bool} {i f A : Nat} (hc : ClosedL md ops listed) (hw : waitsT md ops i f A = true) (hr : A ∈ Region.ready md ops listed) : listed.getD i false = true := by
  obtain ⟨-, o, ho, hall⟩ := mem_ready.1 hr
  cases f with
  | zero => cases hw
  | succ f =>
    unfold waitsT at hw
    rw [ho] at hw
    obtain ⟨e, he, hb⟩ := Array.any_eq_true'.1 hw
    simp only [Bool.and_eq_true, Bool.or_eq_true, beq_iff_eq] at hb
    have h1 := hall e he hb.1
    rcases hb.2 with h2 | h2
    · rw [← h2]; exact h1
    · exact waits_listed hc f e.on h2 h1
theorem closed_set {listed : Array Bool} {j : Nat} (hc : ClosedL md ops listed) (hr : j ∈ Region.ready md ops listed) : ClosedL md ops (listed.setIfInBounds j true) := fun k ok hk hl e he hb => by
  have up : ∀ m, listed.getD m false = true → (listed.setIfInBounds j true).getD m false = true := fun m hm => by
    by_cases h : m = j
    · subst h
      simp only [Array.getD_eq_getD_getElem?, Array.getElem?_setIfInBounds_self] at hm ⊢
      split
      · rfl
      · rename_i h; rw [Array.getElem?_eq_none (by omega)] at hm; cases hm
    · simp only [Array.getD_eq_getD_getElem?, Array.getElem?_setIfInBounds_ne (Ne.symm h)] at hm ⊢; exact hm
  by_cases hkj : k = j
  · subst hkj
    obtain ⟨-, o, ho, hall⟩ := mem_ready.1 hr
    rw [hk] at ho; cases ho
    exact up _ (hall e he hb)
  · have : listed.getD k false = true := by simp only [Array.getD_eq_getD_getElem?, Array.getElem?_setIfInBounds_ne (Ne.symm hkj)] at hl ⊢; exact hl
    exact up _ (hc k ok hk this e he hb)
/-- What may come up and yields its value in every world that meets C, and for which number A waits, may be taken first. -/
theorem wpAnyC_first {i : Nat} {oi : Oper} {v : Value} (hi : ops[i]? = some oi) (hsel : ∀ (j : Nat) (o : Oper) cs b, ops[j]? = some o → o.op ≠ .select cs b)
    (hQ : ∀ c a w, Q (.panic c) (a.put oi.dst v) w → Q (.panic c) a w) {d : Nat} (hA : waitsT md ops i d A = true) (hAi : A ≠ i) :
    ∀ (fuel : Nat) (listed : Array Bool) (a : Act) (w : World),
      (∀ j oj, ops[j]? = some oj → j ≠ i → listed.getD j true = false → (∀ e ∈ oj.after, Region.binds md e = true → e.on ≠ i) → oi.apart ops oj = true) →
      ClosedL md ops listed → listed.getD A true = false → i ∈ Region.ready md ops listed → YieldsIf P ops C oi v a → C w →
      wpAnyC P md ops Q C A fuel (listed.setIfInBounds i true) (a.put oi.dst v) w → wpAnyC P md ops Q C A (fuel + 1) listed a w := by
  intro fuel
  induction fuel with
  | zero =>
    intro listed a w _ _ hlA hr hy hS H
    refine ⟨fun h => (by rw [h] at hr; cases hr), fun j hj => ?_⟩
    by_cases hji : j = i
    · subst hji; exact hy.wpOp hi hS ⟨fun _ => hS, H⟩
    · have := ready_mono hj hji
      rw [H.1] at this
      cases this
  | succ fuel ih =>
    intro listed a w hfree hcl hlA hr hy hS H
    refine ⟨fun h => (by rw [h] at hr; cases hr), fun j hj => ?_⟩
    by_cases hji : j = i
    · subst hji; exact hy.wpOp hi hS ⟨fun _ => hS, H⟩
    · have h1 := H.2 j (ready_mono hj hji)
      obtain ⟨hjun, oj, hoj, hall⟩ := mem_ready.1 hj
      have hnot : ∀ e ∈ oj.after, Region.binds md e = true → e.on ≠ i := fun e he hb heq => by
        have h1 := hall e he hb
        have h0 := (mem_ready.1 hr).1
        rw [heq] at h1
        rcases Nat.lt_or_ge i listed.size with h' | h'
        · simp [h'] at h0 h1; rw [h0] at h1; cases h1
        · simp [Array.getElem?_eq_none h'] at h1
      have hjA : A ≠ j := fun h => by
        subst h
        have h0 := (mem_ready.1 hr).1
        have h1 := waits_ready hcl hA (by exact hj)
        rcases Nat.lt_or_ge i listed.size with h' | h'
        · simp [h'] at h0 h1; rw [h0] at h1; cases h1
        · simp [Array.getElem?_eq_none h'] at h1
      have hlA' : (listed.setIfInBounds j true).getD A true = false := by rw [getD_setC hjA]; exact hlA
      have h2 := wpOp_putIf hoj (hfree j oj hoj hji hjun hnot) (fun cs b => hsel i oi cs b hi) (fun cs b => hsel j oj cs b hoj) hQ hy h1
      have hfree' : ∀ k ok, ops[k]? = some ok → k ≠ i → (listed.setIfInBounds j true).getD k true = false →
          (∀ e ∈ ok.after, Region.binds md e = true → e.on ≠ i) → oi.apart ops ok = true := fun k ok hk hki hun hno => by
        refine hfree k ok hk hki ?_ hno
        by_cases hjk : j = k
        · subst hjk; exact hjun
        · rw [getD_set_ne true hjk] at hun; exact hun
      have hlA2 : ((listed.setIfInBounds i true).setIfInBounds j true).getD A true = false := by rw [getD_setC hjA, getD_setC hAi]; exact hlA
      refine wpOp_mono (fun a' w' h3 => ⟨fun _ => h3.2.1 hlA2, ih (listed.setIfInBounds j true) a' w' hfree' (closed_set hcl hj) hlA' (ready_mono hr (Ne.symm hji)) h3.1 (h3.2.1 hlA2) ?_⟩) h2
      rw [Array.setIfInBounds_comm _ _ hji]
      exact h3.2.2
def closedB (md : Region.Mode) (ops : Array Oper) (listed : Array Bool) : Bool := (List.range ops.size).all fun j => !(listed.getD j false) || (match ops[j]? with | some o => o.after.all fun e => !(Region.binds md e) || listed.getD e.on false | none => true)
theorem closedB_spec {listed : Array Bool} (h : closedB md ops listed = true) : ClosedL md ops listed := fun j oj hj hl e he hb => by
  unfold closedB at h
  rw [List.all_eq_true] at h
  have h1 := h j (List.mem_range.2 (Array.getElem?_eq_some_iff.1 hj).1)
  rw [hl, hj] at h1
  simp only [Bool.not_true, Bool.false_or] at h1
  have h2 := Array.all_eq_true'.1 h1 e he
  rw [hb] at h2
  simpa using h2
/-- The move of a walk. -/
theorem wpAnyC_take {i : Nat} {oi : Oper} {v : Value} {fuel : Nat} {listed : Array Bool} {a : Act} {w : World} (hi : ops[i]? = some oi)
    (hcl : closedB md ops listed = true) (hs : (Region.noSelect ops && Region.free md ops listed i && (Region.ready md ops listed).contains i && waitsT md ops i ops.size A && (A != i) && !(listed.getD A true)) = true)
    (hQ : ∀ c a w, Q (.panic c) (a.put oi.dst v) w → Q (.panic c) a w) (hy : YieldsIf P ops C oi v a) (hS : C w)
    (h : wpAnyC P md ops Q C A fuel (listed.setIfInBounds i true) (a.put oi.dst v) w) : wpAnyC P md ops Q C A (fuel + 1) listed a w := by
  simp only [Bool.and_eq_true, Bool.not_eq_true', bne_iff_ne, ne_eq] at hs
  obtain ⟨⟨⟨⟨⟨h1, h2⟩, h3⟩, h4⟩, h5⟩, h6⟩ := hs
  exact wpAnyC_first hi (Region.noSelect_spec h1) hQ h4 h5 fuel listed a w (Region.free_spec hi h2) (closedB_spec hcl) h6 (by simpa using h3) hy hS h
/-- The one that may come up. -/
theorem wpAnyC_one {i : Nat} {o : Oper} {fuel : Nat} {listed : Array Bool} {a : Act} {w : World} (ho : ops[i]? = some o) (hr : Region.ready md ops listed = [i])
    (h : ∀ K : Act → World → Prop, (∀ a w, ((listed.setIfInBounds i true).getD A true = false → C w) → wpAnyC P md ops Q C A fuel (listed.setIfInBounds i true) a w → K a w) → if Region.wanted o (yielded ops a.tmps) = true then Oper.wp P o a w K Q else K (a.put o.dst undef) w) :
    wpAnyC P md ops Q C A (fuel + 1) listed a w :=
  ⟨fun h0 => (by rw [hr] at h0; cases h0), fun j hj => by
    rw [hr] at hj
    have e : j = i := by simpa using hj
    subst e
    exact wpOp_step ho (fun K' hK => h K' (fun a w h1 h2 => hK a w ⟨h1, h2⟩))⟩
theorem wpAnyC_act {fuel : Nat} {listed : Array Bool} {a : Act} {dst : Option Tmp} {v : Value} {w : World} {d : Tmp} (hd : dst = some d) (h : wpAnyC P md ops Q C A fuel listed (a.put (some d) v) w) : wpAnyC P md ops Q C A fuel listed (a.put dst v) w := by rw [hd]; exact h
theorem wpAnyC_done {listed : Array Bool} {a : Act} {w : World} (hr : Region.ready md ops listed = []) (h : Q .normal a w) : wpAnyC P md ops Q C A 0 listed a w := ⟨hr, h⟩
theorem wp_region_C {id : Nat} {a : Act} {w : World} (C : World → Prop) (A n : Nat) (hm : P.follows .mixedOrders = true) (hn : ops.size = n) (h : wpAnyC P .any ops Q C A n (Array.replicate n false) a w.drew) : (Code.region id ops true).wp P Q a w := by
  subst hn
  exact wp_region_any hm (wpAny_of_C _ _ _ _ h)
theorem getD_setSelf (l : Array Bool) (A : Nat) : (l.setIfInBounds A true).getD A true = true := by
  simp only [Array.getD_eq_getD_getElem?, Array.getElem?_setIfInBounds_self]
  split <;> rfl
end
end Go.Proofs.YtjcakbikpficbaaGreatDoor
