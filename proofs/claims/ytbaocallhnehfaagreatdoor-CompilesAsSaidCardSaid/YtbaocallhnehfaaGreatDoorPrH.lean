/- What node.Compile's inner function works on. Conditions: what each theorem names. -/
import Derived.Test.YtbaocallhnehfaaGreatDoorPrN
import Derived.Test.YtbaocallhnehfaaGreatDoorPrQ
import Derived.Test.YtbaocallhnehfaaGreatDoorPrD
set_option linter.unusedVariables false
namespace Go.Proofs.YtbaocallhnehfaaGreatDoor
open Go Go.RowKit
/-- What the maps say: of each name the node that it is, of each name the step. -/
def mdS (S : Nat → StepD) (n : Nat) (M : Nat → Option Nat) : List UInt8 → Option Value := fun l => (posS S n l).bind (fun j => (M j).map (fun r => Value.int .i64 (r : Int)))
def spS (S : Nat → StepD) (n : Nat) : List UInt8 → Option Value := fun l => (posS S n l).map (fun j => stV (S j))
theorem mdS_at {S : Nat → StepD} {n j : Nat} (h : GoodS S n) (hj : j < n) (M : Nat → Option Nat) : mdS S n M (S j).nm.data.toList = (M j).map (fun r => Value.int .i64 (r : Int)) := by
  unfold mdS; rw [h.uniq (Nat.le_refl _) hj]; rfl
theorem spS_at {S : Nat → StepD} {n j : Nat} (h : GoodS S n) (hj : j < n) : spS S n (S j).nm.data.toList = some (stV (S j)) := by
  unfold spS; rw [h.uniq (Nat.le_refl _) hj]; rfl
theorem mdS_put {S : Nat → StepD} {n j : Nat} (h : GoodS S n) (hj : j < n) (M : Nat → Option Nat) (r : Nat) : ∀ l, putS (mdS S n M) (S j).nm.data.toList (.int .i64 (r : Int)) l = mdS S n (upM M j r) l := fun l => by
  unfold putS
  by_cases e : l = (S j).nm.data.toList
  · rw [if_pos e, e, mdS_at h hj]; unfold upM; rw [if_pos rfl]; rfl
  · rw [if_neg e]
    unfold mdS
    cases hp : posS S n l with
    | none => rfl
    | some i =>
      have hi : i ≠ j := fun e2 => e (by rw [← e2]; exact posS_nm hp)
      simp only [Option.bind_some]
      unfold upM; rw [if_neg hi]
theorem blk_ne_mapS {w : World} {p b m : Nat} {v : Value} {vs : List Value} {f : List UInt8 → Option Value} (h : Blk w p (v :: vs)) (o : MapS w b m f) : p ≠ b := by
  obtain ⟨D, -, h1, -⟩ := o
  exact blk_ne_map h h1
/-- The blocks that stay where they are. -/
def FxB (pm ps pn pk pg mm ms mk : Nat) (b : Nat) : Prop := b = pm ∨ b = ps ∨ b = pn ∨ b = pk ∨ b = pg ∨ b = mm ∨ b = ms ∨ b = mk
/-- The blocks that are touched. -/
def TS (mm mk pg : Nat) (u : Value) (b : Nat) : Prop := b = mm ∨ b = mk ∨ b = pg ∨ u.ownBlock = some b
def needV (pm ps pn pk pg : Nat) : Value := .func (.func 14) #[] #[.pointer (some ⟨pm, 0, none⟩), .pointer (some ⟨ps, 0, none⟩), .pointer (some ⟨pn, 0, none⟩), .pointer (some ⟨pk, 0, none⟩), .pointer (some ⟨pg, 0, none⟩)]
structure NdG (Y : Nat → Prop) (w0 w : World) (pm ps pn pk pg mm ms mk : Nat) (S : Nat → StepD) (n : Nat) (s : PS) (u : Value) : Prop where
  b : Below w0.heap.size w0 w
  qm : Blk w pm [.map (some mm)]
  qs : Blk w ps [.map (some ms)]
  qf : Blk w pn [needV pm ps pn pk pg]
  qk : Blk w pk [.map (some mk)]
  qg : Blk w pg [u, .int .i64 0]
  om : MapS w mm (cntM s.M n) (mdS S n s.M)
  os : MapS w ms n (spS S n)
  ok : MapS w mk s.G.length (knS s.G)
  gn : NodesM w (fun b => FxB pm ps pn pk pg mm ms mk b ∨ Y b) u s.G
  su : ∀ b, u.ownBlock = some b → ¬ FxB pm ps pn pk pg mm ms mk b ∧ ¬ Y b ∧ w0.heap.size ≤ b
  ne : mm ≠ mk ∧ mm ≠ ms ∧ mk ≠ ms ∧ pg ≠ pm ∧ pg ≠ ps ∧ pg ≠ pn ∧ pg ≠ pk
  lo : w0.heap.size ≤ mm ∧ w0.heap.size ≤ mk ∧ w0.heap.size ≤ pg
section
variable {Y : Nat → Prop} {w0 w w' : World} {pm ps pn pk pg mm ms mk : Nat} {S : Nat → StepD} {n : Nat} {s : PS} {u : Value}
theorem NdG.past (h : NdG Y w0 w pm ps pn pk pg mm ms mk S n s u) (hb : Below w.heap.size w w') : NdG Y w0 w' pm ps pn pk pg mm ms mk S n s u :=
  ⟨h.b.trans (hb.mono h.b.size), h.qm.past hb, h.qs.past hb, h.qf.past hb, h.qk.past hb, h.qg.past hb, h.om.past hb, h.os.past hb, h.ok.past hb, h.gn.past hb, h.su, h.ne, h.lo⟩
theorem MapS.tch {S : Nat → Prop} {w w' : World} {mb n : Nat} {f : List UInt8 → Option Value} (h : MapS w mb n f) (t : Tch S w w') (hn : ¬ S mb) : MapS w' mb n f := h.block (t.block mb h.lt hn)
/-- A node is known: made[name] = r. -/
theorem NdG.putM (h : NdG Y w0 w pm ps pn pk pg mm ms mk S n s u) (hg : GoodS S n) {j r : Nat} (hj : j < n) (hM : s.M j = none) (hm : MapS w' mm (cntM s.M n + 1) (putS (mdS S n s.M) (S j).nm.data.toList (.int .i64 (r : Int)))) (hw : w.grownBy w' (some mm)) :
    NdG Y w0 w' pm ps pn pk pg mm ms mk S n ⟨s.G, upM s.M j r⟩ u ∧ Tch (fun b => b = mm) w w' := by
  have t : Tch (fun b => b = mm) w w' := Tch.of_grown hw (fun b hb => by cases hb; rfl)
  refine ⟨⟨h.b.grown hw h.b.size (fun b hb => by cases hb; exact h.lo.1), h.qm.tch t (blk_ne_mapS h.qm h.om), h.qs.tch t (blk_ne_mapS h.qs h.om), h.qf.tch t (blk_ne_mapS h.qf h.om), h.qk.tch t (blk_ne_mapS h.qk h.om), h.qg.tch t (blk_ne_mapS h.qg h.om), ?_, h.os.tch t (fun e => h.ne.2.1 e.symm), h.ok.tch t (fun e => h.ne.1 e.symm), h.gn.tch t (fun b _ hb => ?_), h.su, h.ne, h.lo⟩, t⟩
  · show MapS w' mm (cntM (upM s.M j r) n) (mdS S n (upM s.M j r))
    rw [cntM_up hM, if_pos hj]
    exact hm.congr (mdS_put hg hj s.M r)
  · cases hb
    exact ⟨.inl (.inr (.inr (.inr (.inr (.inr (.inl rfl)))))), fun e => (h.su _ e).1 (.inr (.inr (.inr (.inr (.inr (.inl rfl))))))⟩
/-- known[key] = at. -/
theorem NdG.putK (h : NdG Y w0 w pm ps pn pk pg mm ms mk S n s u) {m : Nat} {f : List UInt8 → Option Value} (hm : MapS w' mk m f) (hw : w.grownBy w' (some mk)) :
    Tch (fun b => b = mk) w w' ∧ Below w0.heap.size w0 w' ∧ Blk w' pm [.map (some mm)] ∧ Blk w' ps [.map (some ms)] ∧ Blk w' pn [needV pm ps pn pk pg] ∧ Blk w' pk [.map (some mk)] ∧ Blk w' pg [u, .int .i64 0] ∧ MapS w' mm (cntM s.M n) (mdS S n s.M) ∧ MapS w' ms n (spS S n) ∧ NodesM w' (fun b => FxB pm ps pn pk pg mm ms mk b ∨ Y b) u s.G := by
  have t : Tch (fun b => b = mk) w w' := Tch.of_grown hw (fun b hb => by cases hb; rfl)
  refine ⟨t, h.b.grown hw h.b.size (fun b hb => by cases hb; exact h.lo.2.1), h.qm.tch t (blk_ne_mapS h.qm h.ok), h.qs.tch t (blk_ne_mapS h.qs h.ok), h.qf.tch t (blk_ne_mapS h.qf h.ok), h.qk.tch t (blk_ne_mapS h.qk h.ok), h.qg.tch t (blk_ne_mapS h.qg h.ok), h.om.tch t h.ne.1, h.os.tch t (fun e => h.ne.2.2.1 e.symm), h.gn.tch t (fun b _ hb => ?_)⟩
  cases hb
  exact ⟨.inl (.inr (.inr (.inr (.inr (.inr (.inr (.inr rfl))))))), fun e => (h.su _ e).1 (.inr (.inr (.inr (.inr (.inr (.inr (.inr rfl)))))))⟩
/-- Other blocks are touched. -/
theorem NdG.tch {X : Nat → Prop} (h : NdG Y w0 w pm ps pn pk pg mm ms mk S n s u) (t : Tch X w w') (hX : ∀ b, b < w.heap.size → X b → ¬ FxB pm ps pn pk pg mm ms mk b ∧ Y b ∧ w0.heap.size ≤ b) : NdG Y w0 w' pm ps pn pk pg mm ms mk S n s u := by
  have hn : ∀ {b : Nat}, b < w.heap.size → FxB pm ps pn pk pg mm ms mk b → ¬ X b := fun hb hf hx => (hX _ hb hx).1 hf
  refine ⟨⟨t.os.trans h.b.os, t.tape.trans h.b.tape, t.output.trans h.b.output, Nat.le_trans h.b.size t.size, fun k hk => ?_⟩, h.qm.tch t (hn h.qm.lt (.inl rfl)), h.qs.tch t (hn h.qs.lt (.inr (.inl rfl))), h.qf.tch t (hn h.qf.lt (.inr (.inr (.inl rfl)))), h.qk.tch t (hn h.qk.lt (.inr (.inr (.inr (.inl rfl))))), h.qg.tch t (hn h.qg.lt (.inr (.inr (.inr (.inr (.inl rfl)))))), h.om.tch t (hn h.om.lt (.inr (.inr (.inr (.inr (.inr (.inl rfl))))))), h.os.tch t (hn h.os.lt (.inr (.inr (.inr (.inr (.inr (.inr (.inl rfl)))))))), h.ok.tch t (hn h.ok.lt (.inr (.inr (.inr (.inr (.inr (.inr (.inr rfl)))))))), h.gn.tch t (fun b hb hx => ⟨.inr (hX b hb hx).2.1, fun e => (h.su b e).2.1 (hX b hb hx).2.1⟩), h.su, h.ne, h.lo⟩
  rw [t.block k (Nat.lt_of_lt_of_le hk h.b.size) (fun hx => by have := (hX k (Nat.lt_of_lt_of_le hk h.b.size) hx).2.2; omega)]
  exact h.b.block k hk
/-- More blocks are the callers'. -/
theorem NdG.weak {Y' : Nat → Prop} (h : NdG Y w0 w pm ps pn pk pg mm ms mk S n s u) (hY : ∀ b, b < w.heap.size → Y' b → Y b) (hu : ∀ b, u.ownBlock = some b → ¬ Y' b) : NdG Y' w0 w pm ps pn pk pg mm ms mk S n s u := by
  refine ⟨h.b, h.qm, h.qs, h.qf, h.qk, h.qg, h.om, h.os, h.ok, ?_, fun b hb => ⟨(h.su b hb).1, hu b hb, (h.su b hb).2.2⟩, h.ne, h.lo⟩
  obtain ⟨ns, h1, h2, h3⟩ := h.gn
  refine ⟨ns, h1, h2, fun i nd p hi hp => (h3 i nd p hi hp).weak (fun b hb hx => ?_)⟩
  rcases hx with (hx | hx) | hx
  · exact .inl (.inl hx)
  · exact .inl (.inr (hY b hb hx))
  · exact .inr hx
end
end Go.Proofs.YtbaocallhnehfaaGreatDoor
