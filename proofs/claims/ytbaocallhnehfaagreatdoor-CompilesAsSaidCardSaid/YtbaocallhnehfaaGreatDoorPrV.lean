/- What dyelaw2.compiled's inner function works on, and its inner loop, in memory. Conditions: what each theorem names. -/
import Derived.Test.YtbaocallhnehfaaGreatDoorPrT
import Derived.Test.YtbaocallhnehfaaGreatDoorPrL
set_option linter.unusedVariables false
namespace Go.Proofs.YtbaocallhnehfaaGreatDoor
open Go Go.RowKit
/-- The blocks that stay where they are, the document's. -/
def FxD (pt pp pn pg mm : Nat) (b : Nat) : Prop := b = pt ∨ b = pp ∨ b = pn ∨ b = pg ∨ b = mm
def TD (mm pg : Nat) (u : Value) (b : Nat) : Prop := b = mm ∨ b = pg ∨ u.ownBlock = some b
def needD (pt pp pn pg : Nat) : Value := .func (.func 23) #[] #[.pointer (some ⟨pt, 0, none⟩), .pointer (some ⟨pp, 0, none⟩), .pointer (some ⟨pn, 0, none⟩), .pointer (some ⟨pg, 0, none⟩)]
structure NdH (Y : Nat → Prop) (w0 w : World) (pt pp pn pg mm : Nat) (a : Option Addr) (c : Nat) (out : ByteArray) (S : Nat → StepD) (n : Nat) (s : PS) (u : Value) : Prop where
  b : Below w0.heap.size w0 w
  qm : Blk w pt [.map (some mm)]
  qp : Blk w pp [.slice a n c, .string out]
  qf : Blk w pn [needD pt pp pn pg]
  qg : Blk w pg [u, .int .i64 0]
  om : MapS w mm (cntM s.M n) (mdS S n s.M)
  gn : NodesM w (fun b => FxD pt pp pn pg mm b ∨ Y b) u s.G
  su : ∀ b, u.ownBlock = some b → ¬ FxD pt pp pn pg mm b ∧ ¬ Y b ∧ w0.heap.size ≤ b
  ne : pg ≠ pt ∧ pg ≠ pp ∧ pg ≠ pn
  lo : w0.heap.size ≤ mm ∧ w0.heap.size ≤ pg ∧ w0.heap.size ≤ pt ∧ w0.heap.size ≤ pp ∧ w0.heap.size ≤ pn
section
variable {Y : Nat → Prop} {w0 w w' : World} {pt pp pn pg mm : Nat} {a : Option Addr} {c : Nat} {out : ByteArray} {S : Nat → StepD} {n : Nat} {s : PS} {u : Value}
theorem NdH.past (h : NdH Y w0 w pt pp pn pg mm a c out S n s u) (hb : Below w.heap.size w w') : NdH Y w0 w' pt pp pn pg mm a c out S n s u :=
  ⟨h.b.trans (hb.mono h.b.size), h.qm.past hb, h.qp.past hb, h.qf.past hb, h.qg.past hb, h.om.past hb, h.gn.past hb, h.su, h.ne, h.lo⟩
theorem NdH.putM (h : NdH Y w0 w pt pp pn pg mm a c out S n s u) (hg : GoodS S n) {j r : Nat} (hj : j < n) (hM : s.M j = none) (hm : MapS w' mm (cntM s.M n + 1) (putS (mdS S n s.M) (S j).nm.data.toList (.int .i64 (r : Int)))) (hw : w.grownBy w' (some mm)) :
    NdH Y w0 w' pt pp pn pg mm a c out S n ⟨s.G, upM s.M j r⟩ u ∧ Tch (fun b => b = mm) w w' := by
  have t : Tch (fun b => b = mm) w w' := Tch.of_grown hw (fun b hb => by cases hb; rfl)
  refine ⟨⟨h.b.grown hw h.b.size (fun b hb => by cases hb; exact h.lo.1), h.qm.tch t (blk_ne_mapS h.qm h.om), h.qp.tch t (blk_ne_mapS h.qp h.om), h.qf.tch t (blk_ne_mapS h.qf h.om), h.qg.tch t (blk_ne_mapS h.qg h.om), ?_, h.gn.tch t (fun b _ hb => ?_), h.su, h.ne, h.lo⟩, t⟩
  · show MapS w' mm (cntM (upM s.M j r) n) (mdS S n (upM s.M j r))
    rw [cntM_up hM, if_pos hj]
    exact hm.congr (mdS_put hg hj s.M r)
  · cases hb
    exact ⟨.inl (.inr (.inr (.inr (.inr rfl)))), fun e => (h.su _ e).1 (.inr (.inr (.inr (.inr rfl))))⟩
theorem NdH.tch {X : Nat → Prop} (h : NdH Y w0 w pt pp pn pg mm a c out S n s u) (t : Tch X w w') (hX : ∀ b, b < w.heap.size → X b → ¬ FxD pt pp pn pg mm b ∧ Y b ∧ w0.heap.size ≤ b) : NdH Y w0 w' pt pp pn pg mm a c out S n s u := by
  have hn : ∀ {b : Nat}, b < w.heap.size → FxD pt pp pn pg mm b → ¬ X b := fun hb hf hx => (hX _ hb hx).1 hf
  refine ⟨⟨t.os.trans h.b.os, t.tape.trans h.b.tape, t.output.trans h.b.output, Nat.le_trans h.b.size t.size, fun k hk => ?_⟩, h.qm.tch t (hn h.qm.lt (.inl rfl)), h.qp.tch t (hn h.qp.lt (.inr (.inl rfl))), h.qf.tch t (hn h.qf.lt (.inr (.inr (.inl rfl)))), h.qg.tch t (hn h.qg.lt (.inr (.inr (.inr (.inl rfl))))), h.om.tch t (hn h.om.lt (.inr (.inr (.inr (.inr rfl))))), h.gn.tch t (fun b hb hx => ⟨.inr (hX b hb hx).2.1, fun e => (h.su b e).2.1 (hX b hb hx).2.1⟩), h.su, h.ne, h.lo⟩
  rw [t.block k (Nat.lt_of_lt_of_le hk h.b.size) (fun hx => by have := (hX k (Nat.lt_of_lt_of_le hk h.b.size) hx).2.2; omega)]
  exact h.b.block k hk
theorem NdH.weak {Y' : Nat → Prop} (h : NdH Y w0 w pt pp pn pg mm a c out S n s u) (hY : ∀ b, b < w.heap.size → Y' b → Y b) (hu : ∀ b, u.ownBlock = some b → ¬ Y' b) : NdH Y' w0 w pt pp pn pg mm a c out S n s u := by
  refine ⟨h.b, h.qm, h.qp, h.qf, h.qg, h.om, ?_, fun b hb => ⟨(h.su b hb).1, hu b hb, (h.su b hb).2.2⟩, h.ne, h.lo⟩
  obtain ⟨ns, h1, h2, h3⟩ := h.gn
  refine ⟨ns, h1, h2, fun i nd p hi hp => (h3 i nd p hi hp).weak (fun b hb hx => ?_)⟩
  rcases hx with (hx | hx) | hx
  · exact .inl (.inl hx)
  · exact .inl (.inr (hY b hb hx))
  · exact .inr hx
end
structure LpH (Y : Nat → Prop) (w0 w : World) (pt pp pn pg mm : Nat) (a : Option Addr) (c : Nat) (out : ByteArray) (S : Nat → StepD) (n : Nat) (u : Value) (pa pb pq : Nat) (L5 : List Value) (nm op : ByteArray) (sI sR : Value) (Yt : Nat → Prop) (wr : World) (sT : PS) (l : List Int) (vN uT : Value) : Prop where
  g : NdH Yt w0 wr pt pp pn pg mm a c out S n sT uT
  yl : ∀ b, Yt b → b < wr.heap.size
  yw : ∀ b, Yt b → w0.heap.size ≤ b
  yy : ∀ b, Y b → Yt b
  yc : ∀ b, (b = pa ∨ b = pb ∨ b = pq ∨ vN.ownBlock = some b) → Yt b ∧ w.heap.size ≤ b
  a : Blk wr pa L5
  b : Blk wr pb [.string op, vN, sI, sR]
  q : Blk wr pq [.string nm]
  v : NewRow w.heap.size wr 1 vN l.length (l.map (Value.int .i64))
  z : ∀ b, vN.ownBlock = some b → b ≠ pa ∧ b ≠ pb ∧ b ≠ pq
  pz : pa ≠ pb ∧ pq ≠ pb
  t : Tch (TD mm pg u) w wr
  o : uT.ownBlock = u.ownBlock ∨ ∀ b, uT.ownBlock = some b → w.heap.size ≤ b
  fx : ∀ b, FxD pt pp pn pg mm b → b < w.heap.size
  lw : w0.heap.size ≤ w.heap.size
section
variable {Y Yt : Nat → Prop} {w0 w wr w' : World} {pt pp pn pg mm : Nat} {a : Option Addr} {c : Nat} {out : ByteArray} {S : Nat → StepD} {n : Nat} {u : Value} {pa pb pq : Nat} {L5 : List Value} {nm op : ByteArray} {sI sR : Value} {sT sT' : PS} {l : List Int} {vN uT uT' : Value}
theorem LpH.nt (h : LpH Y w0 w pt pp pn pg mm a c out S n u pa pb pq L5 nm op sI sR Yt wr sT l vN uT) : ∀ b, (b = pa ∨ b = pb ∨ b = pq ∨ vN.ownBlock = some b) → ¬ TD mm pg uT b := fun b hb ht => by
  obtain ⟨h1, h2⟩ := h.yc b hb
  have l1 := h.fx mm (.inr (.inr (.inr (.inr rfl))))
  have l3 := h.fx pg (.inr (.inr (.inr (.inl rfl))))
  rcases ht with e | e | e
  · omega
  · omega
  · exact (h.g.su b e).2.1 h1
theorem LpH.call (h : LpH Y w0 w pt pp pn pg mm a c out S n u pa pb pq L5 nm op sI sR Yt wr sT l vN uT) (hg : NdH Yt w0 w' pt pp pn pg mm a c out S n sT' uT') (ht : Tch (TD mm pg uT) wr w') (ho : uT'.ownBlock = uT.ownBlock ∨ ∀ b, uT'.ownBlock = some b → wr.heap.size ≤ b) : LpH Y w0 w pt pp pn pg mm a c out S n u pa pb pq L5 nm op sI sR Yt w' sT' l vN uT' := by
  have hn := h.nt
  refine ⟨hg, fun b hb => Nat.lt_of_lt_of_le (h.yl b hb) ht.size, h.yw, h.yy, h.yc, h.a.tch ht (hn pa (.inl rfl)), h.b.tch ht (hn pb (.inr (.inl rfl))), h.q.tch ht (hn pq (.inr (.inr (.inl rfl)))), ⟨h.v.1.tch ht (fun b hb => hn b (.inr (.inr (.inr hb)))), h.v.2⟩, h.z, h.pz, ?_, ?_, h.fx, h.lw⟩
  · refine h.t.then ht (fun i hi hx => ?_)
    rcases hx with e | e | e
    · exact .inl e
    · exact .inr (.inl e)
    · rcases h.o with h1 | h1
      · exact .inr (.inr (by rw [← h1]; exact e))
      · have := h1 i e; omega
  · rcases ho with h1 | h1
    · rcases h.o with h2 | h2
      · exact .inl (h1.trans h2)
      · exact .inr (fun b hb => h2 b (by rw [← h1]; exact hb))
    · exact .inr (fun b hb => Nat.le_trans h.t.size (h1 b hb))
theorem LpH.past (h : LpH Y w0 w pt pp pn pg mm a c out S n u pa pb pq L5 nm op sI sR Yt wr sT l vN uT) (hb : Below wr.heap.size wr w') : LpH Y w0 w pt pp pn pg mm a c out S n u pa pb pq L5 nm op sI sR Yt w' sT l vN uT :=
  h.call (h.g.past hb) (Tch.of_below hb) (.inl rfl)
theorem LpH.give (h : LpH Y w0 w pt pp pn pg mm a c out S n u pa pb pq L5 nm op sI sR Yt wr sT l vN uT) : NdH Y w0 wr pt pp pn pg mm a c out S n sT uT :=
  h.g.weak (fun b _ hy => h.yy b hy) (fun b hb hy => (h.g.su b hb).2.1 (h.yy b hy))
theorem LpH.app {x : Int} {vN' : Value} {wa wb : World} (h : LpH Y w0 w pt pp pn pg mm a c out S n u pa pb pq L5 nm op sI sR Yt wr sT l vN uT) (r1 : RowV wa 1 vN' (l.length + 1) (l.map (Value.int .i64) ++ [.int .i64 x])) (r2 : wr.grownBy wa vN.ownBlock) (r3 : vN'.ownBlock = vN.ownBlock ∨ ∀ b, vN'.ownBlock = some b → wr.heap.size ≤ b) (hw : wb = wa.setCell ⟨pb, 1, none⟩ vN') :
    ∃ Yt', LpH Y w0 w pt pp pn pg mm a c out S n u pa pb pq L5 nm op sI sR Yt' wb sT (l ++ [x]) vN' uT := by
  have ht1 : Tch (fun b => vN.ownBlock = some b) wr wa := Tch.of_grown r2 (fun b hb => hb)
  have ht2 : Tch (fun b => b = pb) wa wb := by rw [hw]; exact (Tch.refl _ _).set ⟨pb, 1, none⟩ vN' rfl
  have ht : Tch (fun b => vN.ownBlock = some b ∨ b = pb) wr wb := (ht1.mono (fun _ _ e => .inl e)).then (ht2.mono (T := fun b => vN.ownBlock = some b ∨ b = pb) (fun _ _ e => .inr e)) (fun _ _ e => e)
  have hpb := h.yc pb (.inr (.inl rfl))
  have hv : ∀ b, vN.ownBlock = some b → Yt b ∧ w.heap.size ≤ b := fun b hb => h.yc b (.inr (.inr (.inr hb)))
  have hnew : ∀ b, vN'.ownBlock = some b → Yt b ∨ wr.heap.size ≤ b := fun b hb => by
    rcases r3 with h1 | h1
    · exact .inl (hv b (by rw [← h1]; exact hb)).1
    · exact .inr (h1 b hb)
  have hlow : ∀ b, vN'.ownBlock = some b → w.heap.size ≤ b := fun b hb => by
    rcases r3 with h1 | h1
    · exact (hv b (by rw [← h1]; exact hb)).2
    · exact Nat.le_trans h.t.size (h1 b hb)
  have hul : ∀ b, uT.ownBlock = some b → b < wr.heap.size := fun b hb => by
    obtain ⟨ns, -, hr, -⟩ := h.g.gn
    exact hr.lt hb
  have hz' : ∀ b, vN'.ownBlock = some b → b ≠ pa ∧ b ≠ pb ∧ b ≠ pq := fun b hb => by
    rcases r3 with h1 | h1
    · exact h.z b (by rw [← h1]; exact hb)
    · have h2 := h1 b hb
      have h3 := h.a.lt
      have h4 := h.b.lt
      have h5 := h.q.lt
      exact ⟨by omega, by omega, by omega⟩
  have g1 : NdH (fun b => Yt b ∨ vN'.ownBlock = some b) w0 wr pt pp pn pg mm a c out S n sT uT := h.g.weak (fun b hb hy => by
      rcases hy with hy | hy
      · exact hy
      · rcases hnew b hy with h1 | h1
        · exact h1
        · omega) (fun b hb hy => by
      rcases hy with hy | hy
      · exact (h.g.su b hb).2.1 hy
      · rcases hnew b hy with h1 | h1
        · exact (h.g.su b hb).2.1 h1
        · have := hul b hb; omega)
  refine ⟨fun b => Yt b ∨ vN'.ownBlock = some b, g1.tch ht (fun b _ hb => ?_), fun b hb => ?_, fun b hb => hb.elim (h.yw b) (fun e => Nat.le_trans h.lw (hlow b e)), fun b hb => .inl (h.yy b hb), fun b hb => ?_, h.a.tch ht (fun e => ?_), ?_, h.q.tch ht (fun e => ?_), ?_, hz', h.pz, h.t.then ht (fun i hi e => ?_), h.o, h.fx, h.lw⟩
  · have hy : Yt b ∧ w.heap.size ≤ b := by
      rcases hb with e | e
      · exact hv b e
      · rw [e]; exact hpb
    exact ⟨fun hf => by have := h.fx b hf; omega, .inl hy.1, Nat.le_trans h.lw hy.2⟩
  · rcases hb with e | e
    · exact Nat.lt_of_lt_of_le (h.yl b e) ht.size
    · exact Nat.lt_of_lt_of_le (r1.lt e) ht2.size
  · rcases hb with e | e | e | e
    · exact ⟨.inl (h.yc b (.inl e)).1, (h.yc b (.inl e)).2⟩
    · exact ⟨.inl (h.yc b (.inr (.inl e))).1, (h.yc b (.inr (.inl e))).2⟩
    · exact ⟨.inl (h.yc b (.inr (.inr (.inl e)))).1, (h.yc b (.inr (.inr (.inl e)))).2⟩
    · exact ⟨.inr e, hlow b e⟩
  · rcases e with e | e
    · exact (h.z pa e).1 rfl
    · exact h.pz.1 e
  · rw [hw]
    have k1 := (h.b.tch ht1 (fun e => (h.z pb e).2.1 rfl)).set 1 vN'
    simpa using k1
  · rcases e with e | e
    · exact (h.z pq e).2.2 rfl
    · exact h.pz.2 e
  · rw [List.length_append, List.map_append]
    exact ⟨r1.tch ht2 (fun b hb e => (hz' b hb).2.1 e), fun b hb => hlow b hb⟩
  · rcases e with e | e
    · have := (hv i e).2; omega
    · rw [e] at hi; have := hpb.2; omega
end
end Go.Proofs.YtbaocallhnehfaaGreatDoor
