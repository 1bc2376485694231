/- The inner loop of node.Compile's inner function, in memory. Conditions: what each theorem names. -/
import Derived.Test.YtbaocallhnehfaaGreatDoorPrJ
set_option linter.unusedVariables false
namespace Go.Proofs.YtbaocallhnehfaaGreatDoor
open Go Go.RowKit
/-- After some of what goes in. -/
theorem needT_ok {S : Nat → StepD} {n : Nat} (h : GoodS S n) (f j : Nat) (s : PS) (hf : j < f + 1) (hj : j < n) (hs : OkP n s) : ∀ t, t ≤ (S j).ins.length → OkP n (needT (needP S n f) (posL S n j) t s).1 ∧ (∀ i, j ≤ i → (needT (needP S n f) (posL S n j) t s).1.M i = s.M i) ∧ (needT (needP S n f) (posL S n j) t s).2.length = t ∧ ∀ u ∈ (needT (needP S n f) (posL S n j) t s).2, 0 ≤ u ∧ u < 100 := by
  intro t
  induction t with
  | zero => intro _; exact ⟨hs, fun _ _ => rfl, rfl, fun u hu => by simp [needT] at hu⟩
  | succ t ih =>
    intro htl
    obtain ⟨a1, a2, a5, a6⟩ := ih (by omega)
    obtain ⟨x, hx⟩ : ∃ x, (S j).ins[t]? = some x := ⟨_, List.getElem?_eq_getElem (by omega)⟩
    obtain ⟨m, hmj, -, hm, -⟩ := h.ins hj hx
    unfold needT
    simp only [hm]
    obtain ⟨o1, r1, f1, ⟨e1, b1⟩, k1⟩ := needP_ok h f m _ (by omega) (by omega) a1
    refine ⟨o1, fun i hij => by rw [f1 i (by omega)]; exact a2 i hij, by rw [List.length_append, a5]; rfl, fun u hu => ?_⟩
    rcases List.mem_append.1 hu with hu | hu
    · exact a6 u hu
    · simp at hu
      have := o1.len
      have := h.le
      omega
structure LpI (Y : Nat → Prop) (w0 w : World) (pm ps pn pk pg mm ms mk : Nat) (S : Nat → StepD) (n : Nat) (u : Value) (pa pb : Nat) (L5 : List Value) (op : ByteArray) (sI sR : Value) (nI nR : Nat) (rI rR : List Value) (Yt : Nat → Prop) (wr : World) (sT : PS) (l : List Int) (vN uT : Value) : Prop where
  g : NdG Yt w0 wr pm ps pn pk pg mm ms mk S n sT uT
  yl : ∀ b, Yt b → b < wr.heap.size
  yy : ∀ b, Y b → Yt b
  yc : ∀ b, (b = pa ∨ b = pb ∨ sI.ownBlock = some b ∨ sR.ownBlock = some b ∨ vN.ownBlock = some b) → Yt b ∧ w.heap.size ≤ b
  a : Blk wr pa L5
  b : Blk wr pb [.string op, vN, sI, sR]
  v : NewRow w.heap.size wr 1 vN l.length (l.map (Value.int .i64))
  i : NewRow w.heap.size wr 1 sI nI rI
  r : NewRow w.heap.size wr 1 sR nR rR
  z : ∀ b, vN.ownBlock = some b → b ≠ pa ∧ b ≠ pb ∧ sI.ownBlock ≠ some b ∧ sR.ownBlock ≠ some b
  zr : ∀ b, (sI.ownBlock = some b ∨ sR.ownBlock = some b) → b ≠ pb
  pq : pa ≠ pb
  t : Tch (TS mm mk pg u) w wr
  o : uT.ownBlock = u.ownBlock ∨ ∀ b, uT.ownBlock = some b → w.heap.size ≤ b
  fx : ∀ b, FxB pm ps pn pk pg mm ms mk b → b < w.heap.size
  lw : w0.heap.size ≤ w.heap.size
section
variable {Y Yt : Nat → Prop} {w0 w wr w' : World} {pm ps pn pk pg mm ms mk : Nat} {S : Nat → StepD} {n : Nat} {u : Value} {pa pb : Nat} {L5 : List Value} {op : ByteArray} {sI sR : Value} {nI nR : Nat} {rI rR : List Value} {sT sT' : PS} {l : List Int} {vN uT uT' : Value}
theorem LpI.nt (h : LpI Y w0 w pm ps pn pk pg mm ms mk S n u pa pb L5 op sI sR nI nR rI rR Yt wr sT l vN uT) : ∀ b, (b = pa ∨ b = pb ∨ sI.ownBlock = some b ∨ sR.ownBlock = some b ∨ vN.ownBlock = some b) → ¬ TS mm mk pg uT b := fun b hb ht => by
  obtain ⟨h1, h2⟩ := h.yc b hb
  have l1 := h.fx mm (.inr (.inr (.inr (.inr (.inr (.inl rfl))))))
  have l2 := h.fx mk (.inr (.inr (.inr (.inr (.inr (.inr (.inr rfl)))))))
  have l3 := h.fx pg (.inr (.inr (.inr (.inr (.inl rfl)))))
  rcases ht with e | e | e | e
  · omega
  · omega
  · omega
  · exact (h.g.su b e).2.1 h1
theorem LpI.call (h : LpI Y w0 w pm ps pn pk pg mm ms mk S n u pa pb L5 op sI sR nI nR rI rR Yt wr sT l vN uT) (hg : NdG Yt w0 w' pm ps pn pk pg mm ms mk S n sT' uT') (ht : Tch (TS mm mk pg uT) wr w') (ho : uT'.ownBlock = uT.ownBlock ∨ ∀ b, uT'.ownBlock = some b → wr.heap.size ≤ b) : LpI Y w0 w pm ps pn pk pg mm ms mk S n u pa pb L5 op sI sR nI nR rI rR Yt w' sT' l vN uT' := by
  have hn := h.nt
  refine ⟨hg, fun b hb => Nat.lt_of_lt_of_le (h.yl b hb) ht.size, h.yy, h.yc, h.a.tch ht (hn pa (.inl rfl)), h.b.tch ht (hn pb (.inr (.inl rfl))), ⟨h.v.1.tch ht (fun b hb => hn b (.inr (.inr (.inr (.inr hb))))), h.v.2⟩, ⟨h.i.1.tch ht (fun b hb => hn b (.inr (.inr (.inl hb)))), h.i.2⟩, ⟨h.r.1.tch ht (fun b hb => hn b (.inr (.inr (.inr (.inl hb))))), h.r.2⟩, h.z, h.zr, h.pq, ?_, ?_, h.fx, h.lw⟩
  · refine h.t.then ht (fun i hi hx => ?_)
    rcases hx with e | e | e | e
    · exact .inl e
    · exact .inr (.inl e)
    · exact .inr (.inr (.inl e))
    · rcases h.o with h1 | h1
      · exact .inr (.inr (.inr (by rw [← h1]; exact e)))
      · have := h1 i e; omega
  · rcases ho with h1 | h1
    · rcases h.o with h2 | h2
      · exact .inl (h1.trans h2)
      · exact .inr (fun b hb => h2 b (by rw [← h1]; exact hb))
    · exact .inr (fun b hb => Nat.le_trans h.t.size (h1 b hb))
theorem LpI.past (h : LpI Y w0 w pm ps pn pk pg mm ms mk S n u pa pb L5 op sI sR nI nR rI rR Yt wr sT l vN uT) (hb : Below wr.heap.size wr w') : LpI Y w0 w pm ps pn pk pg mm ms mk S n u pa pb L5 op sI sR nI nR rI rR Yt w' sT l vN uT :=
  h.call (h.g.past hb) (Tch.of_below hb) (.inl rfl)
/-- One number more in the row. -/
theorem LpI.app {x : Int} {vN' : Value} {wa wb : World} (h : LpI Y w0 w pm ps pn pk pg mm ms mk S n u pa pb L5 op sI sR nI nR rI rR Yt wr sT l vN uT) (r1 : RowV wa 1 vN' (l.length + 1) (l.map (Value.int .i64) ++ [.int .i64 x])) (r2 : wr.grownBy wa vN.ownBlock) (r3 : vN'.ownBlock = vN.ownBlock ∨ ∀ b, vN'.ownBlock = some b → wr.heap.size ≤ b) (hw : wb = wa.setCell ⟨pb, 1, none⟩ vN') :
    ∃ Yt', LpI Y w0 w pm ps pn pk pg mm ms mk S n u pa pb L5 op sI sR nI nR rI rR Yt' wb sT (l ++ [x]) vN' uT := by
  have ht1 : Tch (fun b => vN.ownBlock = some b) wr wa := Tch.of_grown r2 (fun b hb => hb)
  have ht2 : Tch (fun b => b = pb) wa wb := by rw [hw]; exact (Tch.refl _ _).set ⟨pb, 1, none⟩ vN' rfl
  have ht : Tch (fun b => vN.ownBlock = some b ∨ b = pb) wr wb := (ht1.mono (fun _ _ e => .inl e)).then (ht2.mono (T := fun b => vN.ownBlock = some b ∨ b = pb) (fun _ _ e => .inr e)) (fun _ _ e => e)
  have hpb := h.yc pb (.inr (.inl rfl))
  have hv : ∀ b, vN.ownBlock = some b → Yt b ∧ w.heap.size ≤ b := fun b hb => h.yc b (.inr (.inr (.inr (.inr hb))))
  have hnew : ∀ b, vN'.ownBlock = some b → Yt b ∨ wr.heap.size ≤ b := fun b hb => by
    rcases r3 with h1 | h1
    · exact .inl (hv b (by rw [← h1]; exact hb)).1
    · exact .inr (h1 b hb)
  have hlow : ∀ b, vN'.ownBlock = some b → w.heap.size ≤ b := fun b hb => by
    rcases r3 with h1 | h1
    · exact (hv b (by rw [← h1]; exact hb)).2
    · exact Nat.le_trans h.t.size (h1 b hb)
  have hul : ∀ b, uT.ownBlock = some b → b < wr.heap.size := fun b hb => by
    obtain ⟨ns, -, hr, -⟩ := h.g.gn
    exact hr.lt hb
  have hz' : ∀ b, vN'.ownBlock = some b → b ≠ pa ∧ b ≠ pb ∧ sI.ownBlock ≠ some b ∧ sR.ownBlock ≠ some b := fun b hb => by
    rcases r3 with h1 | h1
    · exact h.z b (by rw [← h1]; exact hb)
    · have h2 := h1 b hb
      have h3 := h.a.lt
      have h4 := h.b.lt
      exact ⟨by omega, by omega, fun e => by have := h.i.1.lt e; omega, fun e => by have := h.r.1.lt e; omega⟩
  have g1 : NdG (fun b => Yt b ∨ vN'.ownBlock = some b) w0 wr pm ps pn pk pg mm ms mk S n sT uT := h.g.weak (fun b hb hy => by
      rcases hy with hy | hy
      · exact hy
      · rcases hnew b hy with h1 | h1
        · exact h1
        · omega) (fun b hb hy => by
      rcases hy with hy | hy
      · exact (h.g.su b hb).2.1 hy
      · rcases hnew b hy with h1 | h1
        · exact (h.g.su b hb).2.1 h1
        · have := hul b hb; omega)
  refine ⟨fun b => Yt b ∨ vN'.ownBlock = some b, g1.tch ht (fun b _ hb => ?_), fun b hb => ?_, fun b hb => .inl (h.yy b hb), fun b hb => ?_, h.a.tch ht (fun e => ?_), ?_, ?_, ⟨h.i.1.tch ht (fun b hb e => ?_), h.i.2⟩, ⟨h.r.1.tch ht (fun b hb e => ?_), h.r.2⟩, hz', h.zr, h.pq, h.t.then ht (fun i hi e => ?_), h.o, h.fx, h.lw⟩
  · have hy : Yt b ∧ w.heap.size ≤ b := by
      rcases hb with e | e
      · exact hv b e
      · rw [e]; exact hpb
    exact ⟨fun hf => by have := h.fx b hf; omega, .inl hy.1, Nat.le_trans h.lw hy.2⟩
  · rcases hb with e | e
    · exact Nat.lt_of_lt_of_le (h.yl b e) ht.size
    · exact Nat.lt_of_lt_of_le (r1.lt e) ht2.size
  · rcases hb with e | e | e | e | e
    · exact ⟨.inl (h.yc b (.inl e)).1, (h.yc b (.inl e)).2⟩
    · exact ⟨.inl (h.yc b (.inr (.inl e))).1, (h.yc b (.inr (.inl e))).2⟩
    · exact ⟨.inl (h.yc b (.inr (.inr (.inl e)))).1, (h.yc b (.inr (.inr (.inl e)))).2⟩
    · exact ⟨.inl (h.yc b (.inr (.inr (.inr (.inl e))))).1, (h.yc b (.inr (.inr (.inr (.inl e))))).2⟩
    · exact ⟨.inr e, hlow b e⟩
  · rcases e with e | e
    · exact (h.z pa e).1 rfl
    · exact h.pq e
  · rw [hw]
    have k1 := (h.b.tch ht1 (fun e => (h.z pb e).2.1 rfl)).set 1 vN'
    simpa using k1
  · rw [List.length_append, List.map_append]
    exact ⟨r1.tch ht2 (fun b hb e => (hz' b hb).2.1 e), fun b hb => hlow b hb⟩
  · rcases e with e | e
    · exact (h.z b e).2.2.1 hb
    · exact h.zr b (.inl hb) e
  · rcases e with e | e
    · exact (h.z b e).2.2.2 hb
    · exact h.zr b (.inr hb) e
  · rcases e with e | e
    · have := (hv i e).2; omega
    · rw [e] at hi; have := hpb.2; omega
end
end Go.Proofs.YtbaocallhnehfaaGreatDoor
