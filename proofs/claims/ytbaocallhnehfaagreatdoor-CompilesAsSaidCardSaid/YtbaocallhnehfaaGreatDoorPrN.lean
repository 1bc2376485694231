/- The nodes of a graph that is being made, in memory. Conditions: what each theorem names. -/
import Derived.Test.YtbaocallhnehfaaGreatDoorPrP
import Derived.Test.YtbaocallhnehfaaGreatDoorQE
set_option linter.unusedVariables false
namespace Go.Proofs.YtbaocallhnehfaaGreatDoor
open Go Go.RowKit
/-- A row lies in none of the blocks X. -/
def Clr (X : Nat → Prop) {α : Type} (a : Option Addr) (l : List α) : Prop := l ≠ [] → ∀ q, a = some q → ¬ X q.block
theorem IntsAt.tchC {B : Nat} {S : Nat → Prop} {w w' : World} {a : Option Addr} {l : List Int} (h : IntsAt B w a l) (t : Tch S w w') (c : Clr S a l) : IntsAt B w' a l := by
  rcases h with h | ⟨b, off, h1, h0, h2, h3⟩
  · exact .inl h
  · by_cases hl : l = []
    · exact .inl hl
    · exact .inr ⟨b, off, h1, h0, Nat.lt_of_lt_of_le h2 t.size, fun i v hv => by rw [World.cell?_of_block (a := ⟨b, off + i, none⟩) (t.block b h2 (c hl _ h1))]; exact h3 i v hv⟩
theorem RealsAt.tchC {B : Nat} {S : Nat → Prop} {w w' : World} {a : Option Addr} {l : List Nat} (h : RealsAt B w a l) (t : Tch S w w') (c : Clr S a l) : RealsAt B w' a l := by
  rcases h with h | ⟨b, off, h1, h0, h2, h3⟩
  · exact .inl h
  · by_cases hl : l = []
    · exact .inl hl
    · exact .inr ⟨b, off, h1, h0, Nat.lt_of_lt_of_le h2 t.size, fun i v hv => by rw [World.cell?_of_block (a := ⟨b, off + i, none⟩) (t.block b h2 (c hl _ h1))]; exact h3 i v hv⟩
theorem IntsAt.blk {B : Nat} {w : World} {a : Option Addr} {l : List Int} (h : IntsAt B w a l) (hl : l ≠ []) {q : Addr} (hq : a = some q) : q.block < w.heap.size := by
  rcases h with h | ⟨b, off, h1, h0, h2, h3⟩
  · exact absurd h hl
  · rw [h1] at hq; cases hq; exact h2
theorem RealsAt.blk {B : Nat} {w : World} {a : Option Addr} {l : List Nat} (h : RealsAt B w a l) (hl : l ≠ []) {q : Addr} (hq : a = some q) : q.block < w.heap.size := by
  rcases h with h | ⟨b, off, h1, h0, h2, h3⟩
  · exact absurd h hl
  · rw [h1] at hq; cases hq; exact h2
/-- A node in memory, its rows clear of the blocks X. -/
structure NdAt (w : World) (X : Nat → Prop) (nd : NodeD) (p : PN) : Prop where
  op : nd.op = p.op
  e1 : nd.ins = p.ins
  e2 : nd.ints = p.ints
  e3 : nd.reals = p.reals
  i : IntsAt 0 w nd.ia nd.ins
  k : IntsAt 0 w nd.na nd.ints
  r : RealsAt 0 w nd.ra nd.reals
  b : NodeB nd
  ci : Clr X nd.ia nd.ins
  ck : Clr X nd.na nd.ints
  cr : Clr X nd.ra nd.reals
theorem NdAt.tch {S X : Nat → Prop} {w w' : World} {nd : NodeD} {p : PN} (h : NdAt w X nd p) (t : Tch S w w') (hS : ∀ b, b < w.heap.size → S b → X b) : NdAt w' X nd p :=
  ⟨h.op, h.e1, h.e2, h.e3, h.i.tchC (t.mono (T := fun b => X b) (fun b hb hs => hS b hb hs)) h.ci, h.k.tchC (t.mono (T := fun b => X b) (fun b hb hs => hS b hb hs)) h.ck, h.r.tchC (t.mono (T := fun b => X b) (fun b hb hs => hS b hb hs)) h.cr, h.b, h.ci, h.ck, h.cr⟩
theorem NdAt.weak {X X' : Nat → Prop} {w : World} {nd : NodeD} {p : PN} (h : NdAt w X nd p) (hX : ∀ b, b < w.heap.size → X' b → X b) : NdAt w X' nd p :=
  ⟨h.op, h.e1, h.e2, h.e3, h.i, h.k, h.r, h.b, fun hl q hq hx => h.ci hl q hq (hX _ (h.i.blk hl hq) hx), fun hl q hq hx => h.ck hl q hq (hX _ (h.k.blk hl hq) hx), fun hl q hq hx => h.cr hl q hq (hX _ (h.r.blk hl hq) hx)⟩
/-- The nodes' row, its nodes' rows clear of X and of the row's own block. -/
def NodesM (w : World) (X : Nat → Prop) (u : Value) (G : List PN) : Prop :=
  ∃ ns : List NodeD, ns.length = G.length ∧ RowV w 4 u G.length (ns.flatMap ndCells) ∧ ∀ (i : Nat) (nd : NodeD) (p : PN), ns[i]? = some nd → G[i]? = some p → NdAt w (fun b => X b ∨ u.ownBlock = some b) nd p
theorem NodesM.nil (w : World) (X : Nat → Prop) : NodesM w X (.slice none 0 0) [] := ⟨[], rfl, RowV.nil w 4, fun i nd p h => by simp at h⟩
theorem NodesM.tch {S X : Nat → Prop} {w w' : World} {u : Value} {G : List PN} (h : NodesM w X u G) (t : Tch S w w') (hS : ∀ b, b < w.heap.size → S b → X b ∧ u.ownBlock ≠ some b) : NodesM w' X u G := by
  obtain ⟨ns, h1, h2, h3⟩ := h
  exact ⟨ns, h1, h2.tch t (fun b hb hs => (hS b (h2.lt hb) hs).2 hb), fun i nd p hi hp => (h3 i nd p hi hp).tch t (fun b hb hs => .inl (hS b hb hs).1)⟩
theorem NodesM.past {X : Nat → Prop} {w w' : World} {u : Value} {G : List PN} (h : NodesM w X u G) (t : Below w.heap.size w w') : NodesM w' X u G :=
  h.tch (S := fun _ => False) (Tch.of_below t) (fun _ _ h => h.elim)
theorem NodesM.app {X : Nat → Prop} {w w' : World} {u u' : Value} {G : List PN} {ns : List NodeD} {nd : NodeD} {p : PN} (h1 : ns.length = G.length) (h2 : RowV w 4 u G.length (ns.flatMap ndCells)) (h3 : ∀ (i : Nat) (nd : NodeD) (p : PN), ns[i]? = some nd → G[i]? = some p → NdAt w (fun b => X b ∨ u.ownBlock = some b) nd p)
    (hn : NdAt w (fun b => X b ∨ u.ownBlock = some b) nd p) (r1 : RowV w' 4 u' (G.length + 1) (ns.flatMap ndCells ++ ndCells nd)) (r2 : w.grownBy w' u.ownBlock) (r3 : u'.ownBlock = u.ownBlock ∨ ∀ b, u'.ownBlock = some b → w.heap.size ≤ b) : NodesM w' X u' (G ++ [p]) := by
  have t : Tch (fun b => u.ownBlock = some b) w w' := Tch.of_grown r2 (fun b hb => hb)
  have g : ∀ nd p, NdAt w (fun b => X b ∨ u.ownBlock = some b) nd p → NdAt w' (fun b => X b ∨ u'.ownBlock = some b) nd p := fun nd p hd => by
    have h4 := hd.weak (X' := fun b => X b ∨ u.ownBlock = some b ∨ u'.ownBlock = some b) (fun b hb hx => by
      rcases hx with hx | hx | hx
      · exact .inl hx
      · exact .inr hx
      · rcases r3 with r3 | r3
        · exact .inr (by rw [← r3]; exact hx)
        · have := r3 b hx; omega)
    have h5 := h4.tch t (fun b _ hs => .inr (.inl hs))
    exact h5.weak (fun b _ hx => by rcases hx with hx | hx; exact .inl hx; exact .inr (.inr hx))
  refine ⟨ns ++ [nd], by simp [h1], ?_, fun i d q hi hq => ?_⟩
  · rw [List.flatMap_append]
    simpa using r1
  · by_cases hl : i < ns.length
    · rw [List.getElem?_append_left hl] at hi
      rw [List.getElem?_append_left (by omega)] at hq
      exact g d q (h3 i d q hi hq)
    · rw [List.getElem?_append_right (by omega)] at hi
      rw [List.getElem?_append_right (by omega), ← h1] at hq
      have h9 : i - ns.length < 1 := (List.getElem?_eq_some_iff.1 hi).1
      have h10 : i - ns.length = 0 := by omega
      rw [h10] at hi hq
      simp at hi hq
      subst hi hq
      exact g _ _ hn
theorem flat_nd {ns : List NodeD} : ∀ {k : Nat} {nd : NodeD} (j : Nat), ns[k]? = some nd → j < 4 → (ns.flatMap ndCells)[k * 4 + j]? = (ndCells nd)[j]? := by
  induction ns with
  | nil => intro k nd j h _; simp at h
  | cons a l ih =>
    intro k nd j h hj
    rw [List.flatMap_cons]
    have hl : (ndCells a).length = 4 := rfl
    cases k with
    | zero =>
      simp at h; subst h
      rw [Nat.zero_mul, Nat.zero_add, List.getElem?_append_left (by omega)]
    | succ k =>
      simp at h
      rw [List.getElem?_append_right (by omega), hl, show (k + 1) * 4 + j - 4 = k * 4 + j by omega]
      exact ih j h hj
theorem NodesM.isNodes {X : Nat → Prop} {w : World} {u : Value} {G : List PN} (h : NodesM w X u G) : ∃ ns ao cap, u = .slice ao G.length cap ∧ IsNodes w ao cap ns ∧ ns.length = G.length ∧ ∀ (i : Nat) (nd : NodeD) (p : PN), ns[i]? = some nd → G[i]? = some p → NdAt w (fun b => X b ∨ u.ownBlock = some b) nd p := by
  obtain ⟨ns, h1, ⟨h0, ao, cap, rfl, hn, hm, hr⟩, h3⟩ := h
  refine ⟨ns, ao, cap, rfl, ⟨by omega, hm, ?_⟩, h1, h3⟩
  rcases hr with ⟨rfl, hc⟩ | ⟨b, off, rfl, hb, hc, hf⟩
  · exact .inl (List.eq_nil_of_length_eq_zero (by omega))
  · refine .inr ⟨b, off, rfl, fun k nd hk => ?_⟩
    have hkl := (List.getElem?_eq_some_iff.1 hk).1
    obtain ⟨p, hp⟩ : ∃ p, G[k]? = some p := ⟨_, List.getElem?_eq_getElem (by omega)⟩
    have hd := h3 k nd p hk hp
    have g : ∀ j v, j < 4 → (ndCells nd)[j]? = some v → w.cell? ⟨b, off + (k * 4 + j), none⟩ = some v := fun j v hj hv => hc _ _ (by rw [flat_nd j hk hj]; exact hv)
    refine ⟨⟨?_, ?_, ?_, ?_, hd.i, hd.k, hd.r⟩, hd.b⟩
    · exact g 0 _ (by decide) rfl
    · rw [Nat.add_assoc]; exact g 1 _ (by decide) rfl
    · rw [Nat.add_assoc]; exact g 2 _ (by decide) rfl
    · rw [Nat.add_assoc]; exact g 3 _ (by decide) rfl
section
variable {ops : Array Oper} {o : Oper} {a : Act} {w : World} {K : Act → World → Prop} {Q : Exit → Act → World → Prop} {E : Prop}
/-- m[k] = v, in a region that draws its order. -/
theorem step_putS (hgd : o.guard = none) (m x v : Operand) (t e : TypeId) (hop : o.op = Op.mapUpdate t m x v) (ht : Tryz.prog.underlying t = some (.map 9 e)) (b n : Nat) {f : List UInt8 → Option Value} (hm : a.eval m = .map (some b)) (h : MapS w b n f) (hn : n < maxLen) (s : ByteArray) (hs : s.size ≤ maxLen) (hx : a.eval x = .string s) (val : Value) (hv : a.eval v = val)
    (hK : ∀ w', MapS w' b (n + 1) (putS f s.data.toList val) → w.grownBy w' (some b) → K (a.put o.dst undef) w') : if Region.wanted o (yielded ops a.tmps) = true then Oper.wp Tryz.prog o a w K Q else E := by
  have hw : Region.wanted o (yielded ops a.tmps) = true := by simp [Region.wanted, hgd]
  rw [if_pos hw]
  obtain ⟨D, h0, h1, h2⟩ := h
  obtain ⟨w', hrun, r1, r2⟩ := h1.update lawStr ht hn (keyS_mk hs) (show heldV val = some (.held val, []) from rfl)
  unfold Oper.wp
  simp [execOp, hop, hm, hx, hv, hrun, Result.andThen]
  refine hK w' ⟨D.put (keyS s) (.held val), ?_, r1, fun u hu => ?_⟩ r2
  · obtain ⟨es, rfl⟩ := h0; exact ⟨_, rfl⟩
  · unfold putS
    by_cases e : u.data.toList = s.data.toList
    · have e2 : keyS u = keyS s := by unfold keyS; rw [e]
      rw [if_pos e, e2]
      exact ⟨fun z => Maps.atKey_put_same h0 (lawStr.key (keyS_mk hs)) _ _, Maps.has_put_same h0 (lawStr.key (keyS_mk hs)) _⟩
    · rw [if_neg e]
      exact ⟨fun z => by rw [Maps.atKey_put_other (keyS_ne e)]; exact (h2 u hu).1 z, by rw [Maps.has_put_other (keyS_ne e)]; exact (h2 u hu).2⟩
end
end Go.Proofs.YtbaocallhnehfaaGreatDoor
