/- The document's compiler: a node is added, in memory; numbers below 2^32. Conditions: what each theorem names. -/
import Derived.Test.YtbaocallhnehfaaGreatDoorPrV
set_option linter.unusedVariables false
namespace Go.Proofs.YtbaocallhnehfaaGreatDoor
open Go Go.RowKit
section
variable {Y Yt : Nat → Prop} {w0 w wr : World} {pt pp pn pg mm : Nat} {a : Option Addr} {c : Nat} {out : ByteArray} {S : Nat → StepD} {n : Nat} {u : Value} {pa pb pq : Nat} {L5 : List Value} {nm op : ByteArray} {ints : List Int} {reals : List Nat} {na ra aoN : Option Addr} {nc rc cpN : Nat} {sT : PS} {l : List Int} {uT : Value}
theorem LpH.fin {WA w6 w7 : World} {u7 : Value} (h : LpH Y w0 w pt pp pn pg mm a c out S n u pa pb pq L5 nm op (.slice na ints.length nc) (.slice ra reals.length rc) Yt wr sT l (.slice aoN l.length cpN) uT) (hY : ∀ b, Y b → b < w.heap.size)
    (hi : IntsAt 0 w0 na ints) (hr : RealsAt 0 w0 ra reals) (hib : ints.length ≤ nc ∧ nc ≤ maxLen) (hrb : reals.length ≤ rc ∧ rc ≤ maxLen) (hA : Below wr.heap.size wr WA)
    (r : ∀ ns : List NodeD, ns.length = sT.G.length → RowV WA 4 uT sT.G.length (ns.flatMap ndCells) → RowV w6 4 u7 (sT.G.length + 1) (ns.flatMap ndCells ++ [.string op, .slice aoN l.length cpN, .slice na ints.length nc, .slice ra reals.length rc])) (r2 : WA.grownBy w6 uT.ownBlock) (r3 : u7.ownBlock = uT.ownBlock ∨ ∀ b, u7.ownBlock = some b → WA.heap.size ≤ b) (hw : w7 = w6.setCell ⟨pg, 0, none⟩ u7) :
    NdH Y w0 w7 pt pp pn pg mm a c out S n ⟨sT.G ++ [⟨op, l, ints, reals⟩], sT.M⟩ u7 ∧ Tch (TD mm pg u) w w7 ∧ (u7.ownBlock = u.ownBlock ∨ ∀ b, u7.ownBlock = some b → w.heap.size ≤ b) := by
  have hG := h.give
  have tA : Tch (fun b => uT.ownBlock = some b) WA w6 := Tch.of_grown r2 (fun b hb => hb)
  have t7 : Tch (fun b => b = pg) w6 w7 := by rw [hw]; exact (Tch.refl _ _).set ⟨pg, 0, none⟩ u7 rfl
  have hsu : ∀ {b : Nat}, FxD pt pp pn pg mm b → uT.ownBlock ≠ some b := fun hf e => (hG.su _ e).1 hf
  have hWA : wr.heap.size ≤ WA.heap.size := hA.size
  have hfx : ∀ {b : Nat}, FxD pt pp pn pg mm b → b < WA.heap.size := fun hf => Nat.lt_of_lt_of_le (h.fx _ hf) (Nat.le_trans h.t.size hWA)
  have hfl : ∀ {b : Nat}, FxD pt pp pn pg mm b → w0.heap.size ≤ b := fun hf => by
    rcases hf with e | e | e | e | e <;> rw [e]
    · exact hG.lo.2.2.1
    · exact hG.lo.2.2.2.1
    · exact hG.lo.2.2.2.2
    · exact hG.lo.2.1
    · exact hG.lo.1
  have hu7 : ∀ b, u7.ownBlock = some b → ¬ FxD pt pp pn pg mm b ∧ ¬ Y b ∧ w0.heap.size ≤ b := fun b hb => by
    rcases r3 with e | e
    · exact hG.su b (by rw [← e]; exact hb)
    · have h1 := e b hb
      have h2 := Nat.le_trans h.t.size hWA
      exact ⟨fun hf => by have := hfx hf; omega, fun hy => by have := hY b hy; omega, by have := h.lw; omega⟩
  have hpg7 : u7.ownBlock ≠ some pg := fun e => (hu7 pg e).1 (.inr (.inr (.inr (.inl rfl))))
  have keep : ∀ {p : Nat} {vs : List Value}, Blk wr p vs → FxD pt pp pn pg mm p → p ≠ pg → Blk w7 p vs := fun k hf hne => ((k.past hA).tch tA (hsu hf)).tch t7 hne
  have hrow : ∀ {ao : Option Addr} {m c : Nat}, (∀ b, (Value.slice ao m c).ownBlock = some b → Yt b ∧ w.heap.size ≤ b) → ∀ q, ao = some q → ¬ ((FxD pt pp pn pg mm q.block ∨ Y q.block) ∨ uT.ownBlock = some q.block) := fun hy q hq hx => by
    obtain ⟨h1, h2⟩ := hy q.block (by rw [hq]; rfl)
    rcases hx with (hx | hx) | hx
    · have := h.fx _ hx; omega
    · have := hY _ hx; omega
    · exact (h.g.su _ hx).2.1 h1
  have hold : ∀ b, b < w0.heap.size → ¬ ((FxD pt pp pn pg mm b ∨ Y b) ∨ uT.ownBlock = some b) := fun b hb hx => by
    rcases hx with (hx | hx) | hx
    · have := hfl hx; omega
    · have := h.yw b (h.yy b hx); omega
    · have := (hG.su b hx).2.2; omega
  have hv9 : NewRow w.heap.size WA 1 (.slice aoN l.length cpN) l.length (l.map (Value.int .i64)) := h.v.past hA
  have hB0 : Below w0.heap.size w0 WA := h.g.b.trans (hA.mono h.g.b.size)
  have hci : Clr (fun b => (FxD pt pp pn pg mm b ∨ Y b) ∨ uT.ownBlock = some b) na ints := fun hl q hq => hold _ (hi.blk hl hq)
  have hcr : Clr (fun b => (FxD pt pp pn pg mm b ∨ Y b) ∨ uT.ownBlock = some b) ra reals := fun hl q hq => hold _ (hr.blk hl hq)
  have gnB := hG.gn.past hA
  obtain ⟨ns, n1, n2, n3⟩ := gnB
  have gnA : NodesM w6 (fun b => FxD pt pp pn pg mm b ∨ Y b) u7 (sT.G ++ [⟨op, l, ints, reals⟩]) := NodesM.app (nd := ⟨op, l, ints, reals, aoN, cpN, na, nc, ra, rc⟩) n1 n2 n3
    ⟨rfl, rfl, rfl, rfl, hv9.ints.zero, hi.past hB0, hr.past hB0, ⟨hv9.bd.1, hv9.bd.2, hib.1, hib.2, hrb.1, hrb.2⟩, fun _ => hrow (fun b hb => h.yc b (.inr (.inr (.inr hb)))), hci, hcr⟩ (r ns n1 n2) r2 r3
  have tt : Tch (fun b => uT.ownBlock = some b ∨ b = pg) wr w7 :=
    ((Tch.of_below (S := fun b => uT.ownBlock = some b ∨ b = pg) hA).then (tA.mono (T := fun b => uT.ownBlock = some b ∨ b = pg) (fun _ _ e => .inl e)) (fun _ _ e => e)).then (t7.mono (T := fun b => uT.ownBlock = some b ∨ b = pg) (fun _ _ e => .inr e)) (fun _ _ e => e)
  refine ⟨⟨?_, keep hG.qm (.inl rfl) (fun e => hG.ne.1 e.symm), keep hG.qp (.inr (.inl rfl)) (fun e => hG.ne.2.1 e.symm), keep hG.qf (.inr (.inr (.inl rfl))) (fun e => hG.ne.2.2 e.symm), ?_, ((hG.om.past hA).tch tA (hsu (.inr (.inr (.inr (.inr rfl)))))).tch t7 (fun e => blk_ne_mapS hG.qg hG.om e.symm), gnA.tch t7 (fun b _ hb => by cases hb; exact ⟨.inl (.inr (.inr (.inr (.inl rfl)))), hpg7⟩), hu7, hG.ne, hG.lo⟩, ?_, ?_⟩
  · refine ⟨tt.os.trans h.g.b.os, tt.tape.trans h.g.b.tape, tt.output.trans h.g.b.output, Nat.le_trans h.g.b.size tt.size, fun k hk => ?_⟩
    rw [tt.block k (Nat.lt_of_lt_of_le hk h.g.b.size) (fun hx => by
      rcases hx with e | e
      · have := (hG.su k e).2.2; omega
      · have := hG.lo.2.1; omega)]
    exact h.g.b.block k hk
  · rw [hw]
    have k1 := ((hG.qg.past hA).tch tA (hsu (.inr (.inr (.inr (.inl rfl)))))).set 0 u7
    simpa using k1
  · refine h.t.then tt (fun i hi hx => ?_)
    rcases hx with e | e
    · rcases h.o with h1 | h1
      · exact .inr (.inr (by rw [← h1]; exact e))
      · have := h1 i e; omega
    · exact .inr (.inl e)
  · rcases r3 with e | e
    · rcases h.o with h1 | h1
      · exact .inl (e.trans h1)
      · exact .inr (fun b hb => h1 b (by rw [← e]; exact hb))
    · exact .inr (fun b hb => Nat.le_trans h.t.size (Nat.le_trans hWA (e b hb)))
end
/-- The numbers of the nodes come of the steps. -/
def RbP (s : PS) : Prop := ∀ p ∈ s.G, ∀ v ∈ p.reals, v < 2 ^ 32
theorem posL_lt {S : Nat → StepD} {n j t : Nat} (hn : 0 < n) : (posL S n j).getD t 0 < n := by
  unfold posL
  rw [List.getD_eq_getElem?_getD, List.getElem?_map]
  cases (S j).ins[t]? with
  | none => exact hn
  | some x =>
    show (posS S n x.data.toList).getD 0 < n
    cases h : posS S n x.data.toList with
    | none => exact hn
    | some m => exact posS_lt h
theorem needT_rb {S : Nat → StepD} {n f : Nat} (hn : 0 < n) (j : Nat) (ih : ∀ (j : Nat) (s : PS), j < n → RbP s → RbP (needP S n f s j).1) (s : PS) (hs : RbP s) : ∀ t, RbP (needT (needP S n f) (posL S n j) t s).1
  | 0 => hs
  | t + 1 => by unfold needT; exact ih _ _ (posL_lt hn) (needT_rb hn j ih s hs t)
theorem needP_rb {S : Nat → StepD} {n : Nat} (hn : 0 < n) (hb : ∀ j, j < n → ∀ v ∈ (S j).reals, v < 2 ^ 32) : ∀ (f j : Nat) (s : PS), j < n → RbP s → RbP (needP S n f s j).1
  | 0, j, s, _, hs => hs
  | f + 1, j, s, hj, hs => by
    unfold needP
    cases hM : s.M j with
    | some r => exact hs
    | none =>
      simp only
      cases hi : idS (S j) with
      | some q => exact needP_rb hn hb f _ s (posL_lt hn) hs
      | none =>
        simp only
        have ht := needT_rb (f := f) hn j (fun j s => needP_rb hn hb f j s) s hs (posL S n j).length
        unfold putP
        cases idxT (keyT (nodeP S j (needT (needP S n f) (posL S n j) (posL S n j).length s).2)) (needT (needP S n f) (posL S n j) (posL S n j).length s).1.G with
        | some i => exact ht
        | none =>
          intro p hp v hv
          rcases List.mem_append.1 hp with h | h
          · exact ht p h v hv
          · rw [List.mem_singleton.1 h] at hv
            exact hb j hj v hv
end Go.Proofs.YtbaocallhnehfaaGreatDoor
