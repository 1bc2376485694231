/- A node is added, in memory. Conditions: what each theorem names. -/
import Derived.Test.YtbaocallhnehfaaGreatDoorPrK
import Derived.Lib.SmallJoins
set_option linter.unusedVariables false
namespace Go.Proofs.YtbaocallhnehfaaGreatDoor
open Go Go.RowKit
theorem IntsAt.zero {B : Nat} {w : World} {a : Option Addr} {l : List Int} (h : IntsAt B w a l) : IntsAt 0 w a l := by
  rcases h with h | ⟨b, off, h1, h0, h2⟩
  · exact .inl h
  · exact .inr ⟨b, off, h1, Nat.zero_le _, h2⟩
theorem NewRow.bd {B : Nat} {w : World} {sz n c : Nat} {a : Option Addr} {xs : List Value} (h : NewRow B w sz (.slice a n c) n xs) : n ≤ c ∧ c ≤ maxLen := by
  obtain ⟨⟨-, ao, cap, e, h1, h2, -⟩, -⟩ := h
  injection e with e1 e2 e3
  subst e3
  exact ⟨h1, h2⟩
theorem RowV.uniq {w : World} {sz n : Nat} {v : Value} {xs ys : List Value} (h : RowV w sz v n xs) (k : RowV w sz v n ys) : xs = ys := by
  obtain ⟨h0, ao, cap, rfl, h1, h2, h3⟩ := h
  obtain ⟨k0, ao', cap', e, k1, k2, k3⟩ := k
  injection e with e1 e2 e3
  subst e1 e3
  have hl : xs.length = ys.length := by rw [h0, k0]
  rcases h3 with ⟨rfl, h3⟩ | ⟨b, off, rfl, h4, h5, h6⟩
  · have hn : n = 0 := by omega
    subst hn
    rw [Nat.zero_mul] at h0 k0
    rw [List.eq_nil_of_length_eq_zero h0, List.eq_nil_of_length_eq_zero k0]
  · rcases k3 with ⟨e, -⟩ | ⟨b', off', e, k4, k5, k6⟩
    · cases e
    · cases e
      refine List.ext_getElem hl (fun i hi hi' => ?_)
      have a := h5 i _ (List.getElem?_eq_getElem hi)
      have c := k5 i _ (List.getElem?_eq_getElem hi')
      rw [a] at c
      exact Option.some.inj c
section
variable {Y Yt : Nat → Prop} {w0 w wr : World} {pm ps pn pk pg mm ms mk : Nat} {S : Nat → StepD} {n : Nat} {u : Value} {pa pb : Nat} {L5 : List Value} {op : ByteArray} {ints : List Int} {reals : List Nat} {aoN aoI aoR : Option Addr} {cpN cpI cpR : Nat} {sT : PS} {l : List Int} {uT : Value}
/-- What a caller gets. -/
theorem LpI.give {sI sR vN : Value} {nI nR : Nat} {rI rR : List Value} (h : LpI Y w0 w pm ps pn pk pg mm ms mk S n u pa pb L5 op sI sR nI nR rI rR Yt wr sT l vN uT) : NdG Y w0 wr pm ps pn pk pg mm ms mk S n sT uT :=
  h.g.weak (fun b _ hy => h.yy b hy) (fun b hb hy => (h.g.su b hb).2.1 (h.yy b hy))
theorem LpI.fin {W9 WA w6 w7 : World} {u7 : Value} (h : LpI Y w0 w pm ps pn pk pg mm ms mk S n u pa pb L5 op (.slice aoI ints.length cpI) (.slice aoR reals.length cpR) ints.length reals.length (ints.map (Value.int .i64)) (reals.map (Value.float .f32)) Yt wr sT l (.slice aoN l.length cpN) uT) (hY : ∀ b, Y b → b < w.heap.size)
    (hx : idxT (keyT ⟨op, l, ints, reals⟩) sT.G = none) {key : List UInt8} (hk : key = keyT ⟨op, l, ints, reals⟩) (hm9 : MapS W9 mk (sT.G.length + 1) (putS (knS sT.G) key (.int .i64 (sT.G.length : Int)))) (hg9 : wr.grownBy W9 (some mk)) (hA : Below W9.heap.size W9 WA)
    (r : ∀ ns : List NodeD, ns.length = sT.G.length → RowV WA 4 uT sT.G.length (ns.flatMap ndCells) → RowV w6 4 u7 (sT.G.length + 1) (ns.flatMap ndCells ++ [.string op, .slice aoN l.length cpN, .slice aoI ints.length cpI, .slice aoR reals.length cpR])) (r2 : WA.grownBy w6 uT.ownBlock) (r3 : u7.ownBlock = uT.ownBlock ∨ ∀ b, u7.ownBlock = some b → WA.heap.size ≤ b) (hw : w7 = w6.setCell ⟨pg, 0, none⟩ u7) :
    NdG Y w0 w7 pm ps pn pk pg mm ms mk S n ⟨sT.G ++ [⟨op, l, ints, reals⟩], sT.M⟩ u7 ∧ Tch (TS mm mk pg u) w w7 ∧ (u7.ownBlock = u.ownBlock ∨ ∀ b, u7.ownBlock = some b → w.heap.size ≤ b) := by
  have hG := h.give
  obtain ⟨t9, b9, qm9, qs9, qf9, qk9, qg9, om9, os9, gn9⟩ := hG.putK hm9 hg9
  have tA : Tch (fun b => uT.ownBlock = some b) WA w6 := Tch.of_grown r2 (fun b hb => hb)
  have t7 : Tch (fun b => b = pg) w6 w7 := by rw [hw]; exact (Tch.refl _ _).set ⟨pg, 0, none⟩ u7 rfl
  have hsu : ∀ {b : Nat}, FxB pm ps pn pk pg mm ms mk b → uT.ownBlock ≠ some b := fun hf e => (hG.su _ e).1 hf
  have hWA : W9.heap.size ≤ WA.heap.size := hA.size
  have hfx : ∀ {b : Nat}, FxB pm ps pn pk pg mm ms mk b → b < WA.heap.size := fun hf => Nat.lt_of_lt_of_le (h.fx _ hf) (Nat.le_trans h.t.size (Nat.le_trans t9.size hWA))
  have hu7 : ∀ b, u7.ownBlock = some b → ¬ FxB pm ps pn pk pg mm ms mk b ∧ ¬ Y b ∧ w0.heap.size ≤ b := fun b hb => by
    rcases r3 with e | e
    · exact hG.su b (by rw [← e]; exact hb)
    · have h1 := e b hb
      have h2 := Nat.le_trans h.t.size (Nat.le_trans t9.size hWA)
      exact ⟨fun hf => by have := hfx hf; omega, fun hy => by have := hY b hy; omega, by have := h.lw; omega⟩
  have hpg7 : u7.ownBlock ≠ some pg := fun e => (hu7 pg e).1 (.inr (.inr (.inr (.inr (.inl rfl)))))
  have keep : ∀ {p : Nat} {vs : List Value}, Blk W9 p vs → FxB pm ps pn pk pg mm ms mk p → p ≠ pg → Blk w7 p vs := fun k hf hne => ((k.past hA).tch tA (hsu hf)).tch t7 hne
  have keepM : ∀ {p m : Nat} {f : List UInt8 → Option Value}, MapS W9 p m f → FxB pm ps pn pk pg mm ms mk p → p ≠ pg → MapS w7 p m f := fun k hf hne => ((k.past hA).tch tA (hsu hf)).tch t7 hne
  have hpgm : ∀ {p m : Nat} {f : List UInt8 → Option Value}, MapS W9 p m f → p ≠ pg := fun k e => blk_ne_mapS qg9 k e.symm
  have hrow : ∀ {ao : Option Addr} {m c : Nat}, (∀ b, (Value.slice ao m c).ownBlock = some b → Yt b ∧ w.heap.size ≤ b) → ∀ q, ao = some q → ¬ ((FxB pm ps pn pk pg mm ms mk q.block ∨ Y q.block) ∨ uT.ownBlock = some q.block) := fun hy q hq hx => by
    obtain ⟨h1, h2⟩ := hy q.block (by rw [hq]; rfl)
    rcases hx with (hx | hx) | hx
    · have := h.fx _ hx; omega
    · have := hY _ hx; omega
    · exact (h.g.su _ hx).2.1 h1
  have hv9 : NewRow w.heap.size WA 1 (.slice aoN l.length cpN) l.length (l.map (Value.int .i64)) := NewRow.past (show NewRow w.heap.size W9 1 _ _ _ from ⟨h.v.1.tch t9 (fun b hb e => by have := (h.yc b (.inr (.inr (.inr (.inr hb))))).2; have := h.fx mk (.inr (.inr (.inr (.inr (.inr (.inr (.inr rfl))))))); omega), h.v.2⟩) hA
  have hi9 : NewRow w.heap.size WA 1 (.slice aoI ints.length cpI) ints.length (ints.map (Value.int .i64)) := NewRow.past (show NewRow w.heap.size W9 1 _ _ _ from ⟨h.i.1.tch t9 (fun b hb e => by have := (h.yc b (.inr (.inr (.inl hb)))).2; have := h.fx mk (.inr (.inr (.inr (.inr (.inr (.inr (.inr rfl))))))); omega), h.i.2⟩) hA
  have hr9 : NewRow w.heap.size WA 1 (.slice aoR reals.length cpR) reals.length (reals.map (Value.float .f32)) := NewRow.past (show NewRow w.heap.size W9 1 _ _ _ from ⟨h.r.1.tch t9 (fun b hb e => by have := (h.yc b (.inr (.inr (.inr (.inl hb))))).2; have := h.fx mk (.inr (.inr (.inr (.inr (.inr (.inr (.inr rfl))))))); omega), h.r.2⟩) hA
  have gnB := gn9.past hA
  obtain ⟨ns, n1, n2, n3⟩ := gnB
  have gnA : NodesM w6 (fun b => FxB pm ps pn pk pg mm ms mk b ∨ Y b) u7 (sT.G ++ [⟨op, l, ints, reals⟩]) := NodesM.app (nd := ⟨op, l, ints, reals, aoN, cpN, aoI, cpI, aoR, cpR⟩) n1 n2 n3
    ⟨rfl, rfl, rfl, rfl, hv9.ints.zero, hi9.ints.zero, hr9.reals.mono (Nat.zero_le _), ⟨hv9.bd.1, hv9.bd.2, hi9.bd.1, hi9.bd.2, hr9.bd.1, hr9.bd.2⟩, fun _ => hrow (fun b hb => h.yc b (.inr (.inr (.inr (.inr hb))))), fun _ => hrow (fun b hb => h.yc b (.inr (.inr (.inl hb)))), fun _ => hrow (fun b hb => h.yc b (.inr (.inr (.inr (.inl hb)))))⟩ (r ns n1 n2) r2 r3
  have tt : Tch (fun b => b = mk ∨ uT.ownBlock = some b ∨ b = pg) wr w7 :=
    (((t9.mono (T := fun b => b = mk ∨ uT.ownBlock = some b ∨ b = pg) (fun _ _ e => .inl e)).then (Tch.of_below (S := fun b => b = mk ∨ uT.ownBlock = some b ∨ b = pg) hA) (fun _ _ e => e)).then (tA.mono (T := fun b => b = mk ∨ uT.ownBlock = some b ∨ b = pg) (fun _ _ e => .inr (.inl e))) (fun _ _ e => e)).then (t7.mono (T := fun b => b = mk ∨ uT.ownBlock = some b ∨ b = pg) (fun _ _ e => .inr (.inr e))) (fun _ _ e => e)
  refine ⟨⟨?_, keep qm9 (.inl rfl) (fun e => hG.ne.2.2.2.1 e.symm), keep qs9 (.inr (.inl rfl)) (fun e => hG.ne.2.2.2.2.1 e.symm), keep qf9 (.inr (.inr (.inl rfl))) (fun e => hG.ne.2.2.2.2.2.1 e.symm), keep qk9 (.inr (.inr (.inr (.inl rfl)))) (fun e => hG.ne.2.2.2.2.2.2 e.symm), ?_, keepM om9 (.inr (.inr (.inr (.inr (.inr (.inl rfl)))))) (hpgm om9), keepM os9 (.inr (.inr (.inr (.inr (.inr (.inr (.inl rfl))))))) (hpgm os9), ?_, gnA.tch t7 (fun b _ hb => by cases hb; exact ⟨.inl (.inr (.inr (.inr (.inr (.inl rfl))))), hpg7⟩), hu7, hG.ne, hG.lo⟩, ?_, ?_⟩
  · refine ⟨tt.os.trans h.g.b.os, tt.tape.trans h.g.b.tape, tt.output.trans h.g.b.output, Nat.le_trans h.g.b.size tt.size, fun k hk => ?_⟩
    rw [tt.block k (Nat.lt_of_lt_of_le hk h.g.b.size) (fun hx => by
      rcases hx with e | e | e
      · have := hG.lo.2.1; omega
      · have := (hG.su k e).2.2; omega
      · have := hG.lo.2.2; omega)]
    exact h.g.b.block k hk
  · rw [hw]
    have k1 := ((qg9.past hA).tch tA (hsu (.inr (.inr (.inr (.inr (.inl rfl))))))).set 0 u7
    simpa using k1
  · show MapS w7 mk (sT.G ++ [(⟨op, l, ints, reals⟩ : PN)]).length (knS (sT.G ++ [(⟨op, l, ints, reals⟩ : PN)]))
    rw [List.length_append]
    rw [hk] at hm9
    exact keepM (hm9.congr (knS_put hx)) (.inr (.inr (.inr (.inr (.inr (.inr (.inr rfl))))))) (hpgm hm9)
  · refine h.t.then tt (fun i hi hx => ?_)
    rcases hx with e | e | e
    · exact .inr (.inl e)
    · rcases h.o with h1 | h1
      · exact .inr (.inr (.inr (by rw [← h1]; exact e)))
      · have := h1 i e; omega
    · exact .inr (.inr (.inl e))
  · rcases r3 with e | e
    · rcases h.o with h1 | h1
      · exact .inl (e.trans h1)
      · exact .inr (fun b hb => h1 b (by rw [← e]; exact hb))
    · exact .inr (fun b hb => Nat.le_trans h.t.size (Nat.le_trans t9.size (Nat.le_trans hWA (e b hb))))
end
end Go.Proofs.YtbaocallhnehfaaGreatDoor
