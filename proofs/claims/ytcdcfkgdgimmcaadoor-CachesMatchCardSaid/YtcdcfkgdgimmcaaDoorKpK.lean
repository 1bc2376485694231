/- The cache and the document's own row side by side: what each call leaves. Plain. Conditions: what each theorem names. -/
import Derived.Test.YtcdcfkgdgimmcaaDoorKpJ
import Derived.Test.YtcdcfkgdgimmcaaDoorHeldT
namespace Go.Proofs.YtcdcfkgdgimmcaaDoor
open Go Go.RowKit
section
variable {P : Program} {ops : Array Oper} {Q : Exit → Act → World → Prop} {md : Region.Mode} {C : World → Prop} {A : Nat}
/-- Two may come up. -/
theorem wpAnyC_two {i j : Nat} {oi oj : Oper} {fuel : Nat} {listed : Array Bool} {a : Act} {w : World} (hoi : ops[i]? = some oi) (hoj : ops[j]? = some oj) (hr : Region.ready md ops listed = [i, j])
    (hi : ∀ K : Act → World → Prop, (∀ a w, ((listed.setIfInBounds i true).getD A true = false → C w) → wpAnyC P md ops Q C A fuel (listed.setIfInBounds i true) a w → K a w) → if Region.wanted oi (yielded ops a.tmps) = true then Oper.wp P oi a w K Q else K (a.put oi.dst undef) w)
    (hj : ∀ K : Act → World → Prop, (∀ a w, ((listed.setIfInBounds j true).getD A true = false → C w) → wpAnyC P md ops Q C A fuel (listed.setIfInBounds j true) a w → K a w) → if Region.wanted oj (yielded ops a.tmps) = true then Oper.wp P oj a w K Q else K (a.put oj.dst undef) w) :
    wpAnyC P md ops Q C A (fuel + 1) listed a w :=
  ⟨fun h0 => (by rw [hr] at h0; cases h0), fun k hk => by
    rw [hr] at hk
    rcases (show k = i ∨ k = j by simpa using hk) with rfl | rfl
    · exact wpOp_step hoi (fun K' hK => hi K' (fun a w h1 h2 => hK a w ⟨h1, h2⟩))
    · exact wpOp_step hoj (fun K' hK => hj K' (fun a w h1 h2 => hK a w ⟨h1, h2⟩))⟩
end
/-- The rows' own blocks are not the cache's. -/
def Fx (c mb : Nat) (ks : Value) (b : Nat) : Prop := b ≠ c ∧ b ≠ mb ∧ ks.ownBlock ≠ some b
structure LkR (w wr : World) (most : Int) (c mb N : Nat) (hi mi : Int) (lv ks : Value) (L : List Kp) (E : List KA) : Prop where
  C : CacheG wr Tryd.prog 9 c mb ks most hi mi N L lv.ownBlock
  K : KeptG wr lv E (Fx c mb ks)
  B : Below w.heap.size w wr
  n1 : w.heap.size ≤ c
  n2 : w.heap.size ≤ mb
  n3 : ∀ b, ks.ownBlock = some b → w.heap.size ≤ b
  n4 : ∀ b, lv.ownBlock = some b → w.heap.size ≤ b
section
variable {w wr w' : World} {most : Int} {c mb N : Nat} {hi mi : Int} {lv ks : Value} {L : List Kp} {E : List KA}
theorem LkR.past (h : LkR w wr most c mb N hi mi lv ks L E) (t : Below wr.heap.size wr w') : LkR w w' most c mb N hi mi lv ks L E :=
  ⟨h.C.past t, h.K.past t, h.B.trans (t.mono h.B.size), h.n1, h.n2, h.n3, h.n4⟩
theorem LkR.big (h : LkR w wr most c mb N hi mi lv ks L E) {S : Nat → Prop} (t : Tch S wr w') (hs : ∀ b, b < wr.heap.size → S b → w.heap.size ≤ b) : Below w.heap.size w w' :=
  h.B.trans ⟨t.os, t.tape, t.output, t.size, fun k hk => t.block k (by have := h.B.size; omega) (fun e => by have := hs k (by have := h.B.size; omega) e; omega)⟩
theorem LkR.sp (h : LkR w wr most c mb N hi mi lv ks L E) : ∀ b, b < wr.heap.size → Sp c mb ks b → w.heap.size ≤ b := fun b _ e => by
  rcases e with e | e | e
  · rw [e]; exact h.n1
  · rw [e]; exact h.n2
  · exact h.n3 b e
theorem fx_sp {c mb : Nat} {ks : Value} {b : Nat} (h : Fx c mb ks b) : ¬ Sp c mb ks b := by
  rintro (e | e | e)
  · exact h.1 e
  · exact h.2.1 e
  · exact h.2.2 e
/-- The cache's own call has turned it. -/
theorem LkR.turn (h : LkR w wr most c mb N hi mi lv ks L E) {L' : List Kp} {hi' mi' : Int} {N' : Nat} {ks' : Value} (ho : ks'.ownBlock = ks.ownBlock ∨ ∀ b, ks'.ownBlock = some b → wr.heap.size ≤ b) (hC : CacheG w' Tryd.prog 9 c mb ks' most hi' mi' N' L' lv.ownBlock) (t : Tch (Sp c mb ks) wr w') : LkR w w' most c mb N' hi' mi' lv ks' L' E := by
  refine ⟨hC, h.K.tch t (fun b hb hf => ⟨fx_sp hf, hf.1, hf.2.1, ?_⟩), h.big t h.sp, h.n1, h.n2, fun b hb => ?_, h.n4⟩
  · rcases ho with e | e
    · rw [e]; exact hf.2.2
    · intro e'; have := e b e'; omega
  · rcases ho with e | e
    · exact h.n3 b (e ▸ hb)
    · have := e b hb; have := h.B.size; omega
theorem CacheG.turn {T T' : Option Nat} {S : Nat → Prop} (h : CacheG wr Tryd.prog 9 c mb ks most hi mi N L T) (t : Tch S wr w') (hs : ∀ b, S b → T = some b) (hT : T' = T ∨ ∀ b, T' = some b → wr.heap.size ≤ b) : CacheG w' Tryd.prog 9 c mb ks most hi mi N L T' := by
  have h2 := h.tch t hs
  obtain ⟨D, hD, hM⟩ := h.m
  obtain ⟨D2, hD2, hM2⟩ := h2.m
  have hc := h.b.lt
  have hm := hD.lt
  have far : ∀ b, b < wr.heap.size → T ≠ some b → T' ≠ some b := fun b hb hne e => by
    rcases hT with e' | e'
    · exact hne (e' ▸ e)
    · have := e' b e; omega
  refine ⟨h2.b, h2.k, ⟨D, ?_, ?_⟩, h.ne, h.nk, ⟨far c hc h.t.1, far mb hm h.t.2.1, fun b hb => far b (h.k.lt hb) (h.t.2.2 b hb)⟩, h.ok⟩
  · exact ownsMap_tch hD t (fun hS => h.t.2.1 (hs _ hS))
  · exact hM.tch t (fun g hg hG => ⟨fun hS => hG.2.2.2 (hs _ hS), hG.1, hG.2.1, hG.2.2.1, far g hg hG.2.2.2⟩)
/-- An element of the document's row has been cut out. -/
theorem LkR.cut (h : LkR w wr most c mb N hi mi lv ks L E) {k : Nat} (hk : k < E.length) {v' : Value} (ho : v'.ownBlock = lv.ownBlock) (hR : RowV w' 6 v' (E.length - 1) ((E.flatMap kaC).take (k * 6) ++ (E.flatMap kaC).drop ((k + 1) * 6))) (hg : wr.grownBy w' lv.ownBlock) : LkR w w' most c mb N hi mi v' ks L (E.eraseIdx k) := by
  have t : Tch (fun b => lv.ownBlock = some b) wr w' := Tch.of_grown hg (fun b hb => hb)
  refine ⟨h.C.turn t (fun b hb => hb) (.inl ho), ⟨?_, fun a ha => ?_, fun b hb => h.K.own b (ho ▸ hb), fun a ha => h.K.ok a (List.mem_of_mem_eraseIdx ha)⟩, h.big t (fun b _ hb => h.n4 b hb), h.n1, h.n2, h.n3, fun b hb => h.n4 b (ho ▸ hb)⟩
  · rw [flat_erase kaC 6 kaC_len, List.length_eraseIdx, if_pos hk]; exact hR
  · obtain ⟨a1, a2, a3, a4⟩ := h.K.each a (List.mem_of_mem_eraseIdx ha)
    exact ⟨fun i hi => (World.cell?_of_block (a := ⟨a.g, a.off + i, none⟩) (t.block a.g a2 a3)).trans (a1 i hi), Nat.lt_of_lt_of_le a2 t.size, by rw [ho]; exact a3, a4⟩
/-- An element has been put behind the document's row. -/
theorem LkR.app (h : LkR w wr most c mb N hi mi lv ks L E) (a : KA) (ha : Row wr a.g a.off a.k.n a.k.fs) (hag : a.g < wr.heap.size) (hal : lv.ownBlock ≠ some a.g) (haf : Fx c mb ks a.g) (hok : a.k.ok) {v' : Value} (ho : v'.ownBlock = lv.ownBlock ∨ ∀ b, v'.ownBlock = some b → wr.heap.size ≤ b) (hR : RowV w' 6 v' (E.length + 1) (E.flatMap kaC ++ kaC a)) (hg : wr.grownBy w' lv.ownBlock) : LkR w w' most c mb N hi mi v' ks L (E ++ [a]) := by
  have t : Tch (fun b => lv.ownBlock = some b) wr w' := Tch.of_grown hg (fun b hb => hb)
  have hs := h.B.size
  have hcl := h.C.b.lt
  have hml : mb < wr.heap.size := by obtain ⟨D, hD, -⟩ := h.C.m; exact hD.lt
  have far : ∀ b, b < wr.heap.size → lv.ownBlock ≠ some b → v'.ownBlock ≠ some b := fun b hb hne e => by
    rcases ho with e' | e'
    · exact hne (e' ▸ e)
    · have := e' b e; omega
  have hF : ∀ b, v'.ownBlock = some b → Fx c mb ks b := fun b hb => by
    rcases ho with e' | e'
    · exact h.K.own b (e' ▸ hb)
    · have := e' b hb
      exact ⟨by omega, by omega, fun e => by have := h.C.k.lt e; omega⟩
  refine ⟨h.C.turn t (fun b hb => hb) ho, ⟨?_, fun x hx => ?_, hF, fun x hx => ?_⟩, h.big t (fun b _ hb => h.n4 b hb), h.n1, h.n2, h.n3, fun b hb => ?_⟩
  · rw [List.flatMap_append, List.length_append]
    have e : [a].flatMap kaC = kaC a := by simp
    rw [e]; exact hR
  · have hx' : Row wr x.g x.off x.k.n x.k.fs ∧ x.g < wr.heap.size ∧ lv.ownBlock ≠ some x.g ∧ Fx c mb ks x.g := by
      rcases List.mem_append.1 hx with hx | hx
      · exact h.K.each x hx
      · simp at hx; subst hx; exact ⟨ha, hag, hal, haf⟩
    obtain ⟨a1, a2, a3, a4⟩ := hx'
    exact ⟨fun i hi => (World.cell?_of_block (a := ⟨x.g, x.off + i, none⟩) (t.block x.g a2 a3)).trans (a1 i hi), Nat.lt_of_lt_of_le a2 t.size, far _ a2 a3, a4⟩
  · rcases List.mem_append.1 hx with hx | hx
    · exact h.K.ok x hx
    · simp at hx; subst hx; exact hok
  · rcases ho with e' | e'
    · exact h.n4 b (e' ▸ hb)
    · have := e' b hb; omega
/-- The document's row without its first element. -/
theorem LkR.tail {a : KA} (h : LkR w wr most c mb N hi mi lv ks L (a :: E)) : ∃ b off cap, lv = .slice (some ⟨b, off, none⟩) (E.length + 1) cap ∧ E.length + 1 ≤ cap ∧ cap ≤ maxLen ∧ LkR w wr most c mb N hi mi (.slice (if cap = 1 then some ⟨b, off, none⟩ else some ⟨b, off + 6, none⟩) E.length (cap - 1)) ks L E := by
  obtain ⟨b, off, cap, rfl, h1, h2, hR⟩ := h.K.row.tail (by simp)
  refine ⟨b, off, cap, rfl, by simpa using h1, h2, ?_⟩
  have ho : (Value.slice (if cap = 1 then some ⟨b, off, none⟩ else some ⟨b, off + 6, none⟩) E.length (cap - 1)).ownBlock = (Value.slice (some ⟨b, off, none⟩) (a :: E).length cap).ownBlock := by
    by_cases e : cap = 1
    · simp [e, Value.ownBlock]
    · simp [e, Value.ownBlock]
  refine ⟨by rw [ho]; exact h.C, ⟨?_, fun x hx => ?_, fun b' hb => h.K.own b' (ho ▸ hb), fun x hx => h.K.ok x (by simp [hx])⟩, h.B, h.n1, h.n2, h.n3, fun b' hb => h.n4 b' (ho ▸ hb)⟩
  · have e : ((a :: E).flatMap kaC).drop 6 = E.flatMap kaC := by
      rw [List.flatMap_cons, List.drop_append, List.drop_eq_nil_of_le (by rw [kaC_len]; omega), kaC_len]; simp
    rw [e] at hR
    simpa using hR
  · obtain ⟨a1, a2, a3, a4⟩ := h.K.each x (by simp [hx])
    exact ⟨a1, a2, by rw [ho]; exact a3, a4⟩
end
theorem map_erase (E : List KA) (k : Nat) : (E.eraseIdx k).map KA.k = (E.map KA.k).eraseIdx k := by
  induction E generalizing k with
  | nil => simp
  | cons a l ih =>
    cases k with
    | zero => simp
    | succ k => simp [ih]
end Go.Proofs.YtcdcfkgdgimmcaaDoor
