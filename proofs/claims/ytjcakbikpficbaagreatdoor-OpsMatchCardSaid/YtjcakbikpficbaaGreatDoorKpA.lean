/- Rows of elements in a slice of the call's own, at any offset and with any room behind it: append, cut, clear. Plain laws over any program. No condition. -/
import Derived.Test.YtjcakbikpficbaaGreatDoorBG
import Derived.ArgAppend
import Derived.Maps.OwnSet
namespace Go.Proofs.YtjcakbikpficbaaGreatDoor
open Go Go.RowKit
/-- w' is w but for the blocks of S, and new ones. -/
structure Tch (S : Nat → Prop) (w w' : World) : Prop where
  os : w'.os = w.os
  tape : w'.tape = w.tape
  output : w'.output = w.output
  size : w.heap.size ≤ w'.heap.size
  block : ∀ k, k < w.heap.size → ¬ S k → w'.heap[k]? = w.heap[k]?
theorem Tch.refl (S : Nat → Prop) (w : World) : Tch S w w := ⟨rfl, rfl, rfl, Nat.le_refl _, fun _ _ _ => rfl⟩
theorem Tch.trans {S : Nat → Prop} {a b c : World} (h : Tch S a b) (k : Tch S b c) : Tch S a c :=
  ⟨k.os.trans h.os, k.tape.trans h.tape, k.output.trans h.output, Nat.le_trans h.size k.size, fun i hi hS => (k.block i (Nat.lt_of_lt_of_le hi h.size) hS).trans (h.block i hi hS)⟩
theorem Tch.mono {S T : Nat → Prop} {a b : World} (h : Tch S a b) (hs : ∀ k, k < a.heap.size → S k → T k) : Tch T a b := ⟨h.os, h.tape, h.output, h.size, fun i hi hT => h.block i hi (fun hS => hT (hs i hi hS))⟩
/-- Behind another one; blocks that the first one made may be touched. -/
theorem Tch.then {S T : Nat → Prop} {a b c : World} (h : Tch S a b) (k : Tch T b c) (ht : ∀ i, i < a.heap.size → T i → S i) : Tch S a c :=
  ⟨k.os.trans h.os, k.tape.trans h.tape, k.output.trans h.output, Nat.le_trans h.size k.size, fun i hi hS => (k.block i (Nat.lt_of_lt_of_le hi h.size) (fun hT => hS (ht i hi hT))).trans (h.block i hi hS)⟩
theorem Tch.of_below {S : Nat → Prop} {w w' : World} (h : Below w.heap.size w w') : Tch S w w' := ⟨h.os, h.tape, h.output, h.size, fun k hk _ => h.block k hk⟩
theorem Tch.of_grown {S : Nat → Prop} {w w' : World} {r : Option Nat} (h : w.grownBy w' r) (hr : ∀ b, r = some b → S b) : Tch S w w' := ⟨h.os, h.tape, h.output, h.size, fun k hk hS => h.block k hk (fun e => hS (hr k e.symm))⟩
theorem Tch.set {S : Nat → Prop} {w w' : World} (h : Tch S w w') (q : Addr) (v : Value) (hq : S q.block) : Tch S w (w'.setCell q v) :=
  h.trans ⟨rfl, rfl, rfl, by simp [World.setCell], fun k _ hS => Below.heap_setCell _ _ _ _ (fun e => hS (e ▸ hq))⟩
theorem Tch.to_below {S : Nat → Prop} {w w' : World} {N : Nat} (h : Tch S w w') (hN : N ≤ w.heap.size) (hS : ∀ k, S k → N ≤ k) : Below N w w' := ⟨h.os, h.tape, h.output, h.size, fun k hk => h.block k (by omega) (fun hk' => by have := hS k hk'; omega)⟩
theorem Blk.tch {S : Nat → Prop} {w w' : World} {n : Nat} {vs : List Value} (k : Blk w n vs) (h : Tch S w w') (hn : ¬ S n) : Blk w' n vs := k.block h.size (h.block n k.lt hn)
/-- A slice whose elements' cells are xs, size each; its memory is there up to its capacity. -/
def RowV (w : World) (size : Nat) (v : Value) (n : Nat) (xs : List Value) : Prop :=
  xs.length = n * size ∧ ∃ ao cap, v = .slice ao n cap ∧ n ≤ cap ∧ cap ≤ maxLen ∧
    ((ao = none ∧ cap = 0) ∨ ∃ b off, ao = some ⟨b, off, none⟩ ∧ b < w.heap.size ∧ (∀ j u, xs[j]? = some u → w.cell? ⟨b, off + j, none⟩ = some u) ∧ ∀ j, j < cap * size → (w.cell? ⟨b, off + j, none⟩).isSome = true ∧ w.frozen? ⟨b, off + j, none⟩ = false)
theorem RowV.nil (w : World) (size : Nat) : RowV w size (.slice none 0 0) 0 [] := ⟨by simp, none, 0, rfl, Nat.le_refl _, by unfold maxLen; omega, .inl ⟨rfl, rfl⟩⟩
theorem RowV.lt {w : World} {size n : Nat} {v : Value} {xs : List Value} (h : RowV w size v n xs) {b : Nat} (hb : v.ownBlock = some b) : b < w.heap.size := by
  obtain ⟨-, ao, cap, rfl, -, -, ⟨rfl, -⟩ | ⟨b', off, rfl, hl, -⟩⟩ := h
  · simp [Value.ownBlock] at hb
  · simp [Value.ownBlock] at hb; omega
theorem RowV.block {w w' : World} {size n : Nat} {v : Value} {xs : List Value} (h : RowV w size v n xs) (hs : w.heap.size ≤ w'.heap.size) (hb : ∀ b, v.ownBlock = some b → w'.heap[b]? = w.heap[b]?) : RowV w' size v n xs := by
  obtain ⟨h0, ao, cap, rfl, h1, h2, ⟨rfl, h3⟩ | ⟨b, off, rfl, hl, hc, hf⟩⟩ := h
  · exact ⟨h0, none, cap, rfl, h1, h2, .inl ⟨rfl, h3⟩⟩
  · have e := hb b rfl
    exact ⟨h0, _, cap, rfl, h1, h2, .inr ⟨b, off, rfl, by omega, fun j u hu => (World.cell?_of_block e).trans (hc j u hu), fun j hj => by rw [World.cell?_of_block (a := ⟨b, off + j, none⟩) e, World.frozen?_of_block (a := ⟨b, off + j, none⟩) e]; exact hf j hj⟩⟩
theorem RowV.tch {S : Nat → Prop} {w w' : World} {size n : Nat} {v : Value} {xs : List Value} (h : RowV w size v n xs) (t : Tch S w w') (hb : ∀ b, v.ownBlock = some b → ¬ S b) : RowV w' size v n xs :=
  h.block t.size (fun b e => t.block b (h.lt e) (hb b e))
theorem RowV.past {w w' : World} {size n : Nat} {v : Value} {xs : List Value} (h : RowV w size v n xs) (t : Below w.heap.size w w') : RowV w' size v n xs :=
  h.block t.size (fun b e => t.block b (h.lt e))
theorem RowV.of_own {w : World} {base size n : Nat} {e : TypeId} {v : Value} {xs : List Value} (h : w.ownsRow base e size v n xs) : RowV w size v n xs := by
  obtain ⟨h0, ⟨rfl, rfl⟩ | ⟨g, cap, cur, rfl, h1, h2, h3, h4, h5, h6⟩⟩ := h
  · exact ⟨h0, none, 0, rfl, Nat.le_refl _, by unfold maxLen; omega, .inl ⟨rfl, rfl⟩⟩
  · refine ⟨h0, _, cap, rfl, h3, h4, .inr ⟨g, 0, rfl, ?_, fun j u hu => ?_, fun j hj => ?_⟩⟩
    · rcases Nat.lt_or_ge g w.heap.size with h' | h'
      · exact h'
      · rw [Array.getElem?_eq_none h'] at h2; cases h2
    · rw [← h6, List.getElem?_take] at hu
      split at hu
      · simpa [World.cell?, h2] using hu
      · cases hu
    · refine ⟨?_, ?_⟩
      · rw [← h5] at hj
        simp [World.cell?, h2, hj]
      · simp [World.frozen?, h2]
theorem grown_setCells (b : Nat) : ∀ (vs : List Value) (o : Nat) (w : World), w.grownBy (w.setCells b o vs) (some b)
  | [], _, w => ⟨rfl, rfl, rfl, Nat.le_refl _, fun _ _ _ => rfl⟩
  | v :: r, o, w => by
    have h := grown_setCells b r (o + 1) (w.setCell ⟨b, o, none⟩ v)
    exact ⟨h.os, h.tape, h.output, Nat.le_trans (Nat.le_of_eq (show w.heap.size = (w.setCell ⟨b, o, none⟩ v).heap.size by simp [World.setCell])) h.size, fun k hk hne => (h.block k (by simpa [World.setCell] using hk) hne).trans (Below.heap_setCell _ _ _ _ (fun e => hne (by simp at e; rw [e])))⟩
section
variable {P : Program}
/-- One element more. -/
theorem run_append_row {w : World} {t ty e : TypeId} {i : TypeInfo} {z : Value} {size bytes : Nat} (ht : P.underlying t = some (.slice e)) (hi : P.info? e = some i) (hz : i.zero = some z) (hsize : i.size = size) (hby : i.bytes = bytes) (hzs : z.cells.size = size) (hsz : 0 < size)
    {v : Value} {n : Nat} {xs : List Value} (h : RowV w size v n xs) (ad : Addr) (c : Nat) (news : List Value) (hl : news.length = 1 * size) (hnews : ∀ j u, news[j]? = some u → w.cell? (ad.add j) = some u) (h1 : ∀ u ∈ news, u.oneCell' = true)
    (h63 : n + 1 ≤ maxLen) (hbytes : (n + 1) * bytes ≤ 140737488355328) :
    ∃ v' w', (Builtin.append_ #[t, t] ty #[v, .slice (some ad) 1 c]).run P w = .ok v' w' ∧ RowV w' size v' (n + 1) (xs ++ news) ∧ w.grownBy w' v.ownBlock ∧ (v'.ownBlock = v.ownBlock ∨ ∀ b, v'.ownBlock = some b → w.heap.size ≤ b) := by
  subst hsize
  obtain ⟨h0, ao, cap, rfl, hn, hm, ⟨rfl, h3⟩ | ⟨b, off, rfl, hb, hc, hf⟩⟩ := h
  · obtain rfl : cap = 0 := h3
    obtain rfl : n = 0 := by omega
    obtain rfl : xs = [] := List.eq_nil_of_length_eq_zero (by simpa using h0)
    obtain ⟨v', w', hrun, r1, r2, -⟩ := run_append_own (P := P) w w.heap.size t ty e i z i.size bytes ht hi hz rfl hby hzs hsz (.slice none 0 0) 0 [] (World.ownsRow_nil w _ e i.size) ad 1 c news hl hnews h1 h63 hbytes (Nat.le_refl _)
    refine ⟨v', w', hrun, RowV.of_own r1, r2, .inr (fun g hg => ?_)⟩
    exact (r1.lt g hg).1
  · by_cases hr : n + 1 ≤ cap
    · have hnl : news.length = i.size := by omega
      have hcs : (n + 1) * i.size ≤ cap * i.size := Nat.mul_le_mul_right _ hr
      rw [Nat.add_mul, Nat.one_mul] at hcs
      have hsp : ∀ j, j < news.length → (w.cell? ⟨b, off + n * i.size + j, none⟩).isSome = true ∧ w.frozen? ⟨b, off + n * i.size + j, none⟩ = false := fun j hj => by
        have := hf (n * i.size + j) (by omega)
        rwa [← Nat.add_assoc] at this
      have hrun := run_append_room_cells (P := P) w t ty e i ht hi b off n cap ad 1 c news hl hnews h1 hr (fun j hj => (hsp j hj).1) (fun j hj => (hsp j hj).2)
      refine ⟨_, _, hrun, ⟨by rw [List.length_append, h0, hnl, Nat.add_mul, Nat.one_mul], _, cap, rfl, hr, hm, .inr ⟨b, off, rfl, ?_, fun j u hu => ?_, fun j hj => ?_⟩⟩, ?_, .inl rfl⟩
      · exact Nat.lt_of_lt_of_le hb (grown_setCells b _ _ w).size
      · by_cases hj : j < xs.length
        · rw [List.getElem?_append_left hj] at hu
          rw [World.cell?_setCells_out b _ _ _ _ (fun _ _ => Or.inl (by show off + j < off + n * i.size; omega))]
          exact hc j u hu
        · rw [List.getElem?_append_right (by omega)] at hu
          have hlt := (List.getElem?_eq_some_iff.1 hu).1
          have := World.cell?_setCells_in b news (off + n * i.size) w (fun j hj => (hsp j hj).1) (j - xs.length) hlt
          rw [show off + n * i.size + (j - xs.length) = off + j by omega] at this
          rw [this, ← hu, List.getElem?_eq_getElem hlt]
      · rw [World.frozen?_setCells]
        refine ⟨?_, (hf j hj).2⟩
        by_cases hj2 : n * i.size ≤ j ∧ j < n * i.size + news.length
        · have := World.cell?_setCells_in b news (off + n * i.size) w (fun j hj => (hsp j hj).1) (j - n * i.size) (by omega)
          rw [show off + n * i.size + (j - n * i.size) = off + j by omega] at this
          rw [this]; rfl
        · rw [World.cell?_setCells_out b _ _ _ _ (fun _ _ => by show off + j < off + n * i.size ∨ off + n * i.size + news.length ≤ off + j; omega)]
          exact (hf j hj).1
      · exact grown_setCells b _ _ w
    · obtain ⟨v', w', hrun, r1, r2⟩ := run_append_arg_grows (P := P) w t ty e i z i.size bytes ht hi hz rfl hby hzs hsz ⟨b, off, none⟩ n cap xs h0 (fun j u hu => by rw [Addr.add_lit]; exact hc j u hu) ad 1 c news hl hnews (by omega) h63 hbytes
      refine ⟨v', w', hrun, RowV.of_own r1, ⟨r2.os, r2.tape, r2.output, r2.size, fun k hk _ => r2.block k hk (by simp)⟩, .inr (fun g hg => ?_)⟩
      exact (r1.lt g hg).1
theorem wpList_append_row (w : World) {ops : Array Oper} {rest : List Oper} {o : Oper} {a : Act} {Q : Exit → Act → World → Prop} (hgd : o.guard = none) (s x : Operand) (t : TypeId)
    (ho : o.op = .call { callee := .builtin .append, args := #[s, x], argTypes := #[t, t] })
    {e : TypeId} {i : TypeInfo} {z : Value} {size bytes : Nat} (ht : P.underlying t = some (.slice e)) (hi : P.info? e = some i) (hz : i.zero = some z) (hsize : i.size = size) (hby : i.bytes = bytes) (hzs : z.cells.size = size) (hsz : 0 < size)
    {v : Value} {n : Nat} {xs : List Value} (hs : a.eval s = v) (h : RowV w size v n xs) (ad : Addr) (c : Nat) (news : List Value) (hx : a.eval x = .slice (some ad) 1 c) (hl : news.length = 1 * size) (hnews : ∀ j u, news[j]? = some u → w.cell? (ad.add j) = some u) (h1 : ∀ u ∈ news, u.oneCell' = true)
    (h63 : n + 1 ≤ maxLen) (hbytes : (n + 1) * bytes ≤ 140737488355328)
    (hK : ∀ ao' cap' w', RowV w' size (.slice ao' (n + 1) cap') (n + 1) (xs ++ news) → w.grownBy w' v.ownBlock → ((Value.slice ao' (n + 1) cap').ownBlock = v.ownBlock ∨ ∀ b, (Value.slice ao' (n + 1) cap').ownBlock = some b → w.heap.size ≤ b) → wpList P ops Q rest (a.put o.dst (.slice ao' (n + 1) cap')) w') : wpList P ops Q (o :: rest) a w := by
  refine wpList_plain hgd fun K hK' => ?_
  obtain ⟨v', w', hrun, r1, r2, r3⟩ := run_append_row (P := P) (ty := o.type) ht hi hz hsize hby hzs hsz h ad c news hl hnews h1 h63 hbytes
  obtain ⟨ao', cap', rfl⟩ : ∃ ao' cap', v' = .slice ao' (n + 1) cap' := by obtain ⟨-, ao', cap', e, -⟩ := r1; exact ⟨_, _, e⟩
  unfold Oper.wp
  simp [execOp, ho, resolve, invoke, builtin, hs, hx, hrun, Result.andThen]
  exact hK' _ _ (hK ao' cap' w' r1 r2 r3)
/-- .. in a region that draws its order. -/
theorem step_append_row {ops : Array Oper} {o : Oper} {a : Act} {w : World} {K : Act → World → Prop} {Q : Exit → Act → World → Prop} {E : Prop} (hgd : o.guard = none) (s x : Operand) (t : TypeId)
    (ho : o.op = .call { callee := .builtin .append, args := #[s, x], argTypes := #[t, t] })
    {e : TypeId} {i : TypeInfo} {z : Value} {size bytes : Nat} (ht : P.underlying t = some (.slice e)) (hi : P.info? e = some i) (hz : i.zero = some z) (hsize : i.size = size) (hby : i.bytes = bytes) (hzs : z.cells.size = size) (hsz : 0 < size)
    {v : Value} {n : Nat} {xs : List Value} (hs : a.eval s = v) (h : RowV w size v n xs) (ad : Addr) (c : Nat) (news : List Value) (hx : a.eval x = .slice (some ad) 1 c) (hl : news.length = 1 * size) (hnews : ∀ j u, news[j]? = some u → w.cell? (ad.add j) = some u) (h1 : ∀ u ∈ news, u.oneCell' = true)
    (h63 : n + 1 ≤ maxLen) (hbytes : (n + 1) * bytes ≤ 140737488355328)
    (hK : ∀ ao' cap' w', RowV w' size (.slice ao' (n + 1) cap') (n + 1) (xs ++ news) → w.grownBy w' v.ownBlock → ((Value.slice ao' (n + 1) cap').ownBlock = v.ownBlock ∨ ∀ b, (Value.slice ao' (n + 1) cap').ownBlock = some b → w.heap.size ≤ b) → K (a.put o.dst (.slice ao' (n + 1) cap')) w') :
    if Region.wanted o (yielded ops a.tmps) = true then Oper.wp P o a w K Q else E := by
  have hw : Region.wanted o (yielded ops a.tmps) = true := by simp [Region.wanted, hgd]
  rw [if_pos hw]
  obtain ⟨v', w', hrun, r1, r2, r3⟩ := run_append_row (P := P) (ty := o.type) ht hi hz hsize hby hzs hsz h ad c news hl hnews h1 h63 hbytes
  obtain ⟨ao', cap', rfl⟩ : ∃ ao' cap', v' = .slice ao' (n + 1) cap' := by obtain ⟨-, ao', cap', e, -⟩ := r1; exact ⟨_, _, e⟩
  unfold Oper.wp
  simp [execOp, ho, resolve, invoke, builtin, hs, hx, hrun, Result.andThen]
  exact hK ao' cap' w' r1 r2 r3
/-- The built-in clear at one element. -/
theorem run_clear_one (w : World) (t e ty : TypeId) (z : Value) (ht : P.underlying t = some (.slice e)) (hv : ∀ w, (zeroValue e).run P w = .ok z w) (h1 : ∀ u ∈ z.cells.toList, u.oneCell' = true) (b o c : Nat)
    (hc : ∀ j, j < z.cells.size → (w.cell? ⟨b, o + j, none⟩).isSome = true) (hf : ∀ j, j < z.cells.size → w.frozen? ⟨b, o + j, none⟩ = false) :
    (Builtin.clear_ #[t] ty #[.slice (some ⟨b, o, none⟩) 1 c]).run P w = .ok (.tuple #[]) (w.setCells b o z.cells.toList) := by
  have hzc : (Builtin.zeroCells z.cells 1).toList = z.cells.toList := by
    simp [Builtin.zeroCells]
    apply List.ext_getElem
    · simp
    · intro i h1 h2
      simp at h1
      simp [Nat.mod_eq_of_lt h1, getElem!_pos z.cells i h1]
  have hst := run_storeCells_cells (P := P) b o z.cells.toList 0 w (by simpa using hc) (by simpa using hf) h1
  simp only [Nat.add_zero] at hst
  simp [Builtin.clear_, run_underlying ht, hv, hzc, hst]
end
/-- An element cut out of a row: what stands behind the two stores. -/
theorem RowV.cut {w : World} {size n cap b off k : Nat} {xs zs : List Value} (h0 : xs.length = n * size) (hb : b < w.heap.size) (hn : n ≤ cap) (hm : cap ≤ maxLen) (hc : ∀ j u, xs[j]? = some u → w.cell? ⟨b, off + j, none⟩ = some u) (hf : ∀ j, j < cap * size → (w.cell? ⟨b, off + j, none⟩).isSome = true ∧ w.frozen? ⟨b, off + j, none⟩ = false)
    (hk : k < n) (hz : zs.length = size) :
    RowV ((w.setCells b (off + k * size) (xs.drop ((k + 1) * size))).setCells b (off + (n - 1) * size) zs) size (.slice (some ⟨b, off, none⟩) (n - 1) cap) (n - 1) (xs.take (k * size) ++ xs.drop ((k + 1) * size)) := by
  have e1 : (k + 1) * size ≤ n * size := Nat.mul_le_mul_right _ hk
  have e2 : (n - 1) * size = n * size - size := by rw [Nat.sub_mul, Nat.one_mul]
  have e3 : (k + 1) * size = k * size + size := by rw [Nat.add_mul, Nat.one_mul]
  have e4 : n * size ≤ cap * size := Nat.mul_le_mul_right _ hn
  have hd : (xs.drop ((k + 1) * size)).length = n * size - (k + 1) * size := by rw [List.length_drop, h0]
  have hs1 : ∀ j, j < (xs.drop ((k + 1) * size)).length → (w.cell? ⟨b, off + k * size + j, none⟩).isSome = true := fun j hj => by rw [Nat.add_assoc]; exact (hf (k * size + j) (by omega)).1
  have g1 : ∀ j, j < cap * size → ((w.setCells b (off + k * size) (xs.drop ((k + 1) * size))).cell? ⟨b, off + j, none⟩).isSome = true := fun j hj => by
    by_cases hj2 : k * size ≤ j ∧ j < k * size + (xs.drop ((k + 1) * size)).length
    · have := World.cell?_setCells_in b (xs.drop ((k + 1) * size)) (off + k * size) w hs1 (j - k * size) (by omega)
      rw [show off + k * size + (j - k * size) = off + j by omega] at this
      rw [this]; rfl
    · rw [World.cell?_setCells_out b _ _ _ _ (fun _ _ => by show off + j < off + k * size ∨ off + k * size + (xs.drop ((k + 1) * size)).length ≤ off + j; omega)]
      exact (hf j hj).1
  have hs2 : ∀ j, j < zs.length → ((w.setCells b (off + k * size) (xs.drop ((k + 1) * size))).cell? ⟨b, off + (n - 1) * size + j, none⟩).isSome = true := fun j hj => by rw [Nat.add_assoc]; exact g1 _ (by omega)
  have z1 := (grown_setCells b (xs.drop ((k + 1) * size)) (off + k * size) w).size
  have z2 := (grown_setCells b zs (off + (n - 1) * size) (w.setCells b (off + k * size) (xs.drop ((k + 1) * size)))).size
  refine ⟨by rw [List.length_append, List.length_take, hd, h0]; omega, _, cap, rfl, by omega, hm, .inr ⟨b, off, rfl, by omega, fun j u hu => ?_, fun j hj => ?_⟩⟩
  · have hjl : j < (n - 1) * size := by
      have := (List.getElem?_eq_some_iff.1 hu).1
      rw [List.length_append, List.length_take, hd, h0] at this
      omega
    rw [World.cell?_setCells_out b _ _ _ _ (fun _ _ => Or.inl (by show off + j < off + (n - 1) * size; omega))]
    have ht : (xs.take (k * size)).length = k * size := by rw [List.length_take, h0]; omega
    by_cases hj : j < k * size
    · rw [List.getElem?_append_left (by omega), List.getElem?_take, if_pos hj] at hu
      rw [World.cell?_setCells_out b _ _ _ _ (fun _ _ => Or.inl (by show off + j < off + k * size; omega))]
      exact hc j u hu
    · rw [List.getElem?_append_right (by omega), ht] at hu
      have hlt := (List.getElem?_eq_some_iff.1 hu).1
      have := World.cell?_setCells_in b (xs.drop ((k + 1) * size)) (off + k * size) w hs1 (j - k * size) hlt
      rw [show off + k * size + (j - k * size) = off + j by omega] at this
      rw [this, ← hu, List.getElem?_eq_getElem hlt]
  · rw [World.frozen?_setCells, World.frozen?_setCells]
    refine ⟨?_, (hf j hj).2⟩
    by_cases hj2 : (n - 1) * size ≤ j ∧ j < (n - 1) * size + zs.length
    · have := World.cell?_setCells_in b zs (off + (n - 1) * size) _ hs2 (j - (n - 1) * size) (by omega)
      rw [show off + (n - 1) * size + (j - (n - 1) * size) = off + j by omega] at this
      rw [this]; rfl
    · rw [World.cell?_setCells_out b _ _ _ _ (fun _ _ => by show off + j < off + (n - 1) * size ∨ off + (n - 1) * size + zs.length ≤ off + j; omega)]
      exact g1 j hj
/-- The first element left behind. -/
theorem RowV.tail {w : World} {size n : Nat} {v : Value} {xs : List Value} (h : RowV w size v n xs) (hn : 0 < n) : ∃ b off cap, v = .slice (some ⟨b, off, none⟩) n cap ∧ n ≤ cap ∧ cap ≤ maxLen ∧
    RowV w size (.slice (if cap = 1 then some ⟨b, off, none⟩ else some ⟨b, off + size, none⟩) (n - 1) (cap - 1)) (n - 1) (xs.drop size) := by
  obtain ⟨h0, ao, cap, rfl, h1, h2, ⟨rfl, h3⟩ | ⟨b, off, rfl, hl, hc, hf⟩⟩ := h
  · omega
  · refine ⟨b, off, cap, rfl, h1, h2, by rw [List.length_drop, h0, Nat.sub_mul, Nat.one_mul], _, cap - 1, rfl, by omega, by omega, .inr ?_⟩
    by_cases h : cap = 1
    · subst h
      obtain rfl : n = 1 := by omega
      refine ⟨b, off, by simp, hl, fun j u hu => ?_, fun j hj => by simp at hj⟩
      rw [List.drop_eq_nil_of_le (by omega)] at hu
      cases hu
    · have e2 : (cap - 1) * size = cap * size - size := by rw [Nat.sub_mul, Nat.one_mul]
      refine ⟨b, off + size, by simp [h], hl, fun j u hu => ?_, fun j hj => ?_⟩
      · rw [List.getElem?_drop] at hu
        rw [Nat.add_assoc]
        exact hc _ u hu
      · rw [Nat.add_assoc]
        exact hf _ (by omega)
/-- A list's elements as cells. -/
theorem flat_len {α : Type} (f : α → List Value) (size : Nat) (hf : ∀ x, (f x).length = size) : ∀ L : List α, (L.flatMap f).length = L.length * size
  | [] => by simp
  | x :: L => by rw [List.flatMap_cons, List.length_append, flat_len f size hf L, hf, List.length_cons, Nat.add_mul, Nat.one_mul, Nat.add_comm]
theorem flat_take {α : Type} (f : α → List Value) (size : Nat) (hf : ∀ x, (f x).length = size) : ∀ (L : List α) (k : Nat), (L.flatMap f).take (k * size) = (L.take k).flatMap f
  | [], k => by simp
  | x :: L, 0 => by simp
  | x :: L, k + 1 => by
    rw [List.take_succ_cons, List.flatMap_cons, List.flatMap_cons, List.take_append, List.take_of_length_le (by rw [hf, Nat.add_mul]; omega), hf, show (k + 1) * size - size = k * size by rw [Nat.add_mul]; omega, flat_take f size hf L k]
theorem flat_drop {α : Type} (f : α → List Value) (size : Nat) (hf : ∀ x, (f x).length = size) : ∀ (L : List α) (k : Nat), (L.flatMap f).drop (k * size) = (L.drop k).flatMap f
  | [], k => by simp
  | x :: L, 0 => by simp
  | x :: L, k + 1 => by
    rw [List.drop_succ_cons, List.flatMap_cons, List.drop_append, List.drop_eq_nil_of_le (by rw [hf, Nat.add_mul]; omega), hf, show (k + 1) * size - size = k * size by rw [Nat.add_mul]; omega, flat_drop f size hf L k, List.nil_append]
theorem flat_erase {α : Type} (f : α → List Value) (size : Nat) (hf : ∀ x, (f x).length = size) (L : List α) (k : Nat) : (L.eraseIdx k).flatMap f = (L.flatMap f).take (k * size) ++ (L.flatMap f).drop ((k + 1) * size) := by
  rw [flat_take f size hf, flat_drop f size hf, List.eraseIdx_eq_take_drop_succ, List.flatMap_append]
theorem flat_get {α : Type} (f : α → List Value) (size : Nat) (hf : ∀ x, (f x).length = size) {L : List α} {k : Nat} {x : α} (hk : L[k]? = some x) {j : Nat} (hj : j < size) : (L.flatMap f)[k * size + j]? = (f x)[j]? := by
  have h1 := flat_drop f size hf L k
  have hlt := (List.getElem?_eq_some_iff.1 hk).1
  have h2 : L.drop k = x :: L.drop (k + 1) := by
    rw [List.drop_eq_getElem_cons hlt]
    congr 1
    exact (List.getElem?_eq_some_iff.1 hk).2
  rw [← List.getElem?_drop, h1, h2, List.flatMap_cons, List.getElem?_append_left (by rw [hf]; exact hj)]
end Go.Proofs.YtjcakbikpficbaaGreatDoor
