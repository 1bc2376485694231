/- A row of bytes that the call made, the mark of a conversion on it or not: '[]byte(s)', append of one byte, string(b). Conditions: what each theorem names. -/
import Derived.Test.YtcdcfkgdgimmcaaDoorDoor
import Derived.Test.YtcdcfkgdgimmcaaDoorPkA
namespace Go.Proofs.YtcdcfkgdgimmcaaDoor
open Go Go.RowKit
/-- The value owns the bytes; whatever mark its block bears lies behind its cells. -/
def ownB (w : World) (base : Nat) (v : Value) (l : List UInt8) : Prop :=
  ∃ g cap cur fz, v = .slice (some ⟨g, 0, none⟩) l.length cap ∧ base ≤ g ∧ w.heap[g]? = some (.cells cur 5 fz) ∧ (fz = (0, 0) ∨ cur.size ≤ fz.1) ∧ l.length ≤ cap ∧ cap ≤ maxLen ∧ cur.size = cap ∧ cur.toList.take l.length = vals8 l
theorem add_at (g o i : Nat) : (⟨g, o, none⟩ : Addr).add i = ⟨g, o + i, none⟩ := by unfold Addr.add; split <;> simp_all
theorem store_oneB (P : Program) (g o : Nat) (t : TypeId) (fz : Nat × Nat) (v : Value) (cur : Array Value) (w : World) (hg : w.heap[g]? = some (.cells cur t fz)) (hfz : fz = (0, 0) ∨ cur.size ≤ fz.1) (ho : o < cur.size) (h1 : v.oneCell' = true) :
    (storeCells ⟨g, o, none⟩ [v] 0).run P w = .ok () (w.setRow g (cur.setIfInBounds o v)) := by
  have hcell : w.cell? ⟨g, o, none⟩ = some cur[o] := by simp [World.cell?, hg, ho]
  have hfro : w.frozen? ⟨g, o, none⟩ = false := by
    obtain ⟨lo, hi⟩ := fz
    simp only [World.frozen?, hg, Bool.and_eq_false_iff, decide_eq_false_iff_not]
    rcases hfz with h | h
    · simp only [Prod.mk.injEq] at h
      obtain ⟨rfl, rfl⟩ := h
      right; omega
    · left
      simp only at h
      omega
  have hst : (store ((⟨g, o, none⟩ : Addr).add 0) v).run P w = .ok () (w.setRow g (cur.setIfInBounds o v)) := by
    rw [add_at, Nat.add_zero, run_store P w _ v _ h1, hcell]
    simp [hfro, setCell_eq_setRow w g o cur t fz v hg]
  simp only [storeCells, Sem.run_bind, hst, Result.andThen_ok, Sem.run_pure]
  try rfl
theorem ownB_cell {w : World} {base g n c : Nat} {l : List UInt8} (h : ownB w base (.slice (some ⟨g, 0, none⟩) n c) l) : ∀ j u, (vals8 l)[j]? = some u → w.cell? ⟨g, j, none⟩ = some u := by
  obtain ⟨g', cap, cur, fz, hv, -, hg, -, -, -, -, ht⟩ := h
  simp only [Value.slice.injEq, Option.some.injEq, Addr.mk.injEq] at hv
  obtain ⟨⟨rfl, -⟩, -, -⟩ := hv
  intro j u hu
  rw [cell_of_row w g j cur 5 fz hg]
  rw [← ht, List.getElem?_take] at hu
  split at hu
  · simpa using hu
  · cases hu
theorem ownB_lt {w : World} {base : Nat} {v : Value} {l : List UInt8} (h : ownB w base v l) : ∃ g cap, v = .slice (some ⟨g, 0, none⟩) l.length cap ∧ base ≤ g ∧ g < w.heap.size ∧ cap ≤ maxLen := by
  obtain ⟨g, cap, cur, fz, hv, hb, hg, -, -, hm, -, -⟩ := h
  exact ⟨g, cap, hv, hb, (Array.getElem?_eq_some_iff.1 hg).1, hm⟩
theorem ownB_past {w w' : World} {base : Nat} {v : Value} {l : List UInt8} (h : ownB w base v l) (hb : Below w.heap.size w w') : ownB w' base v l := by
  obtain ⟨g, cap, cur, fz, hv, h0, hg, r⟩ := h
  exact ⟨g, cap, cur, fz, hv, h0, by rw [hb.block g (Array.getElem?_eq_some_iff.1 hg).1]; exact hg, r⟩
theorem ownB_kept {w w' : World} {base : Nat} {v : Value} {l : List UInt8} {row : Option Nat} (h : ownB w base v l) (hg : w.grownBy w' row) (hne : v.ownBlock ≠ row) : ownB w' base v l := by
  obtain ⟨g, cap, cur, fz, rfl, h0, hgg, r⟩ := h
  exact ⟨g, cap, cur, fz, rfl, h0, by rw [hg.block g (Array.getElem?_eq_some_iff.1 hgg).1 (by simpa [Value.ownBlock] using hne)]; exact hgg, r⟩
/-- What the rest of memory and the row have in common: all blocks but the row's are as they were. -/
theorem run_appB (w : World) (base : Nat) (v : Value) (l : List UInt8) (b : UInt8) (ty : TypeId) (ad : Addr) (c : Nat) (h : ownB w base v l) (hx : w.cell? ad = some (.int .u8 (b.toNat : Int))) (hn : l.length + 1 ≤ 1000000000) (hbase : base ≤ w.heap.size) :
    ∃ v' w', (Builtin.append_ #[81, 81] ty #[v, .slice (some ad) 1 c]).run Tryd.prog w = .ok v' w' ∧ ownB w' base v' (l ++ [b]) ∧ w.grownBy w' v.ownBlock ∧ (v'.ownBlock = v.ownBlock ∨ v'.ownBlock = some w.heap.size) := by
  obtain ⟨i, hi, hz, hs, hby⟩ := info_parts infoU8
  obtain ⟨g, cap, cur, fz, rfl, hb, hg, hfz, hnc, hcm, hcs, ht⟩ := h
  have hxl : (vals8 l).length = l.length := vals8_len l
  have hnews : ∀ j u, [Value.int .u8 (b.toNat : Int)][j]? = some u → w.cell? (ad.add j) = some u := fun j u hu => by
    match j, hu with
    | 0, hu => (simp at hu; subst hu; simpa [Addr.add] using hx)
  by_cases hroom : l.length + 1 ≤ cap
  · have hf := Go.run_firstCells_some (P := Tryd.prog) w i.size 1 ad 1 c [Value.int .u8 (b.toNat : Int)] (by rw [hs]; rfl) hnews
    have hst := store_oneB Tryd.prog g l.length 5 fz (.int .u8 (b.toNat : Int)) cur w hg hfz (by omega) rfl
    refine ⟨.slice (some ⟨g, 0, none⟩) (l.length + 1) cap, w.setRow g (cur.setIfInBounds l.length (.int .u8 (b.toNat : Int))), ?_, ?_, ⟨rfl, rfl, rfl, by simp, fun k _ hk => setRow_other w g k _ (fun e => hk (by simp [Value.ownBlock, e]))⟩, .inl rfl⟩
    · simp [Builtin.append_, run_underlying Tryd.underlying81, sizeOf, typeInfo, hi, hs, Builtin.lenOf, hroom, add_at]
      rw [hs] at hf
      rw [hf]
      simp [hst]
    · refine ⟨g, cap, _, fz, by rw [List.length_append]; rfl, hb, setRow_heap w g cur _ _ _ hg, ?_, by rw [List.length_append]; exact hroom, hcm, by simpa using hcs, ?_⟩
      · simpa using hfz
      · rw [List.length_append, List.length_singleton, Array.toList_setIfInBounds, vals8_app]
        have hlt : l.length < cur.toList.length := by have := Array.length_toList (xs := cur); omega
        rw [List.take_set, ← List.take_append_getElem hlt, ht]
        rw [List.set_append_right _ _ (by rw [hxl]; exact Nat.le_refl _), hxl]
        simp [vals8]
  · have holds : ∀ j u, (vals8 l)[j]? = some u → w.cell? ((⟨g, 0, none⟩ : Addr).add j) = some u := fun j u hu => by
      rw [add_at, Nat.zero_add]
      exact ownB_cell ⟨g, cap, cur, fz, rfl, hb, hg, hfz, hnc, hcm, hcs, ht⟩ j u hu
    have hr := run_append_grow (P := Tryd.prog) w 81 ty 5 i (.int .u8 0) Tryd.underlying81 hi hz ⟨g, 0, none⟩ l.length cap (vals8 l) (by rw [hs, hxl]; omega) holds ad 1 c [Value.int .u8 (b.toNat : Int)] (by rw [hs]; rfl) hnews (by omega) (by omega) (by rw [hby]; exact growslice_fits (by omega) (by omega))
    have hge := grownCap_ge w (l.length + 1) cap 5
    have hcm2 : grownCap w (l.length + 1) cap 5 ≤ maxLen := grownCap_le_maxLen w (l.length + 1) cap 5 (by unfold maxLen; omega)
    refine ⟨_, _, hr, ⟨w.heap.size, _, _, (0, 0), by rw [List.length_append]; rfl, hbase, heap_alloc_new w.drew _, .inl rfl, by rw [List.length_append]; exact hge, hcm2, ?_, ?_⟩, ⟨rfl, rfl, rfl, by simp, fun k hk _ => heap_alloc_old w.drew _ hk⟩, .inr rfl⟩
    · have hz1 : (Value.int IntKind.u8 0).cells.size = 1 := rfl
      simp only [Array.size_append, List.size_toArray, size_zeroCells, hz1, hxl, List.length_singleton]
      omega
    · simp only [Array.toList_append]
      rw [vals8_app]
      have e : (l ++ [b]).length = ((vals8 l).toArray.toList ++ [Value.int .u8 (b.toNat : Int)].toArray.toList).length := by simp [hxl]
      rw [e]
      exact List.take_left
/-- AT THE OPERATION. -/
theorem wpList_appB {ops : Array Oper} {rest : List Oper} {o : Oper} {a : Act} {w : World} {Q : Exit → Act → World → Prop} (base : Nat) (v : Value) (l : List UInt8) (b : UInt8) (ad : Addr) (c : Nat) (h : ownB w base v l) (hx : w.cell? ad = some (.int .u8 (b.toNat : Int))) (hn : l.length + 1 ≤ 1000000000) (hbase : base ≤ w.heap.size)
    (hgd : o.guard = none) (s x : Operand) (ho : o.op = .call { callee := .builtin .append, args := #[s, x], argTypes := #[81, 81] }) (es : a.eval s = v) (ex : a.eval x = .slice (some ad) 1 c)
    (K : ∀ v' w', ownB w' base v' (l ++ [b]) → w.grownBy w' v.ownBlock → (v'.ownBlock = v.ownBlock ∨ v'.ownBlock = some w.heap.size) → wpList Tryd.prog ops Q rest (a.put o.dst v') w') : wpList Tryd.prog ops Q (o :: rest) a w := by
  obtain ⟨v', w', hr, h2, h3, h4⟩ := run_appB w base v l b o.type ad c h hx hn hbase
  refine wpList_plain hgd fun _ hK => ?_
  unfold Oper.wp execOp
  simp only [ho, resolve, invoke, builtin, Sem.run_bind, Sem.run_pure, Result.andThen_ok, List.map_toArray, List.map_cons, List.map_nil, es, ex, hr]
  exact hK _ _ (K v' w' h2 h3 h4)
/-- '[]byte(s)'. -/
theorem run_bytesB (w : World) (s : ByteArray) (hs : s.size ≤ 1000000000) : ∃ v w', (convert 9 81 (.string s)).run Tryd.prog w = .ok v w' ∧ ownB w' w.heap.size v s.data.toList ∧ Below w.heap.size w w' := by
  have hr := Lib.run_convert_string_bytes (P := Tryd.prog) w 9 81 5 s Tryd.underlying9 Tryd.underlying81 Tryd.underlying5
  have hge := grownCap_ge w s.size 0 5
  have hcm : grownCap w s.size 0 5 ≤ maxLen := grownCap_le_maxLen w s.size 0 5 (by unfold maxLen; omega)
  have hsz : s.data.size = s.size := rfl
  have hbs : (Lib.bytesCells w 5 s).size = grownCap w s.size 0 5 := by
    unfold Lib.bytesCells
    simp only [Array.size_append, Array.size_map, Array.size_replicate, hsz]
    omega
  have hll : s.data.toList.length = s.size := (Lib.size_eq s).symm
  refine ⟨_, _, hr, ⟨w.heap.size, _, _, _, by rw [hll], Nat.le_refl _, Lib.bytesWorld_at_new w 5 s, .inr (Nat.le_refl _), by rw [hll]; exact hge, hcm, hbs, ?_⟩, Lib.bytesWorld_below w _ s⟩
  unfold Lib.bytesCells vals8
  rw [Array.toList_append, Array.toList_map]
  have e : s.data.toList.length = (List.map (fun b : UInt8 => Value.int .u8 (b.toNat : Int)) s.data.toList).length := by simp
  rw [e]
  exact List.take_left
/-- string(b). -/
theorem run_stringB {w : World} {base : Nat} {v : Value} {l : List UInt8} (h : ownB w base v l) : (convert 81 9 v).run Tryd.prog w = .ok (.string ⟨l.toArray⟩) w := by
  have h' := h
  obtain ⟨g, cap, cur, fz, rfl, hb, hg, hfz, hnc, hcm, hcs, ht⟩ := h
  refine run_convert_bytes_back w 81 9 5 ⟨g, 0, none⟩ cap l Tryd.underlying81 Tryd.underlying5 Tryd.underlying9 (fun j hj => ?_)
  rw [add_at, Nat.zero_add]
  exact ownB_cell h' j _ (by simp [vals8, hj])
end Go.Proofs.YtcdcfkgdgimmcaaDoor
