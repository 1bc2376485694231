/- dyelaw2.forms: the document's operations. Conditions: the library's variables read as listed (LibW). (with: NfE, NfF, LawOp, GhA) -/
import Derived.Test.YthlomgbchmhjiaaGreatDoorQD
import Derived.Test.YthlomgbchmhjiaaGreatDoorQE
import Derived.Test.YthlomgbchmhjiaaGreatDoorBB
import Derived.BigQuiet
namespace Go.Proofs.YthlomgbchmhjiaaGreatDoor
open Go Go.RowKit
theorem infoInt : (Tryz.prog.info? 3).map (fun i => (i.zero, i.size, i.bytes)) = some (some (.int .i64 0), 1, 8) := by kernel_rfl
def intsV (l : List Int) : List Value := l.map (Value.int .i64)
theorem intsV_snoc (l : List Int) (z : Int) : intsV (l ++ [z]) = intsV l ++ [.int .i64 z] := by simp [intsV]
/-- A form that is being made: its block xb, what goes in so far (l, on blocks from B on). -/
structure InP (V : World) (B xb : Nat) (nm : List UInt8) (out : Int) (l : List Int) (u : Value) (wr : World) : Prop where
  xb1 : V.heap.size ≤ xb
  xb2 : xb < B
  bel : Below V.heap.size V wr
  sz : B ≤ wr.heap.size
  row : NewRow B wr 1 u l.length (intsV l)
  blk : Blk wr xb [.string (bs nm), u, .int .i64 out, .int .i64 0, .int .i64 0, .bool false]
/-- A slice's integers, not on the block T. -/
def IntsX (B : Nat) (w : World) (a : Option Addr) (l : List Int) (T : Option Nat) : Prop := l = [] ∨ ∃ b off, a = some ⟨b, off, none⟩ ∧ B ≤ b ∧ b < w.heap.size ∧ T ≠ some b ∧ ∀ i v, l[i]? = some v → w.cell? ⟨b, off + i, none⟩ = some (.int .i64 v)
theorem IntsX.ints {B : Nat} {w : World} {a : Option Addr} {l : List Int} {T : Option Nat} (h : IntsX B w a l T) : IntsAt B w a l := by
  rcases h with h | ⟨b, off, h1, h2, h3, -, h4⟩
  · exact .inl h
  · exact .inr ⟨b, off, h1, h2, h3, h4⟩
theorem IntsX.past {B : Nat} {w w' : World} {a : Option Addr} {l : List Int} {T : Option Nat} (h : IntsX B w a l T) (hb : Below w.heap.size w w') : IntsX B w' a l T := by
  rcases h with h | ⟨b, off, h1, h2, h3, h5, h4⟩
  · exact .inl h
  · exact .inr ⟨b, off, h1, h2, Nat.lt_of_lt_of_le h3 hb.size, h5, fun i v hv => by rw [hb.cell (p := ⟨b, off + i, none⟩) h3]; exact h4 i v hv⟩
theorem IntsX.grown {B : Nat} {w w' : World} {a : Option Addr} {l : List Int} {T T' : Option Nat} (h : IntsX B w a l T) (g : w.grownBy w' T) (hT : T' = T ∨ ∀ b, T' = some b → w.heap.size ≤ b) : IntsX B w' a l T' := by
  rcases h with h | ⟨b, off, h1, h2, h3, h5, h4⟩
  · exact .inl h
  · refine .inr ⟨b, off, h1, h2, Nat.lt_of_lt_of_le h3 g.size, fun e => ?_, fun i v hv => ?_⟩
    · rcases hT with hT | hT
      · exact h5 (by rw [← hT]; exact e)
      · have := hT b e; omega
    · rw [World.cell?_of_block (a := ⟨b, off + i, none⟩) (g.block b h3 (fun e => h5 e.symm))]; exact h4 i v hv
theorem IntsAt.off {B B' : Nat} {w : World} {a : Option Addr} {l : List Int} {T : Option Nat} (h : IntsAt B w a l) (hB : B' ≤ B) (hT : ∀ b, T = some b → b < B) : IntsX B' w a l T := by
  rcases h with h | ⟨b, off, h1, h2, h3, h4⟩
  · exact .inl h
  · exact .inr ⟨b, off, h1, Nat.le_trans hB h2, h3, fun e => by have := hT b e; omega, h4⟩
theorem NewRow.ints {B : Nat} {w : World} {a : Option Addr} {n c : Nat} {l : List Int} (h : NewRow B w 1 (.slice a n c) n (intsV l)) : IntsAt B w a l := by
  obtain ⟨⟨h0, ao, cap, e, h1, h2, h3⟩, h4⟩ := h
  injection e with e1 e2 e3
  subst e1 e3
  have hn : l.length = n := by simpa [intsV] using h0
  rcases h3 with ⟨rfl, h3⟩ | ⟨b, off, rfl, h5, h6, h7⟩
  · exact .inl (List.eq_nil_of_length_eq_zero (by omega))
  · exact .inr ⟨b, off, rfl, h4 b rfl, h5, fun i v hv => h6 i _ (by rw [intsV, List.getElem?_map, hv]; rfl)⟩
/-- A form that is being made: its block xb holds cs. -/
structure MkP (V : World) (B xb : Nat) (a : Option Addr) (ins : List Int) (cs : List Value) (wr : World) : Prop where
  xb1 : V.heap.size ≤ xb
  xb2 : xb < B
  bel : Below V.heap.size V wr
  ints : IntsAt B wr a ins
  blk : Blk wr xb cs
theorem MkP.past {V wr w' : World} {B xb : Nat} {a : Option Addr} {ins : List Int} {cs : List Value} (h : MkP V B xb a ins cs wr) (hb : Below wr.heap.size wr w') : MkP V B xb a ins cs w' := ⟨h.xb1, h.xb2, h.bel.trans (hb.mono h.bel.size), h.ints.past hb, h.blk.past hb⟩
theorem MkP.set {V wr : World} {B xb : Nat} {a : Option Addr} {ins : List Int} {cs : List Value} (h : MkP V B xb a ins cs wr) (i : Nat) (v : Value) : MkP V B xb a ins (cs.set i v) (wr.setCell ⟨xb, i, none⟩ v) :=
  ⟨h.xb1, h.xb2, h.bel.setCell h.xb1 _, h.ints.tch ((Tch.refl (fun b => b = xb) wr).set ⟨xb, i, none⟩ v rfl) (fun b hb => by subst hb; exact h.xb2), h.blk.set i v⟩
theorem InP.made {V wr : World} {B xb : Nat} {nm : List UInt8} {out : Int} {l : List Int} {a : Option Addr} {c : Nat} (h : InP V B xb nm out l (.slice a l.length c) wr) : MkP V B xb a l [.string (bs nm), .slice a l.length c, .int .i64 out, .int .i64 0, .int .i64 0, .bool false] wr :=
  ⟨h.xb1, h.xb2, h.bel, h.row.ints, h.blk⟩
/-- The forms so far. -/
structure FsK (B : Nat) (w : World) (u : Value) (k : Nat) : Prop where
  r : ∃ vs, NewRow B w 6 u k vs ∧ ∀ q, q < k → ∃ a c, IntsX B w a (F q).ins u.ownBlock ∧ ∀ j x, (fCells (F q) a c)[j]? = some x → vs[q * 6 + j]? = some x
theorem FsK.nil (B : Nat) (w : World) : FsK B w (.slice none 0 0) 0 := ⟨[], NewRow.nil _ _ _, fun q hq => by omega⟩
theorem FsK.past {B : Nat} {w w' : World} {u : Value} {k : Nat} (h : FsK B w u k) (hb : Below w.heap.size w w') : FsK B w' u k := by
  obtain ⟨vs, h1, h2⟩ := h.r
  exact ⟨vs, h1.past hb, fun q hq => by obtain ⟨a, c, h3, h5⟩ := h2 q hq; exact ⟨a, c, h3.past hb, h5⟩⟩
theorem FsK.row {B : Nat} {w : World} {u : Value} (h : FsK B w u 27) : FormRow B w u := by
  obtain ⟨vs, ⟨⟨h0, ao, cap, rfl, h1, h2, h3⟩, h4⟩, h5⟩ := h.r
  rcases h3 with ⟨rfl, h3⟩ | ⟨b, off, rfl, h6, h7, h8⟩
  · omega
  · refine ⟨b, off, cap, rfl, h4 b rfl, fun q hq => ?_⟩
    obtain ⟨a, c, g1, g2⟩ := h5 q hq
    have g : ∀ j x, (fCells (F q) a c)[j]? = some x → w.cell? ⟨b, off + q * 6 + j, none⟩ = some x := fun j x hx => by rw [Nat.add_assoc]; exact h7 _ _ (g2 j x hx)
    exact ⟨g 0 _ rfl, ⟨a, c, g 1 _ rfl, g1.ints⟩, g 2 _ rfl, g 3 _ rfl, g 4 _ rfl, g 5 _ rfl⟩
theorem ix_str (s : ByteArray) (i : Nat) (b : UInt8) (h : s.data.toList[i]? = some b) (w : World) : (Instr.index 9 (.string s) (.int .i64 i)).run Tryz.prog w = .ok (.int .u8 (b.toNat : Int)) w := by
  have hl : i < s.data.toList.length := (List.getElem?_eq_some_iff.1 h).1
  have hl' : i < s.size := by rw [Lib.size_eq]; exact hl
  have h' : s[i]? = some b := by
    rw [getElem?_pos s i hl']
    have e : s[i] = s.data.toList[i] := rfl
    rw [e]
    rw [List.getElem?_eq_getElem hl] at h
    exact h
  simp [Instr.index, asIntOf, run_underlying Tryz.underlying9, h', go_sem]
theorem InP.bel2 {V wr w' : World} {B xb : Nat} {nm : List UInt8} {out : Int} {l : List Int} {u : Value} (h : InP V B xb nm out l u wr) (hb : Below wr.heap.size wr w') : InP V B xb nm out l u w' :=
  ⟨h.xb1, h.xb2, h.bel.trans (hb.mono h.bel.size), Nat.le_trans h.sz hb.size, h.row.past hb, h.blk.past hb⟩
/-- One more goes in: behind the append and the store. -/
theorem InP.app {V wa w' : World} {B xb : Nat} {nm : List UInt8} {out : Int} {l : List Int} {u u' : Value} {z : Int} (h : InP V B xb nm out l u wa) (r1 : RowV w' 1 u' (l.length + 1) (intsV l ++ [.int .i64 z])) (r2 : wa.grownBy w' u.ownBlock) (r3 : u'.ownBlock = u.ownBlock ∨ ∀ b, u'.ownBlock = some b → wa.heap.size ≤ b) :
    InP V B xb nm out (l ++ [z]) u' (w'.setCell ⟨xb, 1, none⟩ u') := by
  have hub : ∀ b, u'.ownBlock = some b → B ≤ b := fun b e => by
    rcases r3 with r3 | r3
    · exact h.row.2 b (by rw [← r3]; exact e)
    · exact Nat.le_trans h.sz (r3 b e)
  have hT : Tch (fun b => B ≤ b) wa w' := Tch.of_grown r2 (fun b e => h.row.2 b e)
  have hT2 : Tch (fun b => b = xb) w' (w'.setCell ⟨xb, 1, none⟩ u') := (Tch.refl (fun b => b = xb) w').set ⟨xb, 1, none⟩ u' rfl
  have hT3 : Tch (fun b => V.heap.size ≤ b) wa (w'.setCell ⟨xb, 1, none⟩ u') := (hT.mono (fun k _ hk => Nat.le_trans h.xb1 (Nat.le_trans (Nat.le_of_lt h.xb2) hk))).trans (hT2.mono (fun k _ hk => by subst hk; exact h.xb1))
  refine ⟨h.xb1, h.xb2, h.bel.trans (hT3.to_below h.bel.size (fun _ hk => hk)), Nat.le_trans h.sz (Nat.le_trans hT.size hT2.size), ?_, ?_⟩
  · rw [List.length_append, intsV_snoc]
    exact ⟨r1.tch hT2 (fun b e hb => by have := hub b e; have := h.xb2; omega), hub⟩
  · have hb := h.blk.tch hT (fun hx => by have := h.xb2; omega)
    simpa using hb.set 1 u'
theorem FsK.app {w0 wa w' : World} {u u' : Value} {k : Nat} {vs : List Value} {a : Option Addr} {c : Nat} (h : NewRow w0.heap.size wa 6 u k vs ∧ ∀ q, q < k → ∃ a c, IntsX w0.heap.size wa a (F q).ins u.ownBlock ∧ ∀ j x, (fCells (F q) a c)[j]? = some x → vs[q * 6 + j]? = some x)
    (hb : Below w0.heap.size w0 wa) (hi : IntsX w0.heap.size wa a (F k).ins u.ownBlock) (r1 : RowV w' 6 u' (k + 1) (vs ++ fCells (F k) a c)) (r2 : wa.grownBy w' u.ownBlock) (r3 : u'.ownBlock = u.ownBlock ∨ ∀ b, u'.ownBlock = some b → wa.heap.size ≤ b) :
    FsK w0.heap.size w' u' (k + 1) ∧ Below w0.heap.size w0 w' := by
  have hl : vs.length = k * 6 := h.1.1.1
  have hn := h.1.app hb r1 r2 r3
  refine ⟨⟨_, hn.1, fun q hq => ?_⟩, hn.2⟩
  by_cases e : q = k
  · subst e
    exact ⟨a, c, hi.grown r2 r3, fun j x hx => by rw [List.getElem?_append_right (by omega), hl, Nat.add_sub_cancel_left]; exact hx⟩
  · obtain ⟨a', c', h1, h2⟩ := h.2 q (by omega)
    refine ⟨a', c', h1.grown r2 r3, fun j x hx => ?_⟩
    have h3 := h2 j x hx
    rw [List.getElem?_append_left (List.getElem?_eq_some_iff.1 h3).1]
    exact h3
theorem six_newF (w : World) (ty : TypeId) (v0 v1 v2 v3 v4 v5 : Value) : ∀ j u, [v0, v1, v2, v3, v4, v5][j]? = some u → (w.alloc (.cells #[v0, v1, v2, v3, v4, v5] ty)).cell? ((⟨w.heap.size, 0, none⟩ : Addr).add j) = some u := fun j u hj => by
  rw [Addr.add_lit, Nat.zero_add, World.cell?_alloc_new]
  simpa using hj
theorem fCells_one (f : FormD) (a : Option Addr) (c : Nat) : ∀ u ∈ fCells f a c, u.oneCell' = true := fun u hu => by
  simp only [fCells, List.mem_cons, List.not_mem_nil, or_false] at hu
  rcases hu with rfl | rfl | rfl | rfl | rfl | rfl <;> rfl
theorem infoForm2 : (Tryz.prog.info? 100).map (fun i => (i.zero, i.size, i.bytes)) = some (some (.agg #[.string ⟨#[]⟩, .slice none 0 0, .int .i64 0, .int .i64 0, .int .i64 0, .bool false]), 6, 72) := by kernel_rfl
theorem atoi_at {l : List UInt8} {v : Int} (h : intB l 10 = true ∧ intV l = v) (hl : l.length ≤ 10) (w : World) (hL : LibW w) : Calls Tryz.prog 56 #[.string (bs l)] w fun e w' => e = .returned (.tuple #[.int .i64 v, .nilIface]) ∧ Below w.heap.size w w' := by
  refine (Atoi_any (bs l) w hL (by rw [Lib.size_eq, bs_data]; omega)).mono ?_
  rintro e w' ⟨⟨N, rfl⟩, hb⟩
  have e1 := int_at (most := 10) (by omega) h.1
  rw [bs_data]
  refine ⟨?_, hb⟩
  unfold atV
  rw [e1, ← h.2]; rfl
def areaZ : List ByteArray := [⟨#[115, 104, 97, 114, 112, 101, 110]⟩, ⟨#[98, 108, 117, 114]⟩, ⟨#[115, 112, 114, 101, 97, 100]⟩, ⟨#[115, 104, 114, 105, 110, 107]⟩, ⟨#[102, 101, 97, 116, 104, 101, 114]⟩]
theorem area_has {k : Nat} (hk : k < 27) : Lib.containsS (areaZ.take 5) (bs (F k).nm) = (F k).area := by
  have : ∀ k, k < 27 → Lib.containsS (areaZ.take 5) (bs (F k).nm) = (F k).area := by decide +kernel
  exact this k hk
theorem blk_heap {w : World} {n : Nat} {vs : List Value} {t : TypeId} (h : w.heap[n]? = some (.cells vs.toArray t)) : Blk w n vs := by
  refine ⟨?_, fun i v hv => ?_, fun o => ?_⟩
  · rcases Nat.lt_or_ge n w.heap.size with h' | h'
    · exact h'
    · rw [Array.getElem?_eq_none h'] at h; cases h
  · simp [World.cell?, h, hv]
  · simp [World.frozen?, h]
theorem FormC.mono {B B' : Nat} {w : World} {b o : Nat} {f : FormD} (h : FormC B w b o f) (hb : B' ≤ B) : FormC B' w b o f := by
  obtain ⟨h0, ⟨a, c, h1, h1'⟩, h2, h3, h4, h5⟩ := h
  exact ⟨h0, ⟨a, c, h1, h1'.mono hb⟩, h2, h3, h4, h5⟩
theorem FormRow.mono {B B' : Nat} {w : World} {v : Value} (h : FormRow B w v) (hb : B' ≤ B) : FormRow B' w v := by
  obtain ⟨b, off, c, h1, h0, h2⟩ := h; exact ⟨b, off, c, h1, Nat.le_trans hb h0, fun q hq => (h2 q hq).mono hb⟩
end Go.Proofs.YthlomgbchmhjiaaGreatDoor

namespace Go.Proofs.YthlomgbchmhjiaaGreatDoor
open Go Go.RowKit
/-- The place of a name. -/
def plF (nm : List UInt8) (z : Int) : Prop := (∃ k : Nat, k < 27 ∧ (F k).nm = nm ∧ z = k) ∨ ((∀ j, j < 27 → (F j).nm ≠ nm) ∧ z = -1)
theorem plF_some (nm : List UInt8) : ∃ z, plF nm z := by
  by_cases h : ∃ k, k < 27 ∧ (F k).nm = nm
  · obtain ⟨k, h1, h2⟩ := h
    exact ⟨k, .inl ⟨k, h1, h2, rfl⟩⟩
  · exact ⟨-1, .inr ⟨fun j hj e => h ⟨j, hj, e⟩, rfl⟩⟩
end Go.Proofs.YthlomgbchmhjiaaGreatDoor

namespace Go.Proofs.YthlomgbchmhjiaaGreatDoor
open Go Go.RowKit
theorem IntsAt.get {B : Nat} {w : World} {a : Option Addr} {l : List Int} (h : IntsAt B w a l) : ∃ b off, (0 < l.length → a = some ⟨b, off, none⟩) ∧ ∀ i, i < l.length → w.cell? ⟨b, off + i, none⟩ = some (.int .i64 (l.getD i 0)) := by
  rcases h with rfl | ⟨b, off, h1, -, -, h2⟩
  · exact ⟨0, 0, fun h => by simp at h, fun i h => by simp at h⟩
  · exact ⟨b, off, fun _ => h1, fun i hi => h2 i _ (by rw [List.getD_eq_getElem?_getD, List.getElem?_eq_getElem hi]; rfl)⟩
end Go.Proofs.YthlomgbchmhjiaaGreatDoor

namespace Go.Proofs.YthlomgbchmhjiaaGreatDoor
open Go Go.RowKit
theorem row_str {w : World} {a : Option Addr} {n c : Nat} {xs : List ByteArray} (h : RowV w 1 (.slice a n c) n (xs.map Value.string)) (hn : 0 < n) : ∃ b off, a = some ⟨b, off, none⟩ ∧ xs.length = n ∧ ∀ j, j < xs.length → w.cell? ⟨b, off + j, none⟩ = some (.string (xs.getD j ByteArray.empty)) := by
  obtain ⟨h0, ao, cap, e, h1, h2, h3⟩ := h
  injection e with e1 e2 e3
  subst e1 e3
  have hl : xs.length = n := by simpa using h0
  rcases h3 with ⟨-, h3⟩ | ⟨b, off, h4, h5, h6, h7⟩
  · omega
  · exact ⟨b, off, h4, hl, fun j hj => h6 j _ (by rw [List.getElem?_map, List.getD_eq_getElem?_getD, List.getElem?_eq_getElem hj]; rfl)⟩
def nmsB : List ByteArray := (List.range 27).map fun q => bs (F q).nm
theorem nmsV_B : nmsV 27 = nmsB.map Value.string := by simp [nmsV, nmsB]
theorem op_at {k : Nat} (hk : k < 27) (w : World) : Calls Tryz.prog 35 #[.string (bs (F k).nm)] w fun e w' => ∃ a c, e = .returned (.tuple #[.agg #[.string (bs (F k).nm), .slice a (F k).ins.length c, .int .i64 (F k).out, .int .i64 (F k).ints, .int .i64 (F k).reals, .bool (F k).area], .int .i64 0]) ∧ IntsAt 0 w' a (F k).ins ∧ Below w.heap.size w w' := by
  refine (Op_any (bs (F k).nm) w (fun w' _ => forms_any w')).mono ?_
  have e1 : opF (bs (F k).nm).data.toList = some (F k) := by rw [bs_data]; exact opF_F hk
  rintro e w' ⟨⟨f, v, hf, rfl, a, c, rfl, hI⟩ | ⟨hf, -⟩, hb⟩
  · rw [e1] at hf
    cases hf
    exact ⟨a, c, rfl, hI, hb⟩
  · rw [e1] at hf
    cases hf
/-- What stands before the last line. -/
structure OpEnd (w1 : World) (f : FormD) (a1 a2 ao : Option Addr) (c1 c2 cp o1 o2 : Nat) (X : World) : Prop where
  b1 : Blk X o1 (fCells f a1 c1)
  b2 : Blk X o2 (fCells f a2 c2)
  i1 : IntsAt 0 X a1 f.ins
  i2 : IntsAt 0 X a2 f.ins
  row : RowV X 1 (.slice ao 27 cp) 27 (nmsB.map Value.string)
  bel : Below w1.heap.size w1 X
theorem OpEnd.past {w1 X X' : World} {f : FormD} {a1 a2 ao : Option Addr} {c1 c2 cp o1 o2 : Nat} (h : OpEnd w1 f a1 a2 ao c1 c2 cp o1 o2 X) (hb : Below X.heap.size X X') : OpEnd w1 f a1 a2 ao c1 c2 cp o1 o2 X' :=
  ⟨h.b1.past hb, h.b2.past hb, h.i1.past hb, h.i2.past hb, h.row.past hb, h.bel.trans (hb.mono h.bel.size)⟩
end Go.Proofs.YthlomgbchmhjiaaGreatDoor

namespace Go.Proofs.YthlomgbchmhjiaaGreatDoor
open Go Go.RowKit
/-- A node of a graph: its operation, the nodes that go in, its numbers; where these lie. -/
structure NodeD where
  op : ByteArray
  ins : List Int
  ints : List Int
  reals : List Nat
  ia : Option Addr
  ic : Nat
  na : Option Addr
  nc : Nat
  ra : Option Addr
  rc : Nat
def ndCells (n : NodeD) : List Value := [.string n.op, .slice n.ia n.ins.length n.ic, .slice n.na n.ints.length n.nc, .slice n.ra n.reals.length n.rc]
structure NodeAt (w : World) (b o : Nat) (n : NodeD) : Prop where
  c0 : w.cell? ⟨b, o, none⟩ = some (.string n.op)
  c1 : w.cell? ⟨b, o + 1, none⟩ = some (.slice n.ia n.ins.length n.ic)
  c2 : w.cell? ⟨b, o + 2, none⟩ = some (.slice n.na n.ints.length n.nc)
  c3 : w.cell? ⟨b, o + 3, none⟩ = some (.slice n.ra n.reals.length n.rc)
  i : IntsAt 0 w n.ia n.ins
  k : IntsAt 0 w n.na n.ints
  r : RealsAt 0 w n.ra n.reals
theorem NodeAt.past {w w' : World} {b o : Nat} {n : NodeD} (h : NodeAt w b o n) (hb : Below w.heap.size w w') : NodeAt w' b o n := by
  have hl := cell_lt h.c0
  simp only at hl
  have g : ∀ j, w'.cell? ⟨b, j, none⟩ = w.cell? ⟨b, j, none⟩ := fun j => hb.cell (p := ⟨b, j, none⟩) hl
  exact ⟨by rw [g]; exact h.c0, by rw [g]; exact h.c1, by rw [g]; exact h.c2, by rw [g]; exact h.c3, h.i.past hb, h.k.past hb, h.r.past hb⟩
/-- What holds of a node's lengths. -/
def NodeB (n : NodeD) : Prop := n.ins.length ≤ n.ic ∧ n.ic ≤ maxLen ∧ n.ints.length ≤ n.nc ∧ n.nc ≤ maxLen ∧ n.reals.length ≤ n.rc ∧ n.rc ≤ maxLen
structure IsNodes (w : World) (a : Option Addr) (c : Nat) (ns : List NodeD) : Prop where
  lc : ns.length ≤ c
  lm : c ≤ maxLen
  at_ : ns = [] ∨ ∃ b off, a = some ⟨b, off, none⟩ ∧ ∀ k n, ns[k]? = some n → NodeAt w b (off + k * 4) n ∧ NodeB n
theorem IsNodes.past {w w' : World} {a : Option Addr} {c : Nat} {ns : List NodeD} (h : IsNodes w a c ns) (hb : Below w.heap.size w w') : IsNodes w' a c ns := by
  refine ⟨h.lc, h.lm, ?_⟩
  rcases h.at_ with h1 | ⟨b, off, h1, h2⟩
  · exact .inl h1
  · exact .inr ⟨b, off, h1, fun k n hk => ⟨(h2 k n hk).1.past hb, (h2 k n hk).2⟩⟩
theorem IsNodes.get {w : World} {a : Option Addr} {c : Nat} {ns : List NodeD} (h : IsNodes w a c ns) {k : Nat} {n : NodeD} (hk : ns[k]? = some n) : ∃ b off, a = some ⟨b, off, none⟩ ∧ NodeAt w b (off + k * 4) n ∧ NodeB n := by
  rcases h.at_ with h1 | ⟨b, off, h1, h2⟩
  · subst h1; simp at hk
  · exact ⟨b, off, h1, h2 k n hk⟩
/-- The first that is not 0, below n. -/
def fstN (f : Nat → Int) : Nat → Int
  | 0 => 0
  | n + 1 => if fstN f n = 0 then f n else fstN f n
theorem fstN_of {f : Nat → Int} {k n : Nat} (h0 : fstN f k = 0) (hk : f k ≠ 0) (hkn : k < n) : fstN f n = f k := by
  induction n with
  | zero => omega
  | succ n ih =>
    unfold fstN
    by_cases e : k = n
    · subst e; rw [if_pos h0]
    · rw [ih (by omega), if_neg hk]
theorem fstN_succ {f : Nat → Int} {k : Nat} (h0 : fstN f k = 0) (hk : f k = 0) : fstN f (k + 1) = 0 := by
  unfold fstN; rw [if_pos h0]; exact hk
theorem fstN_zero {f : Nat → Int} {n : Nat} (h : fstN f n = 0) : ∀ k, k < n → f k = 0 := by
  induction n with
  | zero => intro k hk; omega
  | succ n ih =>
    unfold fstN at h
    by_cases e : fstN f n = 0
    · rw [if_pos e] at h
      intro k hk
      by_cases e2 : k = n
      · subst e2; exact h
      · exact ih e k (by omega)
    · rw [if_neg e] at h; exact absurd h e
def fst2 (a b : Int) : Int := if a = 0 then b else a
theorem fst2_0 (b : Int) : fst2 0 b = b := rfl
theorem fst2_n {a : Int} (h : a ≠ 0) (b : Int) : fst2 a b = a := if_neg h
/-- The number of an operation, by its name. -/
def opK (l : List UInt8) : Option Nat := (List.range 27).find? (fun k => (F k).nm == l)
theorem opK_some {l : List UInt8} {k : Nat} (h : opK l = some k) : k < 27 ∧ l = (F k).nm := by
  unfold opK at h
  have h1 := List.find?_some h
  have h2 := List.mem_of_find?_eq_some h
  exact ⟨List.mem_range.1 h2, by simpa using (beq_iff_eq.1 h1).symm⟩
theorem opK_none {l : List UInt8} (h : opK l = none) : opF l = none := by
  unfold opK at h
  rw [List.find?_eq_none] at h
  unfold opF
  rw [List.find?_eq_none]
  intro f hf
  obtain ⟨k, hk, rfl⟩ := List.getElem_of_mem hf
  have hk27 : k < 27 := hk
  have := h k (List.mem_range.2 hk27)
  unfold F at this
  rw [List.getD_eq_getElem?_getD, List.getElem?_eq_getElem hk] at this
  exact this
theorem opK_name {s : ByteArray} {k : Nat} (h : opK s.data.toList = some k) : k < 27 ∧ s = bs (F k).nm := by
  obtain ⟨h1, h2⟩ := opK_some h
  exact ⟨h1, by rw [← bs_of s, h2]⟩
/-- What comes out of node j. -/
def kdO (ns : List NodeD) (j : Nat) : Int := match ns[j]? with
  | none => 0
  | some n => match opK n.op.data.toList with
    | none => 0
    | some k => (F k).out
/-- What is wrong with one that goes into node i. -/
def in1 (ns : List NodeD) (i : Nat) (x f : Int) : Int := if 0 ≤ x ∧ x < (i : Int) then (if kdO ns x.toNat = f then 0 else 12) else 11
/-- What is wrong with node i. -/
def nd1 (ns : List NodeD) (i : Nat) (n : NodeD) : Int := match opK n.op.data.toList with
  | none => 1
  | some k => if n.ins.length = (F k).ins.length ∧ (n.ints.length : Int) = (F k).ints ∧ (n.reals.length : Int) = (F k).reals
      then fst2 (fstN (fun j => in1 ns i (n.ins.getD j 0) ((F k).ins.getD j 0)) n.ins.length) (paE k n.ints n.reals) else 2
def ndE (ns : List NodeD) (i : Nat) : Int := match ns[i]? with
  | none => 0
  | some n => nd1 ns i n
/-- What is wrong with a graph. -/
def gE (ns : List NodeD) (out : Int) : Int := if ns.length = 0 then 10 else if 100 < ns.length then 4 else
  fst2 (fstN (ndE ns) ns.length) (if 0 ≤ out ∧ out < (ns.length : Int) then (if kdO ns out.toNat = 2 then 12 else 0) else 11)
theorem gE_ok {ns : List NodeD} {out : Int} (h : gE ns out = 0) : 0 < ns.length ∧ ns.length ≤ 100 ∧ fstN (ndE ns) ns.length = 0 ∧ 0 ≤ out ∧ out < (ns.length : Int) ∧ kdO ns out.toNat ≠ 2 := by
  unfold gE at h
  split at h
  · exact absurd h (by decide)
  split at h
  · exact absurd h (by decide)
  by_cases e : fstN (ndE ns) ns.length = 0
  · rw [e, fst2_0] at h
    split at h
    · rename_i h3
      split at h
      · exact absurd h (by decide)
      · rename_i h4
        exact ⟨by omega, by omega, e, h3.1, h3.2, h4⟩
    · exact absurd h (by decide)
  · rw [fst2_n e] at h; exact absurd h e
theorem kdO_at {ns : List NodeD} {j k : Nat} {n : NodeD} (hj : ns[j]? = some n) (hk : opK n.op.data.toList = some k) : kdO ns j = (F k).out := by
  unfold kdO; rw [hj]; simp only; rw [hk]
theorem nd_op {ns : List NodeD} {j : Nat} (hj : j < ns.length) (h : ndE ns j = 0) : ∃ n k, ns[j]? = some n ∧ opK n.op.data.toList = some k ∧ kdO ns j = (F k).out := by
  obtain ⟨n, hn⟩ : ∃ n, ns[j]? = some n := ⟨_, List.getElem?_eq_getElem hj⟩
  unfold ndE at h
  rw [hn] at h
  simp only at h
  unfold nd1 at h
  cases hk : opK n.op.data.toList with
  | none => rw [hk] at h; simp at h
  | some k => exact ⟨n, k, hn, hk, kdO_at hn hk⟩
theorem F_out {k : Nat} (hk : k < 27) : (F k).out = 1 ∨ (F k).out = 2 := by
  have : ∀ k, k < 27 → (F k).out = 1 ∨ (F k).out = 2 := by decide +kernel
  exact this k hk
/-- What a right node is. -/
theorem nd_ok {ns : List NodeD} {i : Nat} {n : NodeD} (hn : ns[i]? = some n) (h : ndE ns i = 0) : ∃ k, k < 27 ∧ n.op = bs (F k).nm ∧ opK n.op.data.toList = some k ∧ n.ins.length = (F k).ins.length ∧ (n.ints.length : Int) = (F k).ints ∧ (n.reals.length : Int) = (F k).reals ∧
    (∀ j, j < n.ins.length → 0 ≤ n.ins.getD j 0 ∧ n.ins.getD j 0 < (i : Int)) ∧ paE k n.ints n.reals = 0 := by
  unfold ndE at h
  rw [hn] at h
  simp only at h
  unfold nd1 at h
  cases hk : opK n.op.data.toList with
  | none => rw [hk] at h; simp at h
  | some k =>
    rw [hk] at h
    simp only at h
    obtain ⟨h1, h2⟩ := opK_name hk
    split at h
    · rename_i h3
      by_cases e : fstN (fun j => in1 ns i (n.ins.getD j 0) ((F k).ins.getD j 0)) n.ins.length = 0
      · rw [e, fst2_0] at h
        refine ⟨k, h1, h2, rfl, h3.1, h3.2.1, h3.2.2, fun j hj => ?_, h⟩
        have h4 := fstN_zero e j hj
        simp only [in1] at h4
        by_cases h5 : 0 ≤ n.ins.getD j 0 ∧ n.ins.getD j 0 < (i : Int)
        · exact h5
        · rw [if_neg h5] at h4; exact absurd h4 (by decide)
      · rw [fst2_n e] at h; exact absurd h e
    · exact absurd h (by decide)
end Go.Proofs.YthlomgbchmhjiaaGreatDoor
