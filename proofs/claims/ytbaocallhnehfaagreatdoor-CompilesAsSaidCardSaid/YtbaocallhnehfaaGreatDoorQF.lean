/- dyelaw2.forms: the document's operations. Conditions: the library's variables read as listed (LibW). (with: NfE, NfF, LawOp, GhA) -/
import Derived.Test.YtbaocallhnehfaaGreatDoorQD
import Derived.Test.YtbaocallhnehfaaGreatDoorQE
import Derived.Test.YtbaocallhnehfaaGreatDoorBB
import Derived.BigQuiet
namespace Go.Proofs.YtbaocallhnehfaaGreatDoor
open Go Go.RowKit
theorem infoInt : (Tryz.prog.info? 3).map (fun i => (i.zero, i.size, i.bytes)) = some (some (.int .i64 0), 1, 8) := by kernel_rfl
theorem kind_any (b : UInt8) (w : World) : Calls Tryz.prog 69 #[.int .u8 (b.toNat : Int)] w fun e w' => e = .returned (.int .i64 (kindB b)) ∧ w = w' := by
  by_cases h : b = 109
  · have e : kindB b = 2 := by unfold kindB; rw [if_pos h]
    rw [e]
    subst h
    go_enter Tryz.func69, Tryz.ntmps69
    go_wp2_with fail
    go_ret
    exact ⟨rfl, rfl⟩
  · have e : kindB b = 1 := by unfold kindB; rw [if_neg h]
    have h' : ((b.toNat : Int) == 109) = false := by
      have : b.toNat ≠ 109 := fun e => h (UInt8.toNat_inj.1 (by rw [e]; rfl))
      simpa using (show ¬ (b.toNat : Int) = 109 by omega)
    rw [e]
    clear e h
    go_enter Tryz.func69, Tryz.ntmps69
    go_wp2_with fail
    go_ret
    exact ⟨rfl, rfl⟩
def intsV (l : List Int) : List Value := l.map (Value.int .i64)
theorem intsV_snoc (l : List Int) (z : Int) : intsV (l ++ [z]) = intsV l ++ [.int .i64 z] := by simp [intsV]
/-- A form that is being made: its block xb, what goes in so far (l, on blocks from B on). -/
structure InP (V : World) (B xb : Nat) (nm : List UInt8) (out : Int) (l : List Int) (u : Value) (wr : World) : Prop where
  xb1 : V.heap.size ≤ xb
  xb2 : xb < B
  bel : Below V.heap.size V wr
  sz : B ≤ wr.heap.size
  row : NewRow B wr 1 u l.length (intsV l)
  blk : Blk wr xb [.string (bs nm), u, .int .i64 out, .int .i64 0, .int .i64 0, .bool false]
/-- A slice's integers, not on the block T. -/
def IntsX (B : Nat) (w : World) (a : Option Addr) (l : List Int) (T : Option Nat) : Prop := l = [] ∨ ∃ b off, a = some ⟨b, off, none⟩ ∧ B ≤ b ∧ b < w.heap.size ∧ T ≠ some b ∧ ∀ i v, l[i]? = some v → w.cell? ⟨b, off + i, none⟩ = some (.int .i64 v)
theorem IntsX.ints {B : Nat} {w : World} {a : Option Addr} {l : List Int} {T : Option Nat} (h : IntsX B w a l T) : IntsAt B w a l := by
  rcases h with h | ⟨b, off, h1, h2, h3, -, h4⟩
  · exact .inl h
  · exact .inr ⟨b, off, h1, h2, h3, h4⟩
theorem IntsX.past {B : Nat} {w w' : World} {a : Option Addr} {l : List Int} {T : Option Nat} (h : IntsX B w a l T) (hb : Below w.heap.size w w') : IntsX B w' a l T := by
  rcases h with h | ⟨b, off, h1, h2, h3, h5, h4⟩
  · exact .inl h
  · exact .inr ⟨b, off, h1, h2, Nat.lt_of_lt_of_le h3 hb.size, h5, fun i v hv => by rw [hb.cell (p := ⟨b, off + i, none⟩) h3]; exact h4 i v hv⟩
theorem IntsX.grown {B : Nat} {w w' : World} {a : Option Addr} {l : List Int} {T T' : Option Nat} (h : IntsX B w a l T) (g : w.grownBy w' T) (hT : T' = T ∨ ∀ b, T' = some b → w.heap.size ≤ b) : IntsX B w' a l T' := by
  rcases h with h | ⟨b, off, h1, h2, h3, h5, h4⟩
  · exact .inl h
  · refine .inr ⟨b, off, h1, h2, Nat.lt_of_lt_of_le h3 g.size, fun e => ?_, fun i v hv => ?_⟩
    · rcases hT with hT | hT
      · exact h5 (by rw [← hT]; exact e)
      · have := hT b e; omega
    · rw [World.cell?_of_block (a := ⟨b, off + i, none⟩) (g.block b h3 (fun e => h5 e.symm))]; exact h4 i v hv
theorem IntsAt.off {B B' : Nat} {w : World} {a : Option Addr} {l : List Int} {T : Option Nat} (h : IntsAt B w a l) (hB : B' ≤ B) (hT : ∀ b, T = some b → b < B) : IntsX B' w a l T := by
  rcases h with h | ⟨b, off, h1, h2, h3, h4⟩
  · exact .inl h
  · exact .inr ⟨b, off, h1, Nat.le_trans hB h2, h3, fun e => by have := hT b e; omega, h4⟩
theorem NewRow.ints {B : Nat} {w : World} {a : Option Addr} {n c : Nat} {l : List Int} (h : NewRow B w 1 (.slice a n c) n (intsV l)) : IntsAt B w a l := by
  obtain ⟨⟨h0, ao, cap, e, h1, h2, h3⟩, h4⟩ := h
  injection e with e1 e2 e3
  subst e1 e3
  have hn : l.length = n := by simpa [intsV] using h0
  rcases h3 with ⟨rfl, h3⟩ | ⟨b, off, rfl, h5, h6, h7⟩
  · exact .inl (List.eq_nil_of_length_eq_zero (by omega))
  · exact .inr ⟨b, off, rfl, h4 b rfl, h5, fun i v hv => h6 i _ (by rw [intsV, List.getElem?_map, hv]; rfl)⟩
/-- A form that is being made: its block xb holds cs. -/
structure MkP (V : World) (B xb : Nat) (a : Option Addr) (ins : List Int) (cs : List Value) (wr : World) : Prop where
  xb1 : V.heap.size ≤ xb
  xb2 : xb < B
  bel : Below V.heap.size V wr
  ints : IntsAt B wr a ins
  blk : Blk wr xb cs
theorem MkP.past {V wr w' : World} {B xb : Nat} {a : Option Addr} {ins : List Int} {cs : List Value} (h : MkP V B xb a ins cs wr) (hb : Below wr.heap.size wr w') : MkP V B xb a ins cs w' := ⟨h.xb1, h.xb2, h.bel.trans (hb.mono h.bel.size), h.ints.past hb, h.blk.past hb⟩
theorem MkP.set {V wr : World} {B xb : Nat} {a : Option Addr} {ins : List Int} {cs : List Value} (h : MkP V B xb a ins cs wr) (i : Nat) (v : Value) : MkP V B xb a ins (cs.set i v) (wr.setCell ⟨xb, i, none⟩ v) :=
  ⟨h.xb1, h.xb2, h.bel.setCell h.xb1 _, h.ints.tch ((Tch.refl (fun b => b = xb) wr).set ⟨xb, i, none⟩ v rfl) (fun b hb => by subst hb; exact h.xb2), h.blk.set i v⟩
theorem InP.made {V wr : World} {B xb : Nat} {nm : List UInt8} {out : Int} {l : List Int} {a : Option Addr} {c : Nat} (h : InP V B xb nm out l (.slice a l.length c) wr) : MkP V B xb a l [.string (bs nm), .slice a l.length c, .int .i64 out, .int .i64 0, .int .i64 0, .bool false] wr :=
  ⟨h.xb1, h.xb2, h.bel, h.row.ints, h.blk⟩
/-- The forms so far. -/
structure FsK (B : Nat) (w : World) (u : Value) (k : Nat) : Prop where
  r : ∃ vs, NewRow B w 6 u k vs ∧ ∀ q, q < k → ∃ a c, IntsX B w a (F q).ins u.ownBlock ∧ ∀ j x, (fCells (F q) a c)[j]? = some x → vs[q * 6 + j]? = some x
theorem FsK.nil (B : Nat) (w : World) : FsK B w (.slice none 0 0) 0 := ⟨[], NewRow.nil _ _ _, fun q hq => by omega⟩
theorem FsK.past {B : Nat} {w w' : World} {u : Value} {k : Nat} (h : FsK B w u k) (hb : Below w.heap.size w w') : FsK B w' u k := by
  obtain ⟨vs, h1, h2⟩ := h.r
  exact ⟨vs, h1.past hb, fun q hq => by obtain ⟨a, c, h3, h5⟩ := h2 q hq; exact ⟨a, c, h3.past hb, h5⟩⟩
theorem FsK.row {B : Nat} {w : World} {u : Value} (h : FsK B w u 27) : FormRow B w u := by
  obtain ⟨vs, ⟨⟨h0, ao, cap, rfl, h1, h2, h3⟩, h4⟩, h5⟩ := h.r
  rcases h3 with ⟨rfl, h3⟩ | ⟨b, off, rfl, h6, h7, h8⟩
  · omega
  · refine ⟨b, off, cap, rfl, h4 b rfl, fun q hq => ?_⟩
    obtain ⟨a, c, g1, g2⟩ := h5 q hq
    have g : ∀ j x, (fCells (F q) a c)[j]? = some x → w.cell? ⟨b, off + q * 6 + j, none⟩ = some x := fun j x hx => by rw [Nat.add_assoc]; exact h7 _ _ (g2 j x hx)
    exact ⟨g 0 _ rfl, ⟨a, c, g 1 _ rfl, g1.ints⟩, g 2 _ rfl, g 3 _ rfl, g 4 _ rfl, g 5 _ rfl⟩
theorem ix_str (s : ByteArray) (i : Nat) (b : UInt8) (h : s.data.toList[i]? = some b) (w : World) : (Instr.index 9 (.string s) (.int .i64 i)).run Tryz.prog w = .ok (.int .u8 (b.toNat : Int)) w := by
  have hl : i < s.data.toList.length := (List.getElem?_eq_some_iff.1 h).1
  have hl' : i < s.size := by rw [Lib.size_eq]; exact hl
  have h' : s[i]? = some b := by
    rw [getElem?_pos s i hl']
    have e : s[i] = s.data.toList[i] := rfl
    rw [e]
    rw [List.getElem?_eq_getElem hl] at h
    exact h
  simp [Instr.index, asIntOf, run_underlying Tryz.underlying9, h', go_sem]
theorem InP.bel2 {V wr w' : World} {B xb : Nat} {nm : List UInt8} {out : Int} {l : List Int} {u : Value} (h : InP V B xb nm out l u wr) (hb : Below wr.heap.size wr w') : InP V B xb nm out l u w' :=
  ⟨h.xb1, h.xb2, h.bel.trans (hb.mono h.bel.size), Nat.le_trans h.sz hb.size, h.row.past hb, h.blk.past hb⟩
/-- One more goes in: behind the append and the store. -/
theorem InP.app {V wa w' : World} {B xb : Nat} {nm : List UInt8} {out : Int} {l : List Int} {u u' : Value} {z : Int} (h : InP V B xb nm out l u wa) (r1 : RowV w' 1 u' (l.length + 1) (intsV l ++ [.int .i64 z])) (r2 : wa.grownBy w' u.ownBlock) (r3 : u'.ownBlock = u.ownBlock ∨ ∀ b, u'.ownBlock = some b → wa.heap.size ≤ b) :
    InP V B xb nm out (l ++ [z]) u' (w'.setCell ⟨xb, 1, none⟩ u') := by
  have hub : ∀ b, u'.ownBlock = some b → B ≤ b := fun b e => by
    rcases r3 with r3 | r3
    · exact h.row.2 b (by rw [← r3]; exact e)
    · exact Nat.le_trans h.sz (r3 b e)
  have hT : Tch (fun b => B ≤ b) wa w' := Tch.of_grown r2 (fun b e => h.row.2 b e)
  have hT2 : Tch (fun b => b = xb) w' (w'.setCell ⟨xb, 1, none⟩ u') := (Tch.refl (fun b => b = xb) w').set ⟨xb, 1, none⟩ u' rfl
  have hT3 : Tch (fun b => V.heap.size ≤ b) wa (w'.setCell ⟨xb, 1, none⟩ u') := (hT.mono (fun k _ hk => Nat.le_trans h.xb1 (Nat.le_trans (Nat.le_of_lt h.xb2) hk))).trans (hT2.mono (fun k _ hk => by subst hk; exact h.xb1))
  refine ⟨h.xb1, h.xb2, h.bel.trans (hT3.to_below h.bel.size (fun _ hk => hk)), Nat.le_trans h.sz (Nat.le_trans hT.size hT2.size), ?_, ?_⟩
  · rw [List.length_append, intsV_snoc]
    exact ⟨r1.tch hT2 (fun b e hb => by have := hub b e; have := h.xb2; omega), hub⟩
  · have hb := h.blk.tch hT (fun hx => by have := h.xb2; omega)
    simpa using hb.set 1 u'
theorem FsK.app {w0 wa w' : World} {u u' : Value} {k : Nat} {vs : List Value} {a : Option Addr} {c : Nat} (h : NewRow w0.heap.size wa 6 u k vs ∧ ∀ q, q < k → ∃ a c, IntsX w0.heap.size wa a (F q).ins u.ownBlock ∧ ∀ j x, (fCells (F q) a c)[j]? = some x → vs[q * 6 + j]? = some x)
    (hb : Below w0.heap.size w0 wa) (hi : IntsX w0.heap.size wa a (F k).ins u.ownBlock) (r1 : RowV w' 6 u' (k + 1) (vs ++ fCells (F k) a c)) (r2 : wa.grownBy w' u.ownBlock) (r3 : u'.ownBlock = u.ownBlock ∨ ∀ b, u'.ownBlock = some b → wa.heap.size ≤ b) :
    FsK w0.heap.size w' u' (k + 1) ∧ Below w0.heap.size w0 w' := by
  have hl : vs.length = k * 6 := h.1.1.1
  have hn := h.1.app hb r1 r2 r3
  refine ⟨⟨_, hn.1, fun q hq => ?_⟩, hn.2⟩
  by_cases e : q = k
  · subst e
    exact ⟨a, c, hi.grown r2 r3, fun j x hx => by rw [List.getElem?_append_right (by omega), hl, Nat.add_sub_cancel_left]; exact hx⟩
  · obtain ⟨a', c', h1, h2⟩ := h.2 q (by omega)
    refine ⟨a', c', h1.grown r2 r3, fun j x hx => ?_⟩
    have h3 := h2 j x hx
    rw [List.getElem?_append_left (List.getElem?_eq_some_iff.1 h3).1]
    exact h3
theorem six_newF (w : World) (ty : TypeId) (v0 v1 v2 v3 v4 v5 : Value) : ∀ j u, [v0, v1, v2, v3, v4, v5][j]? = some u → (w.alloc (.cells #[v0, v1, v2, v3, v4, v5] ty)).cell? ((⟨w.heap.size, 0, none⟩ : Addr).add j) = some u := fun j u hj => by
  rw [Addr.add_lit, Nat.zero_add, World.cell?_alloc_new]
  simpa using hj
theorem fCells_one (f : FormD) (a : Option Addr) (c : Nat) : ∀ u ∈ fCells f a c, u.oneCell' = true := fun u hu => by
  simp only [fCells, List.mem_cons, List.not_mem_nil, or_false] at hu
  rcases hu with rfl | rfl | rfl | rfl | rfl | rfl <;> rfl
theorem infoForm2 : (Tryz.prog.info? 58).map (fun i => (i.zero, i.size, i.bytes)) = some (some (.agg #[.string ⟨#[]⟩, .slice none 0 0, .int .i64 0, .int .i64 0, .int .i64 0, .bool false]), 6, 72) := by kernel_rfl
theorem atoi_at {l : List UInt8} {v : Int} (h : intB l 10 = true ∧ intV l = v) (hl : l.length ≤ 10) (w : World) (hL : LibW w) : Calls Tryz.prog 70 #[.string (bs l)] w fun e w' => e = .returned (.tuple #[.int .i64 v, .nilIface]) ∧ Below w.heap.size w w' := by
  refine (Atoi_any (bs l) w hL (by rw [Lib.size_eq, bs_data]; omega)).mono ?_
  rintro e w' ⟨⟨N, rfl⟩, hb⟩
  have e1 := int_at (most := 10) (by omega) h.1
  rw [bs_data]
  refine ⟨?_, hb⟩
  unfold atV
  rw [e1, ← h.2]; rfl
def areaZ : List ByteArray := [⟨#[115, 104, 97, 114, 112, 101, 110]⟩, ⟨#[98, 108, 117, 114]⟩, ⟨#[115, 112, 114, 101, 97, 100]⟩, ⟨#[115, 104, 114, 105, 110, 107]⟩, ⟨#[102, 101, 97, 116, 104, 101, 114]⟩]
theorem area_has {k : Nat} (hk : k < 27) : Lib.containsS (areaZ.take 5) (bs (F k).nm) = (F k).area := by
  have : ∀ k, k < 27 → Lib.containsS (areaZ.take 5) (bs (F k).nm) = (F k).area := by decide +kernel
  exact this k hk
theorem contains_at {k : Nat} (hk : k < 27) (b : Nat) (w : World) (hc : ∀ j, j < 5 → w.cell? ⟨b, j, none⟩ = some (.string (areaZ.getD j ByteArray.empty))) : Calls Tryz.prog 71 #[.slice (some ⟨b, 0, none⟩) 5 5, .string (bs (F k).nm)] w fun e w' => e = .returned (.bool (F k).area) ∧ Below w.heap.size w w' := by
  refine (Tryz.slices_Contains_string b 0 5 5 areaZ (bs (F k).nm) w (by decide) (by decide) (fun j hj => by rw [Nat.zero_add]; exact hc j hj)).mono ?_
  rintro e w' ⟨rfl, rfl⟩
  exact ⟨by rw [area_has hk], Below.refl _ _⟩
theorem blk_heap {w : World} {n : Nat} {vs : List Value} {t : TypeId} (h : w.heap[n]? = some (.cells vs.toArray t)) : Blk w n vs := by
  refine ⟨?_, fun i v hv => ?_, fun o => ?_⟩
  · rcases Nat.lt_or_ge n w.heap.size with h' | h'
    · exact h'
    · rw [Array.getElem?_eq_none h'] at h; cases h
  · simp [World.cell?, h, hv]
  · simp [World.frozen?, h]
theorem FormC.mono {B B' : Nat} {w : World} {b o : Nat} {f : FormD} (h : FormC B w b o f) (hb : B' ≤ B) : FormC B' w b o f := by
  obtain ⟨h0, ⟨a, c, h1, h1'⟩, h2, h3, h4, h5⟩ := h
  exact ⟨h0, ⟨a, c, h1, h1'.mono hb⟩, h2, h3, h4, h5⟩
theorem FormRow.mono {B B' : Nat} {w : World} {v : Value} (h : FormRow B w v) (hb : B' ≤ B) : FormRow B' w v := by
  obtain ⟨b, off, c, h1, h0, h2⟩ := h; exact ⟨b, off, c, h1, Nat.le_trans hb h0, fun q hq => (h2 q hq).mono hb⟩
set_option maxRecDepth 100000 in
set_option maxHeartbeats 6400000 in
theorem forms2_any (w : World) (hL : LibW w) : Calls Tryz.prog 34 #[] w (FormsP w) := by
  have HL := Lib.hid hL
  clear hL
  go_enter Tryz.func34, Tryz.ntmps34
  go_wp2_with (go_at_call 48; refine (SplitX _ (HL.out.past (by (repeat (first | exact Below.refl _ _ | assumption | (refine Below.setCell ?_ (by first | (simp; done) | (simp; omega) | omega) _) | (refine Below.drew ?_) | (refine below_drewN ?_ _) | (refine Below.alloc ?_ (by first | (simp; done) | (simp; omega) | omega) _) | (refine Below.trans ?_ (Below.mono (by assumption) (by first | (simp; done) | (simp; omega) | omega)))))))).mono ?_; rintro e w1 ⟨g0, rfl, hg0, hc0, hb0⟩)
  have HC0 := Lib.hid (And.intro hg0 hc0)
  have HB0 := Lib.hid hb0
  have HL1 := Lib.hid (HL.out.past hb0)
  clear hg0 hc0 hb0 HL
  go_loopw [12, 3] (fun s12 s3 wr => ∃ (k : Nat) (u : Value), k ≤ 27 ∧ s12 = .int .i64 k ∧ u = s3 ∧ FsK w1.heap.size wr u k ∧ Below w1.heap.size w1 wr) (fun s12 _ _ => 27 - (intOf s12).toNat)
  case atStart => exact ⟨0, _, by omega, rfl, rfl, FsK.nil _ _, Below.refl _ _⟩
  case round =>
    obtain ⟨k, u, hk, rfl, rfl, hR, hB⟩ := hrel
    obtain ⟨ao, cp, rfl⟩ : ∃ ao cp, u = .slice ao k cp := by obtain ⟨_, h, -⟩ := hR.r; exact h.form
    have HR := Lib.hid (And.intro hR hB)
    clear hR hB
    by_cases hkn : k < 27
    · have hkm : (k : Int) < 27 := by omega
      have c0 := (HR.out.2.cell (p := ⟨g0, k, none⟩) HC0.out.1).trans (HC0.out.2 k _ (fS_get hkn))
      have l0 := cell_lt c0; simp only at l0
      have HLR := Lib.hid (HL1.out.past HR.out.2)
      have HS : Hid (∀ w', LibW w' → Calls Tryz.prog 48 #[.string (bs (fS k)), .string ⟨#[32]⟩] w' fun e w'' => ∃ g, e = .returned (.slice (some ⟨g, 0, none⟩) 5 5) ∧ g < w''.heap.size ∧ (∀ i p, [(F k).nm, fN k 1, fN k 2, fN k 3, fN k 4][i]? = some p → w''.cell? ⟨g, i, none⟩ = some (.string (bs p))) ∧ Below w'.heap.size w' w'') := Lib.hid (fun w' h' => by
        have := SplitW (bs (fS k)) w' h' (by have := (fN_len hkn).1; rw [Lib.size_eq, bs_data]; omega)
        rw [bs_data, fS_sp hkn] at this
        exact this)
      have HK := Lib.hid hkn
      obtain ⟨s, hs⟩ : ∃ s, s = fS k := ⟨_, rfl⟩
      rw [← hs] at c0 HS
      clear hs hkn
      go_upto_region 8 with (go_at_call 48; refine (HS.out _ HLR.out).mono ?_; rintro e V ⟨g, rfl, hg, hc, hb⟩)
      obtain ⟨b2, e2, hb2⟩ : ∃ b2, fN k 2 = [b2] ∧ kindB b2 = (F k).out := by
        have h := fN_out HK.out
        match hl : fN k 2, h with
        | [b2], h => exact ⟨b2, rfl, by simpa using h⟩
        | [], h => simp at h
        | _ :: _ :: _, h => simp at h
      rw [e2] at hc
      have HV : Hid (LibW V ∧ FsK w1.heap.size V (.slice ao k cp) k ∧ Below w1.heap.size w1 V ∧ g < V.heap.size ∧ ∀ i p, [(F k).nm, fN k 1, [b2], fN k 3, fN k 4][i]? = some p → V.cell? ⟨g, i, none⟩ = some (.string (bs p))) := Lib.hid ⟨HLR.out.past hb, HR.out.1.past hb, HR.out.2.trans (hb.mono HR.out.2.size), hg, hc⟩
      have HOUT := Lib.hid hb2
      clear hc hb HS HLR HR hb2 e2
      obtain ⟨nm, hnm⟩ : ∃ nm, nm = (F k).nm := ⟨_, rfl⟩
      obtain ⟨out, hout⟩ : ∃ out, out = (F k).out := ⟨_, rfl⟩
      have HNO := Lib.hid (And.intro hnm hout)
      have c0 : V.cell? ⟨g, 0, none⟩ = some (.string (bs nm)) := by rw [hnm]; exact HV.out.2.2.2.2 0 _ rfl
      have c2 : V.cell? ⟨g, 2, none⟩ = some (.string ⟨#[b2]⟩) := HV.out.2.2.2.2 2 _ rfl
      have hix : ∀ w, (Instr.index 9 (.string ⟨#[b2]⟩) (.int .i64 0)).run Tryz.prog w = .ok (.int .u8 (b2.toNat : Int)) w := fun _ => by kernel_rfl
      rw [← hout] at HOUT
      clear hnm hout
      refine wp_region_looseM 11 (fun _ _ u => u = .int .i64 out) [(10, 7, .cells #[.string ⟨#[]⟩, .slice none 0 0, .int .i64 0, .int .i64 0, .int .i64 0, .bool false] 58)] (by kernel_rfl) (by kernel_rfl) (by kernel_rfl) (by intro m hm; cases hm with | head => exact ⟨_, rfl, ⟨rfl, rfl, fun ev w => by kernel_rfl⟩⟩ | tail _ h => cases h) (by intro m hm; cases hm with | head => exact of_decide_eq_true (by kernel_rfl) | tail _ h => cases h) ?_
      simp only [List.take_succ_cons, List.take_zero, List.drop_succ_cons, List.drop_zero]
      iterate 8 (refine looseM_wanted rfl (fun K hK => ?_); go_simp; refine hK _ ?_; clear hK K)
      refine looseM_wanted rfl (fun K1 hK => ?_)
      go_simp
      refine ⟨fun p => (kind_any b2 p.w).mono ?_, ?_⟩
      · rintro e w' ⟨rfl, rfl⟩
        exact ⟨_, rfl, by rw [HOUT.out], Below.refl _ _⟩
      refine hK _ ?_
      clear hK K1
      (refine looseM_wanted rfl (fun K hK => ?_); go_simp; refine hK _ ?_; clear hK K)
      refine looseM_lays (d := 7) (blk := .cells #[.string ⟨#[]⟩, .slice none 0 0, .int .i64 0, .int .i64 0, .int .i64 0, .bool false] 58) ⟨rfl, rfl, fun ev w => by kernel_rfl⟩ (fun xb hxb => ?_)
      refine looseM_nil (fun w2 hb2 hg2 _ => ?_)
      obtain ⟨xb', hx1, hx2⟩ := hg2 _ (List.Mem.head _)
      obtain rfl : xb = xb' := by cases hx1; rfl
      clear hx1 hg2
      have hbk : Blk w2 xb zCells := blk_heap hx2
      have HBK := Lib.hid (And.intro hbk (And.intro hb2 hxb))
      obtain ⟨z0, z1, z2, z3, z4, z5⟩ := zCells_at hbk
      have zf := hbk.f
      have zl := hbk.lt
      clear hx2 hbk hb2 hxb c0 c2 hix
      go_upto_region 9 with fail
      refine wp_world (fun W8 hW8 => ?_)
      have hT : Tch (fun b => b = xb) w2 W8 := by rw [hW8]; exact tch6 _ _ _ _ _ _ _ _
      have hB8 : Blk W8 xb [.string (bs nm), .slice none 0 0, .int .i64 out, .int .i64 0, .int .i64 0, .bool false] := by
        rw [hW8]; simpa [zCells] using ((((((HBK.out.1.set 0 (.string (bs nm))).set 1 (.slice none 0 0)).set 2 (.int .i64 out)).set 3 (.int .i64 0)).set 4 (.int .i64 0)).set 5 (.bool false))
      have H8 : Hid (InP V W8.heap.size xb nm out [] (.slice none 0 0) W8) := Lib.hid ⟨HBK.out.2.2, hB8.lt, below_own HBK.out.2.1 hT HBK.out.2.2, Nat.le_refl _, NewRow.nil _ _ _, hB8⟩
      clear hW8 hT hB8 z0 z1 z2 z3 z4 z5 zf zl HBK
      obtain ⟨s1, hs1⟩ : ∃ s1 : ByteArray, s1 = bs (fN k 1) := ⟨_, rfl⟩
      have HS1 : Hid (s1.data.toList.map kindB = (F k).ins ∧ s1.data.toList.length = s1.size ∧ s1.size ≤ 3) := Lib.hid (by rw [hs1]; refine ⟨by rw [bs_data]; exact fN_ins HK.out, by rw [Lib.size_eq], by rw [Lib.size_eq, bs_data]; exact (fN_len HK.out).2.1⟩)
      have hC1 : V.cell? ⟨g, 1, none⟩ = some (.string s1) := by rw [hs1]; exact HV.out.2.2.2.2 1 _ rfl
      have HC1 := Lib.hid hC1
      have c1 := (H8.out.bel.cell (p := ⟨g, 1, none⟩) HV.out.2.2.2.1).trans hC1
      clear hs1 hC1
      obtain ⟨B, hB⟩ : ∃ B, B = W8.heap.size := ⟨_, rfl⟩
      rw [← hB] at H8
      clear hB
      have hm3 := HS1.out.2.2
      go_wp2_with fail
      go_loopw [32] (fun s32 wr => ∃ (i : Nat) (u : Value), i ≤ s1.size ∧ s32 = .int .i64 i ∧ InP V B xb nm out ((F k).ins.take i) u wr) (fun s32 _ => s1.size - (intOf s32).toNat)
      case atStart => exact ⟨0, _, by omega, rfl, H8.out⟩
      case round =>
        obtain ⟨i, u, hi, rfl, hP⟩ := hrel
        clear H8
        have HP := Lib.hid hP
        obtain ⟨au, cu, rfl⟩ := hP.row.form
        by_cases hin : i < s1.size
        · have hil : i < s1.data.toList.length := by rw [HS1.out.2.1]; exact hin
          have c1 := (hP.bel.cell (p := ⟨g, 1, none⟩) HV.out.2.2.2.1).trans HC1.out
          have hlen : ((F k).ins.take i).length = i := by
            rw [List.length_take, ← HS1.out.1, List.length_map, HS1.out.2.1]; omega
          have m1 := hP.blk.c 1 _ rfl
          have ml := hP.blk.lt
          have mf := hP.blk.f
          obtain ⟨bz, hbz⟩ : ∃ bz, s1.data.toList[i]? = some bz := ⟨_, List.getElem?_eq_getElem hil⟩
          have hix := ix_str s1 i bz hbz
          have HNX : Hid ((F k).ins.take (i + 1) = (F k).ins.take i ++ [kindB bz]) := Lib.hid (by
            have h2 : (F k).ins[i]? = some (kindB bz) := by rw [← HS1.out.1, List.getElem?_map, hbz]; rfl
            rw [List.take_add_one, h2]; rfl)
          have HCP : Hid (∀ w', Below wr.heap.size wr w' → w'.cell? ⟨g, 1, none⟩ = some (.string s1) ∧ w'.cell? ⟨xb, 1, none⟩ = some (.slice au ((F k).ins.take i).length cu)) := Lib.hid (fun w' h' => ⟨(h'.cell (p := ⟨g, 1, none⟩) (cell_lt c1)).trans c1, (h'.cell (p := ⟨xb, 1, none⟩) (cell_lt m1)).trans m1⟩)
          rw [hlen] at HCP m1
          have hi3 : i ≤ 3 := by omega
          have hini : (i : Int) < (s1.size : Int) := by omega
          obtain ⟨i0, hi0, hz0, hz1, hz2⟩ := info_parts infoInt
          clear hP hbz hil c1 m1
          go_upto_region 12 with fail
          refine wp_region_C (fun w' => w'.cell? ⟨g, 1, none⟩ = some (.string s1) ∧ w'.cell? ⟨xb, 1, none⟩ = some (.slice au i cu)) 10 13 (by kernel_rfl) rfl ?_
          have hC := HCP.out wr.drew ((Below.refl _ _).drew)
          refine wpAnyC_take (i := 0) (v := .pointer (some ⟨xb, 1, none⟩)) rfl (by kernel_rfl) (by kernel_rfl) (fun _ _ _ h => h) (.inl ⟨rfl, fun w' hw' => ?_⟩) hC ?_
          · obtain ⟨k0, k1⟩ := hw'
            go_simp
          refine wpAnyC_act (by rfl) ?_
          simp only [Act.put, List.setIfInBounds_toArray, List.set_cons_zero, List.set_cons_succ]
          refine wpAnyC_take (i := 1) (v := .slice au i cu) rfl (by kernel_rfl) (by kernel_rfl) (fun _ _ _ h => h) (.inl ⟨rfl, fun w' hw' => ?_⟩) hC ?_
          · obtain ⟨k0, k1⟩ := hw'
            go_simp
          refine wpAnyC_act (by rfl) ?_
          simp only [Act.put, List.setIfInBounds_toArray, List.set_cons_zero, List.set_cons_succ]
          refine wpAnyC_take (i := 2) (v := .func (.func 69) #[] #[]) rfl (by kernel_rfl) (by kernel_rfl) (fun _ _ _ h => h) (.inl ⟨rfl, fun w' hw' => ?_⟩) hC ?_
          · obtain ⟨k0, k1⟩ := hw'
            go_simp
          refine wpAnyC_act (by rfl) ?_
          simp only [Act.put, List.setIfInBounds_toArray, List.set_cons_zero, List.set_cons_succ]
          refine wpAnyC_take (i := 3) (v := .slice (some ⟨g, 0, none⟩) 5 5) rfl (by kernel_rfl) (by kernel_rfl) (fun _ _ _ h => h) (.inl ⟨rfl, fun w' hw' => ?_⟩) hC ?_
          · obtain ⟨k0, k1⟩ := hw'
            go_simp
          refine wpAnyC_act (by rfl) ?_
          simp only [Act.put, List.setIfInBounds_toArray, List.set_cons_zero, List.set_cons_succ]
          refine wpAnyC_take (i := 4) (v := .pointer (some ⟨g, 1, none⟩)) rfl (by kernel_rfl) (by kernel_rfl) (fun _ _ _ h => h) (.inl ⟨rfl, fun w' hw' => ?_⟩) hC ?_
          · obtain ⟨k0, k1⟩ := hw'
            go_simp
          refine wpAnyC_act (by rfl) ?_
          simp only [Act.put, List.setIfInBounds_toArray, List.set_cons_zero, List.set_cons_succ]
          refine wpAnyC_take (i := 5) (v := .string s1) rfl (by kernel_rfl) (by kernel_rfl) (fun _ _ _ h => h) (.inl ⟨rfl, fun w' hw' => ?_⟩) hC ?_
          · obtain ⟨k0, k1⟩ := hw'
            go_simp
          refine wpAnyC_act (by rfl) ?_
          simp only [Act.put, List.setIfInBounds_toArray, List.set_cons_zero, List.set_cons_succ]
          refine wpAnyC_take (i := 6) (v := .int .i64 i) rfl (by kernel_rfl) (by kernel_rfl) (fun _ _ _ h => h) (.inl ⟨rfl, fun w' hw' => ?_⟩) hC ?_
          · obtain ⟨k0, k1⟩ := hw'
            go_simp
          refine wpAnyC_act (by rfl) ?_
          simp only [Act.put, List.setIfInBounds_toArray, List.set_cons_zero, List.set_cons_succ]
          refine wpAnyC_take (i := 7) (v := .int .u8 (bz.toNat : Int)) rfl (by kernel_rfl) (by kernel_rfl) (fun _ _ _ h => h) (.inl ⟨rfl, fun w' hw' => ?_⟩) hC ?_
          · obtain ⟨k0, k1⟩ := hw'
            go_simp
          refine wpAnyC_act (by rfl) ?_
          simp only [Act.put, List.setIfInBounds_toArray, List.set_cons_zero, List.set_cons_succ]
          refine wpAnyC_one (i := 8) rfl (by kernel_rfl) (fun K hK => ?_)
          go_simp
          refine (kind_any bz _).mono ?_
          rintro e wk ⟨rfl, rfl⟩
          go_simp
          refine hK _ _ (fun _ => hC) ?_
          clear hK K
          refine wpAnyC_one (i := 9) rfl (by kernel_rfl) (fun K hK => ?_)
          go_simp
          refine hK _ _ (fun _ => HCP.out _ (((Below.refl _ _).drew).alloc (by simp) _)) ?_
          clear hK K hC
          refine wpAnyC_one (i := 10) rfl (by kernel_rfl) (fun K hK => ?_)
          have HQ := Lib.hid (HP.out.bel2 (show Below wr.heap.size wr ((wr.alloc (.cells #[.int .i64 (kindB bz)] 3)).drew) from ((Below.refl _ _).alloc (Nat.le_refl _) _).drew))
          have hrow := HQ.out.row.1
          rw [hlen] at hrow
          refine step_append_row (v := .slice au i cu) rfl (.tmp 36) (.tmp 44) 35 rfl Tryz.underlying35 hi0 hz0 hz1 hz2 rfl (by decide) rfl hrow ⟨wr.heap.size, 0, none⟩ 1 [.int .i64 (kindB bz)] rfl rfl (by intro j u hj; match j, hj with | 0, hj => (simp at hj; subst hj; simp [Addr.add])) (by intro u hu; simp at hu; subst hu; rfl) (by unfold maxLen; omega) (by omega) ?_
          intro ao5 cap5 w5 hR5 hG5 ho5
          have hAB : (Value.slice au i cu).ownBlock = some xb → False := fun e => by
            have h1 := HQ.out.row.2 xb (by rw [hlen]; exact e)
            have h2 := HQ.out.xb2
            omega
          have hb5 := HQ.out.blk.tch (Tch.of_grown (S := fun b => Value.ownBlock (.slice au i cu) = some b) hG5 (fun b hb => hb)) hAB
          have mf5 := hb5.f
          have ml5 := hb5.lt
          have m15 := hb5.c 1 _ rfl
          have HP5 : Hid (InP V B xb nm out ((F k).ins.take i ++ [kindB bz]) (.slice ao5 (i + 1) cap5) (w5.setCell ⟨xb, 1, none⟩ (.slice ao5 (i + 1) cap5))) := Lib.hid (InP.app HQ.out (by rw [hlen]; exact hR5) (by rw [hlen]; exact hG5) (by rw [hlen]; exact ho5))
          clear hR5 hG5 ho5 hb5 hAB hrow HQ
          refine hK _ _ (fun h => by rw [getD_setSelf] at h; cases h) ?_
          clear hK K
          refine wpAnyC_act (by rfl) ?_
          simp only [Act.put, List.setIfInBounds_toArray, List.set_cons_zero, List.set_cons_succ]
          refine wpAnyC_one (i := 11) rfl (by kernel_rfl) (fun K hK => ?_)
          go_simp
          refine hK _ _ (fun h => by rw [getD_setC (by decide), getD_setSelf] at h; cases h) ?_
          clear hK K
          refine wpAnyC_one (i := 12) rfl (by kernel_rfl) (fun K hK => ?_)
          go_simp
          refine hK _ _ (fun h => by rw [getD_setC (by decide), getD_setC (by decide), getD_setSelf] at h; cases h) ?_
          clear hK K
          refine wpAnyC_done (by kernel_rfl) ?_
          go_wp2_with fail
          go_roundw
          case rel => exact ⟨i + 1, _, by omega, by go_num, by rw [HNX.out]; exact HP5.out⟩
          case measure => simp [intOf]; omega
        · have hie : i = s1.size := by omega
          have hni : ¬ (i : Int) < (s1.size : Int) := by omega
          have hte : (F k).ins.take i = (F k).ins := List.take_of_length_le (by rw [← HS1.out.1, List.length_map, HS1.out.2.1]; omega)
          rw [hte] at hP HP
          have HM := Lib.hid hP.made
          have hn3 := fN_num HK.out
          have hl3 := fN_len HK.out
          have HA3 := Lib.hid (fun w' (h' : LibW w') => atoi_at hn3.1 hl3.2.2.1 w' h')
          have HA4 := Lib.hid (fun w' (h' : LibW w') => atoi_at hn3.2 hl3.2.2.2 w' h')
          have HCT := Lib.hid (fun b w' hc => contains_at HK.out b w' hc)
          obtain ⟨n, hn⟩ : ∃ n, n = (F k).ins.length := ⟨_, rfl⟩
          have c3 := (HM.out.bel.cell (p := ⟨g, 3, none⟩) HV.out.2.2.2.1).trans (HV.out.2.2.2.2 3 _ rfl)
          have HLW := Lib.hid (HV.out.1.past HM.out.bel)
          obtain ⟨ii, hii⟩ : ∃ ii, ii = (F k).ints := ⟨_, rfl⟩
          obtain ⟨rr, hrr⟩ : ∃ rr, rr = (F k).reals := ⟨_, rfl⟩
          obtain ⟨aa, haa⟩ : ∃ aa, aa = (F k).area := ⟨_, rfl⟩
          rw [← hn] at HM hP
          rw [← HNO.out.1, ← haa] at HCT
          rw [← hii] at HA3
          rw [← hrr] at HA4
          have HEQ := Lib.hid (And.intro hn (And.intro hii (And.intro hrr haa)))
          have mf := HM.out.blk.f
          have ml := HM.out.blk.lt
          have m3 := HM.out.blk.c 3 _ rfl
          clear hn hii hrr haa hP HP hn3 hl3 hte hie
          go_upto_region 15 with (go_at_call 70; refine (HA3.out _ HLW.out).mono ?_; rintro e v1 ⟨rfl, hb1⟩; replace HM := Lib.hid (HM.out.past hb1); clear hb1 mf ml m3; have mf := HM.out.blk.f; have ml := HM.out.blk.lt; have m3 := HM.out.blk.c 3 _ rfl)
          refine wp_world (fun W9 hW9 => ?_)
          have HM9 : Hid (MkP V B xb au (F k).ins [.string (bs nm), .slice au n cu, .int .i64 out, .int .i64 ii, .int .i64 0, .bool false] W9) := Lib.hid (by rw [hW9]; simpa using HM.out.set 3 (.int .i64 ii))
          have HLW9 := Lib.hid (HV.out.1.past HM9.out.bel)
          have c4 := (HM9.out.bel.cell (p := ⟨g, 4, none⟩) HV.out.2.2.2.1).trans (HV.out.2.2.2.2 4 _ rfl)
          clear hW9 mf ml m3 HM HLW c3
          have mf := HM9.out.blk.f
          have ml := HM9.out.blk.lt
          have m4 := HM9.out.blk.c 4 _ rfl
          go_upto_region 16 with (go_at_call 70; refine (HA4.out _ HLW9.out).mono ?_; rintro e v1 ⟨rfl, hb1⟩; replace HM9 := Lib.hid (HM9.out.past hb1); clear hb1 mf ml m4; have mf := HM9.out.blk.f; have ml := HM9.out.blk.lt; have m4 := HM9.out.blk.c 4 _ rfl)
          refine wp_world (fun W10 hW10 => ?_)
          have HM10 : Hid (MkP V B xb au (F k).ins [.string (bs nm), .slice au n cu, .int .i64 out, .int .i64 ii, .int .i64 rr, .bool false] W10) := Lib.hid (by rw [hW10]; simpa using HM9.out.set 4 (.int .i64 rr))
          clear hW10 mf ml m4 HM9 HLW9 c4
          have mf := HM10.out.blk.f
          have ml := HM10.out.blk.lt
          have m0 := HM10.out.blk.c 0 _ rfl
          have m5 := HM10.out.blk.c 5 _ rfl
          go_upto_region 17 with (go_at_call 71; refine (HCT.out _ _ (fun j hj => by rcases (show j = 0 ∨ j = 1 ∨ j = 2 ∨ j = 3 ∨ j = 4 by omega) with rfl | rfl | rfl | rfl | rfl <;> (rw [World.cell?_alloc_new]; rfl))).mono ?_; rintro e v1 ⟨rfl, hb1⟩; have hbA : Below W10.heap.size W10 v1 := Below.trans ((Below.refl _ _).alloc (Nat.le_refl _) _) (hb1.mono (by simp)); replace HM10 := Lib.hid (HM10.out.past hbA); clear hb1 hbA mf ml m0 m5; have mf := HM10.out.blk.f; have ml := HM10.out.blk.lt; have m5 := HM10.out.blk.c 5 _ rfl)
          refine wp_world (fun W11 hW11 => ?_)
          have HM11 : Hid (MkP V B xb au (F k).ins [.string (bs nm), .slice au n cu, .int .i64 out, .int .i64 ii, .int .i64 rr, .bool aa] W11) := Lib.hid (by rw [hW11]; simpa using HM10.out.set 5 (.bool aa))
          clear hW11 mf ml m5 HM10
          obtain ⟨vs, hN1, hN2⟩ := (HV.out.2.1.past HM11.out.bel).r
          have HF1 := Lib.hid (And.intro hN1 hN2)
          have HFB := Lib.hid (HV.out.2.2.1.trans (HM11.out.bel.mono HV.out.2.2.1.size))
          have HIX := Lib.hid (HM11.out.ints.off (B' := w1.heap.size) (T := (Value.slice ao k cp).ownBlock) (Nat.le_trans HV.out.2.2.1.size (Nat.le_trans HM11.out.xb1 (Nat.le_of_lt HM11.out.xb2))) (fun b e => by
            have h1 := HM11.out.xb1
            have h2 := HM11.out.xb2
            have h3 : b < V.heap.size := by obtain ⟨_, hh, -⟩ := HV.out.2.1.r; exact hh.1.lt e
            omega))
          have HFC : Hid ([Value.string (bs nm), .slice au n cu, .int .i64 out, .int .i64 ii, .int .i64 rr, .bool aa] = fCells (F k) au cu) := Lib.hid (by unfold fCells; rw [HNO.out.1, HNO.out.2, HEQ.out.1, HEQ.out.2.1, HEQ.out.2.2.1, HEQ.out.2.2.2])
          have HONE : Hid (∀ u ∈ [Value.string (bs nm), .slice au n cu, .int .i64 out, .int .i64 ii, .int .i64 rr, .bool aa], u.oneCell' = true) := Lib.hid (by rw [HFC.out]; exact fCells_one _ _ _)
          have ml := HM11.out.blk.lt
          have m0 := HM11.out.blk.c 0 _ rfl; have m1 := HM11.out.blk.c 1 _ rfl; have m2 := HM11.out.blk.c 2 _ rfl; have m3 := HM11.out.blk.c 3 _ rfl; have m4 := HM11.out.blk.c 4 _ rfl; have m5 := HM11.out.blk.c 5 _ rfl
          obtain ⟨i0, hi0, hz0, hz1, hz2⟩ := info_parts infoForm2
          clear hN1 hN2
          go_wp2_with (at_builtin; refine wpList_append_row (v := .slice ao k cp) _ rfl _ _ 74 rfl Tryz.underlying74 hi0 hz0 hz1 hz2 rfl (by decide) rfl (HF1.out.1.1.past ((Below.refl _ _).alloc (Nat.le_refl _) _)) ⟨W11.heap.size, 0, none⟩ 1 [.string (bs nm), .slice au n cu, .int .i64 out, .int .i64 ii, .int .i64 rr, .bool aa] rfl rfl (six_newF _ _ _ _ _ _ _ _) HONE.out (by unfold maxLen; omega) (by omega) ?_; intro ao5 cap5 w6 hR6 hG6 ho6; have HE6 := Lib.hid (FsK.app (c := cu) ⟨HF1.out.1.past ((Below.refl _ _).alloc (Nat.le_refl _) _), fun q hq => by (obtain ⟨a, c, h3, h5⟩ := HF1.out.2 q hq; exact ⟨a, c, h3.past ((Below.refl _ _).alloc (Nat.le_refl _) _), h5⟩)⟩ (HFB.out.alloc HFB.out.size _) (HIX.out.past ((Below.refl _ _).alloc (Nat.le_refl _) _)) (by rw [← HFC.out]; exact hR6) hG6 ho6); clear hR6 hG6 ho6)
          go_roundw
          case rel => exact ⟨k + 1, _, by have := HK.out; omega, by go_num, rfl, HE6.out.1, HE6.out.2⟩
          case measure => simp [intOf]; have := HK.out; omega
    · obtain rfl : k = 27 := by omega
      have hkm : ¬ ((27 : Nat) : Int) < 27 := by omega
      go_wp2_with fail
      go_ret
      exact ⟨_, rfl, (HR.out.1.row).mono HB0.out.size, HB0.out.trans (HR.out.2.mono HB0.out.size)⟩
end Go.Proofs.YtbaocallhnehfaaGreatDoor

namespace Go.Proofs.YtbaocallhnehfaaGreatDoor
open Go Go.RowKit
set_option maxRecDepth 100000 in
set_option maxHeartbeats 1600000 in
theorem isF_any (f : FormD) (a : Option Addr) (n c : Nat) (nm : ByteArray) (pn : Nat) (w : World) (h : w.cell? ⟨pn, 0, none⟩ = some (.string nm)) :
    Calls Tryz.prog 36 #[.agg #[.string (bs f.nm), .slice a n c, .int .i64 f.out, .int .i64 f.ints, .int .i64 f.reals, .bool f.area], .pointer (some ⟨pn, 0, none⟩)] w fun e w' => e = .returned (.bool ((bs f.nm).toList == nm.toList)) ∧ Below w.heap.size w w' := by
  have hl := cell_lt h; simp only at hl
  go_enter Tryz.func36, Tryz.ntmps36
  go_wp2_with fail
  go_ret
  exact ⟨rfl, by (repeat (first | exact Below.refl _ _ | assumption | (refine Below.setCell ?_ (by first | (simp; done) | (simp; omega) | omega) _) | (refine Below.drew ?_) | (refine below_drewN ?_ _) | (refine Below.alloc ?_ (by first | (simp; done) | (simp; omega) | omega) _) | (refine Below.trans ?_ (Below.mono (by assumption) (by first | (simp; done) | (simp; omega) | omega)))))⟩
theorem entF : ∀ args w, (callFunc 36 args).run Tryz.prog w = .ok (.enter 36 args) w := body_enters Tryz.func36 (by kernel_rfl) rfl
/-- The place of a name. -/
def plF (nm : List UInt8) (z : Int) : Prop := (∃ k : Nat, k < 27 ∧ (F k).nm = nm ∧ z = k) ∨ ((∀ j, j < 27 → (F j).nm ≠ nm) ∧ z = -1)
theorem plF_some (nm : List UInt8) : ∃ z, plF nm z := by
  by_cases h : ∃ k, k < 27 ∧ (F k).nm = nm
  · obtain ⟨k, h1, h2⟩ := h
    exact ⟨k, .inl ⟨k, h1, h2, rfl⟩⟩
  · exact ⟨-1, .inr ⟨fun j hj e => h ⟨j, hj, e⟩, rfl⟩⟩
set_option maxRecDepth 100000 in
set_option maxHeartbeats 1600000 in
theorem idxF2_any (b off cap B : Nat) (nm : ByteArray) (pn : Nat) (z : Int) (w : World) (hz : plF nm.data.toList z) (hc : ∀ q, q < 27 → FormC B w b (off + q * 6) (F q)) (hp : w.cell? ⟨pn, 0, none⟩ = some (.string nm)) :
    Calls Tryz.prog 35 #[.slice (some ⟨b, off, none⟩) 27 cap, .func (.func 36) #[] #[.pointer (some ⟨pn, 0, none⟩)]] w fun e w' => e = .returned (.int .i64 z) ∧ Below w.heap.size w w' := by
  have HC := Lib.hid (And.intro hc hp)
  have HZ := Lib.hid hz
  have hent := entF
  have hpl := cell_lt hp; simp only at hpl
  clear hc hp hz
  go_enter Tryz.func35, Tryz.ntmps35
  go_wp2_with fail
  go_loopw [8] (fun s8 wr => ∃ k : Nat, k ≤ 27 ∧ s8 = .int .i64 k ∧ Below w.heap.size w wr ∧ ∀ j, j < k → (F j).nm ≠ nm.data.toList) (fun s8 _ => 27 - (intOf s8).toNat)
  case atStart => exact ⟨0, Nat.zero_le _, rfl, Below.refl _ _, fun j hj => absurd hj (Nat.not_lt_zero _)⟩
  case round =>
    obtain ⟨k, hk, rfl, hB, hne⟩ := hrel
    have HNE := Lib.hid (And.intro hne hB)
    clear hne
    by_cases hkn : k < 27
    · have hkm : (k : Int) < 27 := by omega
      obtain ⟨c0, ⟨ia, ic, c1, -⟩, c2, c3, c4, c5⟩ := (HC.out.1 k hkn).past hB
      have HP := Lib.hid ((hB.cell (p := ⟨pn, 0, none⟩) hpl).trans HC.out.2)
      have HK := Lib.hid hkn
      obtain ⟨f, hf⟩ : ∃ f, f = F k := ⟨_, rfl⟩
      rw [← hf] at c0 c1 c2 c3 c4 c5
      have HFK := Lib.hid hf
      have l0 := cell_lt c0; simp only at l0
      obtain ⟨r, hr⟩ : ∃ r, r = ((bs f.nm).toList == nm.toList) := ⟨_, rfl⟩
      have HRR := Lib.hid hr
      clear hf hr hB hkn
      cases r with
      | true =>
        have he := (Lib.bytes_beq_iff _ _).1 HRR.out.symm
        have HE : Hid (z = k) := Lib.hid (by
          have e : (F k).nm = nm.data.toList := by rw [← HFK.out, ← he, bs_data]
          rcases HZ.out with ⟨q, h1, h2, h3⟩ | ⟨h1, -⟩
          · have := F_inj h1 HK.out (h2.trans e.symm); rw [h3, this]
          · exact absurd e (h1 k HK.out))
        clear he
        go_wp2_with (go_at_call 36; refine (isF_any f _ _ _ nm pn _ HP.out).mono ?_; rintro e w1 ⟨rfl, hb1⟩; rw [← HRR.out])
        go_ret
        exact ⟨by rw [HE.out]; rfl, HNE.out.2.trans (hb1.mono HNE.out.2.size)⟩
      | false =>
        have he := (Lib.bytes_beq_false_iff _ _).1 HRR.out.symm
        have HE := Lib.hid he
        clear he
        go_wp2_with (go_at_call 36; refine (isF_any f _ _ _ nm pn _ HP.out).mono ?_; rintro e w1 ⟨rfl, hb1⟩; have HB1 := Lib.hid (HNE.out.2.trans (hb1.mono HNE.out.2.size)); clear hb1; rw [← HRR.out])
        go_roundw
        case rel =>
          refine ⟨k + 1, by have := HK.out; omega, by go_num, HB1.out, fun j hj => ?_⟩
          by_cases ej : j = k
          · subst ej
            intro e
            exact HE.out (by rw [HFK.out, e, bs_of])
          · exact HNE.out.1 j (by omega)
        case measure => simp [intOf]; have := HK.out; omega
    · obtain rfl : k = 27 := by omega
      have hkm : ¬ ((27 : Nat) : Int) < 27 := by omega
      have HE : Hid (z = -1) := Lib.hid (by
        rcases HZ.out with ⟨q, h1, h2, -⟩ | ⟨-, h1⟩
        · exact absurd h2 (HNE.out.1 q h1)
        · exact h1)
      clear hB
      go_wp2_with fail
      go_ret
      exact ⟨by rw [HE.out]; rfl, HNE.out.2⟩
set_option maxRecDepth 100000 in
set_option maxHeartbeats 3200000 in
theorem formOf_any (name : ByteArray) (w : World) (hL : LibW w) : Calls Tryz.prog 20 #[.string name] w fun e w' => OpR (.bool true) (.bool false) name e w' ∧ Below w.heap.size w w' := by
  have HL := Lib.hid hL
  clear hL
  obtain ⟨z, hz⟩ := plF_some name.data.toList
  have HZ := Lib.hid hz
  go_enter Tryz.func20, Tryz.ntmps20
  go_upto_region 2 with (go_at_call 34; refine (forms2_any _ (HL.out.past (by (repeat (first | exact Below.refl _ _ | assumption | (refine Below.setCell ?_ (by first | (simp; done) | (simp; omega) | omega) _) | (refine Below.drew ?_) | (refine below_drewN ?_ _) | (refine Below.alloc ?_ (by first | (simp; done) | (simp; omega) | omega) _) | (refine Below.trans ?_ (Below.mono (by assumption) (by first | (simp; done) | (simp; omega) | omega)))))))).mono ?_; rintro e w1 ⟨v, rfl, hr, hb⟩; obtain ⟨b, off, c, rfl, hb0, hc⟩ := hr)
  have hN : Blk w1 (w.heap.size + 1) zCells := ((Blk.new (w.alloc (.cells #[.string name] 9)) zCells 58 (w.heap.size + 1) (by simp))).past hb
  have hP : Blk w1 w.heap.size [.string name] := (((Blk.new w [.string name] 9 _ rfl).alloc (.cells zCells.toArray 58))).past hb
  have HB1 : Hid (Below w.heap.size w w1) := Lib.hid (by (repeat (first | exact Below.refl _ _ | assumption | (refine Below.setCell ?_ (by first | (simp; done) | (simp; omega) | omega) _) | (refine Below.drew ?_) | (refine below_drewN ?_ _) | (refine Below.alloc ?_ (by first | (simp; done) | (simp; omega) | omega) _) | (refine Below.trans ?_ (Below.mono (by assumption) (by first | (simp; done) | (simp; omega) | omega))))))
  have HC := Lib.hid (And.intro hc (And.intro hN hP))
  have HIX := Lib.hid (fun w' (hw' : Below w1.heap.size w1 w') => idxF2_any b off c _ name w.heap.size z w' HZ.out (fun q hq => (hc q hq).past hw') ((hP.past hw').c 0 _ rfl) : ∀ w', _)
  clear hc hN hP hb hb0
  rcases hz with ⟨k, hk, hnm, rfl⟩ | ⟨hno, rfl⟩
  · have hk' : (k : Int) < 27 := by omega
    have HK := Lib.hid (And.intro hk hnm)
    obtain ⟨f, hf⟩ : ∃ f, f = F k := ⟨_, rfl⟩
    have HFK := Lib.hid hf
    clear hk hnm hf
    go_wp2_with (go_at_call 35; refine (HIX.out _ (by (repeat (first | exact Below.refl _ _ | assumption | (refine Below.setCell ?_ (by first | (simp; done) | (simp; omega) | omega) _) | (refine Below.drew ?_) | (refine below_drewN ?_ _) | (refine Below.alloc ?_ (by first | (simp; done) | (simp; omega) | omega) _) | (refine Below.trans ?_ (Below.mono (by assumption) (by first | (simp; done) | (simp; omega) | omega))))))).mono ?_; rintro e w2 ⟨rfl, hb2⟩; obtain ⟨c0, ⟨ia, ic, c1, ci⟩, c2, c3, c4, c5⟩ := (HC.out.1 k HK.out.1).past hb2; rw [← HFK.out] at c0 c1 c2 c3 c4 c5 ci; have HCI := Lib.hid ci; have HZ2 := Lib.hid (And.intro (HC.out.2.1.past hb2) hb2); have l0 := cell_lt c0; simp only at l0; obtain ⟨z0, z1, z2, z3, z4, z5⟩ := zCells_at HZ2.out.1; have zf := HZ2.out.1.f; have zl := HZ2.out.1.lt; clear hb2 ci)
    refine bodyPost_retN (v := .tuple #[formV f ia ic, .bool true]) (by simp [results, Tryz.results20, go_sem, z0, z1, z2, z3, z4, z5, formV]) rfl (fun WF hWF => ?_)
    have hT : Tch (fun b => b = w.heap.size + 1) w2 WF := by rw [hWF]; exact tch6 _ _ _ _ _ _ _ _
    have hI : IntsAt 0 WF ia f.ins := (HCI.out.tch hT (fun b hb => by subst hb; simp)).mono (Nat.zero_le _)
    exact ⟨.inl ⟨f, _, by rw [HFK.out, ← HK.out.2]; exact opF_F HK.out.1, rfl, ia, ic, rfl, hI⟩, below_own (HB1.out.trans (HZ2.out.2.mono HB1.out.size)) hT (by omega)⟩
  · have HN : Hid (opF name.data.toList = none) := Lib.hid (opF_no hno)
    clear hno
    go_wp2_with (go_at_call 35; refine (HIX.out _ (by (repeat (first | exact Below.refl _ _ | assumption | (refine Below.setCell ?_ (by first | (simp; done) | (simp; omega) | omega) _) | (refine Below.drew ?_) | (refine below_drewN ?_ _) | (refine Below.alloc ?_ (by first | (simp; done) | (simp; omega) | omega) _) | (refine Below.trans ?_ (Below.mono (by assumption) (by first | (simp; done) | (simp; omega) | omega))))))).mono ?_; rintro e w2 ⟨rfl, hb2⟩; have HZ2 := Lib.hid (And.intro (HC.out.2.1.past hb2) hb2); obtain ⟨z0, z1, z2, z3, z4, z5⟩ := zCells_at HZ2.out.1; have zf := HZ2.out.1.f; have zl := HZ2.out.1.lt; clear hb2)
    refine bodyPost_retN (v := .tuple #[zForm, .bool false]) (by simp [results, Tryz.results20, go_sem, z0, z1, z2, z3, z4, z5, zForm]) rfl (fun WF hWF => ⟨.inr ⟨HN.out, rfl⟩, ?_⟩)
    have hT : Tch (fun b => b = w.heap.size + 1) w2 WF := by rw [hWF]; exact tch6 _ _ _ _ _ _ _ _
    exact below_own (HB1.out.trans (HZ2.out.2.mono HB1.out.size)) hT (by omega)
end Go.Proofs.YtbaocallhnehfaaGreatDoor

namespace Go.Proofs.YtbaocallhnehfaaGreatDoor
open Go Go.RowKit
theorem IntsAt.get {B : Nat} {w : World} {a : Option Addr} {l : List Int} (h : IntsAt B w a l) : ∃ b off, (0 < l.length → a = some ⟨b, off, none⟩) ∧ ∀ i, i < l.length → w.cell? ⟨b, off + i, none⟩ = some (.int .i64 (l.getD i 0)) := by
  rcases h with rfl | ⟨b, off, h1, -, -, h2⟩
  · exact ⟨0, 0, fun h => by simp at h, fun i h => by simp at h⟩
  · exact ⟨b, off, fun _ => h1, fun i hi => h2 i _ (by rw [List.getD_eq_getElem?_getD, List.getElem?_eq_getElem hi]; rfl)⟩
end Go.Proofs.YtbaocallhnehfaaGreatDoor

namespace Go.Proofs.YtbaocallhnehfaaGreatDoor
open Go Go.RowKit
def nmsB : List ByteArray := (List.range 27).map fun q => bs (F q).nm
theorem op_at {k : Nat} (hk : k < 27) (w : World) : Calls Tryz.prog 29 #[.string (bs (F k).nm)] w fun e w' => ∃ a c, e = .returned (.tuple #[.agg #[.string (bs (F k).nm), .slice a (F k).ins.length c, .int .i64 (F k).out, .int .i64 (F k).ints, .int .i64 (F k).reals, .bool (F k).area], .int .i64 0]) ∧ IntsAt 0 w' a (F k).ins ∧ Below w.heap.size w w' := by
  refine (Op_any (bs (F k).nm) w (fun w' _ => forms_any w')).mono ?_
  have e1 : opF (bs (F k).nm).data.toList = some (F k) := by rw [bs_data]; exact opF_F hk
  rintro e w' ⟨⟨f, v, hf, rfl, a, c, rfl, hI⟩ | ⟨hf, -⟩, hb⟩
  · rw [e1] at hf
    cases hf
    exact ⟨a, c, rfl, hI, hb⟩
  · rw [e1] at hf
    cases hf
/-- What stands before the last line. -/
structure OpEnd (w1 : World) (f : FormD) (a1 a2 ao : Option Addr) (c1 c2 cp o1 o2 : Nat) (X : World) : Prop where
  b1 : Blk X o1 (fCells f a1 c1)
  b2 : Blk X o2 (fCells f a2 c2)
  i1 : IntsAt 0 X a1 f.ins
  i2 : IntsAt 0 X a2 f.ins
  row : RowV X 1 (.slice ao 27 cp) 27 (nmsB.map Value.string)
  bel : Below w1.heap.size w1 X
theorem OpEnd.past {w1 X X' : World} {f : FormD} {a1 a2 ao : Option Addr} {c1 c2 cp o1 o2 : Nat} (h : OpEnd w1 f a1 a2 ao c1 c2 cp o1 o2 X) (hb : Below X.heap.size X X') : OpEnd w1 f a1 a2 ao c1 c2 cp o1 o2 X' :=
  ⟨h.b1.past hb, h.b2.past hb, h.i1.past hb, h.i2.past hb, h.row.past hb, h.bel.trans (hb.mono h.bel.size)⟩
end Go.Proofs.YtbaocallhnehfaaGreatDoor

namespace Go.Proofs.YtbaocallhnehfaaGreatDoor
open Go Go.RowKit
/-- A node of a graph: its operation, the nodes that go in, its numbers; where these lie. -/
structure NodeD where
  op : ByteArray
  ins : List Int
  ints : List Int
  reals : List Nat
  ia : Option Addr
  ic : Nat
  na : Option Addr
  nc : Nat
  ra : Option Addr
  rc : Nat
def ndCells (n : NodeD) : List Value := [.string n.op, .slice n.ia n.ins.length n.ic, .slice n.na n.ints.length n.nc, .slice n.ra n.reals.length n.rc]
structure NodeAt (w : World) (b o : Nat) (n : NodeD) : Prop where
  c0 : w.cell? ⟨b, o, none⟩ = some (.string n.op)
  c1 : w.cell? ⟨b, o + 1, none⟩ = some (.slice n.ia n.ins.length n.ic)
  c2 : w.cell? ⟨b, o + 2, none⟩ = some (.slice n.na n.ints.length n.nc)
  c3 : w.cell? ⟨b, o + 3, none⟩ = some (.slice n.ra n.reals.length n.rc)
  i : IntsAt 0 w n.ia n.ins
  k : IntsAt 0 w n.na n.ints
  r : RealsAt 0 w n.ra n.reals
theorem NodeAt.past {w w' : World} {b o : Nat} {n : NodeD} (h : NodeAt w b o n) (hb : Below w.heap.size w w') : NodeAt w' b o n := by
  have hl := cell_lt h.c0
  simp only at hl
  have g : ∀ j, w'.cell? ⟨b, j, none⟩ = w.cell? ⟨b, j, none⟩ := fun j => hb.cell (p := ⟨b, j, none⟩) hl
  exact ⟨by rw [g]; exact h.c0, by rw [g]; exact h.c1, by rw [g]; exact h.c2, by rw [g]; exact h.c3, h.i.past hb, h.k.past hb, h.r.past hb⟩
/-- What holds of a node's lengths. -/
def NodeB (n : NodeD) : Prop := n.ins.length ≤ n.ic ∧ n.ic ≤ maxLen ∧ n.ints.length ≤ n.nc ∧ n.nc ≤ maxLen ∧ n.reals.length ≤ n.rc ∧ n.rc ≤ maxLen
structure IsNodes (w : World) (a : Option Addr) (c : Nat) (ns : List NodeD) : Prop where
  lc : ns.length ≤ c
  lm : c ≤ maxLen
  at_ : ns = [] ∨ ∃ b off, a = some ⟨b, off, none⟩ ∧ ∀ k n, ns[k]? = some n → NodeAt w b (off + k * 4) n ∧ NodeB n
theorem IsNodes.past {w w' : World} {a : Option Addr} {c : Nat} {ns : List NodeD} (h : IsNodes w a c ns) (hb : Below w.heap.size w w') : IsNodes w' a c ns := by
  refine ⟨h.lc, h.lm, ?_⟩
  rcases h.at_ with h1 | ⟨b, off, h1, h2⟩
  · exact .inl h1
  · exact .inr ⟨b, off, h1, fun k n hk => ⟨(h2 k n hk).1.past hb, (h2 k n hk).2⟩⟩
theorem IsNodes.get {w : World} {a : Option Addr} {c : Nat} {ns : List NodeD} (h : IsNodes w a c ns) {k : Nat} {n : NodeD} (hk : ns[k]? = some n) : ∃ b off, a = some ⟨b, off, none⟩ ∧ NodeAt w b (off + k * 4) n ∧ NodeB n := by
  rcases h.at_ with h1 | ⟨b, off, h1, h2⟩
  · subst h1; simp at hk
  · exact ⟨b, off, h1, h2 k n hk⟩
/-- The first that is not 0, below n. -/
def fstN (f : Nat → Int) : Nat → Int
  | 0 => 0
  | n + 1 => if fstN f n = 0 then f n else fstN f n
theorem fstN_of {f : Nat → Int} {k n : Nat} (h0 : fstN f k = 0) (hk : f k ≠ 0) (hkn : k < n) : fstN f n = f k := by
  induction n with
  | zero => omega
  | succ n ih =>
    unfold fstN
    by_cases e : k = n
    · subst e; rw [if_pos h0]
    · rw [ih (by omega), if_neg hk]
theorem fstN_succ {f : Nat → Int} {k : Nat} (h0 : fstN f k = 0) (hk : f k = 0) : fstN f (k + 1) = 0 := by
  unfold fstN; rw [if_pos h0]; exact hk
theorem fstN_zero {f : Nat → Int} {n : Nat} (h : fstN f n = 0) : ∀ k, k < n → f k = 0 := by
  induction n with
  | zero => intro k hk; omega
  | succ n ih =>
    unfold fstN at h
    by_cases e : fstN f n = 0
    · rw [if_pos e] at h
      intro k hk
      by_cases e2 : k = n
      · subst e2; exact h
      · exact ih e k (by omega)
    · rw [if_neg e] at h; exact absurd h e
def fst2 (a b : Int) : Int := if a = 0 then b else a
theorem fst2_0 (b : Int) : fst2 0 b = b := rfl
theorem fst2_n {a : Int} (h : a ≠ 0) (b : Int) : fst2 a b = a := if_neg h
/-- The number of an operation, by its name. -/
def opK (l : List UInt8) : Option Nat := (List.range 27).find? (fun k => (F k).nm == l)
theorem opK_some {l : List UInt8} {k : Nat} (h : opK l = some k) : k < 27 ∧ l = (F k).nm := by
  unfold opK at h
  have h1 := List.find?_some h
  have h2 := List.mem_of_find?_eq_some h
  exact ⟨List.mem_range.1 h2, by simpa using (beq_iff_eq.1 h1).symm⟩
theorem opK_none {l : List UInt8} (h : opK l = none) : opF l = none := by
  unfold opK at h
  rw [List.find?_eq_none] at h
  unfold opF
  rw [List.find?_eq_none]
  intro f hf
  obtain ⟨k, hk, rfl⟩ := List.getElem_of_mem hf
  have hk27 : k < 27 := hk
  have := h k (List.mem_range.2 hk27)
  unfold F at this
  rw [List.getD_eq_getElem?_getD, List.getElem?_eq_getElem hk] at this
  exact this
theorem opK_name {s : ByteArray} {k : Nat} (h : opK s.data.toList = some k) : k < 27 ∧ s = bs (F k).nm := by
  obtain ⟨h1, h2⟩ := opK_some h
  exact ⟨h1, by rw [← bs_of s, h2]⟩
/-- What comes out of node j. -/
def kdO (ns : List NodeD) (j : Nat) : Int := match ns[j]? with
  | none => 0
  | some n => match opK n.op.data.toList with
    | none => 0
    | some k => (F k).out
/-- What is wrong with one that goes into node i. -/
def in1 (ns : List NodeD) (i : Nat) (x f : Int) : Int := if 0 ≤ x ∧ x < (i : Int) then (if kdO ns x.toNat = f then 0 else 12) else 11
/-- What is wrong with node i. -/
def nd1 (ns : List NodeD) (i : Nat) (n : NodeD) : Int := match opK n.op.data.toList with
  | none => 1
  | some k => if n.ins.length = (F k).ins.length ∧ (n.ints.length : Int) = (F k).ints ∧ (n.reals.length : Int) = (F k).reals
      then fst2 (fstN (fun j => in1 ns i (n.ins.getD j 0) ((F k).ins.getD j 0)) n.ins.length) (paE k n.ints n.reals) else 2
def ndE (ns : List NodeD) (i : Nat) : Int := match ns[i]? with
  | none => 0
  | some n => nd1 ns i n
/-- What is wrong with a graph. -/
def gE (ns : List NodeD) (out : Int) : Int := if ns.length = 0 then 10 else if 100 < ns.length then 4 else
  fst2 (fstN (ndE ns) ns.length) (if 0 ≤ out ∧ out < (ns.length : Int) then (if kdO ns out.toNat = 2 then 12 else 0) else 11)
theorem F_out {k : Nat} (hk : k < 27) : (F k).out = 1 ∨ (F k).out = 2 := by
  have : ∀ k, k < 27 → (F k).out = 1 ∨ (F k).out = 2 := by decide +kernel
  exact this k hk
end Go.Proofs.YtbaocallhnehfaaGreatDoor
