/- OpsMatch by the program: true. Conditions: the library's variables read as listed (LibN). -/
import Derived.Test.YtjcakbikpficbaaGreatDoorNgI
import Derived.Test.YtjcakbikpficbaaGreatDoorNfF
namespace Go.Proofs.YtjcakbikpficbaaGreatDoor
open Go Go.RowKit
theorem row_str {w : World} {a : Option Addr} {n c : Nat} {xs : List ByteArray} (h : RowV w 1 (.slice a n c) n (xs.map Value.string)) (hn : 0 < n) : ∃ b off, a = some ⟨b, off, none⟩ ∧ xs.length = n ∧ ∀ j, j < xs.length → w.cell? ⟨b, off + j, none⟩ = some (.string (xs.getD j ByteArray.empty)) := by
  obtain ⟨h0, ao, cap, e, h1, h2, h3⟩ := h
  injection e with e1 e2 e3
  subst e1 e3
  have hl : xs.length = n := by simpa using h0
  rcases h3 with ⟨-, h3⟩ | ⟨b, off, h4, h5, h6, h7⟩
  · omega
  · exact ⟨b, off, h4, hl, fun j hj => h6 j _ (by rw [List.getElem?_map, List.getD_eq_getElem?_getD, List.getElem?_eq_getElem hj]; rfl)⟩
theorem eqS_same {w : World} {a a' : Option Addr} {n c c' : Nat} {xs : List ByteArray} (h : RowV w 1 (.slice a n c) n (xs.map Value.string)) (h' : RowV w 1 (.slice a' n c') n (xs.map Value.string)) (hn : 0 < n) (hb : n ≤ 1000) :
    Calls Tryz.prog 13 #[.slice a n c, .slice a' n c'] w fun e w' => e = .returned (.bool true) ∧ Below w.heap.size w w' := by
  obtain ⟨b, off, rfl, hl, hc⟩ := row_str h hn
  obtain ⟨b', off', rfl, -, hc'⟩ := row_str h' hn
  refine (Tryz.slices_Equal_string b off n c b' off' n c' xs xs w (by omega) (by omega) (by omega) (by omega) hc hc').mono ?_
  rintro e w' ⟨rfl, q, rfl⟩
  exact ⟨by simp, below_drewN (Below.refl _ _) q⟩
def nmsB : List ByteArray := (List.range 27).map fun q => bs (F q).nm
theorem nmsV_B : nmsV 27 = nmsB.map Value.string := by simp [nmsV, nmsB]
theorem op_at {k : Nat} (hk : k < 27) (w : World) : Calls Tryz.prog 9 #[.string (bs (F k).nm)] w fun e w' => ∃ a c, e = .returned (.tuple #[.agg #[.string (bs (F k).nm), .slice a (F k).ins.length c, .int .i64 (F k).out, .int .i64 (F k).ints, .int .i64 (F k).reals, .bool (F k).area], .int .i64 0]) ∧ IntsAt 0 w' a (F k).ins ∧ Below w.heap.size w w' := by
  refine (Op_any (bs (F k).nm) w (fun w' _ => forms_any w')).mono ?_
  have e1 : opF (bs (F k).nm).data.toList = some (F k) := by rw [bs_data]; exact opF_F hk
  rintro e w' ⟨⟨f, v, hf, rfl, a, c, rfl, hI⟩ | ⟨hf, -⟩, hb⟩
  · rw [e1] at hf
    cases hf
    exact ⟨a, c, rfl, hI, hb⟩
  · rw [e1] at hf
    cases hf
theorem sameA_any (f : FormD) (a a' : Option Addr) (c c' : Nat) (w : World) (hn : f.ins.length ≤ 65536) (ha : IntsAt 0 w a f.ins) (ha' : IntsAt 0 w a' f.ins) :
    Calls Tryz.prog 10 #[.agg #[.string (bs f.nm), .slice a f.ins.length c, .int .i64 f.out, .int .i64 f.ints, .int .i64 f.reals, .bool f.area], .agg #[.string (bs f.nm), .slice a' f.ins.length c', .int .i64 f.out, .int .i64 f.ints, .int .i64 f.reals, .bool f.area]] w fun e w' => e = .returned (.bool true) ∧ Below w.heap.size w w' := sameForm_any f a a' c c' w hn ha ha'
/-- What stands before the last line. -/
structure OpEnd (w1 : World) (f : FormD) (a1 a2 ao : Option Addr) (c1 c2 cp o1 o2 : Nat) (X : World) : Prop where
  b1 : Blk X o1 (fCells f a1 c1)
  b2 : Blk X o2 (fCells f a2 c2)
  i1 : IntsAt 0 X a1 f.ins
  i2 : IntsAt 0 X a2 f.ins
  row : RowV X 1 (.slice ao 27 cp) 27 (nmsB.map Value.string)
  bel : Below w1.heap.size w1 X
theorem OpEnd.past {w1 X X' : World} {f : FormD} {a1 a2 ao : Option Addr} {c1 c2 cp o1 o2 : Nat} (h : OpEnd w1 f a1 a2 ao c1 c2 cp o1 o2 X) (hb : Below X.heap.size X X') : OpEnd w1 f a1 a2 ao c1 c2 cp o1 o2 X' :=
  ⟨h.b1.past hb, h.b2.past hb, h.i1.past hb, h.i2.past hb, h.row.past hb, h.bel.trans (hb.mono h.bel.size)⟩
/-- What the program and the document tell of a name: the same form. -/
theorem both_at (name : ByteArray) : ∃ (f : FormD) (E : Int) (is : Bool), f.ins.length ≤ 3 ∧ ((is = true ∧ E = 0) ∨ (is = false ∧ E = 6)) ∧
    (∀ w, Calls Tryz.prog 9 #[.string name] w fun e w' => ∃ a c, e = .returned (.tuple #[.agg #[.string (bs f.nm), .slice a f.ins.length c, .int .i64 f.out, .int .i64 f.ints, .int .i64 f.reals, .bool f.area], .int .i64 E]) ∧ IntsAt 0 w' a f.ins ∧ Below w.heap.size w w') ∧
    (∀ w, LibW w → Calls Tryz.prog 11 #[.string name] w fun e w' => ∃ a c, e = .returned (.tuple #[.agg #[.string (bs f.nm), .slice a f.ins.length c, .int .i64 f.out, .int .i64 f.ints, .int .i64 f.reals, .bool f.area], .bool is]) ∧ IntsAt 0 w' a f.ins ∧ Below w.heap.size w w') := by
  cases h : opF name.data.toList with
  | some f =>
    have hf : f.ins.length ≤ 3 := by
      have hm := List.mem_of_find?_eq_some h
      have : ∀ g ∈ fT, g.ins.length ≤ 3 := by decide
      exact this f hm
    refine ⟨f, 0, true, hf, .inl ⟨rfl, rfl⟩, fun w => ?_, fun w hL => ?_⟩
    · refine (Op_any name w (fun w' _ => forms_any w')).mono ?_
      rintro e w' ⟨⟨g, v, hg, rfl, a, c, rfl, hI⟩ | ⟨hg, -⟩, hb⟩
      · rw [h] at hg; cases hg; exact ⟨a, c, rfl, hI, hb⟩
      · rw [h] at hg; cases hg
    · refine (formOf_any name w hL).mono ?_
      rintro e w' ⟨⟨g, v, hg, rfl, a, c, rfl, hI⟩ | ⟨hg, -⟩, hb⟩
      · rw [h] at hg; cases hg; exact ⟨a, c, rfl, hI, hb⟩
      · rw [h] at hg; cases hg
  | none =>
    refine ⟨⟨[], [], 0, 0, 0, false⟩, 6, false, by simp, .inr ⟨rfl, rfl⟩, fun w => ?_, fun w hL => ?_⟩
    · refine (Op_any name w (fun w' _ => forms_any w')).mono ?_
      rintro e w' ⟨⟨g, v, hg, -⟩ | ⟨-, rfl⟩, hb⟩
      · rw [h] at hg; cases hg
      · exact ⟨none, 0, rfl, .inl rfl, hb⟩
    · refine (formOf_any name w hL).mono ?_
      rintro e w' ⟨⟨g, v, hg, -⟩ | ⟨-, rfl⟩, hb⟩
      · rw [h] at hg; cases hg
      · exact ⟨none, 0, rfl, .inl rfl, hb⟩
set_option maxRecDepth 100000 in
set_option maxHeartbeats 12800000 in
theorem op_walk (name : ByteArray) (w : World) (hL : LibN w) : Calls Tryz.prog 3 #[.string name] w fun e w' => e = .returned (.bool true) ∧ Below w.heap.size w w' := by
  have HL := Lib.hid hL
  clear hL
  obtain ⟨i0, hi0, hz0, hz1, hz2⟩ := info_parts infoStrN
  go_enter Tryz.func3, Tryz.ntmps3
  go_wp2_with (go_at_call 8; refine (forms2_any _ HL.out.l).mono ?_; rintro e w1 ⟨v, rfl, hr, hb⟩; obtain ⟨b, off, c, rfl, -, hc⟩ := hr)
  have HC := Lib.hid hc
  have HB1 := Lib.hid hb
  clear hc hb
  go_loopw [14, 3] (fun s14 s3 wr => ∃ (k : Nat) (u : Value), k ≤ 27 ∧ s14 = .int .i64 k ∧ u = s3 ∧ NewRow w1.heap.size wr 1 u k (nmsV k) ∧ Below w1.heap.size w1 wr) (fun s14 _ _ => 27 - (intOf s14).toNat)
  case atStart => exact ⟨0, _, by omega, rfl, rfl, NewRow.nil _ _ _, Below.refl _ _⟩
  case round =>
    obtain ⟨k, u, hk, rfl, rfl, hR, hB⟩ := hrel
    obtain ⟨ao, cp, rfl⟩ := hR.form
    have HR := Lib.hid hR
    have HB := Lib.hid hB
    clear hR hB
    by_cases hkn : k < 27
    · have hkm : (k : Int) < 27 := by omega
      obtain ⟨c0, ⟨ia, ic, c1, ci⟩, c2, c3, c4, c5⟩ := HC.out k hkn
      have hgc : ∀ j, wr.cell? ⟨b, j, none⟩ = w1.cell? ⟨b, j, none⟩ := fun j => HB.out.cell (p := ⟨b, j, none⟩) (show b < w1.heap.size from cell_lt c0)
      rw [← hgc] at c0 c1 c2 c3 c4 c5
      have HK := Lib.hid hkn
      have HOP := Lib.hid (fun w' => op_at hkn w')
      have hfs := (F_small hkn).2.1
      obtain ⟨f, hf⟩ : ∃ f, f = F k := ⟨_, rfl⟩
      rw [← hf] at c0 c1 c2 c3 c4 c5 ci HOP hfs
      have HFK := Lib.hid (And.intro hf hfs)
      have HCI := Lib.hid ci
      have l0 := cell_lt c0; simp only at l0
      clear hf ci hkn hfs hgc
      go_upto_region 5 with fail
      refine wp_world (fun W4 hW4 => ?_)
      have H4 : Hid (Blk W4 wr.heap.size (fCells f ia ic) ∧ Below wr.heap.size wr W4) := Lib.hid (by rw [hW4]; exact ⟨Blk.new _ _ _ _ rfl, by (repeat (first | exact Below.refl _ _ | assumption | (refine Below.setCell ?_ (by first | (simp; done) | (simp; omega) | omega) _) | (refine Below.drew ?_) | (refine below_drewN ?_ _) | (refine Below.alloc ?_ (by first | (simp; done) | (simp; omega) | omega) _) | (refine Below.trans ?_ (Below.mono (by assumption) (by first | (simp; done) | (simp; omega) | omega)))))⟩)
      clear hW4 c0 c1 c2 c3 c4 c5 l0
      obtain ⟨m0, m1, m2, m3, m4, m5⟩ := fCells_at H4.out.1
      have ml := H4.out.1.lt
      have HX : Hid (NewRow w1.heap.size W4 1 (.slice ao k cp) k (nmsV k) ∧ Below w1.heap.size w1 W4) := Lib.hid ⟨HR.out.past H4.out.2, HB.out.trans (H4.out.2.mono HB.out.size)⟩
      go_upto_region 6 with (at_builtin; refine wpList_append_row (v := .slice ao k cp) _ rfl _ _ 22 rfl Tryz.underlying22 hi0 hz0 hz1 hz2 rfl (by decide) rfl (HX.out.1.1.past ((Below.refl _ _).alloc (Nat.le_refl _) _)) ⟨W4.heap.size, 0, none⟩ 1 [.string (bs f.nm)] rfl rfl (by intro j u hj; match j, hj with | 0, hj => (simp at hj; subst hj; simp [Addr.add])) (by intro u hu; simp at hu; subst hu; rfl) (by unfold maxLen; omega) (by omega) ?_; intro ao5 cap5 w6 hR6 hG6 ho6; have H6 := Lib.hid ((HX.out.1.past ((Below.refl _ _).alloc (Nat.le_refl _) _)).app (HX.out.2.alloc HX.out.2.size _) hR6 hG6 ho6); have HG6 := Lib.hid (Tch.of_grown (S := fun j => Value.ownBlock (.slice ao k cp) = some j) hG6 (fun j hj => hj)); clear hR6 hG6 ho6)
      have HQ := Lib.hid (((HX.out.2.alloc HX.out.2.size (.cells #[.string (bs f.nm)] 9)) : Below w1.heap.size w1 _))
      have HX6 : Hid (Blk w6 wr.heap.size (fCells f ia ic) ∧ IntsAt 0 w6 ia f.ins) := Lib.hid ⟨(H4.out.1.alloc _).tch HG6.out (fun e => by have := HR.out.1.lt e; omega), (HCI.out.past H6.out.2).mono (Nat.zero_le _)⟩
      clear m0 m1 m2 m3 m4 m5 ml HG6 HQ
      obtain ⟨m0, m1, m2, m3, m4, m5⟩ := fCells_at HX6.out.1
      have ml := HX6.out.1.lt
      go_upto_region 7 with (go_at_call 9; refine (HOP.out _).mono ?_; rintro e v7 ⟨fa, fc, rfl, hI, hb7⟩)
      refine wp_world (fun W8 hW8 => ?_)
      have H8 : Hid (Blk W8 wr.heap.size (fCells f ia ic) ∧ IntsAt 0 W8 ia f.ins ∧ Blk W8 v7.heap.size (fCells f fa fc) ∧ IntsAt 0 W8 fa f.ins ∧ NewRow w1.heap.size W8 1 (.slice ao5 (k + 1) cap5) (k + 1) (nmsV k ++ [.string (bs f.nm)]) ∧ Below w1.heap.size w1 W8) := Lib.hid (by
        have hb8 : Below v7.heap.size v7 W8 := by rw [hW8]; (repeat (first | exact Below.refl _ _ | assumption | (refine Below.setCell ?_ (by first | (simp; done) | (simp; omega) | omega) _) | (refine Below.drew ?_) | (refine below_drewN ?_ _) | (refine Below.alloc ?_ (by first | (simp; done) | (simp; omega) | omega) _) | (refine Below.trans ?_ (Below.mono (by assumption) (by first | (simp; done) | (simp; omega) | omega)))))
        have hb68 : Below w6.heap.size w6 W8 := hb7.trans (hb8.mono hb7.size)
        exact ⟨HX6.out.1.past hb68, HX6.out.2.past hb68, by rw [hW8]; exact Blk.new _ _ _ _ rfl, hI.past hb8, H6.out.1.past hb68, H6.out.2.trans (hb68.mono H6.out.2.size)⟩)
      have HSF := Lib.hid (sameA_any f fa ia fc ic W8 (by have := HFK.out.2; omega) H8.out.2.2.2.1 H8.out.2.1)
      clear hW8 hI hb7 m0 m1 m2 m3 m4 m5 ml HX6 H6 H4 HX
      obtain ⟨m0, m1, m2, m3, m4, m5⟩ := fCells_at H8.out.1
      have ml := H8.out.1.lt
      obtain ⟨o0, o1, o2, o3, o4, o5⟩ := fCells_at H8.out.2.2.1
      have ol := H8.out.2.2.1.lt
      go_wp2_with (go_at_call 10; refine HSF.out.mono ?_; rintro e v9 ⟨rfl, hb9⟩; have H9 := Lib.hid hb9; clear hb9)
      go_roundw
      case rel =>
        refine ⟨k + 1, _, by have := HK.out; omega, by go_num, rfl, ?_, H8.out.2.2.2.2.2.trans (H9.out.mono H8.out.2.2.2.2.2.size)⟩
        rw [nmsV_succ, ← HFK.out.1]; exact H8.out.2.2.2.2.1.past H9.out
      case measure => simp [intOf]; have := HK.out; omega
    · obtain rfl : k = 27 := by omega
      have hkm : ¬ ((27 : Nat) : Int) < 27 := by omega
      obtain ⟨f, E, is, hf3, hE, hO, hF⟩ := both_at name
      have HN := Lib.hid (And.intro hf3 (And.intro hO hF))
      have HLX := Lib.hid (fun w' (hw' : Below w1.heap.size w1 w') => HL.out.past (HB1.out.trans (hw'.mono HB1.out.size)) : ∀ w', _)
      clear hO hF hf3
      go_upto_region 12 with (first | (go_at_call 9; refine (HN.out.2.1 _).mono ?_; rintro e v2 ⟨a1, c1, rfl, hI1, hb2⟩; have H2 := Lib.hid (And.intro hI1 (HB.out.trans (hb2.mono HB.out.size))); have HA2 := Lib.hid (HR.out.past hb2); clear hI1 hb2) | (go_at_call 11; refine (HN.out.2.2 _ (HLX.out _ (H2.out.2.alloc H2.out.2.size _)).l).mono ?_; rintro e v3 ⟨a2, c2, rfl, hI2, hb3⟩))
      refine wp_world (fun Y hY => ?_)
      have hbY : Below v3.heap.size v3 Y := by rw [hY]; (repeat (first | exact Below.refl _ _ | assumption | (refine Below.setCell ?_ (by first | (simp; done) | (simp; omega) | omega) _) | (refine Below.drew ?_) | (refine below_drewN ?_ _) | (refine Below.alloc ?_ (by first | (simp; done) | (simp; omega) | omega) _) | (refine Below.trans ?_ (Below.mono (by assumption) (by first | (simp; done) | (simp; omega) | omega)))))
      have hb23 : Below v2.heap.size v2 v3 := (show Below v2.heap.size v2 _ from (Below.refl _ _).alloc (Nat.le_refl _) (.cells #[.string (bs f.nm), .slice a1 f.ins.length c1, .int .i64 f.out, .int .i64 f.ints, .int .i64 f.reals, .bool f.area] 27)).trans (hb3.mono (by simp))
      have HY : Hid (OpEnd w1 f a1 a2 ao c1 c2 cp v2.heap.size v3.heap.size Y) := Lib.hid (by
        have hb2Y : Below v2.heap.size v2 Y := hb23.trans (hbY.mono hb23.size)
        refine ⟨((Blk.new v2 (fCells f a1 c1) 27 _ rfl).past hb3).past hbY, by rw [hY]; exact Blk.new _ _ _ _ rfl, H2.out.1.past hb2Y, hI2.past hbY, by rw [← nmsV_B]; exact (HA2.out.past hb2Y).1, H2.out.2.trans (hb2Y.mono H2.out.2.size)⟩)
      obtain ⟨o1, ho1⟩ : ∃ o1, o1 = v2.heap.size := ⟨_, rfl⟩
      obtain ⟨o2, ho2⟩ : ∃ o2, o2 = v3.heap.size := ⟨_, rfl⟩
      rw [← ho1, ← ho2] at HY
      rw [← ho1, ← ho2]
      clear hY hbY hb23 hb3 hI2 ho1 ho2 H2 HA2 HR HB HC
      have HFIN : Hid (∀ X, Below w1.heap.size w1 X → Below w.heap.size w X) := Lib.hid (fun X hX => HB1.out.trans (hX.mono HB1.out.size))
      rcases hE with ⟨rfl, rfl⟩ | ⟨rfl, rfl⟩
      all_goals
        go_wp2_with (first
          | (go_at_call 12; refine (nodes_any _ (HLX.out _ HY.out.bel)).mono ?_; rintro e y1 ⟨rfl, hy1⟩; replace HY := Lib.hid (HY.out.past hy1); clear hy1)
          | (go_at_call 14; refine (Ops_any _ (fun w' _ => forms_any w')).mono ?_; rintro e y2 ⟨v, rfl, hN2, hy2⟩; obtain ⟨ap, cq, rfl⟩ := hN2.form; replace HY := Lib.hid (HY.out.past hy2); have HN2 := Lib.hid (show RowV y2 1 (.slice ap 27 cq) 27 (nmsB.map Value.string) by rw [← nmsV_B]; exact hN2.1); clear hy2 hN2)
          | (go_at_call 13; refine (eqS_same HN2.out HY.out.row (by decide) (by decide)).mono ?_; rintro e y3 ⟨rfl, hy3⟩; replace HY := Lib.hid (HY.out.past hy3); clear hy3; obtain ⟨m0, m1, m2, m3, m4, m5⟩ := fCells_at HY.out.b1; have ml := HY.out.b1.lt; obtain ⟨q0, q1, q2, q3, q4, q5⟩ := fCells_at HY.out.b2; have ql := HY.out.b2.lt)
          | (go_at_call 10; refine (sameA_any f a1 a2 c1 c2 _ (by have := HN.out.1; omega) HY.out.i1 HY.out.i2).mono ?_; rintro e y4 ⟨rfl, hy4⟩; replace HY := Lib.hid (HY.out.past hy4); clear hy4))
        go_ret
        exact ⟨rfl, HFIN.out _ HY.out.bel⟩
end Go.Proofs.YtjcakbikpficbaaGreatDoor
