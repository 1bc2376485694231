/- Which sources a graph uses: node.Uses. Conditions: the nodes can be read. -/
import Derived.Test.YtbclecoblcfboaaGreatDoorGqE
import Derived.Test.YtbclecoblcfboaaGreatDoorGqN
namespace Go.Proofs.YtbclecoblcfboaaGreatDoor
open Go Go.RowKit
theorem idx8_0 (b0 b1 b2 b3 b4 b5 b6 b7 : Bool) : ∀ w, (Instr.index 84 (.agg #[.bool b0, .bool b1, .bool b2, .bool b3, .bool b4, .bool b5, .bool b6, .bool b7]) (.int .i64 0)).run Tryz.prog w = .ok (.bool b0) w := fun _ => by kernel_rfl
theorem idx8_1 (b0 b1 b2 b3 b4 b5 b6 b7 : Bool) : ∀ w, (Instr.index 84 (.agg #[.bool b0, .bool b1, .bool b2, .bool b3, .bool b4, .bool b5, .bool b6, .bool b7]) (.int .i64 1)).run Tryz.prog w = .ok (.bool b1) w := fun _ => by kernel_rfl
theorem idx8_2 (b0 b1 b2 b3 b4 b5 b6 b7 : Bool) : ∀ w, (Instr.index 84 (.agg #[.bool b0, .bool b1, .bool b2, .bool b3, .bool b4, .bool b5, .bool b6, .bool b7]) (.int .i64 2)).run Tryz.prog w = .ok (.bool b2) w := fun _ => by kernel_rfl
theorem idx8_3 (b0 b1 b2 b3 b4 b5 b6 b7 : Bool) : ∀ w, (Instr.index 84 (.agg #[.bool b0, .bool b1, .bool b2, .bool b3, .bool b4, .bool b5, .bool b6, .bool b7]) (.int .i64 3)).run Tryz.prog w = .ok (.bool b3) w := fun _ => by kernel_rfl
theorem idx8_4 (b0 b1 b2 b3 b4 b5 b6 b7 : Bool) : ∀ w, (Instr.index 84 (.agg #[.bool b0, .bool b1, .bool b2, .bool b3, .bool b4, .bool b5, .bool b6, .bool b7]) (.int .i64 4)).run Tryz.prog w = .ok (.bool b4) w := fun _ => by kernel_rfl
theorem idx8_5 (b0 b1 b2 b3 b4 b5 b6 b7 : Bool) : ∀ w, (Instr.index 84 (.agg #[.bool b0, .bool b1, .bool b2, .bool b3, .bool b4, .bool b5, .bool b6, .bool b7]) (.int .i64 5)).run Tryz.prog w = .ok (.bool b5) w := fun _ => by kernel_rfl
theorem idx8_6 (b0 b1 b2 b3 b4 b5 b6 b7 : Bool) : ∀ w, (Instr.index 84 (.agg #[.bool b0, .bool b1, .bool b2, .bool b3, .bool b4, .bool b5, .bool b6, .bool b7]) (.int .i64 6)).run Tryz.prog w = .ok (.bool b6) w := fun _ => by kernel_rfl
theorem idx8_7 (b0 b1 b2 b3 b4 b5 b6 b7 : Bool) : ∀ w, (Instr.index 84 (.agg #[.bool b0, .bool b1, .bool b2, .bool b3, .bool b4, .bool b5, .bool b6, .bool b7]) (.int .i64 7)).run Tryz.prog w = .ok (.bool b7) w := fun _ => by kernel_rfl
theorem src_name {k : Nat} (hk : k < 27) : ((bs (F k).nm).toList == [115, 111, 117, 114, 99, 101]) = (k == 0) := by
  have : ∀ k, k < 27 → ((bs (F k).nm).toList == [115, 111, 117, 114, 99, 101]) = (k == 0) := by decide +kernel
  exact this k hk
def usF (ns : List NodeD) (s : Nat) : Bool := anyQ (srcO ns s) ns.length
set_option maxRecDepth 100000 in
set_option maxHeartbeats 1600000 in
theorem Uses_no (a : Option Addr) (c : Nat) (ns : List NodeD) (out : Int) (w : World) (h : IsNodes w a c ns) (hg : gE ns out ≠ 0) :
    Calls Tryz.prog 19 #[.agg #[.slice a ns.length c, .int .i64 out]] w fun e w' => e = .returned (.tuple #[.slice none 0 0, .int .i64 (gE ns out)]) ∧ Below w.heap.size w w' := by
  have HK := Lib.hid (fun w' hb => CheckGraph_any a c ns out w' (h.past hb) : ∀ w', Below w.heap.size w w' → _)
  obtain ⟨m, hm⟩ : ∃ m, m = ns.length := ⟨_, rfl⟩
  obtain ⟨G, hG⟩ : ∃ G, G = gE ns out := ⟨_, rfl⟩
  rw [← hm, ← hG] at HK
  rw [← hG] at hg
  rw [← hm, ← hG]
  clear hG hm h
  go_enter Tryz.func19, Tryz.ntmps19
  go_wp2_with (go_at_call 22; refine (HK.out _ (by (repeat (first | exact Below.refl _ _ | assumption | (refine Below.setCell ?_ (by first | (simp; done) | (simp; omega) | omega) _) | (refine Below.drew ?_) | (refine below_drewN ?_ _) | (refine Below.alloc ?_ (by first | (simp; done) | (simp; omega) | omega) _) | (refine Below.trans ?_ (Below.mono (by assumption) (by first | (simp; done) | (simp; omega) | omega))))))).mono ?_; rintro e w1 ⟨rfl, hb1⟩)
  go_ret2
  exact ⟨rfl, ((Below.refl _ _).alloc (Nat.le_refl _) _).trans (hb1.mono (by simp))⟩
/-- The row of what is used. -/
def usL (ns : List NodeD) (i : Nat) : List Value := (List.range 8).map (fun s => .bool (anyQ (srcO ns s) i))
theorem usL_at (ns : List NodeD) (i : Nat) {s : Nat} (h : s < 8) : (usL ns i)[s]? = some (.bool (anyQ (srcO ns s) i)) := by
  simp [usL, List.getElem?_range h]
theorem usL_same (ns : List NodeD) (i : Nat) (h : ∀ s, srcO ns s i = false) : usL ns (i + 1) = usL ns i := by
  unfold usL
  refine List.map_congr_left fun s _ => ?_
  show Value.bool (anyQ (srcO ns s) i || srcO ns s i) = _
  rw [h s, Bool.or_false]
theorem usL_set (ns : List NodeD) (i x : Nat) (_hx : x < 8) (h : ∀ s, srcO ns s i = decide (s = x)) : usL ns (i + 1) = (usL ns i).set x (.bool true) := by
  apply List.ext_getElem?
  intro s
  by_cases hs : s < 8
  · rw [usL_at ns (i + 1) hs, List.getElem?_set]
    by_cases e : x = s
    · subst e
      rw [if_pos rfl, if_pos (by simpa [usL] using hs)]
      show some (Value.bool (anyQ (srcO ns x) i || srcO ns x i)) = _
      rw [h x]; simp
    · rw [if_neg e, usL_at ns i hs]
      show some (Value.bool (anyQ (srcO ns s) i || srcO ns s i)) = _
      rw [h s, decide_eq_false (fun e2 => e e2.symm), Bool.or_false]
  · rw [List.getElem?_eq_none (by simp [usL]; omega), List.getElem?_eq_none (by simp [usL]; omega)]
set_option maxRecDepth 100000 in
set_option maxHeartbeats 6400000 in
theorem Uses_yes (a : Option Addr) (c : Nat) (ns : List NodeD) (out : Int) (w : World) (h : IsNodes w a c ns) (hg : gE ns out = 0) :
    Calls Tryz.prog 19 #[.agg #[.slice a ns.length c, .int .i64 out]] w (StrP (nmZ (usF ns) 8) w) := by
  obtain ⟨i0, hi0, hz0, hz1, hz2⟩ := info_parts infoInt
  have HH := Lib.hid h
  have HK := Lib.hid (fun w' hb => CheckGraph_any a c ns out w' (h.past hb) : ∀ w', Below w.heap.size w w' → _)
  have HZ0 := Lib.hid (gE_ok hg)
  rw [hg] at HK
  obtain ⟨m, hm⟩ : ∃ m, m = ns.length := ⟨_, rfl⟩
  have HM := Lib.hid hm
  have hm1 : m ≤ 100 := by have := HZ0.out.2.1; omega
  obtain ⟨f, hf⟩ : ∃ f, f = usF ns := ⟨_, rfl⟩
  have HFF : Hid (∀ s, anyQ (srcO ns s) m = f s) := Lib.hid (fun s => by rw [hf, hm]; rfl)
  rw [← hm] at HK
  rw [← hf, ← hm]
  clear hm hf h hg
  go_enter Tryz.func19, Tryz.ntmps19
  go_upto_region 5 with (go_at_call 22; refine (HK.out _ (by (repeat (first | exact Below.refl _ _ | assumption | (refine Below.setCell ?_ (by first | (simp; done) | (simp; omega) | omega) _) | (refine Below.drew ?_) | (refine below_drewN ?_ _) | (refine Below.alloc ?_ (by first | (simp; done) | (simp; omega) | omega) _) | (refine Below.trans ?_ (Below.mono (by assumption) (by first | (simp; done) | (simp; omega) | omega))))))).mono ?_; rintro e w1 ⟨rfl, hb1⟩)
  refine wp_world (fun W2 hW2 => ?_)
  have G1 := (Blk.new w [.slice a m c, .int .i64 out] 24 _ rfl).past hb1
  have hb0 : Below w.heap.size w w1 := ((Below.refl w.heap.size w).alloc (Nat.le_refl _) (.cells #[.slice a m c, .int .i64 out] 24)).trans (hb1.mono (by simp))
  have hB2 : Below w1.heap.size w1 W2 := by rw [hW2]; (repeat (first | exact Below.refl _ _ | assumption | (refine Below.setCell ?_ (by first | (simp; done) | (simp; omega) | omega) _) | (refine Below.drew ?_) | (refine below_drewN ?_ _) | (refine Below.alloc ?_ (by first | (simp; done) | (simp; omega) | omega) _) | (refine Below.trans ?_ (Below.mono (by assumption) (by first | (simp; done) | (simp; omega) | omega)))))
  have U2 : Blk W2 w1.heap.size (usL ns 0) := by rw [hW2]; exact Blk.new _ _ _ _ rfl
  obtain ⟨ub, hub⟩ : ∃ ub, ub = w1.heap.size := ⟨_, rfl⟩
  obtain ⟨pg, hpg⟩ : ∃ pg, pg = w.heap.size := ⟨_, rfl⟩
  have H2 : Hid (Blk W2 pg [.slice a m c, .int .i64 out] ∧ Blk W2 ub (usL ns 0) ∧ Below w.heap.size w W2) := Lib.hid ⟨by rw [hpg]; exact G1.past hB2, by rw [hub]; exact U2, hb0.trans (hB2.mono hb0.size)⟩
  have HNE : Hid (w.heap.size ≤ ub) := Lib.hid (by rw [hub]; exact hb0.size)
  rw [← hub, ← hpg]
  clear hW2 G1 hb0 hB2 U2 hub hpg hb1
  have g0 := H2.out.1.c 0 _ rfl; have gl := H2.out.1.lt
  go_wp2_with fail
  clear g0 gl
  go_loopw [19] (fun s19 wr => ∃ i : Nat, i ≤ m ∧ s19 = .int .i64 i ∧ Blk wr ub (usL ns i) ∧ Below w.heap.size w wr) (fun s19 _ => m - (intOf s19).toNat)
  case atStart => exact ⟨0, Nat.zero_le _, rfl, H2.out.2.1, H2.out.2.2⟩
  case round =>
    obtain ⟨i, hi, rfl, hU, hB⟩ := hrel
    have HU := Lib.hid hU; have HB := Lib.hid hB
    clear hU hB H2
    by_cases him : i < m
    · have himi : (i : Int) < (m : Int) := by omega
      have him2 : i < ns.length := by rw [← HM.out]; exact him
      obtain ⟨n, hn⟩ : ∃ n, ns[i]? = some n := ⟨_, List.getElem?_eq_getElem him2⟩
      obtain ⟨b, off, rfl, hna, hnb⟩ := HH.out.get hn
      have hna2 := hna.past HB.out
      obtain ⟨op, ins, ints, reals, ia, ic, na, nc, ra, rc⟩ := n
      obtain ⟨k, hk27, hop, hk, -, hni, -, -, hpe⟩ := nd_ok hn (fstN_zero HZ0.out.2.2.1 i him2)
      have HSR := Lib.hid (fun s => srcO_at (s := s) hn hk)
      have HNA := Lib.hid hna
      simp only at hop hk hni hpe
      have c0 : wr.cell? ⟨b, off + i * 4, none⟩ = some (.string op) := hna2.c0
      have c1 : wr.cell? ⟨b, off + i * 4 + 1, none⟩ = some (.slice ia ins.length ic) := hna2.c1
      have c2 : wr.cell? ⟨b, off + i * 4 + 2, none⟩ = some (.slice na ints.length nc) := hna2.c2
      have c3 : wr.cell? ⟨b, off + i * 4 + 3, none⟩ = some (.slice ra reals.length rc) := hna2.c3
      have l0 := cell_lt c0; simp only at l0
      have HOP := Lib.hid (And.intro hop (And.intro hni hpe))
      clear hn hna hnb hna2 hk him2 hop hni hpe
      go_upto_region 8 with fail
      refine wp_world (fun W4 hW4 => ?_)
      have H4p : Blk W4 wr.heap.size [.string op, .slice ia ins.length ic, .slice na ints.length nc, .slice ra reals.length rc] ∧ Below wr.heap.size wr W4 := by rw [hW4]; exact ⟨Blk.new _ _ _ _ rfl, by (repeat (first | exact Below.refl _ _ | assumption | (refine Below.setCell ?_ (by first | (simp; done) | (simp; omega) | omega) _) | (refine Below.drew ?_) | (refine below_drewN ?_ _) | (refine Below.alloc ?_ (by first | (simp; done) | (simp; omega) | omega) _) | (refine Below.trans ?_ (Below.mono (by assumption) (by first | (simp; done) | (simp; omega) | omega)))))⟩
      obtain ⟨nb, hnb⟩ : ∃ nb, nb = wr.heap.size := ⟨_, rfl⟩
      have H4 : Hid (Blk W4 nb [.string op, .slice ia ins.length ic, .slice na ints.length nc, .slice ra reals.length rc] ∧ Blk W4 ub (usL ns i) ∧ Below w.heap.size w W4) := Lib.hid ⟨by rw [hnb]; exact H4p.1, HU.out.past H4p.2, HB.out.trans (H4p.2.mono HB.out.size)⟩
      rw [← hnb]
      clear hW4 c0 c1 c2 c3 l0 hnb H4p HB HU
      have m0 := H4.out.1.c 0 _ rfl; have m2 := H4.out.1.c 2 _ rfl; have ml := H4.out.1.lt
      have hs : (op.toList == [115, 111, 117, 114, 99, 101]) = (k == 0) := by rw [HOP.out.1]; exact src_name hk27
      by_cases hk0 : k = 0
      · subst hk0
        have hs1 : (op.toList == [115, 111, 117, 114, 99, 101]) = true := hs
        obtain ⟨i1, rfl⟩ : ∃ i1, ints = [i1] := by
          have h1 : (ints.length : Int) = 1 := HOP.out.2.1
          match ints, h1 with
          | [i1], _ => exact ⟨i1, rfl⟩
        have hr := paE_0 HOP.out.2.2
        simp only [List.getD_eq_getElem?_getD, List.getElem?_cons_zero, Option.getD_some] at hr
        obtain ⟨x, hx⟩ : ∃ x : Nat, i1 = (x : Int) := ⟨i1.toNat, by omega⟩
        subst hx
        have hx8 : x < 8 := by omega
        have hx8i : (x : Int) < 8 := by omega
        obtain ⟨bi, oi, rfl, ci⟩ := (HNA.out.k.past H4.out.2.2).one (i := 0) rfl
        rw [Nat.add_zero] at ci
        have li := cell_lt ci; simp only at li
        have u0 := H4.out.2.1.c x _ (usL_at ns i hx8)
        have u1 := H4.out.2.1.f x
        have ul := H4.out.2.1.lt
        have HUS := Lib.hid (usL_set ns i x hx8 (fun s => by
          rw [HSR.out s]
          simp only [List.getD_eq_getElem?_getD, List.getElem?_cons_zero, Option.getD_some, beq_self_eq_true, Bool.true_and]
          by_cases e : s = x
          · subst e; simp
          · rw [decide_eq_false e]
            exact beq_false_of_ne (fun e2 => e (by omega))))
        clear hs hr
        go_wp2_with fail
        go_roundw
        case rel => exact ⟨i + 1, by omega, by go_num, by rw [HUS.out]; exact H4.out.2.1.set x _, H4.out.2.2.setCell HNE.out _⟩
        case measure => simp [intOf] <;> omega
      · have hs1 : (op.toList == [115, 111, 117, 114, 99, 101]) = false := by rw [hs]; exact beq_false_of_ne hk0
        have HUS := Lib.hid (usL_same ns i (fun s => by rw [HSR.out s, beq_false_of_ne hk0]; rfl))
        clear hs
        go_wp2_with fail
        go_roundw
        case rel => exact ⟨i + 1, by omega, by go_num, by rw [HUS.out]; exact H4.out.2.1, H4.out.2.2⟩
        case measure => simp [intOf] <;> omega
    · have himi : ¬ (i : Int) < (m : Int) := by omega
      obtain rfl : i = m := by omega
      have HUF : Hid (∀ s, s < 8 → wr.cell? ⟨ub, s, none⟩ = some (.bool (f s))) := Lib.hid (fun s hs => by rw [HU.out.c s _ (usL_at ns i hs), HFF.out s])
      have ul := HU.out.lt
      have u0 := HUF.out 0 (by decide); have u1 := HUF.out 1 (by decide); have u2 := HUF.out 2 (by decide); have u3 := HUF.out 3 (by decide)
      have u4 := HUF.out 4 (by decide); have u5 := HUF.out 5 (by decide); have u6 := HUF.out 6 (by decide); have u7 := HUF.out 7 (by decide)
      go_wp2_with fail
      clear u0 u1 u2 u3 u4 u5 u6 u7 ul
      obtain ⟨arr, harr⟩ : ∃ arr, arr = Value.agg #[.bool (f 0), .bool (f 1), .bool (f 2), .bool (f 3), .bool (f 4), .bool (f 5), .bool (f 6), .bool (f 7)] := ⟨_, rfl⟩
      have HIX : Hid (∀ k : Nat, k < 8 → ∀ w, (Instr.index 84 arr (.int .i64 (k : Int))).run Tryz.prog w = .ok (.bool (f k)) w) := Lib.hid (fun k hk w => by
        rw [harr]
        have hk8 : k = 0 ∨ k = 1 ∨ k = 2 ∨ k = 3 ∨ k = 4 ∨ k = 5 ∨ k = 6 ∨ k = 7 := by omega
        rcases hk8 with rfl | rfl | rfl | rfl | rfl | rfl | rfl | rfl
        · exact idx8_0 _ _ _ _ _ _ _ _ w
        · exact idx8_1 _ _ _ _ _ _ _ _ w
        · exact idx8_2 _ _ _ _ _ _ _ _ w
        · exact idx8_3 _ _ _ _ _ _ _ _ w
        · exact idx8_4 _ _ _ _ _ _ _ _ w
        · exact idx8_5 _ _ _ _ _ _ _ _ w
        · exact idx8_6 _ _ _ _ _ _ _ _ w
        · exact idx8_7 _ _ _ _ _ _ _ _ w)
      rw [← harr]
      clear harr
      go_loopw [8, 33] (fun s8 s33 wr => ∃ (k : Nat) (u : Value), k ≤ 8 ∧ s33 = .int .i64 k ∧ u = s8 ∧ NmR w wr u (nmZ f k)) (fun _ s33 _ => 8 - (intOf s33).toNat)
      case atStart => exact ⟨0, _, Nat.zero_le _, rfl, rfl, ⟨World.ownsRow_nil _ _ _ _, HB.out⟩⟩
      case round =>
        obtain ⟨k, u, hk, rfl, rfl, hM⟩ := hrel
        have HMM := Lib.hid hM
        clear hM
        by_cases hin : k < 8
        · have HF := Lib.hid (show nmZ f (k + 1) = if f k = true then nmZ f k ++ [(k : Int)] else nmZ f k from rfl)
          have hL := nmZ_len f k
          have hbs := HMM.out.bel.size
          obtain ⟨L, hLL⟩ : ∃ L, L = nmZ f k := ⟨_, rfl⟩
          rw [← hLL] at HMM HF hL
          clear hLL
          have hini : (k : Int) < 8 := by omega
          have j0 := HIX.out k hin
          obtain ⟨b, hb⟩ : ∃ b, b = f k := ⟨_, rfl⟩
          rw [← hb] at j0 HF
          clear hb
          cases b
          · go_wp2_with fail
            go_roundw
            case rel => exact ⟨k + 1, _, by omega, by go_num, rfl, by rw [HF.out]; simpa using HMM.out⟩
            case measure => simp [intOf] <;> omega
          · go_wp2_with (first | (at_builtin; refine wpList_append_lies _ rfl _ _ _ rfl w.heap.size 3 i0 (.int .i64 0) 1 8 Tryz.underlying25 hi0 hz0 hz1 hz2 rfl (by decide) u L.length (L.map (Value.int .i64)) rfl (own_past HMM.out.own (by (repeat (first | exact Below.refl _ _ | assumption | (refine Below.setCell ?_ (by first | (simp; done) | (simp; omega) | omega) _) | (refine Below.drew ?_) | (refine below_drewN ?_ _) | (refine Below.alloc ?_ (by first | (simp; done) | (simp; omega) | omega) _) | (refine Below.trans ?_ (Below.mono (by assumption) (by first | (simp; done) | (simp; omega) | omega))))))) ⟨wr.heap.size, 0, none⟩ 1 1 [.int .i64 k] rfl rfl (by intro j u hj; match j, hj with | 0, hj => (simp at hj; subst hj; simp [Addr.add])) (by intro u hu; simp at hu; subst hu; rfl) (by decide) (by unfold maxLen; omega) (by omega) (by simp; omega) _ rfl ?_; intro g' cap w7 hown hgrow hat hlt))
            have HN := Lib.hid (NmR.app HMM.out (by (repeat (first | exact Below.refl _ _ | assumption | (refine Below.setCell ?_ (by first | (simp; done) | (simp; omega) | omega) _) | (refine Below.drew ?_) | (refine below_drewN ?_ _) | (refine Below.alloc ?_ (by first | (simp; done) | (simp; omega) | omega) _) | (refine Below.trans ?_ (Below.mono (by assumption) (by first | (simp; done) | (simp; omega) | omega)))))) hown hgrow)
            clear hown hgrow hat hlt
            go_roundw
            case rel => exact ⟨k + 1, _, by omega, by go_num, rfl, by rw [HF.out]; simpa using HN.out⟩
            case measure => simp [intOf] <;> omega
        · have hini : ¬ (k : Int) < 8 := by omega
          obtain rfl : k = 8 := by omega
          go_wp2_with fail
          go_ret2
          exact ⟨_, rfl, HMM.out⟩
end Go.Proofs.YtbclecoblcfboaaGreatDoor
