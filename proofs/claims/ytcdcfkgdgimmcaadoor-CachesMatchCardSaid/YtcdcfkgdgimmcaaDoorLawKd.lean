/- CachesMatch: the walk of the loop. Conditions: what the arguments are. -/
import Derived.Test.YtcdcfkgdgimmcaaDoorKcB
import Derived.Deep.LoopGhost
namespace Go.Proofs.YtcdcfkgdgimmcaaDoor
open Go Go.RowKit
set_option maxRecDepth 100000 in
set_option maxHeartbeats 12800000 in
theorem kc_main (most : Int) (ca na fa : Option Addr) (ncl nn fn cc nc fc : Nat) (z0 z1 : Nat → Int) (ss : Nat → ByteArray) (fr : Nat → Fr) (w : World) (hm : 1 ≤ most ∧ most ≤ 16777216) (hC : IsPairs w ca ncl cc z0 z1) (hN : IsNames w na nn nc ss) (hF : IsFrames w fa fn fr) (hFc : ∀ q, q < fn → (fr q).an ≤ (fr q).ac ∧ (fr q).ac ≤ maxLen) (h2 : 0 < nn) (h3 : 0 < fn) (h1 : ncl ≤ 100) :
    Calls Tryd.prog 3 #[.int .i64 most, .slice ca ncl cc, .slice na nn nc, .slice fa fn fc] w fun e w' => e = .returned (.bool true) ∧ Below w.heap.size w w' := by
  have HN := Lib.hid (NewCache_yes most w hm)
  have hin : inB most 1 16777216 = true := by unfold inB; rw [Bool.and_eq_true, decide_eq_true_eq, decide_eq_true_eq]; exact hm
  have HA := Lib.hid (And.intro hC (And.intro hN hF))
  have HFC := Lib.hid hFc
  have hnb : nn ≤ 9223372036854775807 := by have := hN.1; have := hN.2.1; unfold maxLen at this; omega
  have hfb : fn ≤ 9223372036854775807 := by have := hF.1; unfold maxLen at this; omega
  have hn0 : ((nn : Int) == 0) = false := by rw [beq_eq_false_iff_ne]; omega
  have hf0 : ((fn : Int) == 0) = false := by rw [beq_eq_false_iff_ne]; omega
  have hc1 : ¬ (100 : Int) < (ncl : Int) := by omega
  have hcc := hC.1
  clear hC hN hF hFc
  go_enter Tryd.func3, Tryd.ntmps3
  go_upto_region 4 with (first
    | (go_at_call 7; refine HN.out.mono ?_; rintro e w1 ⟨c, rfl, hc⟩; have HC := Lib.hid hc; clear hc)
    | (go_at_call 8; refine (In_any _ _ _ _).mono ?_; rintro e w2 ⟨rfl, rfl⟩; rw [hin]))
  have HB : Hid (Below w.heap.size w w1) := Lib.hid (by obtain ⟨mb, -, -, -, hb⟩ := HC.out; exact hb)
  go_upto_region 8 with ((go_at_call 9; refine (farms_any _).mono ?_; rintro e w3 ⟨rfl, hb3⟩; have HB3 := Lib.hid hb3; clear hb3))
  have HK : Hid (AtK w w3 most c 0 0 0 (.slice none 0 0)) := Lib.hid (by
    obtain ⟨mb, hc, hc1, hc2, hb⟩ := HC.out
    exact ⟨Nat.le_refl _, Nat.le_refl _, mb, 0, .slice none 0 0, [], Nat.le_refl _, Nat.le_refl _, (LkR.mk (L := []) (E := []) (lv := .slice none 0 0) hc ⟨RowV.nil _ _, by simp, by simp [Value.ownBlock], by simp⟩ hb hc1 hc2 (by simp [Value.ownBlock]) (by simp [Value.ownBlock])).past HB3.out⟩)
  clear HC HB HB3 HN hin
  go_wp2_with fail
  refine wp_loop_ghost_k (fun gk a wr => ∃ (l : List Value) (k hi mi : Nat) (ao : Option Addr) (ln cp : Nat), a = ⟨l.toArray, []⟩ ∧ AtC most ca ncl cc na nn nc fa fn fc c k (.slice ao ln cp) (.int .i64 hi) (.int .i64 mi) l ∧ k ≤ ncl ∧ ncl - k < gk ∧ AtK w wr most c k hi mi (.slice ao ln cp)) (ncl + 1) ?atStart ?round
  case atStart => exact ⟨_, 0, 0, 0, none, 0, 0, rfl, ⟨rfl, rfl, rfl, rfl, rfl, rfl, rfl, rfl, rfl, rfl, rfl, rfl⟩, Nat.zero_le _, by omega, HK.out⟩
  case round =>
    intro gk a wr hinv J K hJ hK9
    obtain ⟨l, k, hi, mi, ao, ln, cp, rfl, hAC, hk, hgk, hAt⟩ := hinv
    obtain ⟨us, rfl⟩ := hAC.out
    have HGK := Lib.hid hgk
    clear hAC hgk
    have HT := Lib.hid hAt
    clear hAt HK
    by_cases hkn : k < ncl
    · have hB := (show Below w.heap.size w wr by obtain ⟨-, -, mb, N, ks, E, -, -, h⟩ := HT.out; exact h.B)
      obtain ⟨b1, o1, rfl, hp1⟩ := HA.out.1.2.2 (by omega)
      obtain ⟨b2, o2, rfl, hp2⟩ := HA.out.2.1.2.2 (by omega)
      obtain ⟨x1, x2, x3⟩ := hp1 k hkn
      have d0 := (hB.cell (p := ⟨b1, o1 + k * 2, none⟩) (cell_lt x1)).trans x1
      have d1 := (hB.cell (p := ⟨b1, o1 + k * 2 + 1, none⟩) (cell_lt x2)).trans x2
      have dl := cell_lt d0; simp only at dl
      have HP2 := Lib.hid (And.intro hp2 hB)
      clear hp1 hp2 x1 x2 hB
      generalize z0 k = y0 at *
      generalize z1 k = y1 at *
      obtain ⟨q2, hq2, hq2n⟩ := mod_q y1 nn h2 hnb
      obtain ⟨q3, hq3, hq3n⟩ := mod_q (y1.tdiv 7) fn h3 hfb
      have hyw := tdiv7_bd y1 x3
      obtain ⟨hn2, hn2s⟩ := HP2.out.1 q2 hq2n
      obtain ⟨b3, o3, rfl, hp3⟩ := HA.out.2.2.2.1.1 (by omega)
      have hf3 := hp3 q3 hq3n
      have hfr := HA.out.2.2.2.1.2 q3 hq3n
      have hfx := HA.out.2.2.2.2 q3 hq3n
      have e2 := (HP2.out.2.cell (p := ⟨b2, o2 + q2, none⟩) (cell_lt hn2)).trans hn2
      have e2l := cell_lt e2; simp only at e2l
      have e3 : ∀ j v, (frV (fr q3))[j]? = some v → wr.cell? ⟨b3, o3 + q3 * 5 + j, none⟩ = some v := fun j v hj => (HP2.out.2.cell (p := ⟨b3, o3 + q3 * 5 + j, none⟩) (cell_lt (hf3 j v hj))).trans (hf3 j v hj)
      have hfc := HFC.out q3 hq3n
      have HFR := Lib.hid (And.intro hfr (And.intro hfx hn2s))
      have HFD := Lib.hid hfc
      clear hn2 hf3 hp3 hfr hfx hn2s hfc
      generalize ss q2 = nm at *
      generalize fr q3 = F at *
      obtain ⟨fx, fy, fv, fh, fa, fm, fcp, ffs⟩ := F
      have f0 := e3 0 _ rfl; have f1 := e3 1 _ rfl; have f2 := e3 2 _ rfl; have f3 := e3 3 _ rfl; have f4 := e3 4 _ rfl
      rw [Nat.add_zero] at f0
      have fl := cell_lt f0; simp only at fl
      clear e3
      go_upto_region 13 with fail
      refine wp_world (fun W hW => ?_)
      have B0 : Below wr.heap.size wr W := by rw [hW]; (repeat (first | exact Below.refl _ _ | assumption | (refine Below.setCell ?_ (by first | (simp; done) | (simp; omega) | omega) _) | (refine Below.drew ?_) | (refine below_drewN ?_ _) | (refine Below.alloc ?_ (by first | (simp; done) | (simp; omega) | omega) _) | (refine Below.trans ?_ (Below.mono (by assumption) (by first | (simp; done) | (simp; omega) | omega)))))
      have XB : Blk W wr.heap.size [.int .i64 y0, .int .i64 y1] := by rw [hW]; exact ((Blk.new _ _ _ _ rfl).alloc _).alloc _
      have NB : Blk W (wr.heap.size + 1) [.string nm] := by rw [hW]; exact (Blk.new _ _ _ _ (by simp)).alloc _
      have FB : Blk W (wr.heap.size + 1 + 1) [.int .i64 fx, .int .i64 fy, .int .i64 fv, .int .i64 fh, .slice fa fm fcp] := by rw [hW]; exact Blk.new _ _ _ _ (by simp)
      obtain ⟨th, tm, mb, N, ks, E, tN, tE, tL⟩ := HT.out
      have H0 := Lib.hid (And.intro XB (And.intro NB (And.intro FB (And.intro (tL.past B0) (And.intro th (And.intro tm (And.intro tN tE)))))))
      have HSX := Lib.hid tL.bd
      obtain ⟨xb, hxb⟩ : ∃ xb, xb = wr.heap.size := ⟨_, rfl⟩
      rw [← hxb] at H0 HSX ⊢
      have hxB : w.heap.size ≤ xb := by have := tL.B.size; omega
      clear hW B0 XB NB FB th tm tN tE tL HT hxb hq2 hq3 hyw e2 e2l d0 d1 dl f0 f1 f2 f3 f4 fl HP2 hq2n hq3n x3
      obtain ⟨r3, hr3, hr30, hr32⟩ := mod_3 y0
      go_upto_block 2 with (go_at_call 10; refine (idxF_any _ E nm (xb + 1) _ H0.out.2.2.2.1.K.row H0.out.2.1).mono ?_; rintro e w4 ⟨rfl, hb4⟩; have HB4 := Lib.hid hb4; have hx := H0.out.1.past hb4; have x0 := hx.c 0 _ rfl; have xl := hx.lt; clear hb4 hx)
      have xB := H0.out.1.past HB4.out
      have H1 := Lib.hid (And.intro (H0.out.2.1.past HB4.out) (And.intro (H0.out.2.2.1.past HB4.out) (And.intro (H0.out.2.2.2.1.past HB4.out) H0.out.2.2.2.2)))
      obtain ⟨pz, hpz⟩ : ∃ pz, pz = posI nm (E.map KA.k) := ⟨_, rfl⟩
      rw [← hpz]
      have HPZ := Lib.hid hpz
      have HXB := Lib.hid xB
      clear xB HB4 H0 hpz x0 xl
      refine wp_cut (fun a wx => ∃ (l : List Value) (hi' mi' : Nat) (ao' : Option Addr) (ln' cp' : Nat), a = ⟨l.toArray, []⟩ ∧ AtC most (some ⟨b1, o1, none⟩) ncl cc (some ⟨b2, o2, none⟩) nn nc (some ⟨b3, o3, none⟩) fn fc c k (.slice ao' ln' cp') (.int .i64 hi') (.int .i64 mi') l ∧ AtK w wx most c (k + 1) hi' mi' (.slice ao' ln' cp')) ?restZ ?firstZ
      case firstZ =>
        intro J9 K9 hJ9 hK9
        exact kcB2 hm hkn h1 HFR HFD HSX H1 HPZ hr30 hr32 (fun p d v a w h => by cases d <;> exact h) ⟨rfl, rfl, rfl, rfl, rfl, rfl, rfl, rfl, rfl, rfl, rfl, rfl⟩ rfl rfl rfl rfl rfl (fun a w h => hK9 a w (hJ9 a w h))
      case restZ =>
        intro a wc hcut
        obtain ⟨l, hi', mi', ao', ln', cp', rfl, hA0, hA⟩ := hcut
        obtain ⟨us, rfl⟩ := hA0.out
        clear hA0
        obtain ⟨t1, t2, mb', N', ks', E', t3, t4, tL⟩ := hA
        obtain ⟨lnE, lnC, lnM⟩ : ln' = E'.length ∧ ln' ≤ cp' ∧ cp' ≤ maxLen := by obtain ⟨-, ao2, cap2, e, e2, e3, -⟩ := tL.K.row; injection e with e4 e5 e6; subst e5; subst e6; exact ⟨rfl, e2, e3⟩
        have hcp' : cp' ≤ 9223372036854775807 := by unfold maxLen at lnM; omega
        have hln' : ln' ≤ 100 := by omega
        have HL := Lib.hid (And.intro tL (And.intro lnE (And.intro t1 (And.intro t2 (And.intro t3 t4)))))
        obtain ⟨i0, hi0, hz0, hz1, hz2⟩ := info_parts infoStr
        clear tL lnE lnM t1 t2 t3 t4 H1 HXB HFR HPZ hr3 hr30 hr32
        go_upto_region 41 with fail
        go_wp2_with fail
        go_loopw [23, 214] (fun s23 s214 wr => ∃ (j : Nat) (ak : Option Addr) (ck : Nat), j ≤ ln' ∧ s214 = .int .i64 j ∧ s23 = .slice ak j ck ∧ RowV wr 1 (.slice ak j ck) j (((E'.map KA.k).take j).flatMap nmC) ∧ (∀ b, (Value.slice ak j ck).ownBlock = some b → wc.heap.size ≤ b) ∧ Below wc.heap.size wc wr) (fun _ s214 _ => ln' - (intOf s214).toNat)
        case atStart => exact ⟨0, none, 0, Nat.zero_le _, rfl, rfl, by simpa using RowV.nil _ _, by simp [Value.ownBlock], Below.refl _ _⟩
        case round =>
          obtain ⟨j, ak, ck, hj, rfl, rfl, jR, jO, jB⟩ := hrel
          have HJ := Lib.hid (And.intro jR (And.intro jO jB))
          clear jR jO jB
          by_cases hjn : j < ln'
          · obtain ⟨x, hx⟩ : ∃ x, E'[j]? = some x := ⟨_, List.getElem?_eq_getElem (by have := HL.out.2.1; omega)⟩
            obtain ⟨b, off, cap', e, -, -, hbl, hc⟩ := ka_at (HL.out.1.past HJ.out.2.2).K.row hx
            injection e with e1 e2 e3
            subst e1; subst e3
            clear e2
            have HX := Lib.hid (show (E'.map KA.k)[j]? = some x.k by rw [List.getElem?_map, hx]; rfl)
            have d0 := hc 0 _ rfl; have d1 := hc 1 _ rfl; have d2 := hc 2 _ rfl; have d3 := hc 3 _ rfl; have d4 := hc 4 _ rfl; have d5 := hc 5 _ rfl
            rw [Nat.add_zero] at d0
            have hwr := HJ.out.2.2.size
            clear hx hc
            go_wp2_with (at_builtin; refine wpList_append_row (v := .slice ak j ck) _ rfl _ _ 23 rfl Tryd.underlying23 hi0 hz0 hz1 hz2 rfl (by decide) rfl (HJ.out.1.past (((Below.refl _ _).alloc (Nat.le_refl _) _).alloc (by simp) _)) ⟨wr.heap.size + 1, 0, none⟩ 1 [.string x.k.nm] rfl rfl (by intro j u hj; match j, hj with | 0, hj => (simp at hj; subst hj; simp [Addr.add])) (by intro u hu; simp at hu; subst hu; rfl) (by unfold maxLen; omega) (by omega) ?_; intro ao6 cap6 w6 hR6 hG6 ho6; have H6 := Lib.hid (And.intro hR6 (And.intro hG6 ho6)); clear hR6 hG6 ho6)
            go_roundw
            case rel =>
              have hb6 : Below wc.heap.size wc w6 := (((HJ.out.2.2.alloc (by omega) _).alloc (by simp; omega) _).grown H6.out.2.1 (by simp; omega) (fun b hb => HJ.out.2.1 b hb))
              refine ⟨j + 1, ao6, cap6, by omega, by go_num, rfl, ?_, fun b hb => ?_, hb6⟩
              · rw [List.take_add_one, HX.out, List.flatMap_append]
                have e : [x.k.nm].map Value.string = (some x.k).toList.flatMap nmC := by simp [nmC]
                simpa [nmC] using H6.out.1
              · rcases H6.out.2.2 with e | e
                · exact HJ.out.2.1 b (e ▸ hb)
                · have := e b hb; simp at this; omega
            case measure => simp [intOf]; omega
          · have hje : j = ln' := by omega
            subst hje
            have hL0 := HL.out.1.past HJ.out.2.2
            have hlen : E'.length ≤ 1000 := by have := HL.out.2.1; omega
            have hlenL : (E'.map KA.k).length ≤ 1000 := by simpa using hlen
            have hrow : RowV wr 1 (.slice ak j ck) (E'.map KA.k).length ((E'.map KA.k).flatMap nmC) := by
              have h := HJ.out.1
              rw [List.take_of_length_le (by have := HL.out.2.1; simp; omega)] at h
              rw [List.length_map, ← HL.out.2.1]; exact h
            obtain ⟨P, hP⟩ : ∃ P, P = pixL (E'.map KA.k) := ⟨_, rfl⟩
            have HCO : Hid (∀ wx, Below wr.heap.size wr wx → Calls Tryd.prog 26 #[.pointer (some ⟨c, 0, none⟩)] wx fun e w' => e = .returned (.tuple #[.int .i64 hi', .int .i64 mi']) ∧ Below wx.heap.size wx w') := Lib.hid (fun wx hx => Counts_any _ _ _ _ _ _ _ _ _ wx (hL0.past hx).C)
            have HSI : Hid (∀ wx, Below wr.heap.size wr wx → Calls Tryd.prog 27 #[.pointer (some ⟨c, 0, none⟩)] wx fun e w' => e = .returned (.int .i64 P) ∧ w' = wx) := Lib.hid (fun wx hx => by rw [hP]; exact Size_any _ _ _ _ _ _ _ _ _ wx (hL0.past hx).C)
            have HPI : Hid (∀ wx, Below wr.heap.size wr wx → Calls Tryd.prog 21 #[.slice ao' j cp'] wx fun e w' => e = .returned (.int .i64 P) ∧ Below wx.heap.size wx w') := Lib.hid (fun wx hx => by rw [hP]; exact pixels_any _ E' wx (hL0.past hx).K.row (hL0.past hx).K.ok hlen)
            have HKY : Hid (∀ wx, Below wr.heap.size wr wx → Calls Tryd.prog 29 #[.pointer (some ⟨c, 0, none⟩)] wx fun e w' => ∃ v', e = .returned v' ∧ RowV w' 1 v' (E'.map KA.k).length ((E'.map KA.k).flatMap nmC) ∧ Below wx.heap.size wx w') := Lib.hid (fun wx hx => Keys_any _ _ _ _ _ _ _ _ _ wx (hL0.past hx).C hlenL)
            have HRO := Lib.hid (And.intro hrow HL.out.1.B)
            clear hL0 hlen hlenL hrow hP
            go_wp2_with (first
              | (go_at_call 26; refine (HCO.out _ (Below.refl _ _)).mono ?_; rintro e w7 ⟨rfl, hb7⟩; have HB7 := Lib.hid hb7; clear hb7)
              | (go_at_call 27; refine (HSI.out _ HB7.out).mono ?_; rintro e w8 ⟨rfl, rfl⟩)
              | (go_at_call 21; refine (HPI.out _ HB7.out).mono ?_; rintro e w9 ⟨rfl, hb9⟩; have HB9 := Lib.hid (HB7.out.trans (hb9.mono HB7.out.size)); clear hb9)
              | (go_at_call 29; refine (HKY.out _ HB9.out).mono ?_; rintro e w10 ⟨v10, rfl, hR10, hb10⟩; have HB10 := Lib.hid (And.intro hR10 (HB9.out.trans (hb10.mono HB9.out.size))); clear hR10 hb10)
              | (go_at_call 28; refine (eqNm_any _ _ _ _ HB10.out.1 (HRO.out.1.past HB10.out.2)).mono ?_; rintro e w11 ⟨rfl, hb11⟩; have HB11 := Lib.hid (HB10.out.2.trans (hb11.mono HB10.out.2.size)); clear hb11))
            refine Handed.intro (ncl - k) HGK.out ?_
            go_step
            exact ⟨_, k + 1, hi', mi', ao', j, cp', rfl, ⟨rfl, rfl, rfl, rfl, rfl, rfl, rfl, rfl, rfl, rfl, rfl, congrArg some (by go_num : (_ : Value) = _)⟩, by omega, by omega, HL.out.2.2.1, HL.out.2.2.2.1, mb', N', ks', E', HL.out.2.2.2.2.1, HL.out.2.2.2.2.2, HL.out.1.past (HJ.out.2.2.trans (HB11.out.mono HJ.out.2.2.size))⟩
    · have hke : k = ncl := by omega
      subst hke
      have hB := (show Below w.heap.size w wr by obtain ⟨-, -, mb, N, ks, E, -, -, h⟩ := HT.out; exact h.B)
      have HB := Lib.hid hB
      clear hB
      go_wp2_with fail
      go_ret
      exact ⟨rfl, HB.out⟩
end Go.Proofs.YtcdcfkgdgimmcaaDoor
