/- dyetop.TopWorks: the walk. Conditions: what each theorem names. -/
import Derived.Test.YtkadinjhfldokaaTwA
namespace Go.Proofs.Ytkadinjhfldokaa
open Go Go.RowKit Go.Maps
section
variable {aw : Option Addr} {cw : Nat} {am : Option Addr} {cm : Nat} {D : SimD}
set_option maxRecDepth 100000 in
set_option maxHeartbeats 3200000 in
theorem TopWorks_err (w : World) (E : Int) (hE : E ≠ 0) (h : Calls Try.prog 5 #[.slice aw D.nw cw, .slice am D.nm cm, .int .i64 D.tr] w fun e w' => e = .returned (.tuple #[.slice none 0 0, .int .i64 E]) ∧ Below w.heap.size w w') :
    Calls Try.prog 4 #[.slice aw D.nw cw, .slice am D.nm cm, .int .i64 D.tr] w fun e w' => e = .returned (.bool true) ∧ Below w.heap.size w w' := by
  have HS := Lib.hid h
  have hb : (E != 0) = true := by simpa using hE
  clear h hE
  go_enter Try.func4, Try.ntmps4
  go_wp2_with (first | (go_at_call 16; refine (landedW_any _).mono ?_; rintro e w2 ⟨rfl, rfl⟩) | (go_at_call 5; refine (HS.out).mono ?_; rintro e w1 ⟨rfl, hB⟩; have HB := Lib.hid hB; clear hB))
  go_ret
  exact ⟨rfl, HB.out⟩
set_option maxRecDepth 100000 in
set_option maxHeartbeats 12800000 in
theorem TopWorks_yes (w : World) (hW : IsWorks w aw D.nw cw D.W) (hM : IsMachines w am D.nm cm D.M) (g : GoodD D) :
    Calls Try.prog 4 #[.slice aw D.nw cw, .slice am D.nm cm, .int .i64 D.tr] w fun e w' => e = .returned (.bool true) ∧ Below w.heap.size w w' := by
  have HS := Lib.hid (Simulate_yes w hW hM g)
  have HW := Lib.hid (And.intro hW (And.intro hM g))
  have hmm := @run_makeMap Try.prog
  clear hW hM g
  go_enter Try.func4, Try.ntmps4
  go_wp2_with (first | (go_at_call 16; refine (landedW_any _).mono ?_; rintro e w2 ⟨rfl, rfl⟩))
  refine (HS.out).mono ?_
  rintro e w1 ⟨⟨rv, rfl, hO⟩, hB⟩
  obtain ⟨k, q, ad, c, rfl, hk, hQ, hT⟩ := simOut_row HW.out.2.2 hO
  have HB := Lib.hid hB; have HQ := Lib.hid hQ; have HT := Lib.hid hT
  clear hB hQ hT hO HS
  by_cases hk3 : 300 < k
  · have hki : (300 : Int) < (k : Int) := by omega
    go_wp2_with fail
    go_ret
    exact ⟨rfl, HB.out⟩
  · have hki : ¬ (300 : Int) < (k : Int) := by omega
    have HQW := Lib.hid (fun (wy : World) (hy : Below w1.heap.size w1 wy) => And.intro (HQ.out.past hy) (And.intro (HW.out.1.below (HB.out.trans (hy.mono HB.out.size))) (HW.out.2.1.below (HB.out.trans (hy.mono HB.out.size)))))
    have HBZ := Lib.hid (And.intro HB.out HB.out.size)
    have hkc := HQ.out.1
    have hc63 := HQ.out.2.1
    have hn1 : D.nw ≤ 2000 := HW.out.2.2.work.1
    have hn2 : D.nm ≤ 64 := HW.out.2.2.mach.1.2
    go_upto_region 7 with fail
    refine wp_world (fun W hW => ?_)
    have B1 : Below w1.heap.size w1 W := by rw [hW]; (repeat (first | exact Below.refl _ _ | assumption | (refine Below.setCell ?_ (by first | (simp; done) | (simp; omega) | omega) _) | (refine Below.drew ?_) | (refine below_drewN ?_ _) | (refine Below.alloc ?_ (by first | (simp; done) | (simp; omega) | omega) _) | (refine Below.trans ?_ (Below.mono (by assumption) (by first | (simp; done) | (simp; omega) | omega)))))
    have O1 : W.ownsMap Try.prog 3 (plainElem (H := Unit) Try.prog 3) w1.heap.size 0 (.map []) := by rw [hW]; exact World.ownsMap_made _ _ _ _
    have z1 : w1.heap.size < W.heap.size := O1.lt
    obtain ⟨mb, hmb⟩ : ∃ mb, mb = w1.heap.size := ⟨_, rfl⟩
    rw [← hmb] at HQW B1 O1 z1 HBZ ⊢
    have H1 := Lib.hid (And.intro B1 (And.intro z1 O1))
    have HGD := Lib.hid HW.out.2.2
    clear hW B1 O1 z1 hmb HB HQ HW
    go_wp2_with fail
    go_loopw [53] (fun s53 wr => ∃ (i : Nat) (E : DataW Unit), i ≤ k ∧ s53 = .int .i64 i ∧ Below mb w1 wr ∧ mb < wr.heap.size ∧ wr.ownsMap Try.prog 3 (plainElem (H := Unit) Try.prog 3) mb i E ∧ EnR q i E) (fun s53 _ => k - (intOf s53).toNat)
    case atStart => exact ⟨0, .map [], Nat.zero_le _, rfl, H1.out.1, H1.out.2.1, H1.out.2.2, EnR.start q⟩
    case round =>
      obtain ⟨i, E, hi, rfl, hB, hz, hO, hE⟩ := hrel
      have HR := Lib.hid (And.intro hB (And.intro hz (And.intro hO hE)))
      by_cases hik : i < k
      · have hiki : (i : Int) < (k : Int) := by omega
        obtain ⟨hQr, hWr, hMr⟩ := HQW.out wr hB
        obtain ⟨gg, rfl, hV⟩ := hQr.2.2 (by omega)
        obtain ⟨⟨mn, m1, m2⟩, ⟨wn, n1, n2⟩, hpr⟩ := HT.out.a i hik
        have c0 := hV.c0 i hik; have c1 := hV.c1 i hik; have c2 := hV.c2 i hik; have c3 := hV.c3 i hik; have c4 := hV.c4 i hik; have cl := hV.lt
        rw [n1] at c0
        rw [m1] at c1
        have HX := Lib.hid (And.intro m1 (And.intro n1 hpr))
        clear hB hO hE hQr hWr hMr hV m1 n1 hpr
        go_upto_if 60 with fail
        refine wp_world (fun W2 hW2 => ?_)
        have B2 : Below wr.heap.size wr W2 := by rw [hW2]; (repeat (first | exact Below.refl _ _ | assumption | (refine Below.setCell ?_ (by first | (simp; done) | (simp; omega) | omega) _) | (refine Below.drew ?_) | (refine below_drewN ?_ _) | (refine Below.alloc ?_ (by first | (simp; done) | (simp; omega) | omega) _) | (refine Below.trans ?_ (Below.mono (by assumption) (by first | (simp; done) | (simp; omega) | omega)))))
        have N2 : Blk W2 wr.heap.size (runL (q i)) := by
          unfold runL
          rw [HX.out.1, HX.out.2.1, hW2]
          exact Blk.new _ _ _ _ rfl
        have H2 := Lib.hid (And.intro B2 N2)
        have hzz : mb < W2.heap.size := by have := B2.size; omega
        have hna : wr.heap.size < W2.heap.size := N2.lt
        clear hW2 c0 c1 c2 c3 c4 cl B2 N2
        go_cut [13] (fun _ wx => Below mb w1 wx ∧ mb < wx.heap.size ∧ Blk wx wr.heap.size (runL (q i)) ∧ ∃ E', wx.ownsMap Try.prog 3 (plainElem (H := Unit) Try.prog 3) mb (i + 1) E' ∧ EnR q (i + 1) E')
        case first =>
          cases hfl : (q i).fl with
          | true =>
            have HF := Lib.hid hfl
            clear hfl
            go_wp2_with fail
            go_meet
            exact ⟨HR.out.1.trans (H2.out.1.mono (by omega)), hzz, H2.out.2, E, (ownsMap_block HR.out.2.2.1 (H2.out.1.block mb hz)).mono (by omega), HR.out.2.2.2.skip HF.out⟩
          | false =>
            have HF := Lib.hid hfl
            have hno : Maps.has E (.int .i64 (wn : Int)) = false := by
              cases hh : Maps.has E (.int .i64 (wn : Int)) with
              | false => rfl
              | true =>
                obtain ⟨j, j1, j2, j3⟩ := (HR.out.2.2.2.has _).1 hh
                have := HT.out.once j i (by omega) hik j3 hfl (by rw [j2, HX.out.2.1])
                omega
            have hno2 := hno
            rw [← HX.out.2.1] at hno2
            have HN := Lib.hid hno2
            have hO2 := ownsMap_block HR.out.2.2.1 (H2.out.1.block mb hz)
            have a0 := H2.out.2.c 0 _ rfl; have a3 := H2.out.2.c 3 _ rfl
            rw [HX.out.2.1] at a0
            have hwf : -9223372036854775808 ≤ (q i).to ∧ (q i).to ≤ 9223372036854775807 := by have := HX.out.2.2.1; omega
            have hwt := litwf hwf
            have hwk := litwf (n := (wn : Int)) (by omega)
            generalize hto : (q i).to = xt at *
            have HTO := Lib.hid hto
            clear hfl hno2 hwf hto
            go_wp2_with (first
              | (at_lookup; refine wpList_lookup_own_ok_int _ rfl _ _ 39 rfl 3 3 .i64 lawK Try.underlying39 Try.underlying3 (zeroI _) mb i E rfl hO2 _ _ rfl (keyOf_int_mk Try.underlying3 hwk) ?_; intro cc hat hwc)
              | (at_mapUpdate; refine wpList_mapUpdate_own _ rfl _ _ _ 39 rfl 3 3 lawK Try.underlying39 _ mb i E rfl hO2 (by unfold maxLen; omega) _ _ _ rfl rfl (keyOf_int_mk Try.underlying3 hwk) _ [] (plainElem_int Try.underlying3 hwt) ?_; intro w3 hown3 hgrow3))
            go_meet
            have hput := HR.out.2.2.2.put (hO2.tidy lawK) HF.out HN.out
            rw [HX.out.2.1, HTO.out] at hput
            exact ⟨(HR.out.1.trans (H2.out.1.mono (by omega))).grown hgrow3 (by omega) (fun j hj => by cases hj; exact Nat.le_refl _), Nat.lt_of_lt_of_le hzz hgrow3.size, H2.out.2.grownO (Below.refl _ _) hgrow3 (by intro h; injection h with h; omega), _, hown3, hput⟩
        case rest =>
          obtain ⟨hb, hz', hN, E', hO', hE'⟩ := hcut
          obtain ⟨na, hna'⟩ : ∃ na, na = wr.heap.size := ⟨_, rfl⟩
          rw [← hna'] at hN ⊢
          have HC := Lib.hid (And.intro hb (And.intro hz' (And.intro hN (And.intro hO' hE'))))
          have hic : (i : Int) ≤ (c : Int) := by omega
          clear hb hz' hN hO' hE' hna' hna hzz H2 HR
          go_wp2_with fail
          go_loopw [78] (fun s78 wr => ∃ j : Nat, j ≤ i ∧ s78 = .int .i64 j ∧ Below wc.heap.size wc wr) (fun s78 _ => i - (intOf s78).toNat)
          case atStart => exact ⟨0, Nat.zero_le _, rfl, Below.refl _ _⟩
          case round =>
            obtain ⟨j, hj, rfl, hy⟩ := hrel
            have HY := Lib.hid hy
            have hbw : Below mb w1 wr := HC.out.1.trans (hy.mono (Nat.le_of_lt HC.out.2.1))
            have HBW := Lib.hid hbw
            obtain ⟨hQr, hWr, hMr⟩ := HQW.out wr hbw
            have hN := HC.out.2.2.1.past hy
            by_cases hji : j < i
            · have hjii : (j : Int) < (i : Int) := by omega
              obtain ⟨g', hg', hV⟩ := hQr.2.2 (by omega)
              injection hg' with hg'
              injection hg' with hg'
              subst hg'
              have hjk : j < k := by omega
              have c0 := hV.c0 j hjk; have c1 := hV.c1 j hjk; have c2 := hV.c2 j hjk; have c3 := hV.c3 j hjk; have c4 := hV.c4 j hjk; have cl := hV.lt
              have a1 := hN.c 1 _ rfl; have a2 := hN.c 2 _ rfl; have a3 := hN.c 3 _ rfl; have al := hN.lt
              have hlap := HT.out.lap i j hik hjk (by omega)
              have HL := Lib.hid hlap
              generalize q j = bq at *
              generalize hxi : q i = aq at *
              clear hy hbw hQr hWr hMr hN hV hlap hxi
              by_cases hmc : aq.mc = bq.mc
              · have hmc1 : (aq.mc == bq.mc) = true := by simpa using hmc
                by_cases hf1 : aq.fr < bq.to
                · have hf2 : ¬ bq.fr < aq.to := fun h => HL.out hmc ⟨hf1, h⟩
                  clear hmc
                  go_wp2_with fail
                  go_roundw
                  case rel => exact ⟨j + 1, by omega, by go_num, HY.out.trans (Below.mono (by (repeat (first | exact Below.refl _ _ | assumption | (refine Below.setCell ?_ (by first | (simp; done) | (simp; omega) | omega) _) | (refine Below.drew ?_) | (refine below_drewN ?_ _) | (refine Below.alloc ?_ (by first | (simp; done) | (simp; omega) | omega) _) | (refine Below.trans ?_ (Below.mono (by assumption) (by first | (simp; done) | (simp; omega) | omega)))))) HY.out.size)⟩
                  case measure => simp [intOf]; omega
                · clear hmc
                  go_wp2_with fail
                  go_roundw
                  case rel => exact ⟨j + 1, by omega, by go_num, HY.out.trans (Below.mono (by (repeat (first | exact Below.refl _ _ | assumption | (refine Below.setCell ?_ (by first | (simp; done) | (simp; omega) | omega) _) | (refine Below.drew ?_) | (refine below_drewN ?_ _) | (refine Below.alloc ?_ (by first | (simp; done) | (simp; omega) | omega) _) | (refine Below.trans ?_ (Below.mono (by assumption) (by first | (simp; done) | (simp; omega) | omega)))))) HY.out.size)⟩
                  case measure => simp [intOf]; omega
              · have hmc1 : (aq.mc == bq.mc) = false := by simpa using hmc
                clear hmc
                go_wp2_with fail
                go_roundw
                case rel => exact ⟨j + 1, by omega, by go_num, HY.out.trans (Below.mono (by (repeat (first | exact Below.refl _ _ | assumption | (refine Below.setCell ?_ (by first | (simp; done) | (simp; omega) | omega) _) | (refine Below.drew ?_) | (refine below_drewN ?_ _) | (refine Below.alloc ?_ (by first | (simp; done) | (simp; omega) | omega) _) | (refine Below.trans ?_ (Below.mono (by assumption) (by first | (simp; done) | (simp; omega) | omega)))))) HY.out.size)⟩
                case measure => simp [intOf]; omega
            · have hjii : ¬ (j : Int) < (i : Int) := by omega
              obtain ⟨bm, om, rfl, hcm⟩ := hMr.2.2 (by omega)
              have k1 : D.nm ≤ cm := hMr.1
              have k2 : cm ≤ 9223372036854775807 := by have := hMr.2.1; unfold maxLen at this; omega
              have hmi : (mn : Int) < (D.nm : Int) := by omega
              have mw := hcm mn m2
              have hcl := HT.out.clear i hik
              rw [HX.out.1, show ((mn : Int)).toNat = mn by omega] at hcl
              obtain ⟨K, hK⟩ : ∃ K, K = D.M mn := ⟨_, rfl⟩
              rw [← hK] at mw hcl
              obtain ⟨sp, da, dn, dc, df, dt⟩ := K
              have HCL := Lib.hid hcl
              have d1 := mw.2.1
              simp only at d1
              have dl := cell_lt d1; simp only at dl
              have HI := Lib.hid (show InS wr da dn dc df dt from mw.2.2.2)
              have a1 := hN.c 1 _ rfl; have al := hN.lt
              rw [HX.out.1] at a1
              clear hy hbw hQr hWr hMr hN hcm mw hcl hK
              go_wp2_with fail
              clear a1 al d1 dl
              go_loopw [109] (fun s109 wv => ∃ x : Nat, x ≤ dn ∧ s109 = .int .i64 x ∧ Below wr.heap.size wr wv) (fun s109 _ => dn - (intOf s109).toNat)
              case atStart => exact ⟨0, Nat.zero_le _, rfl, Below.refl _ _⟩
              case round =>
                obtain ⟨x, hx, rfl, hv⟩ := hrel
                have HV := Lib.hid (HY.out.trans (hv.mono HY.out.size))
                have HVV := Lib.hid hv
                have hN := HC.out.2.2.1.past HV.out
                have a2 := hN.c 2 _ rfl; have a3 := hN.c 3 _ rfl; have al := hN.lt
                by_cases hxd : x < dn
                · have hxdi : (x : Int) < (dn : Int) := by omega
                  obtain ⟨b2, off2, rfl, hcc⟩ := HI.out.2.2 (by omega)
                  have hac := HI.out.1
                  have hac2 : dc ≤ 9223372036854775807 := by have := HI.out.2.1; unfold maxLen at this; omega
                  obtain ⟨d0, d1, -, -⟩ := hcc x hxd
                  have e0 := (hv.cell (p := ⟨b2, off2 + x * 2, none⟩) (cell_lt d0)).trans d0
                  have e1 := (hv.cell (p := ⟨b2, off2 + x * 2 + 1, none⟩) (cell_lt d1)).trans d1
                  have el := cell_lt e0; simp only at el
                  have HL := Lib.hid (show ¬ ((q i).fr < dt x ∧ df x < (q i).to) from HCL.out x hxd)
                  clear hcc d0 d1 hv hN
                  generalize df x = zf at *
                  generalize dt x = zt at *
                  generalize (q i).fr = af at *
                  generalize (q i).to = at' at *
                  by_cases hf1 : af < zt
                  · have hf2 : ¬ zf < at' := fun h => HL.out ⟨hf1, h⟩
                    go_wp2_with fail
                    go_roundw
                    case rel => exact ⟨x + 1, by omega, by go_num, HVV.out.alloc HVV.out.size _⟩
                    case measure => simp [intOf]; omega
                  · go_wp2_with fail
                    go_roundw
                    case rel => exact ⟨x + 1, by omega, by go_num, HVV.out.alloc HVV.out.size _⟩
                    case measure => simp [intOf]; omega
                · have hxdi : ¬ (x : Int) < (dn : Int) := by omega
                  clear hv hN a2 a3 al
                  go_wp2_with fail
                  go_roundw
                  case rel => exact ⟨i + 1, E', by omega, by go_num, HC.out.1.trans (HV.out.mono (Nat.le_of_lt HC.out.2.1)), Nat.lt_of_lt_of_le HC.out.2.1 HV.out.size, ownsMap_block HC.out.2.2.2.1 (HV.out.block mb HC.out.2.1), HC.out.2.2.2.2⟩
                  case measure => simp [intOf]; omega
      · have hiki : ¬ (i : Int) < (k : Int) := by omega
        have hie : i = k := by omega
        subst hie
        clear hB hO hE
        have hz0 := HR.out.2.1
        go_wp2_with fail
        go_loopw [129] (fun s129 wv => ∃ a : Nat, a ≤ i ∧ s129 = .int .i64 a ∧ Below wr.heap.size wr wv) (fun s129 _ => i - (intOf s129).toNat)
        case atStart => exact ⟨0, Nat.zero_le _, rfl, Below.refl _ _⟩
        case round =>
          obtain ⟨a, ha, rfl, hy⟩ := hrel
          have HY := Lib.hid hy
          have hbw : Below mb w1 wr := HR.out.1.trans (hy.mono (Nat.le_of_lt HR.out.2.1))
          obtain ⟨hQr, hWr, hMr⟩ := HQW.out wr hbw
          by_cases hai : a < i
          · have haii : (a : Int) < (i : Int) := by omega
            obtain ⟨gg, rfl, hV⟩ := hQr.2.2 (by omega)
            obtain ⟨-, ⟨wn, n1, n2⟩, hpr⟩ := HT.out.a a hai
            have c0 := hV.c0 a hai; have c1 := hV.c1 a hai; have c2 := hV.c2 a hai; have c3 := hV.c3 a hai; have c4 := hV.c4 a hai; have cl := hV.lt
            rw [n1] at c0
            have hbeh := HT.out.beh a hai
            rw [n1, show ((wn : Int)).toNat = wn by omega] at hbeh
            obtain ⟨bw, ow, rfl, hcw⟩ := hWr.2.2 (by omega)
            have k1 : D.nw ≤ cw := hWr.1
            have k2 : cw ≤ 9223372036854775807 := by have := hWr.2.1; unfold maxLen at this; omega
            have hwi : (wn : Int) < (D.nw : Int) := by omega
            have mw := hcw wn n2
            obtain ⟨K, hK⟩ : ∃ K, K = D.W wn := ⟨_, rfl⟩
            rw [← hK] at mw hbeh
            obtain ⟨co, ra, aa, an, ac, az⟩ := K
            have d2 := mw.2.2.1
            simp only at d2 hbeh
            have dl := cell_lt d2; simp only at dl
            have HI := Lib.hid (show InI wr aa an ac az from mw.2.2.2.2.2)
            have HBE := Lib.hid hbeh
            have HFR := Lib.hid hpr.2.1
            clear hy hbw hQr hWr hMr hV hcw mw hK hbeh hpr n1
            generalize hfr : (q a).fr = af at *
            generalize (q a).to = at' at *
            generalize (q a).mc = am' at *
            generalize (q a).fl = al' at *
            clear hfr
            go_upto_region 31 with fail
            refine wp_world (fun W5 hW5 => ?_)
            have B5 : Below wr.heap.size wr W5 := by rw [hW5]; (repeat (first | exact Below.refl _ _ | assumption | (refine Below.setCell ?_ (by first | (simp; done) | (simp; omega) | omega) _) | (refine Below.drew ?_) | (refine below_drewN ?_ _) | (refine Below.alloc ?_ (by first | (simp; done) | (simp; omega) | omega) _) | (refine Below.trans ?_ (Below.mono (by assumption) (by first | (simp; done) | (simp; omega) | omega)))))
            have N5 : Blk W5 wr.heap.size [.int .i64 wn, .int .i64 am', .int .i64 af, .int .i64 at', .bool al'] := by rw [hW5]; exact Blk.new _ _ _ _ rfl
            have HY5 := Lib.hid (HY.out.trans (B5.mono HY.out.size))
            have HI5 := Lib.hid (HI.out.below B5)
            have d2' := (B5.cell (p := ⟨bw, ow + wn * 3 + 2, none⟩) dl).trans d2
            have dl' := cell_lt d2'; simp only at dl'
            have g0 := N5.c 0 _ rfl; have g2 := N5.c 2 _ rfl; have gl := N5.lt
            have HO5 := ownsMap_block HR.out.2.2.1 (HY5.out.block mb HR.out.2.1)
            have HO5' := Lib.hid HO5
            clear hW5 B5 N5 c0 c1 c2 c3 c4 cl d2 dl HI HO5
            go_wp2_with fail
            clear d2' dl' g0
            go_loopw [140] (fun s140 wv => ∃ j : Nat, j ≤ an ∧ s140 = .int .i64 j ∧ wv = W5) (fun s140 _ => an - (intOf s140).toNat)
            case atStart => exact ⟨0, Nat.zero_le _, rfl, rfl⟩
            case round =>
              obtain ⟨j, hj, rfl, rfl⟩ := hrel
              by_cases hja : j < an
              · have hjai : (j : Int) < (an : Int) := by omega
                obtain ⟨b2, off2, rfl, hcc⟩ := HI5.out.2.2 (by omega)
                have hac := HI5.out.1
                have hac2 : ac ≤ 9223372036854775807 := by have := HI5.out.2.1; unfold maxLen at this; omega
                obtain ⟨d0, d1⟩ := hcc j hja
                have el := cell_lt d0; simp only at el
                obtain ⟨x, x1, x2, x3, x4⟩ := HBE.out j hja
                have hhas : Maps.has E (.int .i64 (az j)) = true := (HR.out.2.2.2.has _).2 ⟨x, x1, x2, x3⟩
                have hval := HR.out.2.2.2.val x x1 x3
                rw [x2] at hval
                have HVL := Lib.hid (And.intro hval x4)
                have hwk := litwf (n := az j) (by have h := d1; simp [IntKind.min, IntKind.max, IntKind.signed, IntKind.bits] at h; omega)
                generalize az j = zz at *
                have HOM := HO5'.out
                clear hcc hval x2 x3 x4 d1
                go_wp2_with (at_lookup; refine wpList_lookup_own_ok_int _ rfl _ _ 39 rfl 3 3 .i64 lawK Try.underlying39 Try.underlying3 (zeroI _) mb i E rfl HOM _ _ rfl (keyOf_int_mk Try.underlying3 hwk) ?_; intro cc hat hwc; have hcf : ¬ af < cc := (by rw [HVL.out.1] at hat; injection hat with hat; injection hat with _ hat; have := HVL.out.2; omega); clear hat hwc)
                go_roundw
                case rel => exact ⟨j + 1, by omega, by go_num, by trivial⟩
                case measure => simp [intOf]; omega
              · have hjai : ¬ (j : Int) < (an : Int) := by omega
                clear g2 gl
                go_wp2_with fail
                go_roundw
                case rel => exact ⟨a + 1, by omega, by go_num, HY5.out⟩
                case measure => simp [intOf]; omega
          · have haii : ¬ (a : Int) < (i : Int) := by omega
            clear hy hbw hQr hWr hMr
            go_wp2_with fail
            go_loopw [27, 162] (fun s27 s162 wv => ∃ m : Nat, m ≤ D.nm ∧ s162 = .int .i64 m ∧ s27 = .bool (simM D m) ∧ Below wr.heap.size wr wv) (fun _ s162 _ => D.nm - (intOf s162).toNat)
            case atStart => exact ⟨0, Nat.zero_le _, rfl, rfl, Below.refl _ _⟩
            case round =>
              obtain ⟨m, hm, rfl, rfl, hy⟩ := hrel
              have HV := Lib.hid (HY.out.trans (hy.mono HY.out.size))
              have HVV := Lib.hid hy
              have HSM := Lib.hid (show simM D (m + 1) = ((simM D m && ((D.M m).sp == 1)) && (((D.M m).dn : Int) == 0)) from rfl)
              have hbw : Below mb w1 wr := HR.out.1.trans (HV.out.mono (Nat.le_of_lt HR.out.2.1))
              obtain ⟨hQr, hWr, hMr⟩ := HQW.out wr hbw
              by_cases hmn : m < D.nm
              · have hmni : (m : Int) < (D.nm : Int) := by omega
                obtain ⟨bm, om, rfl, hcm⟩ := hMr.2.2 (by omega)
                have k1 : D.nm ≤ cm := hMr.1
                have k2 : cm ≤ 9223372036854775807 := by have := hMr.2.1; unfold maxLen at this; omega
                have mw := hcm m hmn
                obtain ⟨K, hK⟩ : ∃ K, K = D.M m := ⟨_, rfl⟩
                rw [← hK] at mw HSM
                obtain ⟨sp, da, dn, dc, df, dt⟩ := K
                have d0 := mw.1; have d1 := mw.2.1
                simp only at d0 d1 HSM
                have dl := cell_lt d0; simp only at dl
                clear hy hbw hQr hWr hMr hcm mw hK
                obtain ⟨sm, hsm⟩ : ∃ sm, sm = simM D m := ⟨_, rfl⟩
                rw [← hsm] at HSM ⊢
                clear hsm
                cases sm with
                | false =>
                  have HE := Lib.hid (show simM D (m + 1) = false by rw [HSM.out]; rfl)
                  clear HSM
                  go_wp2_with fail
                  go_roundw
                  case rel => exact ⟨m + 1, by omega, by go_num, by rw [HE.out], HVV.out.alloc HVV.out.size _⟩
                  case measure => simp [intOf]; omega
                | true =>
                  by_cases hs1 : sp = 1
                  · have hs2 : (sp == 1) = true := by simpa using hs1
                    have HE := Lib.hid (show simM D (m + 1) = ((dn : Int) == 0) by rw [HSM.out, hs2]; simp)
                    clear HSM hs1
                    go_wp2_with fail
                    go_roundw
                    case rel => exact ⟨m + 1, by omega, by go_num, by rw [HE.out], HVV.out.alloc HVV.out.size _⟩
                    case measure => simp [intOf]; omega
                  · have hs2 : (sp == 1) = false := by simpa using hs1
                    have HE := Lib.hid (show simM D (m + 1) = false by rw [HSM.out, hs2]; rfl)
                    clear HSM hs1
                    go_wp2_with fail
                    go_roundw
                    case rel => exact ⟨m + 1, by omega, by go_num, by rw [HE.out], HVV.out.alloc HVV.out.size _⟩
                    case measure => simp [intOf]; omega
              · have hmni : ¬ (m : Int) < (D.nm : Int) := by omega
                have hme : m = D.nm := by omega
                have hb0 : simM D m = simW D 0 := by rw [hme]; rfl
                rw [hb0]
                have HBX := Lib.hid (And.intro hbw (And.intro (Nat.lt_of_lt_of_le HR.out.2.1 HV.out.size) (ownsMap_block HR.out.2.2.1 (HV.out.block mb HR.out.2.1))))
                clear hy hbw hQr hWr hMr hb0 HSM
                go_wp2_with fail
                go_loopw [24, 25, 27, 181] (fun s24 s25 s27 s181 wv => ∃ x : Nat, x ≤ D.nw ∧ s181 = .int .i64 x ∧ s24 = .int .i64 (sumI (fun w => (D.W w).cost) x) ∧ s25 = .int .i64 (mostW D x) ∧ s27 = .bool (simW D x) ∧ Below mb w1 wv ∧ mb < wv.heap.size ∧ wv.ownsMap Try.prog 3 (plainElem (H := Unit) Try.prog 3) mb i E) (fun _ _ _ s181 _ => D.nw - (intOf s181).toNat)
                case atStart => exact ⟨0, Nat.zero_le _, rfl, rfl, rfl, rfl, HBX.out.1, HBX.out.2.1, HBX.out.2.2⟩
                case round =>
                  obtain ⟨x, hx, rfl, rfl, rfl, rfl, hB7, hz7, hO7⟩ := hrel
                  have H7 := Lib.hid (And.intro hB7 (And.intro hz7 hO7))
                  obtain ⟨hQr, hWr, hMr⟩ := HQW.out wr hB7
                  have HS1 := Lib.hid (show sumI (fun w => (D.W w).cost) (x + 1) = sumI (fun w => (D.W w).cost) x + (D.W x).cost from rfl)
                  have HS2 := Lib.hid (show mostW D (x + 1) = if mostW D x < (D.W x).cost then (D.W x).cost else mostW D x from rfl)
                  have HS3 := Lib.hid (show simW D (x + 1) = (simW D x && (((D.W x).an : Int) == 0)) from rfl)
                  have hsb := sumC_bd HGD.out x hx
                  by_cases hxn : x < D.nw
                  · have hxni : (x : Int) < (D.nw : Int) := by omega
                    obtain ⟨bw, ow, rfl, hcw⟩ := hWr.2.2 (by omega)
                    have k1 : D.nw ≤ cw := hWr.1
                    have k2 : cw ≤ 9223372036854775807 := by have := hWr.2.1; unfold maxLen at this; omega
                    have mw := hcw x hxn
                    have hcb := (HGD.out.work.2 x hxn).1
                    obtain ⟨K, hK⟩ : ∃ K, K = D.W x := ⟨_, rfl⟩
                    rw [← hK] at mw HS1 HS2 HS3 hcb
                    obtain ⟨co, ra, aa, an, ac, az⟩ := K
                    have d0 := mw.1; have d1 := mw.2.1; have d2 := mw.2.2.1
                    simp only at d0 d1 d2 HS1 HS2 HS3 hcb
                    have dl := cell_lt d0; simp only at dl
                    clear hB7 hO7 hQr hWr hMr hcw mw hK
                    obtain ⟨S, hS⟩ : ∃ S, S = sumI (fun w => (D.W w).cost) x := ⟨_, rfl⟩
                    obtain ⟨mo, hmo⟩ : ∃ mo, mo = mostW D x := ⟨_, rfl⟩
                    obtain ⟨sw, hsw⟩ : ∃ sw, sw = simW D x := ⟨_, rfl⟩
                    rw [← hS] at HS1 hsb ⊢
                    rw [← hmo] at HS2 ⊢
                    rw [← hsw] at HS3 ⊢
                    obtain ⟨mx, hmx⟩ : ∃ mx, (if mo < co then co else mo) = mx := ⟨_, rfl⟩
                    have HS2' := Lib.hid (show mostW D (x + 1) = mx by rw [HS2.out]; exact hmx)
                    have hwS : IntKind.i64.wrap (S + co) = S + co := by rw [IntKind.wrap_i64]; omega
                    clear hS hmo hsw HS2
                    go_upto_region 49 with fail
                    refine wp_world (fun W8 hW8 => ?_)
                    have B8 : Below wr.heap.size wr W8 := by rw [hW8]; (repeat (first | exact Below.refl _ _ | assumption | (refine Below.setCell ?_ (by first | (simp; done) | (simp; omega) | omega) _) | (refine Below.drew ?_) | (refine below_drewN ?_ _) | (refine Below.alloc ?_ (by first | (simp; done) | (simp; omega) | omega) _) | (refine Below.trans ?_ (Below.mono (by assumption) (by first | (simp; done) | (simp; omega) | omega)))))
                    have N8 : Blk W8 wr.heap.size [.int .i64 co, .int .i64 ra, .slice aa an ac] := by rw [hW8]; exact Blk.new _ _ _ _ rfl
                    have HB8 := Lib.hid B8
                    have g0 := N8.c 0 _ rfl; have g2 := N8.c 2 _ rfl; have gl := N8.lt
                    clear hW8 B8 N8 d0 d1 d2 dl
                    have HSS := Lib.hid (show simW D (x + 1) = (sw && ((an : Int) == 0)) from HS3.out)
                    clear HS3
                    cases sw with
                    | false =>
                      have HE := Lib.hid (show simW D (x + 1) = false by rw [HSS.out]; rfl)
                      clear HSS
                      go_upto_region 50 with fail
                      refine wp_region_loose 9 (fun _ _ _ => False) (by kernel_rfl) (by kernel_rfl) ?_
                      simp only [List.take_succ_cons, List.take_zero, List.drop_succ_cons, List.drop_zero]
                      iterate 9 (refine loose_wanted rfl (fun K hK => ?_); go_simp; refine hK _ ?_; clear hK K)
                      refine loose_nil (fun w9 hb9 => ?_)
                      have H9 := Lib.hid (HB8.out.trans (hb9.mono HB8.out.size))
                      clear hb9 g0 g2 gl
                      go_wp2_with fail
                      go_roundw
                      case rel => exact ⟨x + 1, by omega, by go_num, by rw [HS1.out], by rw [HS2'.out], by rw [HE.out], H7.out.1.trans (H9.out.mono (Nat.le_of_lt H7.out.2.1)), Nat.lt_of_lt_of_le H7.out.2.1 H9.out.size, ownsMap_block H7.out.2.2 (H9.out.block mb H7.out.2.1)⟩
                      case measure => simp [intOf]; omega
                    | true =>
                      have HE := Lib.hid (show simW D (x + 1) = ((an : Int) == 0) by rw [HSS.out]; rfl)
                      clear HSS
                      go_upto_region 50 with fail
                      refine wp_region_loose 9 (fun _ _ _ => False) (by kernel_rfl) (by kernel_rfl) ?_
                      simp only [List.take_succ_cons, List.take_zero, List.drop_succ_cons, List.drop_zero]
                      iterate 9 (refine loose_wanted rfl (fun K hK => ?_); go_simp; refine hK _ ?_; clear hK K)
                      refine loose_nil (fun w9 hb9 => ?_)
                      have H9 := Lib.hid (HB8.out.trans (hb9.mono HB8.out.size))
                      clear hb9 g0 g2 gl
                      go_wp2_with fail
                      go_roundw
                      case rel => exact ⟨x + 1, by omega, by go_num, by rw [HS1.out], by rw [HS2'.out], by rw [HE.out], H7.out.1.trans (H9.out.mono (Nat.le_of_lt H7.out.2.1)), Nat.lt_of_lt_of_le H7.out.2.1 H9.out.size, ownsMap_block H7.out.2.2 (H9.out.block mb H7.out.2.1)⟩
                      case measure => simp [intOf]; omega
                  · have hxni : ¬ (x : Int) < (D.nw : Int) := by omega
                    have hxe : x = D.nw := by omega
                    subst hxe
                    clear hB7 hO7 hQr hWr hMr HS1 HS2 HS3
                    have HSB := Lib.hid hsb
                    clear hsb
                    go_wp2_with fail
                    go_loopw [26, 203] (fun s26 s203 wv => ∃ x : Nat, x ≤ i ∧ s203 = .int .i64 x ∧ s26 = .int .i64 (lastQ q x) ∧ Below wr.heap.size wr wv) (fun _ s203 _ => i - (intOf s203).toNat)
                    case atStart => exact ⟨0, Nat.zero_le _, rfl, rfl, Below.refl _ _⟩
                    case round =>
                      obtain ⟨x, hx, rfl, rfl, hy⟩ := hrel
                      have HV := Lib.hid hy
                      have hbw : Below mb w1 wr := H7.out.1.trans (hy.mono (Nat.le_of_lt H7.out.2.1))
                      obtain ⟨hQr, hWr, hMr⟩ := HQW.out wr hbw
                      have HL := Lib.hid (show lastQ q (x + 1) = if lastQ q x < (q x).to then (q x).to else lastQ q x from rfl)
                      by_cases hxi : x < i
                      · have hxii : (x : Int) < (i : Int) := by omega
                        obtain ⟨gg, rfl, hV⟩ := hQr.2.2 (by omega)
                        have c0 := hV.c0 x hxi; have c1 := hV.c1 x hxi; have c2 := hV.c2 x hxi; have c3 := hV.c3 x hxi; have c4 := hV.c4 x hxi; have cl := hV.lt
                        obtain ⟨la, hla⟩ : ∃ la, la = lastQ q x := ⟨_, rfl⟩
                        rw [← hla] at HL ⊢
                        generalize (q x).to = xt at *
                        obtain ⟨mx, hmx⟩ : ∃ mx, (if la < xt then xt else la) = mx := ⟨_, rfl⟩
                        have HL' := Lib.hid (show lastQ q (x + 1) = mx by rw [HL.out]; exact hmx)
                        clear hy hbw hQr hWr hMr hV HL hla
                        go_wp2_with fail
                        go_roundw
                        case rel => exact ⟨x + 1, by omega, by go_num, by rw [HL'.out], HV.out.alloc HV.out.size _⟩
                        case measure => simp [intOf]; omega
                      · have hxii : ¬ (x : Int) < (i : Int) := by omega
                        have hxe : x = i := by omega
                        subst hxe
                        have HOF := ownsMap_block H7.out.2.2 (HV.out.block mb H7.out.2.1)
                        have hlb := lastQ_bd HT.out x (Nat.le_refl _)
                        have hmb' := mostW_bd HGD.out D.nw (Nat.le_refl _)
                        have hsb := HSB.out
                        have HLAST := Lib.hid (fun h => tw_last HGD.out HT.out HR.out.2.2.2 h : simW D D.nw = true → _)
                        have HFIN := Lib.hid (HBZ.out.1.trans (hbw.mono HBZ.out.2))
                        obtain ⟨L, hL⟩ : ∃ L, L = lastQ q x := ⟨_, rfl⟩
                        obtain ⟨S, hS⟩ : ∃ S, S = sumI (fun w => (D.W w).cost) D.nw := ⟨_, rfl⟩
                        obtain ⟨M, hM⟩ : ∃ M, M = mostW D D.nw := ⟨_, rfl⟩
                        obtain ⟨sw, hsw⟩ : ∃ sw, sw = simW D D.nw := ⟨_, rfl⟩
                        rw [← hL] at hlb HLAST ⊢
                        rw [← hS] at hsb HLAST ⊢
                        rw [← hM] at hmb' HLAST ⊢
                        rw [← hsw] at HLAST ⊢
                        clear hL hS hM hsw hy hbw hQr hWr hMr HL
                        have hn0 : (0 : Int) ≤ (D.nm : Int) ∧ (D.nm : Int) ≤ 64 := by omega
                        have p1 : 0 ≤ L * (D.nm : Int) ∧ L * (D.nm : Int) ≤ 1099511627776 * 64 := ⟨Int.mul_nonneg hlb.1 hn0.1, Int.mul_le_mul (by omega) hn0.2 hn0.1 (by omega)⟩
                        have p2 : 0 ≤ M * (D.nm : Int) ∧ M * (D.nm : Int) ≤ 1000000 * 64 := ⟨Int.mul_nonneg hmb'.1 hn0.1, Int.mul_le_mul (by omega) hn0.2 hn0.1 (by omega)⟩
                        obtain ⟨P, hP⟩ : ∃ P, L * (D.nm : Int) = P := ⟨_, rfl⟩
                        obtain ⟨Q, hQ⟩ : ∃ Q, M * (D.nm : Int) = Q := ⟨_, rfl⟩
                        rw [hP] at p1 HLAST
                        rw [hQ] at p2 HLAST
                        have w1' : IntKind.i64.wrap P = P := by rw [IntKind.wrap_i64]; omega
                        have w2' : IntKind.i64.wrap Q = Q := by rw [IntKind.wrap_i64]; omega
                        have w3' : IntKind.i64.wrap (S + Q) = S + Q := by rw [IntKind.wrap_i64]; omega
                        cases sw with
                        | false =>
                          clear HLAST HOF
                          go_wp2_with fail
                          go_ret
                          exact ⟨rfl, HFIN.out⟩
                        | true =>
                          obtain ⟨hsz, hle⟩ := HLAST.out rfl
                          have hsz1 : ((Maps.size E : Int) == (D.nw : Int)) = true := by simpa using hsz
                          clear HLAST hsz
                          have hlen := fun ty => HOF.len (t := 39) Try.underlying39 ty
                          go_wp2_with fail
                          go_ret
                          exact ⟨rfl, HFIN.out⟩
end
end Go.Proofs.Ytkadinjhfldokaa
