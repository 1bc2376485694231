/- Whether a cut is right: node.CheckCut. Conditions: the nodes and the cut can be read. -/
import Derived.Test.YtbclecoblcfboaaGreatDoorGhC
import Derived.Test.YtbclecoblcfboaaGreatDoorQJ
namespace Go.Proofs.YtbclecoblcfboaaGreatDoor
open Go Go.RowKit
set_option maxRecDepth 100000 in
set_option maxHeartbeats 6400000 in
theorem CheckCut_any (a : Option Addr) (c : Nat) (ns : List NodeD) (out : Int) (ca : Option Addr) (cc : Nat) (cut : List Int) (w : World) (h : IsNodes w a c ns) (hcut : IntsAt 0 w ca cut) :
    Calls Tryz.prog 9 #[.agg #[.slice a ns.length c, .int .i64 out], .slice ca cut.length cc] w fun e w' => e = .returned (.int .i64 (cE ns out cut)) ∧ Below w.heap.size w w' := by
  have HH := Lib.hid h
  have HC := Lib.hid hcut
  clear h hcut
  have HK := Lib.hid (fun w' h => CheckGraph_any a c ns out w' h : ∀ w', IsNodes w' a c ns → _)
  obtain ⟨m, hm⟩ : ∃ m, m = ns.length := ⟨_, rfl⟩
  obtain ⟨l, hl⟩ : ∃ l, l = cut.length := ⟨_, rfl⟩
  obtain ⟨E, hE⟩ : ∃ E, E = cE ns out cut := ⟨_, rfl⟩
  obtain ⟨G, hG⟩ : ∃ G, G = gE ns out := ⟨_, rfl⟩
  have HEE := Lib.hid (show E = fst2 G (if l = m then fstN (ckE ns (fun i => cut.getD i 0)) m else 2) by rw [hE, hG, hl, hm]; rfl)
  have HM := Lib.hid hm
  have HLL := Lib.hid hl
  have HGE := Lib.hid hG
  rw [← hE, ← hm, ← hl]
  rw [← hm, ← hG] at HK
  clear hE hG hm hl
  by_cases hg : G = 0
  case neg =>
    have HV := Lib.hid (show E = G by rw [HEE.out, fst2_n hg])
    clear HEE
    go_enter Tryz.func9, Tryz.ntmps9
    go_wp2_with (go_at_call 22; refine (HK.out _ (HH.out.past (by (repeat (first | exact Below.refl _ _ | assumption | (refine Below.setCell ?_ (by first | (simp; done) | (simp; omega) | omega) _) | (refine Below.drew ?_) | (refine below_drewN ?_ _) | (refine Below.alloc ?_ (by first | (simp; done) | (simp; omega) | omega) _) | (refine Below.trans ?_ (Below.mono (by assumption) (by first | (simp; done) | (simp; omega) | omega)))))))).mono ?_; rintro e w1 ⟨rfl, hb1⟩)
    go_ret
    rw [HV.out]
    exact ⟨rfl, ((Below.refl _ _).alloc (Nat.le_refl _) _).trans (hb1.mono (by simp))⟩
  subst hg
  rw [fst2_0] at HEE
  have HZ0 := Lib.hid (gE_ok HGE.out.symm)
  by_cases hlm : l = m
  case neg =>
    rw [if_neg hlm] at HEE
    have hlmi : ¬ ((l : Int) = (m : Int)) := by omega
    go_enter Tryz.func9, Tryz.ntmps9
    go_wp2_with (go_at_call 22; refine (HK.out _ (HH.out.past (by (repeat (first | exact Below.refl _ _ | assumption | (refine Below.setCell ?_ (by first | (simp; done) | (simp; omega) | omega) _) | (refine Below.drew ?_) | (refine below_drewN ?_ _) | (refine Below.alloc ?_ (by first | (simp; done) | (simp; omega) | omega) _) | (refine Below.trans ?_ (Below.mono (by assumption) (by first | (simp; done) | (simp; omega) | omega)))))))).mono ?_; rintro e w1 ⟨rfl, hb1⟩; have g0 := ((Blk.new w [.slice a m c, .int .i64 out] 24 _ rfl).past hb1).c 0 _ rfl; have gl := ((Blk.new w [.slice a m c, .int .i64 out] 24 _ rfl).past hb1).lt)
    go_ret
    rw [HEE.out]
    exact ⟨rfl, ((Below.refl _ _).alloc (Nat.le_refl _) _).trans (hb1.mono (by simp))⟩
  subst hlm
  rw [if_pos rfl] at HEE
  have hm0 : 0 < l := by have := HZ0.out.1; have := HM.out; omega
  have hm1 : l ≤ 100 := by have := HZ0.out.2.1; have := HM.out; omega
  obtain ⟨C, hC⟩ : ∃ C : Nat → Int, C = fun i => cut.getD i 0 := ⟨_, rfl⟩
  rw [← hC] at HEE
  obtain ⟨bc, oc, hca, hcc⟩ := HC.out.get
  obtain rfl := hca (by rw [← HLL.out]; exact hm0)
  have HCC : Hid (∀ w', Below w.heap.size w w' → ∀ i, i < l → w'.cell? ⟨bc, oc + i, none⟩ = some (.int .i64 (C i))) := Lib.hid (fun w' hb i hi => by
    have h1 := hcc i (by rw [← HLL.out]; exact hi)
    rw [hb.cell (p := ⟨bc, oc + i, none⟩) (cell_lt h1), h1, hC])
  clear hC hca hcc HC HLL
  go_enter Tryz.func9, Tryz.ntmps9
  go_upto_region 6 with (go_at_call 22; refine (HK.out _ (HH.out.past (by (repeat (first | exact Below.refl _ _ | assumption | (refine Below.setCell ?_ (by first | (simp; done) | (simp; omega) | omega) _) | (refine Below.drew ?_) | (refine below_drewN ?_ _) | (refine Below.alloc ?_ (by first | (simp; done) | (simp; omega) | omega) _) | (refine Below.trans ?_ (Below.mono (by assumption) (by first | (simp; done) | (simp; omega) | omega)))))))).mono ?_; rintro e w1 ⟨rfl, hb1⟩; have g0 := ((Blk.new w [.slice a l c, .int .i64 out] 24 _ rfl).past hb1).c 0 _ rfl; have gl := ((Blk.new w [.slice a l c, .int .i64 out] 24 _ rfl).past hb1).lt)
  have H2 : Hid (Below w.heap.size w w1) := Lib.hid (((Below.refl _ _).alloc (Nat.le_refl _) _).trans (hb1.mono (by simp)))
  clear hb1
  go_wp2_with fail
  clear g0 gl
  go_loopw [28] (fun s28 wr => ∃ i : Nat, i ≤ l ∧ s28 = .int .i64 i ∧ fstN (ckE ns C) i = 0 ∧ Below w.heap.size w wr) (fun s28 _ => l - (intOf s28).toNat)
  case atStart => exact ⟨0, Nat.zero_le _, rfl, rfl, H2.out⟩
  case round =>
    obtain ⟨i, hi, rfl, hz, hB⟩ := hrel
    have HZ := Lib.hid hz; have HB := Lib.hid hB
    clear hz hB H2
    by_cases him : i < l
    · have himi : (i : Int) < (l : Int) := by omega
      have him2 : i < ns.length := by rw [← HM.out]; exact him
      obtain ⟨n, hn⟩ : ∃ n, ns[i]? = some n := ⟨_, List.getElem?_eq_getElem him2⟩
      obtain ⟨b, off, rfl, hna, hnb⟩ := HH.out.get hn
      have hna2 := hna.past HB.out
      obtain ⟨op, ins, ints, reals, ia, ic, na, nc, ra, rc⟩ := n
      have HN := Lib.hid (And.intro hn (And.intro hna2 hnb))
      have hins : insO ns i = ins := by unfold insO; rw [hn]
      have HIN := Lib.hid (nd_in HZ0.out.2.2.1 him2)
      obtain ⟨n', k, hn', hk, hkd⟩ := nd_op him2 (fstN_zero HZ0.out.2.2.1 i him2)
      rw [hn] at hn'
      cases hn'
      have har := arO_at hn hk
      have HOP := Lib.hid (fun w' => op_yes hk w')
      have HX := Lib.hid (fun hk => fstN_of HZ.out hk him : ckE ns C i ≠ 0 → fstN (ckE ns C) l = ckE ns C i)
      have HS := Lib.hid (fun hk => fstN_succ (k := i) HZ.out hk : ckE ns C i = 0 → fstN (ckE ns C) (i + 1) = 0)
      obtain ⟨v, hv⟩ : ∃ v, v = C i := ⟨_, rfl⟩
      obtain ⟨f, hf⟩ : ∃ f, f = F k := ⟨_, rfl⟩
      obtain ⟨ar, har2⟩ : ∃ ar, ar = f.area := ⟨_, rfl⟩
      have HE := Lib.hid (show ckE ns C i = if v < 0 ∨ 99 < v then 3 else fst2 (fstN (ckI C i ins) ins.length) (fstN (ckA C i ar ins) ins.length) by unfold ckE ck1; rw [hins, har, har2, hf, hv])
      have HXE : Hid (∀ v, v ≠ 0 → ckE ns C i = v → E = v) := Lib.hid (fun v h1 h2 => by rw [HEE.out, HX.out (by rw [h2]; exact h1), h2])
      rw [hins] at HIN
      simp only at hk
      rw [← hf] at HOP
      have HV := Lib.hid hv
      have HAR := Lib.hid har2
      have c0 : wr.cell? ⟨b, off + i * 4, none⟩ = some (.string op) := HN.out.2.1.c0
      have c1 : wr.cell? ⟨b, off + i * 4 + 1, none⟩ = some (.slice ia ins.length ic) := HN.out.2.1.c1
      have c2 : wr.cell? ⟨b, off + i * 4 + 2, none⟩ = some (.slice na ints.length nc) := HN.out.2.1.c2
      have c3 : wr.cell? ⟨b, off + i * 4 + 3, none⟩ = some (.slice ra reals.length rc) := HN.out.2.1.c3
      have l0 := cell_lt c0; simp only at l0
      clear hn hna hnb hna2 hins hk hkd har hf har2 hv him2 HX
      go_upto_region 9 with fail
      refine wp_world (fun W4 hW4 => ?_)
      have H4p : Blk W4 wr.heap.size [.string op, .slice ia ins.length ic, .slice na ints.length nc, .slice ra reals.length rc] ∧ Below wr.heap.size wr W4 := by rw [hW4]; exact ⟨Blk.new _ _ _ _ rfl, by (repeat (first | exact Below.refl _ _ | assumption | (refine Below.setCell ?_ (by first | (simp; done) | (simp; omega) | omega) _) | (refine Below.drew ?_) | (refine below_drewN ?_ _) | (refine Below.alloc ?_ (by first | (simp; done) | (simp; omega) | omega) _) | (refine Below.trans ?_ (Below.mono (by assumption) (by first | (simp; done) | (simp; omega) | omega)))))⟩
      obtain ⟨nb, hnb⟩ : ∃ nb, nb = wr.heap.size := ⟨_, rfl⟩
      have H4 : Hid (Blk W4 nb [.string op, .slice ia ins.length ic, .slice na ints.length nc, .slice ra reals.length rc] ∧ Below wr.heap.size wr W4 ∧ Below w.heap.size w W4) := Lib.hid ⟨by rw [hnb]; exact H4p.1, H4p.2, HB.out.trans (H4p.2.mono HB.out.size)⟩
      rw [← hnb]
      clear hW4 c0 c1 c2 c3 l0 hnb H4p
      have m0 := H4.out.1.c 0 _ rfl; have ml := H4.out.1.lt
      have kc := HCC.out W4 H4.out.2.2 i him
      rw [← HV.out] at kc
      have kl := cell_lt kc; simp only at kl
      by_cases hvr : v < 0 ∨ 99 < v
      · have HW : Hid (E = 3) := Lib.hid (HXE.out 3 (by decide) (by rw [HE.out, if_pos hvr]))
        have hr2 : v < 0 ∨ (¬ v < 0 ∧ 99 < v) := by omega
        clear hvr HE
        rcases hr2 with q1 | ⟨q1, q2⟩
        all_goals
          go_wp2_with fail
          go_ret
          rw [HW.out]
          exact ⟨rfl, H4.out.2.2⟩
      · have q1 : ¬ v < 0 := by omega
        have q2 : ¬ 99 < v := by omega
        rw [if_neg hvr] at HE
        clear hvr
        go_upto_region 12 with (go_at_call 30; refine (HOP.out _).mono ?_; rintro e w5 ⟨fa, fc, rfl, hI, hb5⟩)
        refine wp_world (fun W6 hW6 => ?_)
        have hb6 : Below w5.heap.size w5 W6 := by rw [hW6]; (repeat (first | exact Below.refl _ _ | assumption | (refine Below.setCell ?_ (by first | (simp; done) | (simp; omega) | omega) _) | (refine Below.drew ?_) | (refine below_drewN ?_ _) | (refine Below.alloc ?_ (by first | (simp; done) | (simp; omega) | omega) _) | (refine Below.trans ?_ (Below.mono (by assumption) (by first | (simp; done) | (simp; omega) | omega)))))
        have hB6 := H4.out.2.1.trans ((hb5.trans (hb6.mono hb5.size)).mono H4.out.2.1.size)
        have H6p : Blk W6 nb [.string op, .slice ia ins.length ic, .slice na ints.length nc, .slice ra reals.length rc] ∧ Blk W6 w5.heap.size (fCells f fa fc) := by
          exact ⟨(H4.out.1.past hb5).past hb6, by rw [hW6]; exact Blk.new _ _ _ _ rfl⟩
        obtain ⟨fb, hfb⟩ : ∃ fb, fb = w5.heap.size := ⟨_, rfl⟩
        have H6 : Hid (Blk W6 nb [.string op, .slice ia ins.length ic, .slice na ints.length nc, .slice ra reals.length rc] ∧ Blk W6 fb (fCells f fa fc) ∧ Below wr.heap.size wr W6 ∧ Below w.heap.size w W6) := Lib.hid ⟨H6p.1, by rw [hfb]; exact H6p.2, hB6, HB.out.trans (hB6.mono HB.out.size)⟩
        rw [← hfb]
        clear hW6 hI hb5 hfb m0 ml H4 H6p hb6 hB6 kc kl q1 q2
        have m1 := H6.out.1.c 1 _ rfl; have ml := H6.out.1.lt
        go_wp2_with fail
        clear m1 ml
        go_loopw [54] (fun s54 wq => ∃ j : Nat, j ≤ ins.length ∧ s54 = .int .i64 j ∧ fstN (ckI C i ins) j = 0 ∧ Below W6.heap.size W6 wq) (fun s54 _ => ins.length - (intOf s54).toNat)
        case atStart => exact ⟨0, Nat.zero_le _, rfl, rfl, Below.refl _ _⟩
        case round =>
          obtain ⟨j, hj, rfl, hjz, hq⟩ := hrel
          have HJZ := Lib.hid hjz; have HQ := Lib.hid hq
          clear hjz hq
          have HWB := Lib.hid (H6.out.2.2.2.trans (HQ.out.mono H6.out.2.2.2.size))
          by_cases hjl : j < ins.length
          · have hjli : (j : Int) < (ins.length : Int) := by omega
            have hj3 : j ≤ 3 := by have := HIN.out.2.1; omega
            obtain ⟨u, hu⟩ : ∃ u, ins[j]? = some u := ⟨_, List.getElem?_eq_getElem hjl⟩
            have hgd : ins.getD j 0 = u := by rw [List.getD_eq_getElem?_getD, hu, Option.getD_some]
            have hur := HIN.out.1 j hjl
            rw [hgd] at hur
            obtain ⟨x, hx⟩ : ∃ x : Nat, u = (x : Int) := ⟨u.toNat, by omega⟩
            subst hx
            have hxi : x < i := by omega
            have hxl : x < l := by omega
            have hxli : (x : Int) < (l : Int) := by omega
            obtain ⟨bi, oi, rfl, ci⟩ := (HN.out.2.1.i.past (H6.out.2.2.1.trans (HQ.out.mono H6.out.2.2.1.size))).one hu
            have li := cell_lt ci; simp only at li
            have kc := HCC.out _ HWB.out i him
            rw [← HV.out] at kc
            have kx := HCC.out _ HWB.out x hxl
            obtain ⟨y, hy⟩ : ∃ y, y = C x := ⟨_, rfl⟩
            rw [← hy] at kx
            have kl := cell_lt kc; simp only at kl
            have HI1 := Lib.hid (show ckI C i ins j = if v < y then 8 else 0 by unfold ckI cv; rw [hgd, ← HV.out, Int.toNat_natCast, ← hy])
            have HIE := Lib.hid (fun h => HXE.out _ h (by rw [HE.out, fstN_of HJZ.out h hjl, fst2_n h]) : ckI C i ins j ≠ 0 → E = ckI C i ins j)
            have HIS := Lib.hid (fun h => fstN_succ HJZ.out h : ckI C i ins j = 0 → _)
            clear hu hgd hur hy
            by_cases hvy : v < y
            · have HW : Hid (E = 8) := Lib.hid (by rw [HIE.out (by rw [HI1.out, if_pos hvy]; decide), HI1.out, if_pos hvy])
              go_upto_region 15 with fail
              go_quiet (fail)
              go_wp2_with fail
              go_ret
              rw [HW.out]
              exact ⟨rfl, below_drewN HWB.out _⟩
            · have HW := Lib.hid (HIS.out (by rw [HI1.out, if_neg hvy]))
              go_upto_region 15 with fail
              go_quiet (fail)
              go_wp2_with fail
              go_roundw
              case rel => exact ⟨j + 1, by omega, by go_num, HW.out, below_drewN HQ.out _⟩
              case measure => simp [intOf]; omega
          · have hjli : ¬ (j : Int) < (ins.length : Int) := by omega
            obtain rfl : j = ins.length := by omega
            rw [HJZ.out, fst2_0] at HE
            have n1 := (H6.out.1.past HQ.out).c 1 _ rfl; have nl := (H6.out.1.past HQ.out).lt
            go_wp2_with fail
            clear n1 nl
            go_loopw [71] (fun s71 wz => ∃ j : Nat, j ≤ ins.length ∧ s71 = .int .i64 j ∧ fstN (ckA C i ar ins) j = 0 ∧ Below W6.heap.size W6 wz) (fun s71 _ => ins.length - (intOf s71).toNat)
            case atStart => exact ⟨0, Nat.zero_le _, rfl, rfl, HQ.out⟩
            case round =>
              obtain ⟨j, hj, rfl, hjz, hq⟩ := hrel
              clear HQ HWB HJZ
              have HJZ := Lib.hid hjz; have HQ := Lib.hid hq
              clear hjz hq
              have HWB := Lib.hid (H6.out.2.2.2.trans (HQ.out.mono H6.out.2.2.2.size))
              by_cases hjl : j < ins.length
              · have hjli : (j : Int) < (ins.length : Int) := by omega
                have hj3 : j ≤ 3 := by have := HIN.out.2.1; omega
                obtain ⟨u, hu⟩ : ∃ u, ins[j]? = some u := ⟨_, List.getElem?_eq_getElem hjl⟩
                have hgd : ins.getD j 0 = u := by rw [List.getD_eq_getElem?_getD, hu, Option.getD_some]
                have hur := HIN.out.1 j hjl
                rw [hgd] at hur
                obtain ⟨x, hx⟩ : ∃ x : Nat, u = (x : Int) := ⟨u.toNat, by omega⟩
                subst hx
                have hxi : x < i := by omega
                have hxl : x < l := by omega
                have hxli : (x : Int) < (l : Int) := by omega
                obtain ⟨bi, oi, rfl, ci⟩ := (HN.out.2.1.i.past (H6.out.2.2.1.trans (HQ.out.mono H6.out.2.2.1.size))).one hu
                have li := cell_lt ci; simp only at li
                have kc := HCC.out _ HWB.out i him
                rw [← HV.out] at kc
                have kx := HCC.out _ HWB.out x hxl
                obtain ⟨y, hy⟩ : ∃ y, y = C x := ⟨_, rfl⟩
                rw [← hy] at kx
                have kl := cell_lt kc; simp only at kl
                have z5 := (fCells_at (H6.out.2.1.past HQ.out)).2.2.2.2.2
                rw [← HAR.out] at z5
                have zl := (H6.out.2.1.past HQ.out).lt
                have HI1 := Lib.hid (show ckA C i ar ins j = if ar = true ∧ y = v then 12 else 0 by unfold ckA cv; rw [hgd, ← HV.out, Int.toNat_natCast, ← hy])
                have HIE := Lib.hid (fun h => HXE.out _ h (by rw [HE.out, fstN_of HJZ.out h hjl]) : ckA C i ar ins j ≠ 0 → E = ckA C i ar ins j)
                have HIS := Lib.hid (fun h => fstN_succ HJZ.out h : ckA C i ar ins j = 0 → _)
                clear hu hgd hur hy HE HAR
                cases ar
                case false =>
                  have HW := Lib.hid (HIS.out (by rw [HI1.out, if_neg (by simp)]))
                  go_upto_region 21 with fail
                  go_quiet (fail)
                  go_wp2_with fail
                  go_roundw
                  case rel => exact ⟨j + 1, by omega, by go_num, HW.out, below_drewN HQ.out _⟩
                  case measure => simp [intOf]; omega
                case true =>
                  by_cases hvy : y = v
                  · have HW : Hid (E = 12) := Lib.hid (by rw [HIE.out (by rw [HI1.out, if_pos ⟨rfl, hvy⟩]; decide), HI1.out, if_pos ⟨rfl, hvy⟩])
                    go_upto_region 21 with fail
                    go_quiet (fail)
                    go_wp2_with fail
                    go_ret
                    rw [HW.out]
                    exact ⟨rfl, below_drewN HWB.out _⟩
                  · have HW := Lib.hid (HIS.out (by rw [HI1.out, if_neg (fun h => hvy h.2)]))
                    go_upto_region 21 with fail
                    go_quiet (fail)
                    go_wp2_with fail
                    go_roundw
                    case rel => exact ⟨j + 1, by omega, by go_num, HW.out, below_drewN HQ.out _⟩
                    case measure => simp [intOf]; omega
              · have hjli : ¬ (j : Int) < (ins.length : Int) := by omega
                obtain rfl : j = ins.length := by omega
                have HW := Lib.hid (HS.out (by rw [HE.out, HJZ.out]))
                go_wp2_with fail
                go_roundw
                case rel => exact ⟨i + 1, by omega, by go_num, HW.out, HWB.out⟩
                case measure => simp [intOf]; omega
    · have himi : ¬ (i : Int) < (l : Int) := by omega
      obtain rfl : i = l := by omega
      go_wp2_with fail
      go_ret
      rw [HEE.out, HZ.out]
      exact ⟨rfl, HB.out⟩
end Go.Proofs.YtbclecoblcfboaaGreatDoor
