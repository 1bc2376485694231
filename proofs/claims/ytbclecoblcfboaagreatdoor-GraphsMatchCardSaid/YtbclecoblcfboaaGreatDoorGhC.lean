/- Whether a graph is right: node.CheckGraph. Conditions: the nodes can be read. -/
import Derived.Test.YtbclecoblcfboaaGreatDoorQI
import Derived.Deep.QuietTactic
import Derived.BigQuiet
namespace Go.Proofs.YtbclecoblcfboaaGreatDoor
open Go Go.RowKit
set_option maxRecDepth 100000 in
set_option maxHeartbeats 1600000 in
theorem outKind_2 (w : World) : Calls Tryz.prog 48 #[.int .i64 2] w fun e w' => e = .returned (.int .i64 12) ∧ w = w' := by
  go_enter Tryz.func48, Tryz.ntmps48
  go_wp2_with fail
  go_ret
  exact ⟨rfl, rfl⟩
theorem outKind_at {k : Int} (hk : k = 1 ∨ k = 2) (w : World) : Calls Tryz.prog 48 #[.int .i64 k] w fun e w' => e = .returned (.int .i64 (if k = 2 then 12 else 0)) ∧ w = w' := by
  rcases hk with rfl | rfl
  · exact outKind_1 w
  · exact outKind_2 w
/-- The kinds of the nodes before node i. -/
def kzV (ns : List NodeD) (i : Nat) : Nat → Value := fun j => if j < i then .int .i64 (kdO ns j) else .int .i64 0
set_option maxRecDepth 100000 in
set_option maxHeartbeats 6400000 in
theorem CheckGraph_any (a : Option Addr) (c : Nat) (ns : List NodeD) (out : Int) (w : World) (h : IsNodes w a c ns) :
    Calls Tryz.prog 22 #[.agg #[.slice a ns.length c, .int .i64 out]] w fun e w' => e = .returned (.int .i64 (gE ns out)) ∧ Below w.heap.size w w' := by
  have HH := Lib.hid h
  clear h
  obtain ⟨m, hm⟩ : ∃ m, m = ns.length := ⟨_, rfl⟩
  have HM := Lib.hid hm
  have HG := Lib.hid (show gE ns out = if m = 0 then 10 else if 100 < m then 4 else fst2 (fstN (ndE ns) m) (if 0 ≤ out ∧ out < (m : Int) then (if kdO ns out.toNat = 2 then 12 else 0) else 11) by rw [hm]; rfl)
  rw [← hm]
  clear hm
  by_cases h0 : m = 0
  · subst h0
    rw [HG.out, if_pos rfl]
    go_enter Tryz.func22, Tryz.ntmps22
    go_wp2_with fail
    go_ret
    exact ⟨rfl, by (repeat (first | exact Below.refl _ _ | assumption | (refine Below.setCell ?_ (by first | (simp; done) | (simp; omega) | omega) _) | (refine Below.drew ?_) | (refine below_drewN ?_ _) | (refine Below.alloc ?_ (by first | (simp; done) | (simp; omega) | omega) _) | (refine Below.trans ?_ (Below.mono (by assumption) (by first | (simp; done) | (simp; omega) | omega)))))⟩
  by_cases h1 : 100 < m
  · rw [HG.out, if_neg h0, if_pos h1]
    have h0i : ¬ ((m : Int) = 0) := by omega
    have h1i : (100 : Int) < (m : Int) := by omega
    clear HG
    go_enter Tryz.func22, Tryz.ntmps22
    go_wp2_with fail
    go_ret
    exact ⟨rfl, by (repeat (first | exact Below.refl _ _ | assumption | (refine Below.setCell ?_ (by first | (simp; done) | (simp; omega) | omega) _) | (refine Below.drew ?_) | (refine below_drewN ?_ _) | (refine Below.alloc ?_ (by first | (simp; done) | (simp; omega) | omega) _) | (refine Below.trans ?_ (Below.mono (by assumption) (by first | (simp; done) | (simp; omega) | omega)))))⟩
  obtain ⟨E, hE⟩ : ∃ E, E = gE ns out := ⟨_, rfl⟩
  have HEE := Lib.hid (show E = fst2 (fstN (ndE ns) m) (if 0 ≤ out ∧ out < (m : Int) then (if kdO ns out.toNat = 2 then 12 else 0) else 11) by rw [hE, HG.out, if_neg h0, if_neg h1])
  rw [← hE]
  clear hE
  have HLE := Lib.hid (show m ≤ 100 by omega)
  have h0i : ¬ ((m : Int) = 0) := by omega
  have h1i : ¬ ((100 : Int) < (m : Int)) := by omega
  have hmk := run_make_row' (P := Tryz.prog) 25 3 (.int .i64 0) 8 Tryz.underlying25 (by kernel_rfl) rfl .i64 .i64 m (by omega) (by omega)
  clear HG h1
  go_enter Tryz.func22, Tryz.ntmps22
  go_upto_region 6 with fail
  refine wp_world (fun W2 hW2 => ?_)
  have H2 : Hid (W2.rowIs (w.heap.size + 1) 3 m (kzV ns 0) ∧ Blk W2 w.heap.size [.slice a m c, .int .i64 out] ∧ Below w.heap.size w W2) := Lib.hid (by
    rw [hW2]
    exact ⟨(show (w.heap.size + 1) = (w.alloc (.cells #[.slice a m c, .int .i64 out] 24)).heap.size by simp) ▸ World.rowIs.congr (World.rowIs_made (w.alloc (.cells #[.slice a m c, .int .i64 out] 24)) (.int .i64 0) m 3) (fun j _ => by simp [kzV]), (Blk.new _ _ _ _ rfl).alloc _, by (repeat (first | exact Below.refl _ _ | assumption | (refine Below.setCell ?_ (by first | (simp; done) | (simp; omega) | omega) _) | (refine Below.drew ?_) | (refine below_drewN ?_ _) | (refine Below.alloc ?_ (by first | (simp; done) | (simp; omega) | omega) _) | (refine Below.trans ?_ (Below.mono (by assumption) (by first | (simp; done) | (simp; omega) | omega)))))⟩)
  have g0 := H2.out.2.1.c 0 _ rfl; have g1 := H2.out.2.1.c 1 _ rfl; have gl := H2.out.2.1.lt
  clear hW2 hmk
  go_wp2_with fail
  go_loopw [26] (fun s26 wr => ∃ i : Nat, i ≤ m ∧ s26 = .int .i64 i ∧ fstN (ndE ns) i = 0 ∧ wr.rowIs (w.heap.size + 1) 3 m (kzV ns i) ∧ Blk wr w.heap.size [.slice a m c, .int .i64 out] ∧ Below w.heap.size w wr) (fun s26 _ => m - (intOf s26).toNat)
  case atStart => exact ⟨0, Nat.zero_le _, rfl, rfl, H2.out.1, H2.out.2.1, H2.out.2.2⟩
  case round =>
    obtain ⟨i, hi, rfl, hz, hR, hK, hB⟩ := hrel
    have HZ := Lib.hid hz; have HR := Lib.hid hR; have HK := Lib.hid hK; have HB := Lib.hid hB
    clear hz hR hK hB H2 g0 g1 gl
    by_cases him : i < m
    · have himi : (i : Int) < (m : Int) := by omega
      obtain ⟨n, hn⟩ : ∃ n, ns[i]? = some n := ⟨_, List.getElem?_eq_getElem (by rw [← HM.out]; exact him)⟩
      obtain ⟨b, off, rfl, hna, hnb⟩ := HH.out.get hn
      have hna2 := hna.past HB.out
      obtain ⟨op, ins, ints, reals, ia, ic, na, nc, ra, rc⟩ := n
      have HN := Lib.hid (And.intro hn (And.intro hna2 hnb))
      have HX := Lib.hid (fun hk => fstN_of HZ.out hk him : ndE ns i ≠ 0 → fstN (ndE ns) m = ndE ns i)
      have HXE : Hid (∀ v, v ≠ 0 → ndE ns i = v → E = v) := Lib.hid (fun v h1 h2 => by rw [HEE.out, HX.out (by rw [h2]; exact h1), h2, fst2_n h1])
      have HS := Lib.hid (fun hk => fstN_succ (k := i) HZ.out hk : ndE ns i = 0 → fstN (ndE ns) (i + 1) = 0)
      have HE := Lib.hid (show ndE ns i = nd1 ns i ⟨op, ins, ints, reals, ia, ic, na, nc, ra, rc⟩ by unfold ndE; rw [hn])
      have c0 : wr.cell? ⟨b, off + i * 4, none⟩ = some (.string op) := HN.out.2.1.c0
      have c1 : wr.cell? ⟨b, off + i * 4 + 1, none⟩ = some (.slice ia ins.length ic) := HN.out.2.1.c1
      have c2 : wr.cell? ⟨b, off + i * 4 + 2, none⟩ = some (.slice na ints.length nc) := HN.out.2.1.c2
      have c3 : wr.cell? ⟨b, off + i * 4 + 3, none⟩ = some (.slice ra reals.length rc) := HN.out.2.1.c3
      have l0 := cell_lt c0; simp only at l0
      clear hn hna hnb hna2 HX
      go_upto_region 9 with fail
      refine wp_world (fun W4 hW4 => ?_)
      have H4p : Blk W4 wr.heap.size [.string op, .slice ia ins.length ic, .slice na ints.length nc, .slice ra reals.length rc] ∧ Below wr.heap.size wr W4 := by rw [hW4]; exact ⟨Blk.new _ _ _ _ rfl, by (repeat (first | exact Below.refl _ _ | assumption | (refine Below.setCell ?_ (by first | (simp; done) | (simp; omega) | omega) _) | (refine Below.drew ?_) | (refine below_drewN ?_ _) | (refine Below.alloc ?_ (by first | (simp; done) | (simp; omega) | omega) _) | (refine Below.trans ?_ (Below.mono (by assumption) (by first | (simp; done) | (simp; omega) | omega)))))⟩
      obtain ⟨nb, hnb⟩ : ∃ nb, nb = wr.heap.size := ⟨_, rfl⟩
      have HNB := Lib.hid hnb
      have H4 : Hid (Blk W4 nb [.string op, .slice ia ins.length ic, .slice na ints.length nc, .slice ra reals.length rc] ∧ Below wr.heap.size wr W4) := Lib.hid ⟨by rw [hnb]; exact H4p.1, H4p.2⟩
      rw [← hnb]
      clear hW4 c0 c1 c2 c3 l0 hnb H4p
      have m0 := H4.out.1.c 0 _ rfl; have ml := H4.out.1.lt
      cases hk : opK op.data.toList with
      | none =>
        have HE1 := Lib.hid (show ndE ns i = 1 by rw [HE.out]; unfold nd1; rw [hk])
        have HO := Lib.hid (fun w' => op_no hk w')
        clear hk HE
        go_wp2_with (go_at_call 30; refine (HO.out _).mono ?_; rintro e w5 ⟨rfl, hb5⟩)
        go_ret
        rw [HXE.out 1 (by decide) HE1.out]
        exact ⟨rfl, HB.out.trans ((H4.out.2.trans ((hb5.trans (((Below.refl w5.heap.size w5).alloc (Nat.le_refl _) _).mono hb5.size)).mono H4.out.2.size)).mono HB.out.size)⟩
      | some k =>
        have hk27 := (opK_name hk).1
        have HOP := Lib.hid (fun w' => op_yes hk w')
        have HPA := Lib.hid (fun (w' : World) hni hnr hi hr => par_all hk na ra nc rc ints reals w' hni hnr HN.out.2.2.2.2.2.2.1 HN.out.2.2.2.2.2.2.2 hi hr : ∀ w', _)
        have HE2 := Lib.hid (show ndE ns i = if ins.length = (F k).ins.length ∧ (ints.length : Int) = (F k).ints ∧ (reals.length : Int) = (F k).reals then fst2 (fstN (fun j => in1 ns i (ins.getD j 0) ((F k).ins.getD j 0)) ins.length) (paE k ints reals) else 2 by rw [HE.out]; unfold nd1; rw [hk])
        have HKD := Lib.hid (kdO_at HN.out.1 hk)
        have HF3 := Lib.hid ((F_small hk27).2.1)
        have HFO := Lib.hid (F_out hk27)
        obtain ⟨f, hf⟩ : ∃ f, f = F k := ⟨_, rfl⟩
        rw [← hf] at HOP HPA HE2 HKD HF3 HFO
        clear hf hk hk27 HE
        go_upto_region 10 with (go_at_call 30; refine (HOP.out _).mono ?_; rintro e w5 ⟨fa, fc, rfl, hI, hb5⟩)
        refine wp_world (fun W6 hW6 => ?_)
        have H6p : Blk W6 nb [.string op, .slice ia ins.length ic, .slice na ints.length nc, .slice ra reals.length rc] ∧ Blk W6 w5.heap.size (fCells f fa fc) ∧ IntsAt 0 W6 fa f.ins ∧ Below wr.heap.size wr W6 := by
          have hb6 : Below w5.heap.size w5 W6 := by rw [hW6]; (repeat (first | exact Below.refl _ _ | assumption | (refine Below.setCell ?_ (by first | (simp; done) | (simp; omega) | omega) _) | (refine Below.drew ?_) | (refine below_drewN ?_ _) | (refine Below.alloc ?_ (by first | (simp; done) | (simp; omega) | omega) _) | (refine Below.trans ?_ (Below.mono (by assumption) (by first | (simp; done) | (simp; omega) | omega)))))
          exact ⟨(H4.out.1.past hb5).past hb6, by rw [hW6]; exact Blk.new _ _ _ _ rfl, hI.past hb6, H4.out.2.trans ((hb5.trans (hb6.mono hb5.size)).mono H4.out.2.size)⟩
        obtain ⟨fb, hfb⟩ : ∃ fb, fb = w5.heap.size := ⟨_, rfl⟩
        have H6 : Hid (Blk W6 nb [.string op, .slice ia ins.length ic, .slice na ints.length nc, .slice ra reals.length rc] ∧ Blk W6 fb (fCells f fa fc) ∧ IntsAt 0 W6 fa f.ins ∧ Below wr.heap.size wr W6) := Lib.hid ⟨H6p.1, by rw [hfb]; exact H6p.2.1, H6p.2.2⟩
        rw [← hfb]
        clear hW6 hI hb5 hfb m0 ml H4 H6p
        have m0 := H6.out.1.c 0 _ rfl; have m1 := H6.out.1.c 1 _ rfl; have m2 := H6.out.1.c 2 _ rfl; have m3 := H6.out.1.c 3 _ rfl; have ml := H6.out.1.lt
        obtain ⟨o0, o1, o2, o3, o4, o5⟩ := fCells_at H6.out.2.1
        have ol := H6.out.2.1.lt
        by_cases p1 : ins.length = f.ins.length
        case neg =>
          have HE3 := Lib.hid (HXE.out 2 (by decide) (by rw [HE2.out, if_neg (fun h => p1 h.1)]))
          have p1i : ¬ ((ins.length : Int) = (f.ins.length : Int)) := by omega
          go_wp2_with fail
          go_ret
          rw [HE3.out]
          exact ⟨rfl, HB.out.trans (H6.out.2.2.2.mono HB.out.size)⟩
        by_cases p2 : (ints.length : Int) = f.ints
        case neg =>
          have HE3 := Lib.hid (HXE.out 2 (by decide) (by rw [HE2.out, if_neg (fun h => p2 h.2.1)]))
          have p1i : ((ins.length : Int) = (f.ins.length : Int)) := by omega
          clear p1
          go_wp2_with fail
          go_ret
          rw [HE3.out]
          exact ⟨rfl, HB.out.trans (H6.out.2.2.2.mono HB.out.size)⟩
        by_cases p3 : (reals.length : Int) = f.reals
        case neg =>
          have HE3 := Lib.hid (HXE.out 2 (by decide) (by rw [HE2.out, if_neg (fun h => p3 h.2.2)]))
          have p1i : ((ins.length : Int) = (f.ins.length : Int)) := by omega
          clear p1
          go_wp2_with fail
          go_ret
          rw [HE3.out]
          exact ⟨rfl, HB.out.trans (H6.out.2.2.2.mono HB.out.size)⟩
        rw [if_pos ⟨p1, p2, p3⟩] at HE2
        have p1i : ((ins.length : Int) = (f.ins.length : Int)) := by omega
        have HP := Lib.hid (And.intro p1 (And.intro p2 p3))
        clear p1
        go_upto_region 14 with fail
        clear p1i p2 p3 m0 m1 m2 m3 ml o0 o1 o2 o3 o4 o5 ol
        have m1 := H6.out.1.c 1 _ rfl; have ml := H6.out.1.lt
        go_wp2_with fail
        have HE4 : Hid (∀ v, fst2 (fstN (fun j => in1 ns i (ins.getD j 0) (f.ins.getD j 0)) ins.length) (paE k ints reals) = v → v ≠ 0 → E = v) := Lib.hid (fun v h1 h2 => HXE.out v h2 (by rw [HE2.out, h1]))
        have HFZ := Lib.hid (fstN_zero HZ.out)
        go_loopw [65] (fun s65 wq => ∃ j : Nat, j ≤ ins.length ∧ s65 = .int .i64 j ∧ fstN (fun j => in1 ns i (ins.getD j 0) (f.ins.getD j 0)) j = 0 ∧ Below W6.heap.size W6 wq) (fun s65 _ => ins.length - (intOf s65).toNat)
        case atStart => exact ⟨0, Nat.zero_le _, rfl, rfl, Below.refl _ _⟩
        case round =>
          obtain ⟨j, hj, rfl, hjz, hq⟩ := hrel
          have HJZ := Lib.hid hjz; have HQ := Lib.hid hq
          clear hjz hq m1 ml
          have HWB := Lib.hid (HB.out.trans ((H6.out.2.2.2.trans (HQ.out.mono H6.out.2.2.2.size)).mono HB.out.size))
          by_cases hjl : j < ins.length
          · have hjli : (j : Int) < (ins.length : Int) := by omega
            have hj3 : j ≤ 3 := by have := HF3.out; have := HP.out.1; omega
            have hjf : j < f.ins.length := by have := HP.out.1; omega
            have hjfi : (j : Int) < (f.ins.length : Int) := by omega
            obtain ⟨u, hu⟩ : ∃ u, ins[j]? = some u := ⟨_, List.getElem?_eq_getElem hjl⟩
            obtain ⟨v, hv⟩ : ∃ v, f.ins[j]? = some v := ⟨_, List.getElem?_eq_getElem hjf⟩
            obtain ⟨bi, oi, rfl, ci⟩ := (HN.out.2.1.i.past (H6.out.2.2.2.trans (HQ.out.mono H6.out.2.2.2.size))).one hu
            obtain ⟨bf, of, rfl, cf⟩ := (H6.out.2.2.1.past HQ.out).one hv
            have HIN := Lib.hid (show (fun j => in1 ns i (ins.getD j 0) (f.ins.getD j 0)) j = in1 ns i u v by simp only [List.getD_eq_getElem?_getD, hu, hv, Option.getD_some])
            have HIE := Lib.hid (fun h => HE4.out _ (by rw [fstN_of HJZ.out h hjl, fst2_n h]) h : (fun j => in1 ns i (ins.getD j 0) (f.ins.getD j 0)) j ≠ 0 → E = (fun j => in1 ns i (ins.getD j 0) (f.ins.getD j 0)) j)
            have HIS := Lib.hid (fun h => fstN_succ HJZ.out h : (fun j => in1 ns i (ins.getD j 0) (f.ins.getD j 0)) j = 0 → _)
            have li := cell_lt ci; simp only at li
            have lf := cell_lt cf; simp only at lf
            clear hu hv
            by_cases hr : 0 ≤ u ∧ u < (i : Int)
            case neg =>
              have HV : Hid (E = 11) := Lib.hid (by
                have h1 : in1 ns i u v = 11 := by unfold in1; rw [if_neg hr]
                rw [HIE.out (by rw [HIN.out, h1]; decide), HIN.out, h1])
              have hr2 : u < 0 ∨ (¬ u < 0 ∧ (i : Int) ≤ u) := by omega
              clear hr
              rcases hr2 with q1 | ⟨q1, q2⟩
              all_goals
                go_wp2_with fail
                go_ret
                rw [HV.out]
                exact ⟨rfl, HWB.out⟩
            case pos =>
              obtain ⟨x, hx⟩ : ∃ x : Nat, u = (x : Int) := ⟨u.toNat, by omega⟩
              subst hx
              have q1 : ¬ ((x : Int) < 0) := by omega
              have q2 : ¬ ((i : Int) ≤ (x : Int)) := by omega
              have hxi : x < i := by omega
              have hxm : x < m := by omega
              have hxmi : (x : Int) < (m : Int) := by omega
              have HI1 := Lib.hid (show in1 ns i (x : Int) v = if kdO ns x = v then 0 else 12 by unfold in1; rw [if_pos hr, Int.toNat_natCast])
              have hrq := HR.out.of_block ((H6.out.2.2.2.trans (HQ.out.mono H6.out.2.2.2.size)).block _ HR.out.lt)
              have kx := hrq.cell hxm
              have kl := hrq.lt
              rw [show kzV ns i x = .int .i64 (kdO ns x) by unfold kzV; rw [if_pos hxi]] at kx
              obtain ⟨kd, hkd⟩ : ∃ kd, kd = kdO ns x := ⟨_, rfl⟩
              rw [← hkd] at HI1 kx
              have o1 := (H6.out.2.1.past HQ.out).c 1 _ rfl
              have ol := (H6.out.2.1.past HQ.out).lt
              clear hrq hr hkd
              have HV0 := Lib.hid (HIS.out)
              by_cases hkv : kd = v
              case neg =>
                have HV : Hid (E = 12) := Lib.hid (by
                  have h1 : in1 ns i (x : Int) v = 12 := by rw [HI1.out, if_neg hkv]
                  rw [HIE.out (by rw [HIN.out, h1]; decide), HIN.out, h1])
                go_upto_region 19 with fail
                go_quiet (fail)
                go_wp2_with fail
                go_ret
                rw [HV.out]
                exact ⟨rfl, below_drewN HWB.out _⟩
              case pos =>
                have HV := Lib.hid (HIS.out (by rw [HIN.out, HI1.out, if_pos hkv]))
                go_upto_region 19 with fail
                go_quiet (fail)
                go_wp2_with fail
                go_roundw
                case rel => exact ⟨j + 1, by omega, by go_num, HV.out, below_drewN HQ.out _⟩
                case measure => simp [intOf]; omega
          · have hjli : ¬ (j : Int) < (ins.length : Int) := by omega
            obtain rfl : j = ins.length := by omega
            have HE5 := Lib.hid (show ndE ns i = paE k ints reals by rw [HE2.out, HJZ.out, fst2_0])
            have n0 := (H6.out.1.past HQ.out).c 0 _ rfl; have n2 := (H6.out.1.past HQ.out).c 2 _ rfl; have n3 := (H6.out.1.past HQ.out).c 3 _ rfl; have nl := (H6.out.1.past HQ.out).lt
            have HMM := Lib.hid (H6.out.2.2.2.trans (HQ.out.mono H6.out.2.2.2.size))
            obtain ⟨pe, hpe⟩ : ∃ pe, pe = paE k ints reals := ⟨_, rfl⟩
            rw [← hpe] at HPA HE5
            clear hpe
            go_upto_region 23 with (go_at_call 47; refine (HPA.out _ HP.out.2.1 HP.out.2.2 (HN.out.2.1.k.past HMM.out) (HN.out.2.1.r.past HMM.out)).mono ?_; rintro e w8 ⟨rfl, hb8⟩)
            have HB8 := Lib.hid hb8
            clear hb8 n0 n2 n3 nl
            by_cases hp0 : pe = 0
            case neg =>
              have HV := Lib.hid (HXE.out pe hp0 HE5.out)
              go_wp2_with fail
              go_ret
              rw [HV.out]
              exact ⟨by simp, HWB.out.trans (HB8.out.mono HWB.out.size)⟩
            case pos =>
              have HV := Lib.hid (HS.out (by rw [HE5.out]; exact hp0))
              have HR8 := Lib.hid (HR.out.of_block ((HMM.out.trans (HB8.out.mono HMM.out.size)).block _ HR.out.lt))
              have HK8 := Lib.hid (HK.out.past (HMM.out.trans (HB8.out.mono HMM.out.size)))
              have HW8 := Lib.hid (HWB.out.trans (HB8.out.mono HWB.out.size))
              have o2 := (H6.out.2.1.past (HQ.out.trans (HB8.out.mono HQ.out.size))).c 2 _ rfl
              have ol := (H6.out.2.1.past (HQ.out.trans (HB8.out.mono HQ.out.size))).lt
              have r0 := HR8.out.cell him
              have r1 := HR8.out.frozen i
              have rl := HR8.out.lt
              go_wp2_with fail
              go_roundw
              case rel =>
                refine ⟨i + 1, by omega, by go_num, HV.out, ?_, HK8.out.far _ _ (by simp), HW8.out.setCell (by simp) _⟩
                refine World.rowIs.congr (World.rowIs.set HR8.out i _) (fun j hj => ?_)
                unfold kzV
                by_cases e : j = i
                · subst e; rw [if_pos rfl, if_pos (by omega), HKD.out]
                · rw [if_neg e]
                  by_cases e2 : j < i
                  · rw [if_pos e2, if_pos (by omega)]
                  · rw [if_neg e2, if_neg (by omega)]
              case measure => simp [intOf]; omega
    · have himi : ¬ (i : Int) < (m : Int) := by omega
      obtain rfl : i = m := by omega
      have HE5 := Lib.hid (show E = if 0 ≤ out ∧ out < (i : Int) then (if kdO ns out.toNat = 2 then 12 else 0) else 11 by rw [HEE.out, HZ.out, fst2_0])
      have g0 := HK.out.c 0 _ rfl; have g1 := HK.out.c 1 _ rfl; have gl := HK.out.lt
      by_cases ho : 0 ≤ out ∧ out < (i : Int)
      case neg =>
        have HV := Lib.hid (show E = 11 by rw [HE5.out, if_neg ho])
        have ho2 : out < 0 ∨ (¬ out < 0 ∧ (i : Int) ≤ out) := by omega
        clear ho
        rcases ho2 with q1 | ⟨q1, q2⟩
        all_goals
          go_wp2_with fail
          go_ret
          rw [HV.out]
          exact ⟨rfl, HB.out⟩
      case pos =>
        rw [if_pos ho] at HE5
        obtain ⟨x, hx⟩ : ∃ x : Nat, out = (x : Int) := ⟨out.toNat, by omega⟩
        subst hx
        rw [Int.toNat_natCast] at HE5
        have q1 : ¬ ((x : Int) < 0) := by omega
        have q2 : ¬ ((i : Int) ≤ (x : Int)) := by omega
        have hxm : x < i := by omega
        have hxmi : (x : Int) < (i : Int) := by omega
        have kx := HR.out.cell hxm
        have kl := HR.out.lt
        rw [show kzV ns i x = .int .i64 (kdO ns x) by unfold kzV; rw [if_pos hxm]] at kx
        have hk12 : kdO ns x = 1 ∨ kdO ns x = 2 := by
          obtain ⟨n, k, h1, h2, h3⟩ := nd_op (j := x) (by rw [← HM.out]; exact hxm) (fstN_zero HZ.out x hxm)
          rw [h3]; exact F_out (opK_name h2).1
        obtain ⟨kd, hkd⟩ : ∃ kd, kd = kdO ns x := ⟨_, rfl⟩
        rw [← hkd] at HE5 kx hk12
        have HOK := Lib.hid (fun w' => outKind_at hk12 w')
        obtain ⟨r, hr⟩ : ∃ r : Int, r = if kd = 2 then 12 else 0 := ⟨_, rfl⟩
        rw [← hr] at HE5 HOK
        clear ho hkd hk12 hr
        go_wp2_with (go_at_call 48; refine (HOK.out _).mono ?_; rintro e w9 ⟨rfl, rfl⟩)
        go_ret
        rw [HE5.out]
        exact ⟨rfl, HB.out⟩
end Go.Proofs.YtbclecoblcfboaaGreatDoor
