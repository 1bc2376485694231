/- node.CheckProgram at any program. Condition: its steps can be read. -/
import Derived.Test.YtbaocallhnehfaaGreatDoorPrB
import Derived.Test.YtbaocallhnehfaaGreatDoorGhC
set_option linter.unusedSimpArgs false
set_option linter.unusedVariables false
namespace Go.Proofs.YtbaocallhnehfaaGreatDoor
open Go Go.RowKit
set_option maxRecDepth 100000 in
theorem outKind_0 (w : World) : Calls Tryz.prog 31 #[.int .i64 0] w fun e w' => e = .returned (.int .i64 11) ∧ w = w' := by
  go_enter Tryz.func31, Tryz.ntmps31
  go_wp2_with fail
  go_ret
  exact ⟨rfl, rfl⟩
/-- What the map of kinds gives at a name. -/
def kgS (S : Nat → StepD) (i : Nat) (l : List UInt8) : Int := match posS S i l with
  | none => 0
  | some j => kdS S j
theorem kfS_get (S : Nat → StepD) (i : Nat) (l : List UInt8) : (kfS S i l).getD (.int .i64 0) = .int .i64 (kgS S i l) := by
  unfold kfS kgS
  cases posS S i l <;> rfl
theorem kgS_some {S : Nat → StepD} {i j : Nat} {l : List UInt8} (hz : fstN (stE S) i = 0) (h : posS S i l = some j) : kgS S i l = kdS S j ∧ (kdS S j = 1 ∨ kdS S j = 2) := ⟨by unfold kgS; rw [h], kdS_12 (n := 0) hz (posS_lt h)⟩
theorem kgS_none {S : Nat → StepD} {i : Nat} {l : List UInt8} (h : posS S i l = none) : kgS S i l = 0 := by unfold kgS; rw [h]
set_option maxRecDepth 100000 in
set_option maxHeartbeats 6400000 in
theorem CheckProgram_any (a : Option Addr) (c m : Nat) (S : Nat → StepD) (out : ByteArray) (w : World) (hout : out.size ≤ maxLen) (h : StepsAt w a c m S) :
    Calls Tryz.prog 13 #[.agg #[.slice a m c, .string out]] w fun e w' => e = .returned (.int .i64 (pgE m S out.data.toList)) ∧ Below w.heap.size w w' := by
  have HH := Lib.hid h
  have hmc : m ≤ c := h.r.lc
  have hcm : c ≤ 9223372036854775807 := by have := h.r.lm; unfold maxLen at this; omega
  clear h
  have HOUT := Lib.hid hout
  clear hout
  have HG := Lib.hid (show pgE m S out.data.toList = if m = 0 then 10 else if 100 < m then 4 else fst2 (fstN (stE S) m) (match posS S m out.data.toList with | none => 11 | some j => if kdS S j = 2 then 12 else 0) from rfl)
  obtain ⟨E, hE⟩ : ∃ E, E = pgE m S out.data.toList := ⟨_, rfl⟩
  rw [← hE] at HG
  rw [← hE]
  clear hE
  by_cases h0 : m = 0
  · subst h0
    have HV := Lib.hid (show E = 10 from HG.out)
    clear HG HH
    go_enter Tryz.func13, Tryz.ntmps13
    go_wp2_with fail
    go_ret
    rw [HV.out]
    exact ⟨rfl, by (repeat (first | exact Below.refl _ _ | assumption | (refine Below.setCell ?_ (by first | (simp; done) | (simp; omega) | omega) _) | (refine Below.drew ?_) | (refine below_drewN ?_ _) | (refine Below.alloc ?_ (by first | (simp; done) | (simp; omega) | omega) _) | (refine Below.trans ?_ (Below.mono (by assumption) (by first | (simp; done) | (simp; omega) | omega)))))⟩
  by_cases h1 : 100 < m
  · have HV := Lib.hid (show E = 4 by rw [HG.out, if_neg h0, if_pos h1])
    have h0i : ¬ ((m : Int) = 0) := by omega
    have h1i : (100 : Int) < (m : Int) := by omega
    clear HG HH
    go_enter Tryz.func13, Tryz.ntmps13
    go_wp2_with fail
    go_ret
    rw [HV.out]
    exact ⟨rfl, by (repeat (first | exact Below.refl _ _ | assumption | (refine Below.setCell ?_ (by first | (simp; done) | (simp; omega) | omega) _) | (refine Below.drew ?_) | (refine below_drewN ?_ _) | (refine Below.alloc ?_ (by first | (simp; done) | (simp; omega) | omega) _) | (refine Below.trans ?_ (Below.mono (by assumption) (by first | (simp; done) | (simp; omega) | omega)))))⟩
  have HEE := Lib.hid (show E = fst2 (fstN (stE S) m) (match posS S m out.data.toList with | none => 11 | some j => if kdS S j = 2 then 12 else 0) by rw [HG.out, if_neg h0, if_neg h1])
  have HLE := Lib.hid (show m ≤ 100 by omega)
  have h0i : ¬ ((m : Int) = 0) := by omega
  have h1i : ¬ ((100 : Int) < (m : Int)) := by omega
  have hmm := @run_makeMap Tryz.prog
  clear HG h1
  go_enter Tryz.func13, Tryz.ntmps13
  go_upto_region 6 with fail
  refine wp_world (fun W2 hW2 => ?_)
  obtain ⟨mb, hmb⟩ : ∃ mb, mb = w.heap.size + 1 := ⟨_, rfl⟩
  obtain ⟨pl, hpl⟩ : ∃ pl, pl = w.heap.size := ⟨_, rfl⟩
  have H2 : Hid (MapS W2 mb 0 (kfS S 0) ∧ Blk W2 pl [.slice a m c, .string out] ∧ Below w.heap.size w W2) := Lib.hid (by
    rw [hW2, hmb, hpl]
    refine ⟨?_, (Blk.new _ _ _ _ rfl).alloc _, by (repeat (first | exact Below.refl _ _ | assumption | (refine Below.setCell ?_ (by first | (simp; done) | (simp; omega) | omega) _) | (refine Below.drew ?_) | (refine below_drewN ?_ _) | (refine Below.alloc ?_ (by first | (simp; done) | (simp; omega) | omega) _) | (refine Below.trans ?_ (Below.mono (by assumption) (by first | (simp; done) | (simp; omega) | omega)))))⟩
    have h := MapS.made (w.alloc (.cells #[.slice a m c, .string out] 24))
    simpa [kfS_0] using h)
  have HMB := Lib.hid (show w.heap.size ≤ mb ∧ w.heap.size ≤ pl ∧ pl ≠ mb by omega)
  rw [← hmb, ← hpl]
  clear hW2 hmm hmb hpl
  have g0 := H2.out.2.1.c 0 _ rfl; have g1 := H2.out.2.1.c 1 _ rfl; have gl := H2.out.2.1.lt
  go_wp2_with fail
  clear g0 g1 gl
  go_loopw [23] (fun s23 wr => ∃ i : Nat, i ≤ m ∧ s23 = .int .i64 i ∧ fstN (stE S) i = 0 ∧ MapS wr mb i (kfS S i) ∧ Blk wr pl [.slice a m c, .string out] ∧ Below w.heap.size w wr) (fun s23 _ => m - (intOf s23).toNat)
  case atStart => exact ⟨0, Nat.zero_le _, rfl, rfl, H2.out.1, H2.out.2.1, H2.out.2.2⟩
  case round =>
    obtain ⟨i, hi, rfl, hz, hR, hK, hB⟩ := hrel
    have HZ := Lib.hid hz; have HR := Lib.hid hR; have HK := Lib.hid hK; have HB := Lib.hid hB
    clear hz hR hK hB H2
    by_cases him : i < m
    · have himi : (i : Int) < (m : Int) := by omega
      obtain ⟨b, off, rfl, hrow⟩ := (HH.out.r.past HB.out).get him
      have HST := Lib.hid ((HH.out.s i him).past HB.out)
      have HX := Lib.hid (fun hk => fstN_of HZ.out hk him : stE S i ≠ 0 → fstN (stE S) m = stE S i)
      have HXE : Hid (∀ v, v ≠ 0 → stE S i = v → E = v) := Lib.hid (fun v h1 h2 => by rw [HEE.out, HX.out (by rw [h2]; exact h1), h2, fst2_n h1])
      have HS := Lib.hid (fun hk => fstN_succ (k := i) HZ.out hk : stE S i = 0 → fstN (stE S) (i + 1) = 0)
      have HE := Lib.hid (show stE S i = if okN (S i).nm.data.toList = false then 6 else if (posS S i (S i).nm.data.toList).isSome then 7 else match opK (S i).op.data.toList with
        | none => 1
        | some k => if (S i).ins.length = (F k).ins.length ∧ ((S i).ints.length : Int) = (F k).ints ∧ ((S i).reals.length : Int) = (F k).reals
            then fst2 (fstN (fun j => inS1 S i ((S i).ins.getD j ⟨#[]⟩).data.toList ((F k).ins.getD j 0)) (S i).ins.length) (paE k (S i).ints (S i).reals) else 2 from rfl)
      have HPUT := Lib.hid (fun h => kfS_put h : posS S i (S i).nm.data.toList = none → _)
      have HKD := Lib.hid (show kdS S i = match opK (S i).op.data.toList with | none => 0 | some k => (F k).out from rfl)
      obtain ⟨s, hs⟩ : ∃ s, s = S i := ⟨_, rfl⟩
      rw [← hs] at hrow HST HE HPUT HKD
      clear hs HX
      obtain ⟨nm, op, ins, ints, reals, ia, ic, na, nc, ra, rc⟩ := s
      simp only at HE HPUT HKD
      have c0 := hrow 0 _ rfl; have c1 := hrow 1 _ rfl; have c2 := hrow 2 _ rfl; have c3 := hrow 3 _ rfl; have c4 := hrow 4 _ rfl
      rw [Nat.add_zero] at c0
      simp only at c0 c1 c2 c3 c4
      have l0 := cell_lt c0; simp only at l0
      clear hrow
      go_upto_region 9 with fail
      refine wp_world (fun W4 hW4 => ?_)
      have H4p : Blk W4 wr.heap.size [.string nm, .string op, .slice ia ins.length ic, .slice na ints.length nc, .slice ra reals.length rc] ∧ Below wr.heap.size wr W4 := by rw [hW4]; exact ⟨Blk.new _ _ _ _ rfl, by (repeat (first | exact Below.refl _ _ | assumption | (refine Below.setCell ?_ (by first | (simp; done) | (simp; omega) | omega) _) | (refine Below.drew ?_) | (refine below_drewN ?_ _) | (refine Below.alloc ?_ (by first | (simp; done) | (simp; omega) | omega) _) | (refine Below.trans ?_ (Below.mono (by assumption) (by first | (simp; done) | (simp; omega) | omega)))))⟩
      obtain ⟨nb, hnb⟩ : ∃ nb, nb = wr.heap.size := ⟨_, rfl⟩
      have H4 : Hid (Blk W4 nb [.string nm, .string op, .slice ia ins.length ic, .slice na ints.length nc, .slice ra reals.length rc] ∧ Below wr.heap.size wr W4) := Lib.hid ⟨by rw [hnb]; exact H4p.1, H4p.2⟩
      rw [← hnb]
      clear hW4 c0 c1 c2 c3 c4 l0 hnb H4p
      have m0 := H4.out.1.c 0 _ rfl; have m1 := H4.out.1.c 1 _ rfl; have ml := H4.out.1.lt
      have HNA := Lib.hid (fun w' => isName_any nm HST.out.n w')
      obtain ⟨ok, hok⟩ : ∃ ok, ok = okN nm.data.toList := ⟨_, rfl⟩
      rw [← hok] at HNA HE
      clear hok
      cases ok
      case false =>
        have HE1 := Lib.hid (show E = 6 by exact HXE.out 6 (by decide) (by rw [HE.out]; rfl))
        go_wp2_with (go_at_call 28; refine (HNA.out _).mono ?_; rintro e w5 ⟨rfl, hb5⟩)
        go_ret
        rw [HE1.out]
        exact ⟨rfl, HB.out.trans ((H4.out.2.trans (hb5.mono H4.out.2.size)).mono HB.out.size)⟩
      case true =>
      go_upto_region 11 with (go_at_call 28; refine (HNA.out _).mono ?_; rintro e w5 ⟨rfl, hb5⟩)
      have H5 := Lib.hid (And.intro (H4.out.1.past hb5) (H4.out.2.trans (hb5.mono H4.out.2.size)))
      clear hb5 m0 m1 ml HNA H4
      have m0 := H5.out.1.c 0 _ rfl; have m1 := H5.out.1.c 1 _ rfl; have ml := H5.out.1.lt
      have HM5 := Lib.hid (HR.out.past H5.out.2)
      have HKG := Lib.hid (kfS_get S i nm.data.toList)
      cases hpos : posS S i nm.data.toList with
      | some j =>
        obtain ⟨q1, q2⟩ := kgS_some HZ.out hpos
        have HE1 := Lib.hid (show E = 7 by exact HXE.out 7 (by decide) (by rw [HE.out, hpos]; rfl))
        rw [q1] at HKG
        generalize kdS S j = kd at HKG q2
        have q3 : (kd != 0) = true := by rcases q2 with rfl | rfl <;> rfl
        clear q1 q2 hpos
        go_wp2_with (at_lookup; refine wpList_lookS0 rfl _ _ 49 3 rfl Tryz.underlying49 (zeroI _) mb i rfl HM5.out nm HST.out.n rfl ?_; rw [HKG.out])
        go_ret
        rw [HE1.out]
        exact ⟨rfl, HB.out.trans (H5.out.2.mono HB.out.size)⟩
      | none =>
      rw [kgS_none hpos] at HKG
      rw [hpos] at HE
      have HP := Lib.hid (HPUT.out hpos)
      clear hpos HPUT
      go_upto_region 13 with (at_lookup; refine wpList_lookS0 rfl _ _ 49 3 rfl Tryz.underlying49 (zeroI _) mb i rfl HM5.out nm HST.out.n rfl ?_; rw [HKG.out])
      clear HKG
      cases hk : opK op.data.toList with
      | none =>
        have HE1 := Lib.hid (show E = 1 by exact HXE.out 1 (by decide) (by rw [HE.out, hk]; rfl))
        have HO := Lib.hid (fun w' => op_no hk w')
        clear hk HE HKD
        go_wp2_with (go_at_call 29; refine (HO.out _).mono ?_; rintro e w6 ⟨rfl, hb6⟩)
        go_ret
        rw [HE1.out]
        exact ⟨rfl, HB.out.trans ((H5.out.2.trans ((hb6.trans (((Below.refl w6.heap.size w6).alloc (Nat.le_refl _) _).mono hb6.size)).mono H5.out.2.size)).mono HB.out.size)⟩
      | some k =>
      have hk27 := (opK_name hk).1
      have HOP := Lib.hid (fun w' => op_yes hk w')
      have HPA := Lib.hid (fun (w' : World) hni hnr hi hr => par_all hk na ra nc rc ints reals w' hni hnr HST.out.br.1 HST.out.br.2 hi hr : ∀ w', _)
      have HE2 := Lib.hid (show stE S i = if ins.length = (F k).ins.length ∧ (ints.length : Int) = (F k).ints ∧ (reals.length : Int) = (F k).reals then fst2 (fstN (fun j => inS1 S i (ins.getD j ⟨#[]⟩).data.toList ((F k).ins.getD j 0)) ins.length) (paE k ints reals) else 2 by rw [HE.out, hk]; rfl)
      rw [hk] at HKD
      simp only at HKD
      have HF3 := Lib.hid ((F_small hk27).2.1)
      have HFO := Lib.hid (F_out hk27)
      obtain ⟨f, hf⟩ : ∃ f, f = F k := ⟨_, rfl⟩
      rw [← hf] at HOP HPA HE2 HKD HF3 HFO
      clear hf hk hk27 HE
      go_upto_region 14 with (go_at_call 29; refine (HOP.out _).mono ?_; rintro e w6 ⟨fa, fc, rfl, hI, hb6⟩)
      refine wp_world (fun W6 hW6 => ?_)
      have H6p : Blk W6 nb [.string nm, .string op, .slice ia ins.length ic, .slice na ints.length nc, .slice ra reals.length rc] ∧ Blk W6 w6.heap.size (fCells f fa fc) ∧ IntsAt 0 W6 fa f.ins ∧ Below wr.heap.size wr W6 := by
        have hb7 : Below w6.heap.size w6 W6 := by rw [hW6]; (repeat (first | exact Below.refl _ _ | assumption | (refine Below.setCell ?_ (by first | (simp; done) | (simp; omega) | omega) _) | (refine Below.drew ?_) | (refine below_drewN ?_ _) | (refine Below.alloc ?_ (by first | (simp; done) | (simp; omega) | omega) _) | (refine Below.trans ?_ (Below.mono (by assumption) (by first | (simp; done) | (simp; omega) | omega)))))
        exact ⟨(H5.out.1.past hb6).past hb7, by rw [hW6]; exact Blk.new _ _ _ _ rfl, hI.past hb7, H5.out.2.trans ((hb6.trans (hb7.mono hb6.size)).mono H5.out.2.size)⟩
      obtain ⟨fb, hfb⟩ : ∃ fb, fb = w6.heap.size := ⟨_, rfl⟩
      have H6 : Hid (Blk W6 nb [.string nm, .string op, .slice ia ins.length ic, .slice na ints.length nc, .slice ra reals.length rc] ∧ Blk W6 fb (fCells f fa fc) ∧ IntsAt 0 W6 fa f.ins ∧ Below wr.heap.size wr W6) := Lib.hid ⟨H6p.1, by rw [hfb]; exact H6p.2.1, H6p.2.2⟩
      rw [← hfb]
      clear hW6 hI hb6 hfb m0 m1 ml H5 H6p HM5
      have m0 := H6.out.1.c 0 _ rfl; have m2 := H6.out.1.c 2 _ rfl; have m3 := H6.out.1.c 3 _ rfl; have m4 := H6.out.1.c 4 _ rfl; have ml := H6.out.1.lt
      obtain ⟨o0, o1, o2, o3, o4, o5⟩ := fCells_at H6.out.2.1
      have ol := H6.out.2.1.lt
      by_cases p1 : ins.length = f.ins.length
      case neg =>
        have HE3 := Lib.hid (HXE.out 2 (by decide) (by rw [HE2.out, if_neg (fun h => p1 h.1)]))
        have p1i : ¬ ((ins.length : Int) = (f.ins.length : Int)) := by omega
        go_wp2_with fail
        go_ret
        rw [HE3.out]
        exact ⟨rfl, HB.out.trans (H6.out.2.2.2.mono HB.out.size)⟩
      by_cases p2 : (ints.length : Int) = f.ints
      case neg =>
        have HE3 := Lib.hid (HXE.out 2 (by decide) (by rw [HE2.out, if_neg (fun h => p2 h.2.1)]))
        have p1i : ((ins.length : Int) = (f.ins.length : Int)) := by omega
        clear p1
        go_wp2_with fail
        go_ret
        rw [HE3.out]
        exact ⟨rfl, HB.out.trans (H6.out.2.2.2.mono HB.out.size)⟩
      by_cases p3 : (reals.length : Int) = f.reals
      case neg =>
        have HE3 := Lib.hid (HXE.out 2 (by decide) (by rw [HE2.out, if_neg (fun h => p3 h.2.2)]))
        have p1i : ((ins.length : Int) = (f.ins.length : Int)) := by omega
        clear p1
        go_wp2_with fail
        go_ret
        rw [HE3.out]
        exact ⟨rfl, HB.out.trans (H6.out.2.2.2.mono HB.out.size)⟩
      rw [if_pos ⟨p1, p2, p3⟩] at HE2
      have p1i : ((ins.length : Int) = (f.ins.length : Int)) := by omega
      have HQ3 := Lib.hid (And.intro p1 (And.intro p2 p3))
      clear p1
      go_upto_region 18 with fail
      clear p1i p2 p3 m0 m2 m3 m4 ml o0 o1 o2 o3 o4 o5 ol
      have m2 := H6.out.1.c 2 _ rfl; have ml := H6.out.1.lt
      go_wp2_with fail
      have HE4 : Hid (∀ v, fst2 (fstN (fun j => inS1 S i (ins.getD j ⟨#[]⟩).data.toList (f.ins.getD j 0)) ins.length) (paE k ints reals) = v → v ≠ 0 → E = v) := Lib.hid (fun v h1 h2 => HXE.out v h2 (by rw [HE2.out, h1]))
      go_loopw [70] (fun s70 wq => ∃ j : Nat, j ≤ ins.length ∧ s70 = .int .i64 j ∧ fstN (fun j => inS1 S i (ins.getD j ⟨#[]⟩).data.toList (f.ins.getD j 0)) j = 0 ∧ Below W6.heap.size W6 wq) (fun s70 _ => ins.length - (intOf s70).toNat)
      case atStart => exact ⟨0, Nat.zero_le _, rfl, rfl, Below.refl _ _⟩
      case round =>
        obtain ⟨j, hj, rfl, hjz, hq⟩ := hrel
        have HJZ := Lib.hid hjz; have HQ := Lib.hid hq
        clear hjz hq m2 ml
        have HWQ := Lib.hid (H6.out.2.2.2.trans (HQ.out.mono H6.out.2.2.2.size))
        have HWB := Lib.hid (HB.out.trans (HWQ.out.mono HB.out.size))
        have HMQ := Lib.hid (HR.out.past HWQ.out)
        by_cases hjl : j < ins.length
        · have hjli : (j : Int) < (ins.length : Int) := by omega
          have hj3 : j ≤ 3 := by have := HF3.out; have := HQ3.out.1; omega
          have hjf : j < f.ins.length := by have := HQ3.out.1; omega
          have hjfi : (j : Int) < (f.ins.length : Int) := by omega
          obtain ⟨u, hu⟩ : ∃ u, ins[j]? = some u := ⟨_, List.getElem?_eq_getElem hjl⟩
          obtain ⟨v, hv⟩ : ∃ v, f.ins[j]? = some v := ⟨_, List.getElem?_eq_getElem hjf⟩
          have HUZ := Lib.hid (HST.out.iz u (List.mem_of_getElem? hu))
          obtain ⟨bi, oi, rfl, ci⟩ := (HST.out.i.past HWQ.out).get hu
          obtain ⟨bf, of, rfl, cf⟩ := (H6.out.2.2.1.past HQ.out).one hv
          have HIN := Lib.hid (show (fun j => inS1 S i (ins.getD j ⟨#[]⟩).data.toList (f.ins.getD j 0)) j = inS1 S i u.data.toList v by simp only [List.getD_eq_getElem?_getD, hu, hv, Option.getD_some])
          have HIE := Lib.hid (fun h => HE4.out _ (by rw [fstN_of HJZ.out h hjl, fst2_n h]) h : (fun j => inS1 S i (ins.getD j ⟨#[]⟩).data.toList (f.ins.getD j 0)) j ≠ 0 → E = (fun j => inS1 S i (ins.getD j ⟨#[]⟩).data.toList (f.ins.getD j 0)) j)
          have HIS := Lib.hid (fun h => fstN_succ HJZ.out h : (fun j => inS1 S i (ins.getD j ⟨#[]⟩).data.toList (f.ins.getD j 0)) j = 0 → _)
          have HI1 := Lib.hid (show inS1 S i u.data.toList v = match posS S i u.data.toList with | none => 11 | some j => if kdS S j = v then 0 else 12 from rfl)
          have HKG := Lib.hid (kfS_get S i u.data.toList)
          have hic : ins.length ≤ ic := HST.out.bi.1
          have hicm : ic ≤ 9223372036854775807 := by have := HST.out.bi.2; unfold maxLen at this; omega
          have li := cell_lt ci; simp only at li
          have lf := cell_lt cf; simp only at lf
          have o1 := (H6.out.2.1.past HQ.out).c 1 _ rfl
          have ol := (H6.out.2.1.past HQ.out).lt
          clear hu hv
          cases hpos : posS S i u.data.toList with
          | none =>
            have HV : Hid (E = 11) := Lib.hid (by
              have h1 : inS1 S i u.data.toList v = 11 := by rw [HI1.out, hpos]
              rw [HIE.out (by rw [HIN.out, h1]; decide), HIN.out, h1])
            rw [kgS_none hpos] at HKG
            clear hpos
            go_wp2_with (at_lookup; refine wpList_lookS0 rfl _ _ 49 3 rfl Tryz.underlying49 (zeroI _) mb i rfl HMQ.out u HUZ.out rfl ?_; rw [HKG.out])
            go_ret
            rw [HV.out]
            exact ⟨rfl, HWB.out⟩
          | some x =>
            obtain ⟨q1, q2⟩ := kgS_some HZ.out hpos
            rw [q1] at HKG
            rw [hpos] at HI1
            simp only at HI1
            obtain ⟨kd, hkd⟩ : ∃ kd, kd = kdS S x := ⟨_, rfl⟩
            rw [← hkd] at HI1 HKG q2
            have q3 : (kd == 0) = false := by rcases q2 with rfl | rfl <;> rfl
            clear hpos q1 q2 hkd
            by_cases hkv : kd = v
            case neg =>
              have HV : Hid (E = 12) := Lib.hid (by
                have h1 : inS1 S i u.data.toList v = 12 := by rw [HI1.out, if_neg hkv]
                rw [HIE.out (by rw [HIN.out, h1]; decide), HIN.out, h1])
              have hkv2 : (kd == v) = false := beq_false_of_ne hkv
              go_wp2_with (at_lookup; refine wpList_lookS0 rfl _ _ 49 3 rfl Tryz.underlying49 (zeroI _) mb i rfl HMQ.out u HUZ.out rfl ?_; rw [HKG.out])
              go_ret
              rw [HV.out]
              exact ⟨rfl, HWB.out⟩
            case pos =>
              have HV := Lib.hid (HIS.out (by rw [HIN.out, HI1.out, if_pos hkv]))
              go_wp2_with (at_lookup; refine wpList_lookS0 rfl _ _ 49 3 rfl Tryz.underlying49 (zeroI _) mb i rfl HMQ.out u HUZ.out rfl ?_; rw [HKG.out])
              go_roundw
              case rel => exact ⟨j + 1, by omega, by go_num, HV.out, HQ.out⟩
              case measure => simp [intOf]; omega
        · have hjli : ¬ (j : Int) < (ins.length : Int) := by omega
          obtain rfl : j = ins.length := by omega
          have HE5 := Lib.hid (show stE S i = paE k ints reals by rw [HE2.out, HJZ.out, fst2_0])
          have n0 := (H6.out.1.past HQ.out).c 0 _ rfl; have n1 := (H6.out.1.past HQ.out).c 1 _ rfl; have n3 := (H6.out.1.past HQ.out).c 3 _ rfl; have n4 := (H6.out.1.past HQ.out).c 4 _ rfl; have nl := (H6.out.1.past HQ.out).lt
          obtain ⟨pe, hpe⟩ : ∃ pe, pe = paE k ints reals := ⟨_, rfl⟩
          rw [← hpe] at HPA HE5
          clear hpe
          go_upto_region 28 with (go_at_call 30; refine (HPA.out _ HQ3.out.2.1 HQ3.out.2.2 (HST.out.k.past HWQ.out) (HST.out.r.past HWQ.out)).mono ?_; rintro e w8 ⟨rfl, hb8⟩)
          have HB8 := Lib.hid hb8
          clear hb8 n0 n1 n3 n4 nl
          by_cases hp0 : pe = 0
          case neg =>
            have HV := Lib.hid (HXE.out pe hp0 HE5.out)
            have hp1 : (pe != 0) = true := bne_iff_ne.2 hp0
            go_wp2_with fail
            go_ret
            rw [HV.out]
            exact ⟨by simp, HWB.out.trans (HB8.out.mono HWB.out.size)⟩
          case pos =>
            have HV := Lib.hid (HS.out (by rw [HE5.out]; exact hp0))
            have HM8 := Lib.hid (HMQ.out.past HB8.out)
            have HK8 := Lib.hid (HK.out.past (HWQ.out.trans (HB8.out.mono HWQ.out.size)))
            have HW8 := Lib.hid (HWB.out.trans (HB8.out.mono HWB.out.size))
            have HT := HQ.out.trans (HB8.out.mono HQ.out.size)
            have o2 := (H6.out.2.1.past HT).c 2 _ rfl
            have ol := (H6.out.2.1.past HT).lt
            have n0 := (H6.out.1.past HT).c 0 _ rfl
            have nl := (H6.out.1.past HT).lt
            clear HT
            subst hp0
            go_wp2_with (at_mapUpdate; refine wpList_putS rfl _ _ _ 49 3 rfl Tryz.underlying49 mb i rfl HM8.out (by have := HLE.out; unfold maxLen; omega) nm HST.out.n rfl (.int .i64 f.out) rfl ?_; intro w9 hm9 hg9)
            go_roundw
            case rel =>
              refine ⟨i + 1, by omega, by go_num, HV.out, ?_, ?_, ?_⟩
              · rw [← HKD.out] at hm9; exact hm9.congr HP.out
              · exact HK8.out.tch (Tch.of_grown (S := fun j => j = mb) hg9 (fun j hj => by cases hj; rfl)) (fun e => HMB.out.2.2 e)
              · exact HW8.out.grown hg9 HW8.out.size (fun j hj => by cases hj; exact HMB.out.1)
            case measure => simp [intOf]; omega
    · have himi : ¬ (i : Int) < (m : Int) := by omega
      obtain rfl : i = m := by omega
      have HE5 := Lib.hid (show E = match posS S i out.data.toList with | none => 11 | some j => if kdS S j = 2 then 12 else 0 by rw [HEE.out, HZ.out, fst2_0])
      have g1 := HK.out.c 1 _ rfl; have gl := HK.out.lt
      have HKG := Lib.hid (kfS_get S i out.data.toList)
      cases hpos : posS S i out.data.toList with
      | none =>
        rw [hpos] at HE5
        simp only at HE5
        rw [kgS_none hpos] at HKG
        have HOK := Lib.hid (fun w' => outKind_0 w')
        clear hpos
        go_wp2_with (first | (at_lookup; refine wpList_lookS0 rfl _ _ 49 3 rfl Tryz.underlying49 (zeroI _) mb i rfl HR.out out HOUT.out rfl ?_; rw [HKG.out]) | (go_at_call 31; refine (HOK.out _).mono ?_; rintro e w9 ⟨rfl, rfl⟩))
        go_ret
        rw [HE5.out]
        exact ⟨rfl, HB.out⟩
      | some x =>
        rw [hpos] at HE5
        simp only at HE5
        obtain ⟨q1, q2⟩ := kgS_some HZ.out hpos
        rw [q1] at HKG
        obtain ⟨kd, hkd⟩ : ∃ kd, kd = kdS S x := ⟨_, rfl⟩
        rw [← hkd] at HE5 HKG q2
        have HOK := Lib.hid (fun w' => outKind_at q2 w')
        obtain ⟨r, hr⟩ : ∃ r : Int, r = if kd = 2 then 12 else 0 := ⟨_, rfl⟩
        rw [← hr] at HE5 HOK
        clear hpos q1 q2 hkd hr
        go_wp2_with (first | (at_lookup; refine wpList_lookS0 rfl _ _ 49 3 rfl Tryz.underlying49 (zeroI _) mb i rfl HR.out out HOUT.out rfl ?_; rw [HKG.out]) | (go_at_call 31; refine (HOK.out _).mono ?_; rintro e w9 ⟨rfl, rfl⟩))
        go_ret
        rw [HE5.out]
        exact ⟨rfl, HB.out⟩
end Go.Proofs.YtbaocallhnehfaaGreatDoor
