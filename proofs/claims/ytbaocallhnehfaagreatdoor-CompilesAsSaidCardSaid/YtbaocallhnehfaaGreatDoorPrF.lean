/- dyelaw2.programError at any program. Conditions: its steps can be read; the library's variables read as listed (LibW). -/
import Derived.Test.YtbaocallhnehfaaGreatDoorPrE
import Derived.Test.YtbaocallhnehfaaGreatDoorQI
import Derived.Test.YtbaocallhnehfaaGreatDoorQE
import Derived.Test.YtbaocallhnehfaaGreatDoorBO
import Derived.Deep.QuietTactic
import Derived.BigQuiet
set_option linter.unusedSimpArgs false
set_option linter.unusedVariables false
namespace Go.Proofs.YtbaocallhnehfaaGreatDoor
open Go Go.RowKit
theorem afS_get (S : Nat → StepD) (i : Nat) (l : List UInt8) : (afS S i l).getD (.int .i64 0) = .int .i64 (((posS S i l).getD 0 : Nat) : Int) ∧ (afS S i l).isSome = (posS S i l).isSome := by
  unfold afS
  cases posS S i l <;> exact ⟨rfl, rfl⟩
theorem afS_get1 (S : Nat → StepD) (i : Nat) (l : List UInt8) : Value.tuple #[(afS S i l).getD (.int .i64 0), .bool (afS S i l).isSome] = .tuple #[.int .i64 (((posS S i l).getD 0 : Nat) : Int), .bool (posS S i l).isSome] := by
  rw [(afS_get S i l).1, (afS_get S i l).2]
set_option maxRecDepth 100000 in
set_option maxHeartbeats 6400000 in
theorem programError_any (a : Option Addr) (c m : Nat) (S : Nat → StepD) (out : ByteArray) (w : World) (hout : out.size ≤ maxLen) (h : StepsAt w a c m S) (hL : LibW w) :
    Calls Tryz.prog 5 #[.agg #[.slice a m c, .string out]] w fun e w' => e = .returned (.int .i64 (pgE m S out.data.toList)) ∧ Below w.heap.size w w' := by
  have HH := Lib.hid h
  have HL := Lib.hid hL
  have hmc : m ≤ c := h.r.lc
  have hcm : c ≤ 9223372036854775807 := by have := h.r.lm; unfold maxLen at this; omega
  have HOUT := Lib.hid hout
  clear h hL hout
  obtain ⟨E, hE⟩ : ∃ E, E = pgE m S out.data.toList := ⟨_, rfl⟩
  have HEE := Lib.hid (show E = if m = 0 then 10 else if 100 < m then 4 else fst2 (fstN (stE S) m) (match posS S m out.data.toList with | none => 11 | some j => if kdS S j = 2 then 12 else 0) by rw [hE]; rfl)
  rw [← hE]
  clear hE
  obtain ⟨b1, hb1⟩ : ∃ b1, b1 = decide ((m : Int) = 0) := ⟨_, rfl⟩
  obtain ⟨b2, hb2⟩ : ∃ b2, b2 = decide ((100 : Int) < (m : Int)) := ⟨_, rfl⟩
  obtain ⟨r, hr⟩ : ∃ r, r = firstE (whenE b1 10) (whenE b2 4) := ⟨_, rfl⟩
  have HR0 : Hid (r = if m = 0 then 10 else if 100 < m then 4 else 0) := Lib.hid (by
    rw [hr, hb1, hb2]
    unfold firstE whenE
    by_cases h0 : m = 0
    · subst h0; rfl
    · rw [if_neg h0, decide_eq_false (by omega)]
      by_cases h1 : 100 < m
      · rw [if_pos h1, decide_eq_true (by omega)]; rfl
      · rw [if_neg h1, decide_eq_false (by omega)]; rfl)
  have HB1 := Lib.hid hb1
  have HB2 := Lib.hid hb2
  have HRR := Lib.hid hr
  clear hb1 hb2 hr
  go_enter Tryz.func5, Tryz.ntmps5
  go_upto_region 1 with fail
  refine wp_world (fun W1 hW1 => ?_)
  have H1 : Hid (Blk W1 w.heap.size [.slice a m c, .string out] ∧ Below w.heap.size w W1) := Lib.hid (by rw [hW1]; exact ⟨Blk.new _ _ _ _ rfl, by (repeat (first | exact Below.refl _ _ | assumption | (refine Below.setCell ?_ (by first | (simp; done) | (simp; omega) | omega) _) | (refine Below.drew ?_) | (refine below_drewN ?_ _) | (refine Below.alloc ?_ (by first | (simp; done) | (simp; omega) | omega) _) | (refine Below.trans ?_ (Below.mono (by assumption) (by first | (simp; done) | (simp; omega) | omega)))))⟩)
  clear hW1
  refine wp_region_C (fun w' => w'.cell? ⟨w.heap.size, 0, none⟩ = some (.slice a m c) ∧ w'.cell? ⟨w.heap.size, 1, none⟩ = some (.string out)) 10 13 (by kernel_rfl) rfl ?_
  have hC := And.intro (H1.out.1.drew.c 0 _ rfl) (H1.out.1.drew.c 1 _ rfl)
  refine wpAnyC_take (i := 0) (v := .pointer (some ⟨w.heap.size, 0, none⟩)) rfl (by kernel_rfl) (by kernel_rfl) (fun _ _ _ h => h) (.inl ⟨rfl, fun w' hw' => ?_⟩) hC ?_
  · obtain ⟨k0, k1⟩ := hw'
    go_simp
  refine wpAnyC_act (by rfl) ?_
  simp only [Act.put, List.setIfInBounds_toArray, List.set_cons_zero, List.set_cons_succ]
  refine wpAnyC_take (i := 1) (v := .slice a m c) rfl (by kernel_rfl) (by kernel_rfl) (fun _ _ _ h => h) (.inl ⟨rfl, fun w' hw' => ?_⟩) hC ?_
  · obtain ⟨k0, k1⟩ := hw'
    go_simp
  refine wpAnyC_act (by rfl) ?_
  simp only [Act.put, List.setIfInBounds_toArray, List.set_cons_zero, List.set_cons_succ]
  refine wpAnyC_take (i := 2) (v := .int .i64 m) rfl (by kernel_rfl) (by kernel_rfl) (fun _ _ _ h => h) (.inl ⟨rfl, fun w' hw' => ?_⟩) hC ?_
  · obtain ⟨k0, k1⟩ := hw'
    go_simp
  refine wpAnyC_act (by rfl) ?_
  simp only [Act.put, List.setIfInBounds_toArray, List.set_cons_zero, List.set_cons_succ]
  refine wpAnyC_take (i := 3) (v := .bool b1) rfl (by kernel_rfl) (by kernel_rfl) (fun _ _ _ h => h) (.inl ⟨rfl, fun w' hw' => ?_⟩) hC ?_
  · obtain ⟨k0, k1⟩ := hw'
    rw [HB1.out]
    go_simp
    rw [Bool.eq_iff_iff]; simp
  refine wpAnyC_act (by rfl) ?_
  simp only [Act.put, List.setIfInBounds_toArray, List.set_cons_zero, List.set_cons_succ]
  refine wpAnyC_take (i := 5) (v := .pointer (some ⟨w.heap.size, 0, none⟩)) rfl (by kernel_rfl) (by kernel_rfl) (fun _ _ _ h => h) (.inl ⟨rfl, fun w' hw' => ?_⟩) hC ?_
  · obtain ⟨k0, k1⟩ := hw'
    go_simp
  refine wpAnyC_act (by rfl) ?_
  simp only [Act.put, List.setIfInBounds_toArray, List.set_cons_zero, List.set_cons_succ]
  refine wpAnyC_take (i := 6) (v := .slice a m c) rfl (by kernel_rfl) (by kernel_rfl) (fun _ _ _ h => h) (.inl ⟨rfl, fun w' hw' => ?_⟩) hC ?_
  · obtain ⟨k0, k1⟩ := hw'
    go_simp
  refine wpAnyC_act (by rfl) ?_
  simp only [Act.put, List.setIfInBounds_toArray, List.set_cons_zero, List.set_cons_succ]
  refine wpAnyC_take (i := 7) (v := .int .i64 m) rfl (by kernel_rfl) (by kernel_rfl) (fun _ _ _ h => h) (.inl ⟨rfl, fun w' hw' => ?_⟩) hC ?_
  · obtain ⟨k0, k1⟩ := hw'
    go_simp
  refine wpAnyC_act (by rfl) ?_
  simp only [Act.put, List.setIfInBounds_toArray, List.set_cons_zero, List.set_cons_succ]
  refine wpAnyC_take (i := 8) (v := .bool b2) rfl (by kernel_rfl) (by kernel_rfl) (fun _ _ _ h => h) (.inl ⟨rfl, fun w' hw' => ?_⟩) hC ?_
  · obtain ⟨k0, k1⟩ := hw'
    rw [HB2.out]
    go_simp
  refine wpAnyC_act (by rfl) ?_
  simp only [Act.put, List.setIfInBounds_toArray, List.set_cons_zero, List.set_cons_succ]
  refine wpAnyC_one (i := 4) rfl (by kernel_rfl) (fun K hK => ?_)
  go_simp
  refine (When_any _ _ _).mono ?_
  rintro e w' ⟨rfl, rfl⟩
  go_simp
  refine hK _ _ (fun _ => hC) ?_
  clear hK K
  refine wpAnyC_one (i := 9) rfl (by kernel_rfl) (fun K hK => ?_)
  go_simp
  refine (When_any _ _ _).mono ?_
  rintro e w' ⟨rfl, rfl⟩
  go_simp
  refine hK _ _ (fun _ => hC) ?_
  clear hK K
  refine wpAnyC_one (i := 10) rfl (by kernel_rfl) (fun K hK => ?_)
  go_simp
  refine hK _ _ (fun h => by rw [getD_setSelf] at h; cases h) ?_
  clear hK K
  refine wpAnyC_one (i := 11) rfl (by kernel_rfl) (fun K hK => ?_)
  go_simp
  refine (First2_new (whenE b1 10) (whenE b2 4) W1.heap.size 28 (World.drew (W1.alloc (.cells #[.int .i64 (whenE b1 10), .int .i64 (whenE b2 4)] 28))) (heap_new W1 _ _ rfl)).mono ?_
  rintro e w' ⟨rfl, rfl⟩
  rw [← HRR.out]
  go_simp
  refine hK _ _ (fun h => by rw [getD_setC (by decide)] at h; rw [getD_setSelf] at h; cases h) ?_
  clear hK K
  refine wpAnyC_one (i := 12) rfl (by kernel_rfl) (fun K hK => ?_)
  go_simp
  refine hK _ _ (fun h => by rw [getD_setC (by decide)] at h; rw [getD_setC (by decide)] at h; rw [getD_setSelf] at h; cases h) ?_
  clear hK K hC
  refine wpAnyC_done (by kernel_rfl) ?_
  refine nf_exit (fun W2 hW2 => ?_)
  have H2 : Hid (Blk W2 w.heap.size [.slice a m c, .string out] ∧ Below w.heap.size w W2) := Lib.hid (by
    have hb : Below W1.heap.size W1 W2 := by rw [hW2]; (repeat (first | exact Below.refl _ _ | assumption | (refine Below.setCell ?_ (by first | (simp; done) | (simp; omega) | omega) _) | (refine Below.drew ?_) | (refine below_drewN ?_ _) | (refine Below.alloc ?_ (by first | (simp; done) | (simp; omega) | omega) _) | (refine Below.trans ?_ (Below.mono (by assumption) (by first | (simp; done) | (simp; omega) | omega)))))
    exact ⟨H1.out.1.past hb, H1.out.2.trans (hb.mono H1.out.2.size)⟩)
  clear hW2
  have g0 := H2.out.1.c 0 _ rfl; have g1 := H2.out.1.c 1 _ rfl; have gl := H2.out.1.lt
  by_cases h0 : r = 0
  case neg =>
    have HV : Hid (E = r) := Lib.hid (by
      rw [HEE.out, HR0.out]
      have h1 := HR0.out
      by_cases h2 : m = 0
      · rw [if_pos h2, if_pos h2]
      · rw [if_neg h2] at h1
        rw [if_neg h2, if_neg h2]
        by_cases h3 : 100 < m
        · rw [if_pos h3, if_pos h3]
        · rw [if_neg h3] at h1; exact absurd h1 h0)
    go_wp2_with fail
    go_ret
    rw [HV.out]
    exact ⟨rfl, H2.out.2⟩
  have hm0 : ¬ m = 0 := fun h => by have h1 := HR0.out; rw [if_pos h] at h1; omega
  have hm1 : ¬ 100 < m := fun h => by have h1 := HR0.out; rw [if_neg hm0, if_pos h] at h1; omega
  rw [if_neg hm0, if_neg hm1] at HEE
  have HLE := Lib.hid (show m ≤ 100 by omega)
  subst h0
  have hm100 : ¬ ((100 : Int) < (m : Int)) := by omega
  clear HR0 HRR HB1 HB2 hm0 hm1
  have hmm := @run_makeMap Tryz.prog
  go_upto_region 5 with fail
  refine wp_world (fun W3 hW3 => ?_)
  obtain ⟨mb, hmb⟩ : ∃ mb, mb = W2.heap.size := ⟨_, rfl⟩
  obtain ⟨pl, hpl⟩ : ∃ pl, pl = w.heap.size := ⟨_, rfl⟩
  have H3 : Hid (MapS W3 mb 0 (afS S 0) ∧ Blk W3 pl [.slice a m c, .string out] ∧ Below w.heap.size w W3) := Lib.hid (by
    rw [hW3, hmb, hpl]
    exact ⟨(MapS.made W2).congr (fun _ => rfl), H2.out.1.alloc _, H2.out.2.alloc H2.out.2.size _⟩)
  have HMB := Lib.hid (show w.heap.size ≤ mb ∧ w.heap.size ≤ pl ∧ pl ≠ mb by have h1 := H2.out.2.size; have h2 := H2.out.1.lt; omega)
  rw [← hmb, ← hpl]
  clear hW3 hmm hmb hpl g0 g1 gl
  have g0 := H3.out.2.1.c 0 _ rfl; have gl := H3.out.2.1.lt
  go_wp2_with fail
  clear g0 gl
  go_loopw [41] (fun s41 wr => ∃ i : Nat, i ≤ m ∧ s41 = .int .i64 i ∧ fstN (stE S) i = 0 ∧ MapS wr mb i (afS S i) ∧ Blk wr pl [.slice a m c, .string out] ∧ Below w.heap.size w wr) (fun s41 _ => m - (intOf s41).toNat)
  case atStart => exact ⟨0, Nat.zero_le _, rfl, rfl, H3.out.1, H3.out.2.1, H3.out.2.2⟩
  case round =>
    obtain ⟨i, hi, rfl, hz, hR, hK, hB⟩ := hrel
    have HZ := Lib.hid hz; have HR := Lib.hid hR; have HK := Lib.hid hK; have HB := Lib.hid hB
    clear hz hR hK hB H2 H1 H3
    by_cases him : i < m
    · have himi : (i : Int) < (m : Int) := by omega
      obtain ⟨b, off, rfl, hrow⟩ := (HH.out.r.past HB.out).get him
      have HST := Lib.hid ((HH.out.s i him).past HB.out)
      have HX := Lib.hid (fun hk => fstN_of HZ.out hk him : stE S i ≠ 0 → fstN (stE S) m = stE S i)
      have HXE : Hid (∀ v, v ≠ 0 → stE S i = v → E = v) := Lib.hid (fun v h1 h2 => by rw [HEE.out, HX.out (by rw [h2]; exact h1), h2, fst2_n h1])
      have HS := Lib.hid (fun hk => fstN_succ (k := i) HZ.out hk : stE S i = 0 → fstN (stE S) (i + 1) = 0)
      have HE := Lib.hid (show stE S i = if okN (S i).nm.data.toList = false then 6 else if (posS S i (S i).nm.data.toList).isSome then 7 else match opK (S i).op.data.toList with
        | none => 1
        | some k => if (S i).ins.length = (F k).ins.length ∧ ((S i).ints.length : Int) = (F k).ints ∧ ((S i).reals.length : Int) = (F k).reals
            then fst2 (fstN (fun j => inS1 S i ((S i).ins.getD j ⟨#[]⟩).data.toList ((F k).ins.getD j 0)) (S i).ins.length) (paE k (S i).ints (S i).reals) else 2 from rfl)
      have HPUT := Lib.hid (fun h => afS_put h : posS S i (S i).nm.data.toList = none → _)
      have HKD := Lib.hid (show kdS S i = match opK (S i).op.data.toList with | none => 0 | some k => (F k).out from rfl)
      obtain ⟨s, hs⟩ : ∃ s, s = S i := ⟨_, rfl⟩
      rw [← hs] at hrow HST HE HPUT HKD
      clear hs HX
      obtain ⟨nm, op, ins, ints, reals, ia, ic, na, nc, ra, rc⟩ := s
      simp only at HE HPUT HKD
      have c0 := hrow 0 _ rfl; have c1 := hrow 1 _ rfl; have c2 := hrow 2 _ rfl; have c3 := hrow 3 _ rfl; have c4 := hrow 4 _ rfl
      rw [Nat.add_zero] at c0
      simp only at c0 c1 c2 c3 c4
      have l0 := cell_lt c0; simp only at l0
      clear hrow
      go_upto_region 8 with fail
      refine wp_world (fun W4 hW4 => ?_)
      have H4p : Blk W4 wr.heap.size [.string nm, .string op, .slice ia ins.length ic, .slice na ints.length nc, .slice ra reals.length rc] ∧ Below wr.heap.size wr W4 := by rw [hW4]; exact ⟨Blk.new _ _ _ _ rfl, by (repeat (first | exact Below.refl _ _ | assumption | (refine Below.setCell ?_ (by first | (simp; done) | (simp; omega) | omega) _) | (refine Below.drew ?_) | (refine below_drewN ?_ _) | (refine Below.alloc ?_ (by first | (simp; done) | (simp; omega) | omega) _) | (refine Below.trans ?_ (Below.mono (by assumption) (by first | (simp; done) | (simp; omega) | omega)))))⟩
      obtain ⟨nb, hnb⟩ : ∃ nb, nb = wr.heap.size := ⟨_, rfl⟩
      have H4 : Hid (Blk W4 nb [.string nm, .string op, .slice ia ins.length ic, .slice na ints.length nc, .slice ra reals.length rc] ∧ Below wr.heap.size wr W4) := Lib.hid ⟨by rw [hnb]; exact H4p.1, H4p.2⟩
      rw [← hnb]
      clear hW4 c0 c1 c2 c3 c4 l0 hnb H4p
      have m0 := H4.out.1.c 0 _ rfl; have m1 := H4.out.1.c 1 _ rfl; have ml := H4.out.1.lt
      have HNA := Lib.hid (fun w' => stepName_any nm HST.out.n w')
      obtain ⟨ok, hok⟩ : ∃ ok, ok = okN nm.data.toList := ⟨_, rfl⟩
      rw [← hok] at HNA HE
      clear hok
      cases ok
      case false =>
        have HE1 := Lib.hid (show E = 6 by exact HXE.out 6 (by decide) (by rw [HE.out]; rfl))
        go_wp2_with (go_at_call 19; refine (HNA.out _).mono ?_; rintro e w5 ⟨rfl, rfl⟩)
        go_ret
        rw [HE1.out]
        exact ⟨rfl, HB.out.trans (H4.out.2.mono HB.out.size)⟩
      case true =>
      go_upto_region 10 with (go_at_call 19; refine (HNA.out _).mono ?_; rintro e w5 ⟨rfl, rfl⟩)
      have H5 := Lib.hid (And.intro H4.out.1 H4.out.2)
      clear m0 m1 ml HNA H4
      have m0 := H5.out.1.c 0 _ rfl; have m1 := H5.out.1.c 1 _ rfl; have ml := H5.out.1.lt
      have HM5 := Lib.hid (HR.out.past H5.out.2)
      have HKG := Lib.hid (afS_get1 S i nm.data.toList)
      cases hpos : posS S i nm.data.toList with
      | some j =>
        have HE1 := Lib.hid (show E = 7 by exact HXE.out 7 (by decide) (by rw [HE.out, hpos]; rfl))
        rw [hpos] at HKG
        clear hpos
        go_wp2_with (at_lookup; refine wpList_lookS1 rfl _ _ 49 3 rfl Tryz.underlying49 (zeroI _) mb i rfl HM5.out nm HST.out.n rfl ?_; rw [HKG.out])
        go_ret
        rw [HE1.out]
        exact ⟨rfl, HB.out.trans (H5.out.2.mono HB.out.size)⟩
      | none =>
      rw [hpos] at HKG
      rw [hpos] at HE
      have HP := Lib.hid (HPUT.out hpos)
      clear hpos HPUT
      go_upto_region 13 with (at_lookup; refine wpList_lookS1 rfl _ _ 49 3 rfl Tryz.underlying49 (zeroI _) mb i rfl HM5.out nm HST.out.n rfl ?_; rw [HKG.out])
      clear HKG
      cases hk : opK op.data.toList with
      | none =>
        have HE1 := Lib.hid (show E = 1 by exact HXE.out 1 (by decide) (by rw [HE.out, hk]; rfl))
        have HO := Lib.hid (fun w' hl => form_no hk w' hl)
        clear hk HE HKD
        go_wp2_with (go_at_call 20; refine (HO.out _ (HL.out.past (HB.out.trans (H5.out.2.mono HB.out.size)))).mono ?_; rintro e w6 ⟨rfl, hb6⟩)
        go_ret
        rw [HE1.out]
        exact ⟨rfl, HB.out.trans ((H5.out.2.trans ((hb6.trans (((Below.refl w6.heap.size w6).alloc (Nat.le_refl _) _).mono hb6.size)).mono H5.out.2.size)).mono HB.out.size)⟩
      | some k =>
      have hk27 := (opK_name hk).1
      have HOP := Lib.hid (fun w' hl => form_yes hk w' hl)
      have HPA := Lib.hid (fun (w' : World) hni hnr hi hr => dpar_all hk na ra nc rc ints reals w' hni hnr HST.out.br.1 HST.out.br.2 hi hr : ∀ w', _)
      have HE2 := Lib.hid (show stE S i = if ins.length = (F k).ins.length ∧ (ints.length : Int) = (F k).ints ∧ (reals.length : Int) = (F k).reals then fst2 (fstN (fun j => inS1 S i (ins.getD j ⟨#[]⟩).data.toList ((F k).ins.getD j 0)) ins.length) (paE k ints reals) else 2 by rw [HE.out, hk]; rfl)
      rw [hk] at HKD
      simp only at HKD
      have HF3 := Lib.hid ((F_small hk27).2.1)
      have HFO := Lib.hid (F_out hk27)
      obtain ⟨f, hf⟩ : ∃ f, f = F k := ⟨_, rfl⟩
      rw [← hf] at HOP HPA HE2 HKD HF3 HFO
      clear hf hk hk27 HE
      go_upto_region 14 with (go_at_call 20; refine (HOP.out _ (HL.out.past (HB.out.trans (H5.out.2.mono HB.out.size)))).mono ?_; rintro e w6 ⟨fa, fc, rfl, hI, hb6⟩)
      refine wp_world (fun W6 hW6 => ?_)
      have H6p : Blk W6 nb [.string nm, .string op, .slice ia ins.length ic, .slice na ints.length nc, .slice ra reals.length rc] ∧ Blk W6 w6.heap.size (fCells f fa fc) ∧ IntsAt 0 W6 fa f.ins ∧ Below wr.heap.size wr W6 := by
        have hb7 : Below w6.heap.size w6 W6 := by rw [hW6]; (repeat (first | exact Below.refl _ _ | assumption | (refine Below.setCell ?_ (by first | (simp; done) | (simp; omega) | omega) _) | (refine Below.drew ?_) | (refine below_drewN ?_ _) | (refine Below.alloc ?_ (by first | (simp; done) | (simp; omega) | omega) _) | (refine Below.trans ?_ (Below.mono (by assumption) (by first | (simp; done) | (simp; omega) | omega)))))
        exact ⟨(H5.out.1.past hb6).past hb7, by rw [hW6]; exact Blk.new _ _ _ _ rfl, hI.past hb7, H5.out.2.trans ((hb6.trans (hb7.mono hb6.size)).mono H5.out.2.size)⟩
      obtain ⟨fb, hfb⟩ : ∃ fb, fb = w6.heap.size := ⟨_, rfl⟩
      have H6 : Hid (Blk W6 nb [.string nm, .string op, .slice ia ins.length ic, .slice na ints.length nc, .slice ra reals.length rc] ∧ Blk W6 fb (fCells f fa fc) ∧ IntsAt 0 W6 fa f.ins ∧ Below wr.heap.size wr W6) := Lib.hid ⟨H6p.1, by rw [hfb]; exact H6p.2.1, H6p.2.2⟩
      rw [← hfb]
      clear hW6 hI hb6 hfb m0 m1 ml H5 H6p HM5
      have m0 := H6.out.1.c 0 _ rfl; have m2 := H6.out.1.c 2 _ rfl; have m3 := H6.out.1.c 3 _ rfl; have m4 := H6.out.1.c 4 _ rfl; have ml := H6.out.1.lt
      obtain ⟨o0, o1, o2, o3, o4, o5⟩ := fCells_at H6.out.2.1
      have ol := H6.out.2.1.lt
      by_cases p1 : ins.length = f.ins.length
      case neg =>
        have HE3 := Lib.hid (HXE.out 2 (by decide) (by rw [HE2.out, if_neg (fun h => p1 h.1)]))
        have p1i : ¬ ((ins.length : Int) = (f.ins.length : Int)) := by omega
        go_wp2_with fail
        go_ret
        rw [HE3.out]
        exact ⟨rfl, HB.out.trans (H6.out.2.2.2.mono HB.out.size)⟩
      by_cases p2 : (ints.length : Int) = f.ints
      case neg =>
        have HE3 := Lib.hid (HXE.out 2 (by decide) (by rw [HE2.out, if_neg (fun h => p2 h.2.1)]))
        have p1i : ((ins.length : Int) = (f.ins.length : Int)) := by omega
        clear p1
        go_wp2_with fail
        go_ret
        rw [HE3.out]
        exact ⟨rfl, HB.out.trans (H6.out.2.2.2.mono HB.out.size)⟩
      by_cases p3 : (reals.length : Int) = f.reals
      case neg =>
        have HE3 := Lib.hid (HXE.out 2 (by decide) (by rw [HE2.out, if_neg (fun h => p3 h.2.2)]))
        have p1i : ((ins.length : Int) = (f.ins.length : Int)) := by omega
        clear p1
        go_wp2_with fail
        go_ret
        rw [HE3.out]
        exact ⟨rfl, HB.out.trans (H6.out.2.2.2.mono HB.out.size)⟩
      rw [if_pos ⟨p1, p2, p3⟩] at HE2
      have p1i : ((ins.length : Int) = (f.ins.length : Int)) := by omega
      have HQ3 := Lib.hid (And.intro p1 (And.intro p2 p3))
      clear p1
      go_upto_region 18 with fail
      clear p1i p2 p3 m0 m2 m3 m4 ml o0 o1 o2 o3 o4 o5 ol
      have m2 := H6.out.1.c 2 _ rfl; have ml := H6.out.1.lt
      go_wp2_with fail
      have HE4 : Hid (∀ v, fst2 (fstN (fun j => inS1 S i (ins.getD j ⟨#[]⟩).data.toList (f.ins.getD j 0)) ins.length) (paE k ints reals) = v → v ≠ 0 → E = v) := Lib.hid (fun v h1 h2 => HXE.out v h2 (by rw [HE2.out, h1]))
      go_loopw [92] (fun s70 wq => ∃ j : Nat, j ≤ ins.length ∧ s70 = .int .i64 j ∧ fstN (fun j => inS1 S i (ins.getD j ⟨#[]⟩).data.toList (f.ins.getD j 0)) j = 0 ∧ Below W6.heap.size W6 wq) (fun s70 _ => ins.length - (intOf s70).toNat)
      case atStart => exact ⟨0, Nat.zero_le _, rfl, rfl, Below.refl _ _⟩
      case round =>
        obtain ⟨j, hj, rfl, hjz, hq⟩ := hrel
        have HJZ := Lib.hid hjz; have HQ := Lib.hid hq
        clear hjz hq m2 ml
        have HWQ := Lib.hid (H6.out.2.2.2.trans (HQ.out.mono H6.out.2.2.2.size))
        have HWB := Lib.hid (HB.out.trans (HWQ.out.mono HB.out.size))
        have HMQ := Lib.hid (HR.out.past HWQ.out)
        by_cases hjl : j < ins.length
        · have hjli : (j : Int) < (ins.length : Int) := by omega
          have hj3 : j ≤ 3 := by have := HF3.out; have := HQ3.out.1; omega
          have hjf : j < f.ins.length := by have := HQ3.out.1; omega
          have hjfi : (j : Int) < (f.ins.length : Int) := by omega
          obtain ⟨u, hu⟩ : ∃ u, ins[j]? = some u := ⟨_, List.getElem?_eq_getElem hjl⟩
          obtain ⟨v, hv⟩ : ∃ v, f.ins[j]? = some v := ⟨_, List.getElem?_eq_getElem hjf⟩
          have HUZ := Lib.hid (HST.out.iz u (List.mem_of_getElem? hu))
          obtain ⟨bi, oi, rfl, ci⟩ := (HST.out.i.past HWQ.out).get hu
          obtain ⟨bf, of, rfl, cf⟩ := (H6.out.2.2.1.past HQ.out).one hv
          have HIN := Lib.hid (show (fun j => inS1 S i (ins.getD j ⟨#[]⟩).data.toList (f.ins.getD j 0)) j = inS1 S i u.data.toList v by simp only [List.getD_eq_getElem?_getD, hu, hv, Option.getD_some])
          have HIE := Lib.hid (fun h => HE4.out _ (by rw [fstN_of HJZ.out h hjl, fst2_n h]) h : (fun j => inS1 S i (ins.getD j ⟨#[]⟩).data.toList (f.ins.getD j 0)) j ≠ 0 → E = (fun j => inS1 S i (ins.getD j ⟨#[]⟩).data.toList (f.ins.getD j 0)) j)
          have HIS := Lib.hid (fun h => fstN_succ HJZ.out h : (fun j => inS1 S i (ins.getD j ⟨#[]⟩).data.toList (f.ins.getD j 0)) j = 0 → _)
          have HI1 := Lib.hid (show inS1 S i u.data.toList v = match posS S i u.data.toList with | none => 11 | some j => if kdS S j = v then 0 else 12 from rfl)
          have HKG := Lib.hid (afS_get1 S i u.data.toList)
          have hic : ins.length ≤ ic := HST.out.bi.1
          have hicm : ic ≤ 9223372036854775807 := by have := HST.out.bi.2; unfold maxLen at this; omega
          have li := cell_lt ci; simp only at li
          clear hu
          have hvv := hv
          clear hv cf
          cases hpos : posS S i u.data.toList with
          | none =>
            have HV : Hid (E = 11) := Lib.hid (by
              have h1 : inS1 S i u.data.toList v = 11 := by rw [HI1.out, hpos]
              rw [HIE.out (by rw [HIN.out, h1]; decide), HIN.out, h1])
            rw [hpos] at HKG
            clear hpos hvv
            go_wp2_with (at_lookup; refine wpList_lookS1 rfl _ _ 49 3 rfl Tryz.underlying49 (zeroI _) mb i rfl HMQ.out u HUZ.out rfl ?_; rw [HKG.out])
            go_ret
            rw [HV.out]
            exact ⟨rfl, HWB.out⟩
          | some x =>
            have hxi := posS_lt hpos
            have hxm : x < m := by omega
            have hxmi : (x : Int) < (m : Int) := by omega
            rw [hpos] at HI1 HKG
            simp only [Option.getD_some, Option.isSome_some] at HI1 HKG
            obtain ⟨-, -, k', hk', hkd', -⟩ := st_ok (fstN_zero HZ.out x hxi)
            obtain ⟨b', off', he', hrow'⟩ := (HH.out.r.past HWB.out).get hxm
            simp only [Option.some.injEq, Addr.mk.injEq, and_true] at he'
            obtain ⟨rfl, rfl⟩ := he'
            have x1 := hrow' 1 _ rfl
            have HOP2 := Lib.hid (fun w' hl => form_yes hk' w' hl)
            obtain ⟨f', hf'⟩ : ∃ f', f' = F k' := ⟨_, rfl⟩
            rw [hkd', ← hf'] at HI1
            rw [← hf'] at HOP2
            obtain ⟨op', hop'⟩ : ∃ op', op' = (S x).op := ⟨_, rfl⟩
            rw [← hop'] at x1 HOP2
            have G0 := HK.out.past HWQ.out
            have g0 := G0.c 0 _ rfl; have gl := G0.lt
            have xl := cell_lt x1; simp only at xl
            clear hpos hrow' hk' hkd' hf' hop' G0
            go_upto_region 25 with (first | (at_lookup; refine wpList_lookS1 rfl _ _ 49 3 rfl Tryz.underlying49 (zeroI _) mb i rfl HMQ.out u HUZ.out rfl ?_; rw [HKG.out]) | (go_at_call 20; refine (HOP2.out _ (HL.out.past HWB.out)).mono ?_; rintro e w7 ⟨fa', fc', rfl, hI7, hb7⟩))
            refine wp_world (fun W8 hW8 => ?_)
            have hb8 : Below w7.heap.size w7 W8 := by rw [hW8]; (repeat (first | exact Below.refl _ _ | assumption | (refine Below.setCell ?_ (by first | (simp; done) | (simp; omega) | omega) _) | (refine Below.drew ?_) | (refine below_drewN ?_ _) | (refine Below.alloc ?_ (by first | (simp; done) | (simp; omega) | omega) _) | (refine Below.trans ?_ (Below.mono (by assumption) (by first | (simp; done) | (simp; omega) | omega)))))
            have h7w := hb7.trans (hb8.mono hb7.size)
            have N8 : Blk W8 w7.heap.size (fCells f' fa' fc') := by rw [hW8]; exact Blk.new _ _ _ _ rfl
            obtain ⟨gb, hgb⟩ : ∃ gb, gb = w7.heap.size := ⟨_, rfl⟩
            rw [← hgb] at N8
            rw [← hgb]
            have HQ8 := Lib.hid (HQ.out.trans (h7w.mono HQ.out.size))
            have HW8 := Lib.hid (HWB.out.trans (h7w.mono HWB.out.size))
            obtain ⟨bf', of', he2, cf⟩ := (H6.out.2.2.1.past HQ8.out).one hvv
            simp only [Option.some.injEq, Addr.mk.injEq, and_true] at he2
            obtain ⟨rfl, rfl⟩ := he2
            have o1 := (H6.out.2.1.past HQ8.out).c 1 _ rfl
            have ol := (H6.out.2.1.past HQ8.out).lt
            have z2 := (fCells_at N8).2.2.1
            have zl := N8.lt
            have lf := cell_lt cf; simp only at lf
            clear hW8 hb8 h7w N8 hgb hvv hI7 hb7 x1 xl g0 gl ci li
            by_cases hkv : f'.out = v
            case neg =>
              have HV : Hid (E = 12) := Lib.hid (by
                have h1 : inS1 S i u.data.toList v = 12 := by rw [HI1.out, if_neg hkv]
                rw [HIE.out (by rw [HIN.out, h1]; decide), HIN.out, h1])
              go_quiet (fail)
              go_wp2_with fail
              go_ret
              rw [HV.out]
              exact ⟨rfl, below_drewN HW8.out _⟩
            case pos =>
              have HV := Lib.hid (HIS.out (by rw [HIN.out, HI1.out, if_pos hkv]))
              go_quiet (fail)
              go_wp2_with fail
              go_roundw
              case rel => exact ⟨j + 1, by omega, by go_num, HV.out, below_drewN HQ8.out _⟩
              case measure => simp [intOf]; omega
        · have hjli : ¬ (j : Int) < (ins.length : Int) := by omega
          obtain rfl : j = ins.length := by omega
          have HE5 := Lib.hid (show stE S i = paE k ints reals by rw [HE2.out, HJZ.out, fst2_0])
          have n0 := (H6.out.1.past HQ.out).c 0 _ rfl; have n1 := (H6.out.1.past HQ.out).c 1 _ rfl; have n3 := (H6.out.1.past HQ.out).c 3 _ rfl; have n4 := (H6.out.1.past HQ.out).c 4 _ rfl; have nl := (H6.out.1.past HQ.out).lt
          obtain ⟨pe, hpe⟩ : ∃ pe, pe = paE k ints reals := ⟨_, rfl⟩
          rw [← hpe] at HPA HE5
          clear hpe
          go_upto_region 29 with (go_at_call 21; refine (HPA.out _ HQ3.out.2.1 HQ3.out.2.2 (HST.out.k.past HWQ.out) (HST.out.r.past HWQ.out)).mono ?_; rintro e w8 ⟨rfl, hb8⟩)
          have HB8 := Lib.hid hb8
          clear hb8 n0 n1 n3 n4 nl
          by_cases hp0 : pe = 0
          case neg =>
            have HV := Lib.hid (HXE.out pe hp0 HE5.out)
            have hp1 : (pe != 0) = true := bne_iff_ne.2 hp0
            go_wp2_with fail
            go_ret
            rw [HV.out]
            exact ⟨by simp, HWB.out.trans (HB8.out.mono HWB.out.size)⟩
          case pos =>
            have HV := Lib.hid (HS.out (by rw [HE5.out]; exact hp0))
            have HM8 := Lib.hid (HMQ.out.past HB8.out)
            have HK8 := Lib.hid (HK.out.past (HWQ.out.trans (HB8.out.mono HWQ.out.size)))
            have HW8 := Lib.hid (HWB.out.trans (HB8.out.mono HWB.out.size))
            have HT := HQ.out.trans (HB8.out.mono HQ.out.size)
            have o2 := (H6.out.2.1.past HT).c 2 _ rfl
            have ol := (H6.out.2.1.past HT).lt
            have n0 := (H6.out.1.past HT).c 0 _ rfl
            have nl := (H6.out.1.past HT).lt
            clear HT
            subst hp0
            go_wp2_with (at_mapUpdate; refine wpList_putS rfl _ _ _ 49 3 rfl Tryz.underlying49 mb i rfl HM8.out (by have := HLE.out; unfold maxLen; omega) nm HST.out.n rfl (.int .i64 (i : Int)) rfl ?_; intro w9 hm9 hg9)
            go_roundw
            case rel =>
              refine ⟨i + 1, by omega, by go_num, HV.out, ?_, ?_, ?_⟩
              · exact hm9.congr HP.out
              · exact HK8.out.tch (Tch.of_grown (S := fun j => j = mb) hg9 (fun j hj => by cases hj; rfl)) (fun e => HMB.out.2.2 e)
              · exact HW8.out.grown hg9 HW8.out.size (fun j hj => by cases hj; exact HMB.out.1)
            case measure => simp [intOf]; omega
    · have himi : ¬ (i : Int) < (m : Int) := by omega
      obtain rfl : i = m := by omega
      have HE5 := Lib.hid (show E = match posS S i out.data.toList with | none => 11 | some j => if kdS S j = 2 then 12 else 0 by rw [HEE.out, HZ.out, fst2_0])
      have g0 := HK.out.c 0 _ rfl; have g1 := HK.out.c 1 _ rfl; have gl := HK.out.lt
      have HKG := Lib.hid (afS_get1 S i out.data.toList)
      cases hpos : posS S i out.data.toList with
      | none =>
        rw [hpos] at HE5 HKG
        simp only at HE5
        clear hpos
        go_wp2_with (at_lookup; refine wpList_lookS1 rfl _ _ 49 3 rfl Tryz.underlying49 (zeroI _) mb i rfl HR.out out HOUT.out rfl ?_; rw [HKG.out])
        go_ret
        rw [HE5.out]
        exact ⟨rfl, HB.out⟩
      | some x =>
        have hxi := posS_lt hpos
        have hxmi : (x : Int) < (i : Int) := by omega
        rw [hpos] at HE5 HKG
        simp only [Option.getD_some, Option.isSome_some] at HE5 HKG
        obtain ⟨-, -, k', hk', hkd', -⟩ := st_ok (fstN_zero HZ.out x hxi)
        obtain ⟨b, off, rfl, hrow'⟩ := (HH.out.r.past HB.out).get hxi
        have x1 := hrow' 1 _ rfl
        have HOP2 := Lib.hid (fun w' hl => form_yes hk' w' hl)
        obtain ⟨f', hf'⟩ : ∃ f', f' = F k' := ⟨_, rfl⟩
        obtain ⟨op', hop'⟩ : ∃ op', op' = (S x).op := ⟨_, rfl⟩
        rw [hkd', ← hf'] at HE5
        rw [← hf', ← hop'] at HOP2
        rw [← hop'] at x1
        have xl := cell_lt x1; simp only at xl
        clear hpos hrow' hk' hkd' hf' hop'
        go_upto_region 37 with (first | (at_lookup; refine wpList_lookS1 rfl _ _ 49 3 rfl Tryz.underlying49 (zeroI _) mb i rfl HR.out out HOUT.out rfl ?_; rw [HKG.out]) | (go_at_call 20; refine (HOP2.out _ (HL.out.past HB.out)).mono ?_; rintro e w7 ⟨fa', fc', rfl, hI7, hb7⟩))
        refine wp_world (fun W8 hW8 => ?_)
        have hb8 : Below w7.heap.size w7 W8 := by rw [hW8]; (repeat (first | exact Below.refl _ _ | assumption | (refine Below.setCell ?_ (by first | (simp; done) | (simp; omega) | omega) _) | (refine Below.drew ?_) | (refine below_drewN ?_ _) | (refine Below.alloc ?_ (by first | (simp; done) | (simp; omega) | omega) _) | (refine Below.trans ?_ (Below.mono (by assumption) (by first | (simp; done) | (simp; omega) | omega)))))
        have N8 : Blk W8 w7.heap.size (fCells f' fa' fc') := by rw [hW8]; exact Blk.new _ _ _ _ rfl
        have HW8 := Lib.hid (HB.out.trans ((hb7.trans (hb8.mono hb7.size)).mono HB.out.size))
        have z2 := (fCells_at N8).2.2.1
        have zl := N8.lt
        obtain ⟨t, ht⟩ : ∃ t, t = whenE (f'.out == 2) 12 := ⟨_, rfl⟩
        have HT := Lib.hid (show E = t by
          rw [HE5.out, ht]
          unfold whenE
          by_cases h : f'.out = 2
          · rw [if_pos h, h]; rfl
          · rw [if_neg h, beq_false_of_ne h]; rfl)
        clear hW8 hb8 N8 hI7 hb7 x1 xl g0 g1 gl
        go_wp2_with (go_at_call 18; refine (When_any _ _ _).mono ?_; rintro e w' ⟨rfl, rfl⟩)
        go_ret
        rw [HT.out, ht]
        exact ⟨rfl, HW8.out⟩
end Go.Proofs.YtbaocallhnehfaaGreatDoor
