/- Whether a graph is right, in the document: dyelaw2.graphError. Conditions: the nodes can be read. -/
import Derived.Test.YtbclecoblcfboaaGreatDoorQI
import Derived.Test.YtbclecoblcfboaaGreatDoorQE
import Derived.Test.YtbclecoblcfboaaGreatDoorBO
import Derived.Deep.QuietTactic
import Derived.BigQuiet
namespace Go.Proofs.YtbclecoblcfboaaGreatDoor
open Go Go.RowKit
set_option maxRecDepth 100000 in
set_option maxHeartbeats 6400000 in
theorem graphError_any (a : Option Addr) (c : Nat) (ns : List NodeD) (out : Int) (w : World) (h : IsNodes w a c ns) (hL : LibW w) :
    Calls Tryz.prog 10 #[.agg #[.slice a ns.length c, .int .i64 out]] w fun e w' => e = .returned (.int .i64 (gE ns out)) ∧ Below w.heap.size w w' := by
  have HH := Lib.hid h
  have HL := Lib.hid hL
  clear h hL
  obtain ⟨m, hm⟩ : ∃ m, m = ns.length := ⟨_, rfl⟩
  have HM := Lib.hid hm
  obtain ⟨E, hE⟩ : ∃ E, E = gE ns out := ⟨_, rfl⟩
  have HEE := Lib.hid (show E = if m = 0 then 10 else if 100 < m then 4 else fst2 (fstN (ndE ns) m) (if 0 ≤ out ∧ out < (m : Int) then (if kdO ns out.toNat = 2 then 12 else 0) else 11) by rw [hE, hm]; rfl)
  rw [← hE, ← hm]
  clear hm hE
  obtain ⟨b1, hb1⟩ : ∃ b1, b1 = decide ((m : Int) = 0) := ⟨_, rfl⟩
  obtain ⟨b2, hb2⟩ : ∃ b2, b2 = decide ((100 : Int) < (m : Int)) := ⟨_, rfl⟩
  obtain ⟨r, hr⟩ : ∃ r, r = firstE (whenE b1 10) (whenE b2 4) := ⟨_, rfl⟩
  have HR0 : Hid (r = if m = 0 then 10 else if 100 < m then 4 else 0) := Lib.hid (by
    rw [hr, hb1, hb2]
    unfold firstE whenE
    by_cases h0 : m = 0
    · subst h0; rfl
    · rw [if_neg h0, decide_eq_false (by omega)]
      by_cases h1 : 100 < m
      · rw [if_pos h1, decide_eq_true (by omega)]; rfl
      · rw [if_neg h1, decide_eq_false (by omega)]; rfl)
  have HB1 := Lib.hid hb1
  have HB2 := Lib.hid hb2
  have HRR := Lib.hid hr
  clear hb1 hb2 hr
  go_enter Tryz.func10, Tryz.ntmps10
  go_upto_region 1 with fail
  refine wp_world (fun W1 hW1 => ?_)
  have H1 : Hid (Blk W1 w.heap.size [.slice a m c, .int .i64 out] ∧ Below w.heap.size w W1) := Lib.hid (by rw [hW1]; exact ⟨Blk.new _ _ _ _ rfl, by (repeat (first | exact Below.refl _ _ | assumption | (refine Below.setCell ?_ (by first | (simp; done) | (simp; omega) | omega) _) | (refine Below.drew ?_) | (refine below_drewN ?_ _) | (refine Below.alloc ?_ (by first | (simp; done) | (simp; omega) | omega) _) | (refine Below.trans ?_ (Below.mono (by assumption) (by first | (simp; done) | (simp; omega) | omega)))))⟩)
  clear hW1
  refine wp_region_C (fun w' => w'.cell? ⟨w.heap.size, 0, none⟩ = some (.slice a m c) ∧ w'.cell? ⟨w.heap.size, 1, none⟩ = some (.int .i64 out)) 10 13 (by kernel_rfl) rfl ?_
  have hC := And.intro (H1.out.1.drew.c 0 _ rfl) (H1.out.1.drew.c 1 _ rfl)
  refine wpAnyC_take (i := 0) (v := .pointer (some ⟨w.heap.size, 0, none⟩)) rfl (by kernel_rfl) (by kernel_rfl) (fun _ _ _ h => h) (.inl ⟨rfl, fun w' hw' => ?_⟩) hC ?_
  · obtain ⟨k0, k1⟩ := hw'
    go_simp
  refine wpAnyC_act (by rfl) ?_
  simp only [Act.put, List.setIfInBounds_toArray, List.set_cons_zero, List.set_cons_succ]
  refine wpAnyC_take (i := 1) (v := .slice a m c) rfl (by kernel_rfl) (by kernel_rfl) (fun _ _ _ h => h) (.inl ⟨rfl, fun w' hw' => ?_⟩) hC ?_
  · obtain ⟨k0, k1⟩ := hw'
    go_simp
  refine wpAnyC_act (by rfl) ?_
  simp only [Act.put, List.setIfInBounds_toArray, List.set_cons_zero, List.set_cons_succ]
  refine wpAnyC_take (i := 2) (v := .int .i64 m) rfl (by kernel_rfl) (by kernel_rfl) (fun _ _ _ h => h) (.inl ⟨rfl, fun w' hw' => ?_⟩) hC ?_
  · obtain ⟨k0, k1⟩ := hw'
    go_simp
  refine wpAnyC_act (by rfl) ?_
  simp only [Act.put, List.setIfInBounds_toArray, List.set_cons_zero, List.set_cons_succ]
  refine wpAnyC_take (i := 3) (v := .bool b1) rfl (by kernel_rfl) (by kernel_rfl) (fun _ _ _ h => h) (.inl ⟨rfl, fun w' hw' => ?_⟩) hC ?_
  · obtain ⟨k0, k1⟩ := hw'
    rw [HB1.out]
    go_simp
    rw [Bool.eq_iff_iff]; simp
  refine wpAnyC_act (by rfl) ?_
  simp only [Act.put, List.setIfInBounds_toArray, List.set_cons_zero, List.set_cons_succ]
  refine wpAnyC_take (i := 5) (v := .pointer (some ⟨w.heap.size, 0, none⟩)) rfl (by kernel_rfl) (by kernel_rfl) (fun _ _ _ h => h) (.inl ⟨rfl, fun w' hw' => ?_⟩) hC ?_
  · obtain ⟨k0, k1⟩ := hw'
    go_simp
  refine wpAnyC_act (by rfl) ?_
  simp only [Act.put, List.setIfInBounds_toArray, List.set_cons_zero, List.set_cons_succ]
  refine wpAnyC_take (i := 6) (v := .slice a m c) rfl (by kernel_rfl) (by kernel_rfl) (fun _ _ _ h => h) (.inl ⟨rfl, fun w' hw' => ?_⟩) hC ?_
  · obtain ⟨k0, k1⟩ := hw'
    go_simp
  refine wpAnyC_act (by rfl) ?_
  simp only [Act.put, List.setIfInBounds_toArray, List.set_cons_zero, List.set_cons_succ]
  refine wpAnyC_take (i := 7) (v := .int .i64 m) rfl (by kernel_rfl) (by kernel_rfl) (fun _ _ _ h => h) (.inl ⟨rfl, fun w' hw' => ?_⟩) hC ?_
  · obtain ⟨k0, k1⟩ := hw'
    go_simp
  refine wpAnyC_act (by rfl) ?_
  simp only [Act.put, List.setIfInBounds_toArray, List.set_cons_zero, List.set_cons_succ]
  refine wpAnyC_take (i := 8) (v := .bool b2) rfl (by kernel_rfl) (by kernel_rfl) (fun _ _ _ h => h) (.inl ⟨rfl, fun w' hw' => ?_⟩) hC ?_
  · obtain ⟨k0, k1⟩ := hw'
    rw [HB2.out]
    go_simp
  refine wpAnyC_act (by rfl) ?_
  simp only [Act.put, List.setIfInBounds_toArray, List.set_cons_zero, List.set_cons_succ]
  refine wpAnyC_one (i := 4) rfl (by kernel_rfl) (fun K hK => ?_)
  go_simp
  refine (When_any _ _ _).mono ?_
  rintro e w' ⟨rfl, rfl⟩
  go_simp
  refine hK _ _ (fun _ => hC) ?_
  clear hK K
  refine wpAnyC_one (i := 9) rfl (by kernel_rfl) (fun K hK => ?_)
  go_simp
  refine (When_any _ _ _).mono ?_
  rintro e w' ⟨rfl, rfl⟩
  go_simp
  refine hK _ _ (fun _ => hC) ?_
  clear hK K
  refine wpAnyC_one (i := 10) rfl (by kernel_rfl) (fun K hK => ?_)
  go_simp
  refine hK _ _ (fun h => by rw [getD_setSelf] at h; cases h) ?_
  clear hK K
  refine wpAnyC_one (i := 11) rfl (by kernel_rfl) (fun K hK => ?_)
  go_simp
  refine (First2_new (whenE b1 10) (whenE b2 4) W1.heap.size 26 (World.drew (W1.alloc (.cells #[.int .i64 (whenE b1 10), .int .i64 (whenE b2 4)] 26))) (heap_new W1 _ _ rfl)).mono ?_
  rintro e w' ⟨rfl, rfl⟩
  rw [← HRR.out]
  go_simp
  refine hK _ _ (fun h => by rw [getD_setC (by decide)] at h; rw [getD_setSelf] at h; cases h) ?_
  clear hK K
  refine wpAnyC_one (i := 12) rfl (by kernel_rfl) (fun K hK => ?_)
  go_simp
  refine hK _ _ (fun h => by rw [getD_setC (by decide)] at h; rw [getD_setC (by decide)] at h; rw [getD_setSelf] at h; cases h) ?_
  clear hK K hC
  refine wpAnyC_done (by kernel_rfl) ?_
  refine nf_exit (fun W2 hW2 => ?_)
  have H2 : Hid (Blk W2 w.heap.size [.slice a m c, .int .i64 out] ∧ Below w.heap.size w W2) := Lib.hid (by
    have hb : Below W1.heap.size W1 W2 := by rw [hW2]; (repeat (first | exact Below.refl _ _ | assumption | (refine Below.setCell ?_ (by first | (simp; done) | (simp; omega) | omega) _) | (refine Below.drew ?_) | (refine below_drewN ?_ _) | (refine Below.alloc ?_ (by first | (simp; done) | (simp; omega) | omega) _) | (refine Below.trans ?_ (Below.mono (by assumption) (by first | (simp; done) | (simp; omega) | omega)))))
    exact ⟨H1.out.1.past hb, H1.out.2.trans (hb.mono H1.out.2.size)⟩)
  clear hW2
  have g0 := H2.out.1.c 0 _ rfl; have g1 := H2.out.1.c 1 _ rfl; have gl := H2.out.1.lt
  by_cases h0 : r = 0
  case neg =>
    have HV : Hid (E = r) := Lib.hid (by
      rw [HEE.out, HR0.out]
      have h1 := HR0.out
      by_cases h2 : m = 0
      · rw [if_pos h2, if_pos h2]
      · rw [if_neg h2] at h1
        rw [if_neg h2, if_neg h2]
        by_cases h3 : 100 < m
        · rw [if_pos h3, if_pos h3]
        · rw [if_neg h3] at h1; exact absurd h1 h0)
    go_wp2_with fail
    go_ret
    rw [HV.out]
    exact ⟨rfl, H2.out.2⟩
  have hm0 : ¬ m = 0 := fun h => by have h1 := HR0.out; rw [if_pos h] at h1; omega
  have hm1 : ¬ 100 < m := fun h => by have h1 := HR0.out; rw [if_neg hm0, if_pos h] at h1; omega
  rw [if_neg hm0, if_neg hm1] at HEE
  have HLE := Lib.hid (show m ≤ 100 by omega)
  subst h0
  have hm100 : ¬ ((100 : Int) < (m : Int)) := by omega
  clear HR0 HRR HB1 HB2 hm0 hm1
  go_wp2_with fail
  clear g0 g1 gl
  go_loopw [33] (fun s33 wr => ∃ i : Nat, i ≤ m ∧ s33 = .int .i64 i ∧ fstN (ndE ns) i = 0 ∧ Blk wr w.heap.size [.slice a m c, .int .i64 out] ∧ Below w.heap.size w wr) (fun s33 _ => m - (intOf s33).toNat)
  case atStart => exact ⟨0, Nat.zero_le _, rfl, rfl, H2.out.1, H2.out.2⟩
  case round =>
    obtain ⟨i, hi, rfl, hz, hK, hB⟩ := hrel
    have HZ := Lib.hid hz; have HK := Lib.hid hK; have HB := Lib.hid hB
    clear hz hK hB H2 H1
    by_cases him : i < m
    · have himi : (i : Int) < (m : Int) := by omega
      obtain ⟨n, hn⟩ : ∃ n, ns[i]? = some n := ⟨_, List.getElem?_eq_getElem (by rw [← HM.out]; exact him)⟩
      obtain ⟨b, off, rfl, hna, hnb⟩ := HH.out.get hn
      have hna2 := hna.past HB.out
      obtain ⟨op, ins, ints, reals, ia, ic, na, nc, ra, rc⟩ := n
      have HN := Lib.hid (And.intro hn (And.intro hna2 hnb))
      have HX := Lib.hid (fun hk => fstN_of HZ.out hk him : ndE ns i ≠ 0 → fstN (ndE ns) m = ndE ns i)
      have HXE : Hid (∀ v, v ≠ 0 → ndE ns i = v → E = v) := Lib.hid (fun v h1 h2 => by rw [HEE.out, HX.out (by rw [h2]; exact h1), h2, fst2_n h1])
      have HS := Lib.hid (fun hk => fstN_succ (k := i) HZ.out hk : ndE ns i = 0 → fstN (ndE ns) (i + 1) = 0)
      have HE := Lib.hid (show ndE ns i = nd1 ns i ⟨op, ins, ints, reals, ia, ic, na, nc, ra, rc⟩ by unfold ndE; rw [hn])
      have c0 : wr.cell? ⟨b, off + i * 4, none⟩ = some (.string op) := HN.out.2.1.c0
      have c1 : wr.cell? ⟨b, off + i * 4 + 1, none⟩ = some (.slice ia ins.length ic) := HN.out.2.1.c1
      have c2 : wr.cell? ⟨b, off + i * 4 + 2, none⟩ = some (.slice na ints.length nc) := HN.out.2.1.c2
      have c3 : wr.cell? ⟨b, off + i * 4 + 3, none⟩ = some (.slice ra reals.length rc) := HN.out.2.1.c3
      have l0 := cell_lt c0; simp only at l0
      clear hn hna hnb hna2 HX
      go_upto_region 7 with fail
      refine wp_world (fun W4 hW4 => ?_)
      have H4p : Blk W4 wr.heap.size [.string op, .slice ia ins.length ic, .slice na ints.length nc, .slice ra reals.length rc] ∧ Below wr.heap.size wr W4 := by rw [hW4]; exact ⟨Blk.new _ _ _ _ rfl, by (repeat (first | exact Below.refl _ _ | assumption | (refine Below.setCell ?_ (by first | (simp; done) | (simp; omega) | omega) _) | (refine Below.drew ?_) | (refine below_drewN ?_ _) | (refine Below.alloc ?_ (by first | (simp; done) | (simp; omega) | omega) _) | (refine Below.trans ?_ (Below.mono (by assumption) (by first | (simp; done) | (simp; omega) | omega)))))⟩
      obtain ⟨nb, hnb⟩ : ∃ nb, nb = wr.heap.size := ⟨_, rfl⟩
      have H4 : Hid (Blk W4 nb [.string op, .slice ia ins.length ic, .slice na ints.length nc, .slice ra reals.length rc] ∧ Below wr.heap.size wr W4 ∧ LibW W4) := Lib.hid ⟨by rw [hnb]; exact H4p.1, H4p.2, HL.out.past (HB.out.trans (H4p.2.mono HB.out.size))⟩
      rw [← hnb]
      clear hW4 c0 c1 c2 c3 l0 hnb H4p
      have m0 := H4.out.1.c 0 _ rfl; have ml := H4.out.1.lt
      cases hk : opK op.data.toList with
      | none =>
        have HE1 := Lib.hid (show ndE ns i = 1 by rw [HE.out]; unfold nd1; rw [hk])
        have HO := Lib.hid (fun w' hl => form_no hk w' hl)
        clear hk HE
        go_wp2_with (go_at_call 11; refine (HO.out _ H4.out.2.2).mono ?_; rintro e w5 ⟨rfl, hb5⟩)
        go_ret
        rw [HXE.out 1 (by decide) HE1.out]
        exact ⟨rfl, HB.out.trans ((H4.out.2.1.trans ((hb5.trans (((Below.refl w5.heap.size w5).alloc (Nat.le_refl _) _).mono hb5.size)).mono H4.out.2.1.size)).mono HB.out.size)⟩
      | some k =>
        have hk27 := (opK_name hk).1
        have HOP := Lib.hid (fun w' hl => form_yes hk w' hl)
        have HPA := Lib.hid (fun (w' : World) hni hnr hi hr => dpar_all hk na ra nc rc ints reals w' hni hnr HN.out.2.2.2.2.2.2.1 HN.out.2.2.2.2.2.2.2 hi hr : ∀ w', _)
        have HE2 := Lib.hid (show ndE ns i = if ins.length = (F k).ins.length ∧ (ints.length : Int) = (F k).ints ∧ (reals.length : Int) = (F k).reals then fst2 (fstN (fun j => in1 ns i (ins.getD j 0) ((F k).ins.getD j 0)) ins.length) (paE k ints reals) else 2 by rw [HE.out]; unfold nd1; rw [hk])
        have HF3 := Lib.hid ((F_small hk27).2.1)
        obtain ⟨f, hf⟩ : ∃ f, f = F k := ⟨_, rfl⟩
        rw [← hf] at HOP HPA HE2 HF3
        clear hf hk hk27 HE
        go_upto_region 8 with (go_at_call 11; refine (HOP.out _ H4.out.2.2).mono ?_; rintro e w5 ⟨fa, fc, rfl, hI, hb5⟩)
        refine wp_world (fun W6 hW6 => ?_)
        have H6p : Blk W6 nb [.string op, .slice ia ins.length ic, .slice na ints.length nc, .slice ra reals.length rc] ∧ Blk W6 w5.heap.size (fCells f fa fc) ∧ IntsAt 0 W6 fa f.ins ∧ Below wr.heap.size wr W6 := by
          have hb6 : Below w5.heap.size w5 W6 := by rw [hW6]; (repeat (first | exact Below.refl _ _ | assumption | (refine Below.setCell ?_ (by first | (simp; done) | (simp; omega) | omega) _) | (refine Below.drew ?_) | (refine below_drewN ?_ _) | (refine Below.alloc ?_ (by first | (simp; done) | (simp; omega) | omega) _) | (refine Below.trans ?_ (Below.mono (by assumption) (by first | (simp; done) | (simp; omega) | omega)))))
          exact ⟨(H4.out.1.past hb5).past hb6, by rw [hW6]; exact Blk.new _ _ _ _ rfl, hI.past hb6, H4.out.2.1.trans ((hb5.trans (hb6.mono hb5.size)).mono H4.out.2.1.size)⟩
        obtain ⟨fb, hfb⟩ : ∃ fb, fb = w5.heap.size := ⟨_, rfl⟩
        have H6 : Hid (Blk W6 nb [.string op, .slice ia ins.length ic, .slice na ints.length nc, .slice ra reals.length rc] ∧ Blk W6 fb (fCells f fa fc) ∧ IntsAt 0 W6 fa f.ins ∧ Below wr.heap.size wr W6) := Lib.hid ⟨H6p.1, by rw [hfb]; exact H6p.2.1, H6p.2.2⟩
        rw [← hfb]
        clear hW6 hI hb5 hfb m0 ml H4 H6p
        have m0 := H6.out.1.c 0 _ rfl; have m1 := H6.out.1.c 1 _ rfl; have m2 := H6.out.1.c 2 _ rfl; have m3 := H6.out.1.c 3 _ rfl; have ml := H6.out.1.lt
        obtain ⟨o0, o1, o2, o3, o4, o5⟩ := fCells_at H6.out.2.1
        have ol := H6.out.2.1.lt
        by_cases p1 : ins.length = f.ins.length
        case neg =>
          have HE3 := Lib.hid (HXE.out 2 (by decide) (by rw [HE2.out, if_neg (fun h => p1 h.1)]))
          have p1i : ¬ ((ins.length : Int) = (f.ins.length : Int)) := by omega
          go_wp2_with fail
          go_ret
          rw [HE3.out]
          exact ⟨rfl, HB.out.trans (H6.out.2.2.2.mono HB.out.size)⟩
        by_cases p2 : (ints.length : Int) = f.ints
        case neg =>
          have HE3 := Lib.hid (HXE.out 2 (by decide) (by rw [HE2.out, if_neg (fun h => p2 h.2.1)]))
          have p1i : ((ins.length : Int) = (f.ins.length : Int)) := by omega
          clear p1
          go_wp2_with fail
          go_ret
          rw [HE3.out]
          exact ⟨rfl, HB.out.trans (H6.out.2.2.2.mono HB.out.size)⟩
        by_cases p3 : (reals.length : Int) = f.reals
        case neg =>
          have HE3 := Lib.hid (HXE.out 2 (by decide) (by rw [HE2.out, if_neg (fun h => p3 h.2.2)]))
          have p1i : ((ins.length : Int) = (f.ins.length : Int)) := by omega
          clear p1
          go_wp2_with fail
          go_ret
          rw [HE3.out]
          exact ⟨rfl, HB.out.trans (H6.out.2.2.2.mono HB.out.size)⟩
        rw [if_pos ⟨p1, p2, p3⟩] at HE2
        have p1i : ((ins.length : Int) = (f.ins.length : Int)) := by omega
        have HP := Lib.hid (And.intro p1 (And.intro p2 p3))
        clear p1
        go_upto_region 12 with fail
        clear p1i p2 p3 m0 m1 m2 m3 ml o0 o1 o2 o3 o4 o5 ol
        have m1 := H6.out.1.c 1 _ rfl; have ml := H6.out.1.lt
        go_wp2_with fail
        have HE4 : Hid (∀ v, fst2 (fstN (fun j => in1 ns i (ins.getD j 0) (f.ins.getD j 0)) ins.length) (paE k ints reals) = v → v ≠ 0 → E = v) := Lib.hid (fun v h1 h2 => HXE.out v h2 (by rw [HE2.out, h1]))
        have HFZ := Lib.hid (fstN_zero HZ.out)
        go_loopw [72] (fun s72 wq => ∃ j : Nat, j ≤ ins.length ∧ s72 = .int .i64 j ∧ fstN (fun j => in1 ns i (ins.getD j 0) (f.ins.getD j 0)) j = 0 ∧ Below W6.heap.size W6 wq) (fun s72 _ => ins.length - (intOf s72).toNat)
        case atStart => exact ⟨0, Nat.zero_le _, rfl, rfl, Below.refl _ _⟩
        case round =>
          obtain ⟨j, hj, rfl, hjz, hq⟩ := hrel
          have HJZ := Lib.hid hjz; have HQ := Lib.hid hq
          clear hjz hq m1 ml
          have HWB := Lib.hid (HB.out.trans ((H6.out.2.2.2.trans (HQ.out.mono H6.out.2.2.2.size)).mono HB.out.size))
          by_cases hjl : j < ins.length
          · have hjli : (j : Int) < (ins.length : Int) := by omega
            have hj3 : j ≤ 3 := by have := HF3.out; have := HP.out.1; omega
            have hjf : j < f.ins.length := by have := HP.out.1; omega
            have hjfi : (j : Int) < (f.ins.length : Int) := by omega
            obtain ⟨u, hu⟩ : ∃ u, ins[j]? = some u := ⟨_, List.getElem?_eq_getElem hjl⟩
            obtain ⟨v, hv⟩ : ∃ v, f.ins[j]? = some v := ⟨_, List.getElem?_eq_getElem hjf⟩
            obtain ⟨bi, oi, rfl, ci⟩ := (HN.out.2.1.i.past (H6.out.2.2.2.trans (HQ.out.mono H6.out.2.2.2.size))).one hu
            have HIN := Lib.hid (show (fun j => in1 ns i (ins.getD j 0) (f.ins.getD j 0)) j = in1 ns i u v by simp only [List.getD_eq_getElem?_getD, hu, hv, Option.getD_some])
            have HIE := Lib.hid (fun h => HE4.out _ (by rw [fstN_of HJZ.out h hjl, fst2_n h]) h : (fun j => in1 ns i (ins.getD j 0) (f.ins.getD j 0)) j ≠ 0 → E = (fun j => in1 ns i (ins.getD j 0) (f.ins.getD j 0)) j)
            have HIS := Lib.hid (fun h => fstN_succ HJZ.out h : (fun j => in1 ns i (ins.getD j 0) (f.ins.getD j 0)) j = 0 → _)
            have li := cell_lt ci; simp only at li
            have hvv := hv
            clear hu hv
            by_cases hr : 0 ≤ u ∧ u < (i : Int)
            case neg =>
              have HV : Hid (E = 11) := Lib.hid (by
                have h1 : in1 ns i u v = 11 := by unfold in1; rw [if_neg hr]
                rw [HIE.out (by rw [HIN.out, h1]; decide), HIN.out, h1])
              have q0 : inB u 0 ((i : Int) - 1) = false := inB_f (by omega)
              clear hr hvv
              go_wp2_with (first | (go_at_call 26; refine (In_any _ _ _ _).mono ?_; rintro e w' ⟨rfl, rfl⟩))
              go_ret
              rw [HV.out]
              exact ⟨rfl, HWB.out⟩
            case pos =>
              obtain ⟨x, hx⟩ : ∃ x : Nat, u = (x : Int) := ⟨u.toNat, by omega⟩
              subst hx
              have q0 : inB (x : Int) 0 ((i : Int) - 1) = true := inB_t (by omega)
              have hxi : x < i := by omega
              have hxm : x < m := by omega
              have hxmi : (x : Int) < (m : Int) := by omega
              have HI1 := Lib.hid (show in1 ns i (x : Int) v = if kdO ns x = v then 0 else 12 by unfold in1; rw [if_pos hr, Int.toNat_natCast])
              obtain ⟨n', k', hn', hk', hkd'⟩ := nd_op (by rw [← HM.out]; exact hxm) (HFZ.out x hxi)
              obtain ⟨b', off', he', hna', -⟩ := HH.out.get hn'
              simp only [Option.some.injEq, Addr.mk.injEq, and_true] at he'
              obtain ⟨rfl, rfl⟩ := he'
              have x0 := (hna'.past HWB.out).c0
              have HOP2 := Lib.hid (fun w' hl => form_yes hk' w' hl)
              obtain ⟨f', hf'⟩ : ∃ f', f' = F k' := ⟨_, rfl⟩
              rw [hkd', ← hf'] at HI1
              rw [← hf'] at HOP2
              obtain ⟨op', hop'⟩ : ∃ op', op' = n'.op := ⟨_, rfl⟩
              rw [← hop'] at x0 HOP2
              have G0 := HK.out.past (H6.out.2.2.2.trans (HQ.out.mono H6.out.2.2.2.size))
              have g0 := G0.c 0 _ rfl; have gl := G0.lt
              have xl := cell_lt x0; simp only at xl
              clear hr hn' hk' hkd' hna' hf' hop' G0
              go_upto_region 18 with (first | (go_at_call 26; refine (In_any _ _ _ _).mono ?_; rintro e w' ⟨rfl, rfl⟩) | (go_at_call 11; refine (HOP2.out _ (HL.out.past HWB.out)).mono ?_; rintro e w7 ⟨fa', fc', rfl, hI7, hb7⟩))
              refine wp_world (fun W8 hW8 => ?_)
              have hb8 : Below w7.heap.size w7 W8 := by rw [hW8]; (repeat (first | exact Below.refl _ _ | assumption | (refine Below.setCell ?_ (by first | (simp; done) | (simp; omega) | omega) _) | (refine Below.drew ?_) | (refine below_drewN ?_ _) | (refine Below.alloc ?_ (by first | (simp; done) | (simp; omega) | omega) _) | (refine Below.trans ?_ (Below.mono (by assumption) (by first | (simp; done) | (simp; omega) | omega)))))
              have h7w := hb7.trans (hb8.mono hb7.size)
              have N8 : Blk W8 w7.heap.size (fCells f' fa' fc') := by rw [hW8]; exact Blk.new _ _ _ _ rfl
              obtain ⟨gb, hgb⟩ : ∃ gb, gb = w7.heap.size := ⟨_, rfl⟩
              rw [← hgb] at N8
              rw [← hgb]
              have HQ8 := Lib.hid (HQ.out.trans (h7w.mono HQ.out.size))
              have HW8 := Lib.hid (HWB.out.trans (h7w.mono HWB.out.size))
              obtain ⟨bf, of, rfl, cf⟩ := (H6.out.2.2.1.past HQ8.out).one hvv
              have o1 := (H6.out.2.1.past HQ8.out).c 1 _ rfl
              have ol := (H6.out.2.1.past HQ8.out).lt
              have z2 := (fCells_at N8).2.2.1
              have zl := N8.lt
              have lf := cell_lt cf; simp only at lf
              clear hW8 hb8 h7w N8 hgb hvv hI7 hb7 x0 xl g0 gl ci li
              by_cases hkv : f'.out = v
              case neg =>
                have HV : Hid (E = 12) := Lib.hid (by
                  have h1 : in1 ns i (x : Int) v = 12 := by rw [HI1.out, if_neg hkv]
                  rw [HIE.out (by rw [HIN.out, h1]; decide), HIN.out, h1])
                go_quiet (fail)
                go_wp2_with fail
                go_ret
                rw [HV.out]
                exact ⟨rfl, below_drewN HW8.out _⟩
              case pos =>
                have HV := Lib.hid (HIS.out (by rw [HIN.out, HI1.out, if_pos hkv]))
                go_quiet (fail)
                go_wp2_with fail
                go_roundw
                case rel => exact ⟨j + 1, by omega, by go_num, HV.out, below_drewN HQ8.out _⟩
                case measure => simp [intOf]; omega
          · have hjli : ¬ (j : Int) < (ins.length : Int) := by omega
            obtain rfl : j = ins.length := by omega
            have HE5 := Lib.hid (show ndE ns i = paE k ints reals by rw [HE2.out, HJZ.out, fst2_0])
            have n0 := (H6.out.1.past HQ.out).c 0 _ rfl; have n2 := (H6.out.1.past HQ.out).c 2 _ rfl; have n3 := (H6.out.1.past HQ.out).c 3 _ rfl; have nl := (H6.out.1.past HQ.out).lt
            have HMM := Lib.hid (H6.out.2.2.2.trans (HQ.out.mono H6.out.2.2.2.size))
            obtain ⟨pe, hpe⟩ : ∃ pe, pe = paE k ints reals := ⟨_, rfl⟩
            rw [← hpe] at HPA HE5
            clear hpe
            go_upto_region 22 with (go_at_call 36; refine (HPA.out _ HP.out.2.1 HP.out.2.2 (HN.out.2.1.k.past HMM.out) (HN.out.2.1.r.past HMM.out)).mono ?_; rintro e w8 ⟨rfl, hb8⟩)
            have HB8 := Lib.hid hb8
            clear hb8 n0 n2 n3 nl
            by_cases hp0 : pe = 0
            case neg =>
              have HV := Lib.hid (HXE.out pe hp0 HE5.out)
              go_wp2_with fail
              go_ret
              rw [HV.out]
              exact ⟨rfl, HWB.out.trans (HB8.out.mono HWB.out.size)⟩
            case pos =>
              have HV := Lib.hid (HS.out (by rw [HE5.out]; exact hp0))
              have HK8 := Lib.hid (HK.out.past (HMM.out.trans (HB8.out.mono HMM.out.size)))
              have HW8 := Lib.hid (HWB.out.trans (HB8.out.mono HWB.out.size))
              go_wp2_with fail
              go_roundw
              case rel => exact ⟨i + 1, by omega, by go_num, HV.out, HK8.out, HW8.out⟩
              case measure => simp [intOf]; omega
    · have himi : ¬ (i : Int) < (m : Int) := by omega
      obtain rfl : i = m := by omega
      have HE5 := Lib.hid (show E = if 0 ≤ out ∧ out < (i : Int) then (if kdO ns out.toNat = 2 then 12 else 0) else 11 by rw [HEE.out, HZ.out, fst2_0])
      have g0 := HK.out.c 0 _ rfl; have g1 := HK.out.c 1 _ rfl; have gl := HK.out.lt
      by_cases ho : 0 ≤ out ∧ out < (i : Int)
      case neg =>
        have HV := Lib.hid (show E = 11 by rw [HE5.out, if_neg ho])
        have q0 : inB out 0 ((i : Int) - 1) = false := inB_f (by omega)
        clear ho
        go_wp2_with (first | (go_at_call 26; refine (In_any _ _ _ _).mono ?_; rintro e w' ⟨rfl, rfl⟩))
        go_ret
        rw [HV.out]
        exact ⟨rfl, HB.out⟩
      case pos =>
        rw [if_pos ho] at HE5
        obtain ⟨x, hx⟩ : ∃ x : Nat, out = (x : Int) := ⟨out.toNat, by omega⟩
        subst hx
        rw [Int.toNat_natCast] at HE5
        have q0 : inB (x : Int) 0 ((i : Int) - 1) = true := inB_t (by omega)
        have hxm : x < i := by omega
        have hxmi : (x : Int) < (i : Int) := by omega
        obtain ⟨n', k', hn', hk', hkd'⟩ := nd_op (by rw [← HM.out]; exact hxm) (fstN_zero HZ.out x hxm)
        obtain ⟨b, off, rfl, hna', -⟩ := HH.out.get hn'
        have x0 := (hna'.past HB.out).c0
        have HOP2 := Lib.hid (fun w' hl => form_yes hk' w' hl)
        obtain ⟨f', hf'⟩ : ∃ f', f' = F k' := ⟨_, rfl⟩
        obtain ⟨op', hop'⟩ : ∃ op', op' = n'.op := ⟨_, rfl⟩
        rw [hkd', ← hf'] at HE5
        rw [← hf', ← hop'] at HOP2
        rw [← hop'] at x0
        have xl := cell_lt x0; simp only at xl
        clear ho hn' hk' hkd' hna' hf' hop'
        go_upto_region 28 with (first | (go_at_call 26; refine (In_any _ _ _ _).mono ?_; rintro e w' ⟨rfl, rfl⟩) | (go_at_call 11; refine (HOP2.out _ (HL.out.past HB.out)).mono ?_; rintro e w7 ⟨fa', fc', rfl, hI7, hb7⟩))
        refine wp_world (fun W8 hW8 => ?_)
        have hb8 : Below w7.heap.size w7 W8 := by rw [hW8]; (repeat (first | exact Below.refl _ _ | assumption | (refine Below.setCell ?_ (by first | (simp; done) | (simp; omega) | omega) _) | (refine Below.drew ?_) | (refine below_drewN ?_ _) | (refine Below.alloc ?_ (by first | (simp; done) | (simp; omega) | omega) _) | (refine Below.trans ?_ (Below.mono (by assumption) (by first | (simp; done) | (simp; omega) | omega)))))
        have N8 : Blk W8 w7.heap.size (fCells f' fa' fc') := by rw [hW8]; exact Blk.new _ _ _ _ rfl
        have HW8 := Lib.hid (HB.out.trans ((hb7.trans (hb8.mono hb7.size)).mono HB.out.size))
        have z2 := (fCells_at N8).2.2.1
        have zl := N8.lt
        obtain ⟨t, ht⟩ : ∃ t, t = whenE (f'.out == 2) 12 := ⟨_, rfl⟩
        have HT := Lib.hid (show E = t by
          rw [HE5.out, ht]
          unfold whenE
          by_cases h : f'.out = 2
          · rw [if_pos h, h]; rfl
          · rw [if_neg h, beq_false_of_ne h]; rfl)
        clear hW8 hb8 N8 hI7 hb7 x0 xl g0 g1 gl
        go_wp2_with (go_at_call 35; refine (When_any _ _ _).mono ?_; rintro e w' ⟨rfl, rfl⟩)
        go_ret
        rw [HT.out, ht]
        exact ⟨rfl, HW8.out⟩
end Go.Proofs.YtbclecoblcfboaaGreatDoor
