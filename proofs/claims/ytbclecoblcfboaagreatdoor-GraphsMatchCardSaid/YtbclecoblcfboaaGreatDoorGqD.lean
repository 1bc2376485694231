/- How far a graph looks: node.margin, node.Margin, dyelaw2.margin. Conditions: the nodes can be read. -/
import Derived.Test.YtbclecoblcfboaaGreatDoorGqC
namespace Go.Proofs.YtbclecoblcfboaaGreatDoor
open Go Go.RowKit
def mgG (ns : List NodeD) (o : Nat) : Int := mgS ns (dsS ns o ns.length) ns.length
set_option maxRecDepth 100000 in
set_option maxHeartbeats 6400000 in
theorem margin_any (a : Option Addr) (c : Nat) (ns : List NodeD) (out : Int) (w : World) (h : IsNodes w a c ns) (hg : gE ns out = 0) :
    Calls Tryz.prog 44 #[.agg #[.slice a ns.length c, .int .i64 out]] w fun e w' => e = .returned (.tuple #[.int .i64 (if 64 < mgG ns out.toNat then 0 else mgG ns out.toNat), .int .i64 (if 64 < mgG ns out.toNat then 4 else 0)]) ∧ Below w.heap.size w w' := by
  have HH := Lib.hid h
  have HZ0 := Lib.hid (gE_ok hg)
  have HDI := Lib.hid (fun w' hb => distances_any a c ns out w' (h.past hb) hg : ∀ w', Below w.heap.size w w' → _)
  clear h hg
  unfold DsP at HDI
  obtain ⟨m, hm⟩ : ∃ m, m = ns.length := ⟨_, rfl⟩
  have HM := Lib.hid hm
  have hm1 : m ≤ 100 := by have := HZ0.out.2.1; omega
  obtain ⟨G, hG⟩ : ∃ G, G = mgG ns out.toNat := ⟨_, rfl⟩
  obtain ⟨D, hD⟩ : ∃ D, D = dsS ns out.toNat ns.length := ⟨_, rfl⟩
  have HG := Lib.hid (show G = mgS ns D m by rw [hG, hD, hm]; rfl)
  rw [← hD, ← hm] at HDI
  rw [← hm, ← hG]
  obtain ⟨v1, hv1⟩ : ∃ v1, v1 = if 64 < G then 0 else G := ⟨_, rfl⟩
  obtain ⟨v2, hv2⟩ : ∃ v2 : Int, v2 = if 64 < G then 4 else 0 := ⟨_, rfl⟩
  rw [← hv1, ← hv2]
  have HV1 := Lib.hid hv1; have HV2 := Lib.hid hv2
  clear hv1 hv2
  clear hm hG hD
  go_enter Tryz.func44, Tryz.ntmps44
  go_upto_region 2 with fail
  refine wp_world (fun W1 hW1 => ?_)
  have H1p : Blk W1 w.heap.size [.slice a m c, .int .i64 out] ∧ Below w.heap.size w W1 := by rw [hW1]; exact ⟨Blk.new _ _ _ _ rfl, by (repeat (first | exact Below.refl _ _ | assumption | (refine Below.setCell ?_ (by first | (simp; done) | (simp; omega) | omega) _) | (refine Below.drew ?_) | (refine below_drewN ?_ _) | (refine Below.alloc ?_ (by first | (simp; done) | (simp; omega) | omega) _) | (refine Below.trans ?_ (Below.mono (by assumption) (by first | (simp; done) | (simp; omega) | omega)))))⟩
  obtain ⟨pg, hpg⟩ : ∃ pg, pg = w.heap.size := ⟨_, rfl⟩
  have H1 : Hid (Blk W1 pg [.slice a m c, .int .i64 out] ∧ Below w.heap.size w W1) := Lib.hid ⟨by rw [hpg]; exact H1p.1, H1p.2⟩
  rw [← hpg]
  clear hW1 H1p hpg
  have g0 := H1.out.1.c 0 _ rfl; have g1 := H1.out.1.c 1 _ rfl; have gl := H1.out.1.lt
  go_wp2_with (go_at_call 46; refine (HDI.out _ H1.out.2).mono ?_; rintro e w1 ⟨rb, rfl, hR, hrb, hb1⟩)
  have H2 := Lib.hid (And.intro hR (And.intro (H1.out.1.past hb1) (H1.out.2.trans (hb1.mono H1.out.2.size))))
  clear hR hrb hb1 g0 g1 gl
  go_loopw [4, 10] (fun sm sk wr => ∃ i : Nat, i ≤ m ∧ sk = .int .i64 i ∧ sm = .int .i64 (mgS ns D i) ∧ Below w1.heap.size w1 wr) (fun _ sk _ => m - (intOf sk).toNat)
  case atStart => exact ⟨0, Nat.zero_le _, rfl, rfl, Below.refl _ _⟩
  case round =>
    obtain ⟨i, hi, rfl, rfl, hB⟩ := hrel
    have HB := Lib.hid hB
    have HR := Lib.hid (H2.out.1.of_block (hB.block _ H2.out.1.lt))
    have HK := Lib.hid (H2.out.2.1.past hB)
    have HW := Lib.hid (H2.out.2.2.trans (hB.mono H2.out.2.2.size))
    clear hB
    by_cases him : i < m
    · have himi : (i : Int) < (m : Int) := by omega
      have hx2 : i < ns.length := by rw [← HM.out]; exact him
      obtain ⟨n, hn⟩ : ∃ n, ns[i]? = some n := ⟨_, List.getElem?_eq_getElem hx2⟩
      obtain ⟨b, off, rfl, hna, hnb⟩ := HH.out.get hn
      obtain ⟨op, ins, ints, reals, ia, ic, na, nc, ra, rc⟩ := n
      obtain ⟨k, hk27, -, hk, -, hni, -, -, -⟩ := nd_ok hn (fstN_zero HZ0.out.2.2.1 i hx2)
      have hrc := rcO_at hn hk
      have NA := hna.past HW.out
      have HNA := Lib.hid NA
      simp only at hk hni hrc
      have HRE := Lib.hid (fun (w' : World) h => reach_all hk na nc ints w' hni h : ∀ w', IntsAt 0 w' na ints → _)
      obtain ⟨rv, hrv⟩ : ∃ rv, rv = rcK k ints := ⟨_, rfl⟩
      rw [← hrv] at HRE hrc
      have HS : Hid (mgS ns D (i + 1) = if 0 ≤ D i then max (mgS ns D i) (wrap64 (D i + rv)) else mgS ns D i) := Lib.hid (by rw [← hrc]; rfl)
      obtain ⟨M, hM⟩ : ∃ M, M = mgS ns D i := ⟨_, rfl⟩
      obtain ⟨d, hd⟩ : ∃ d, d = D i := ⟨_, rfl⟩
      have r0 := HR.out.cell him
      rw [← hd] at r0 HS
      rw [← hM] at HS
      rw [← hM]
      have rl := HR.out.lt
      clear hn hna hnb hk hk27 hni hrc hrv hM hd hx2
      by_cases hneg : 0 ≤ d
      · rw [if_pos hneg] at HS
        have g0 := HK.out.c 0 _ rfl
        have c0 := NA.c0; have c2 := NA.c2
        simp only at c0 c2
        have HCP : Hid (∀ w', Below wr.heap.size wr w' → w'.cell? ⟨pg, 0, none⟩ = some (.slice (some ⟨b, off, none⟩) m c) ∧ w'.cell? ⟨b, off + i * 4, none⟩ = some (.string op) ∧ w'.cell? ⟨b, off + i * 4 + 2, none⟩ = some (.slice na ints.length nc)) := Lib.hid (fun w' hb => ⟨(hb.cell (p := ⟨pg, 0, none⟩) (cell_lt g0)).trans g0, (hb.cell (p := ⟨b, off + i * 4, none⟩) (cell_lt c0)).trans c0, (hb.cell (p := ⟨b, off + i * 4 + 2, none⟩) (cell_lt c2)).trans c2⟩)
        clear g0 c0 c2
        go_upto_region 6 with fail
        clear NA r0 rl
        refine wp_region_C (fun w' => w'.cell? ⟨pg, 0, none⟩ = some (.slice (some ⟨b, off, none⟩) m c) ∧ w'.cell? ⟨b, off + i * 4, none⟩ = some (.string op) ∧ w'.cell? ⟨b, off + i * 4 + 2, none⟩ = some (.slice na ints.length nc)) 17 18 (by kernel_rfl) rfl ?_
        have hC := HCP.out wr.drew ((Below.refl _ _).drew)
        refine wpAnyC_take (i := 0) (v := .int .i64 M) rfl (by kernel_rfl) (by kernel_rfl) (fun _ _ _ h => h) (.inl ⟨rfl, fun w' hw' => ?_⟩) hC ?_
        · obtain ⟨k0, k1, k2⟩ := hw'
          go_simp
        refine wpAnyC_act (by rfl) ?_
        simp only [Act.put, List.setIfInBounds_toArray, List.set_cons_zero, List.set_cons_succ]
        refine wpAnyC_take (i := 1) (v := .int .i64 d) rfl (by kernel_rfl) (by kernel_rfl) (fun _ _ _ h => h) (.inl ⟨rfl, fun w' hw' => ?_⟩) hC ?_
        · obtain ⟨k0, k1, k2⟩ := hw'
          go_simp
        refine wpAnyC_act (by rfl) ?_
        simp only [Act.put, List.setIfInBounds_toArray, List.set_cons_zero, List.set_cons_succ]
        refine wpAnyC_take (i := 2) (v := .pointer (some ⟨pg, 0, none⟩)) rfl (by kernel_rfl) (by kernel_rfl) (fun _ _ _ h => h) (.inl ⟨rfl, fun w' hw' => ?_⟩) hC ?_
        · obtain ⟨k0, k1, k2⟩ := hw'
          go_simp
        refine wpAnyC_act (by rfl) ?_
        simp only [Act.put, List.setIfInBounds_toArray, List.set_cons_zero, List.set_cons_succ]
        refine wpAnyC_take (i := 3) (v := .slice (some ⟨b, off, none⟩) m c) rfl (by kernel_rfl) (by kernel_rfl) (fun _ _ _ h => h) (.inl ⟨rfl, fun w' hw' => ?_⟩) hC ?_
        · obtain ⟨k0, k1, k2⟩ := hw'
          go_simp
        refine wpAnyC_act (by rfl) ?_
        simp only [Act.put, List.setIfInBounds_toArray, List.set_cons_zero, List.set_cons_succ]
        refine wpAnyC_take (i := 4) (v := .int .i64 i) rfl (by kernel_rfl) (by kernel_rfl) (fun _ _ _ h => h) (.inl ⟨rfl, fun w' hw' => ?_⟩) hC ?_
        · obtain ⟨k0, k1, k2⟩ := hw'
          go_simp
        refine wpAnyC_act (by rfl) ?_
        simp only [Act.put, List.setIfInBounds_toArray, List.set_cons_zero, List.set_cons_succ]
        refine wpAnyC_take (i := 5) (v := .pointer (some ⟨b, off + i * 4, none⟩)) rfl (by kernel_rfl) (by kernel_rfl) (fun _ _ _ h => h) (.inl ⟨rfl, fun w' hw' => ?_⟩) hC ?_
        · obtain ⟨k0, k1, k2⟩ := hw'
          go_simp
        refine wpAnyC_act (by rfl) ?_
        simp only [Act.put, List.setIfInBounds_toArray, List.set_cons_zero, List.set_cons_succ]
        refine wpAnyC_take (i := 6) (v := .pointer (some ⟨b, off + i * 4, none⟩)) rfl (by kernel_rfl) (by kernel_rfl) (fun _ _ _ h => h) (.inl ⟨rfl, fun w' hw' => ?_⟩) hC ?_
        · obtain ⟨k0, k1, k2⟩ := hw'
          go_simp
        refine wpAnyC_act (by rfl) ?_
        simp only [Act.put, List.setIfInBounds_toArray, List.set_cons_zero, List.set_cons_succ]
        refine wpAnyC_take (i := 7) (v := .string op) rfl (by kernel_rfl) (by kernel_rfl) (fun _ _ _ h => h) (.inl ⟨rfl, fun w' hw' => ?_⟩) hC ?_
        · obtain ⟨k0, k1, k2⟩ := hw'
          go_simp
        refine wpAnyC_act (by rfl) ?_
        simp only [Act.put, List.setIfInBounds_toArray, List.set_cons_zero, List.set_cons_succ]
        refine wpAnyC_take (i := 8) (v := .pointer (some ⟨pg, 0, none⟩)) rfl (by kernel_rfl) (by kernel_rfl) (fun _ _ _ h => h) (.inl ⟨rfl, fun w' hw' => ?_⟩) hC ?_
        · obtain ⟨k0, k1, k2⟩ := hw'
          go_simp
        refine wpAnyC_act (by rfl) ?_
        simp only [Act.put, List.setIfInBounds_toArray, List.set_cons_zero, List.set_cons_succ]
        refine wpAnyC_take (i := 9) (v := .slice (some ⟨b, off, none⟩) m c) rfl (by kernel_rfl) (by kernel_rfl) (fun _ _ _ h => h) (.inl ⟨rfl, fun w' hw' => ?_⟩) hC ?_
        · obtain ⟨k0, k1, k2⟩ := hw'
          go_simp
        refine wpAnyC_act (by rfl) ?_
        simp only [Act.put, List.setIfInBounds_toArray, List.set_cons_zero, List.set_cons_succ]
        refine wpAnyC_take (i := 10) (v := .int .i64 i) rfl (by kernel_rfl) (by kernel_rfl) (fun _ _ _ h => h) (.inl ⟨rfl, fun w' hw' => ?_⟩) hC ?_
        · obtain ⟨k0, k1, k2⟩ := hw'
          go_simp
        refine wpAnyC_act (by rfl) ?_
        simp only [Act.put, List.setIfInBounds_toArray, List.set_cons_zero, List.set_cons_succ]
        refine wpAnyC_take (i := 11) (v := .pointer (some ⟨b, off + i * 4, none⟩)) rfl (by kernel_rfl) (by kernel_rfl) (fun _ _ _ h => h) (.inl ⟨rfl, fun w' hw' => ?_⟩) hC ?_
        · obtain ⟨k0, k1, k2⟩ := hw'
          go_simp
        refine wpAnyC_act (by rfl) ?_
        simp only [Act.put, List.setIfInBounds_toArray, List.set_cons_zero, List.set_cons_succ]
        refine wpAnyC_take (i := 12) (v := .pointer (some ⟨b, off + i * 4 + 2, none⟩)) rfl (by kernel_rfl) (by kernel_rfl) (fun _ _ _ h => h) (.inl ⟨rfl, fun w' hw' => ?_⟩) hC ?_
        · obtain ⟨k0, k1, k2⟩ := hw'
          go_simp
        refine wpAnyC_act (by rfl) ?_
        simp only [Act.put, List.setIfInBounds_toArray, List.set_cons_zero, List.set_cons_succ]
        refine wpAnyC_take (i := 13) (v := .slice na ints.length nc) rfl (by kernel_rfl) (by kernel_rfl) (fun _ _ _ h => h) (.inl ⟨rfl, fun w' hw' => ?_⟩) hC ?_
        · obtain ⟨k0, k1, k2⟩ := hw'
          go_simp
        refine wpAnyC_act (by rfl) ?_
        simp only [Act.put, List.setIfInBounds_toArray, List.set_cons_zero, List.set_cons_succ]
        refine wpAnyC_one (i := 14) rfl (by kernel_rfl) (fun K hK => ?_)
        go_simp
        refine (HRE.out _ (HNA.out.k.past ((Below.refl _ _).drew))).mono ?_
        rintro e w5 ⟨rfl, hb5⟩
        have hb : Below wr.heap.size wr w5 := (Below.refl _ _).drew.trans (hb5.mono (by simp))
        have HB5 := Lib.hid hb
        go_simp
        refine hK _ _ (fun _ => HCP.out _ hb) ?_
        clear hK K hb5 hb hC
        refine wpAnyC_one (i := 15) rfl (by kernel_rfl) (fun K hK => ?_)
        go_simp
        refine hK _ _ (fun _ => HCP.out _ HB5.out) ?_
        clear hK K
        refine wpAnyC_one (i := 16) rfl (by kernel_rfl) (fun K hK => ?_)
        go_simp
        refine hK _ _ (fun _ => HCP.out _ HB5.out) ?_
        clear hK K
        refine wpAnyC_one (i := 17) rfl (by kernel_rfl) (fun K hK => ?_)
        go_simp
        refine hK _ _ (fun h => by rw [getD_setSelf] at h; cases h) ?_
        clear hK K
        refine wpAnyC_done (by kernel_rfl) ?_
        go_wp2_with fail
        go_roundw
        case rel => exact ⟨i + 1, by omega, by go_num, by first | (rw [HS.out]; done) | (rw [HS.out]; simp only [IntKind.wrap_i64, wrap64]), HB.out.trans (HB5.out.mono HB.out.size)⟩
        case measure => simp [intOf] <;> omega
      · rw [if_neg hneg] at HS
        go_wp2_with fail
        go_roundw
        case rel => exact ⟨i + 1, by omega, by go_num, by first | (rw [HS.out]; done) | (rw [HS.out]; simp only [IntKind.wrap_i64, wrap64]), HB.out⟩
        case measure => simp [intOf] <;> omega
    · have himi : ¬ (i : Int) < (m : Int) := by omega
      obtain rfl : i = m := by omega
      rw [← HG.out]
      by_cases hG : 64 < G
      · go_wp2_with fail
        go_ret2
        rw [HV1.out, HV2.out, if_pos hG, if_pos hG]
        exact ⟨rfl, HW.out⟩
      · go_wp2_with fail
        go_ret2
        rw [HV1.out, HV2.out, if_neg (by omega), if_neg (by omega)]
        exact ⟨rfl, HW.out⟩
set_option maxRecDepth 100000 in
set_option maxHeartbeats 6400000 in
theorem dmargin_any (a : Option Addr) (c : Nat) (ns : List NodeD) (out : Int) (w : World) (h : IsNodes w a c ns) (hg : gE ns out = 0) :
    Calls Tryz.prog 23 #[.agg #[.slice a ns.length c, .int .i64 out]] w fun e w' => e = .returned (.int .i64 (mgG ns out.toNat)) ∧ Below w.heap.size w w' := by
  have HH := Lib.hid h
  have HZ0 := Lib.hid (gE_ok hg)
  have HDI := Lib.hid (fun w' hb => needed_any a c ns out w' (h.past hb) hg : ∀ w', Below w.heap.size w w' → _)
  clear h hg
  unfold DsP at HDI
  obtain ⟨m, hm⟩ : ∃ m, m = ns.length := ⟨_, rfl⟩
  have HM := Lib.hid hm
  have hm1 : m ≤ 100 := by have := HZ0.out.2.1; omega
  obtain ⟨G, hG⟩ : ∃ G, G = mgG ns out.toNat := ⟨_, rfl⟩
  obtain ⟨D, hD⟩ : ∃ D, D = dsS ns out.toNat ns.length := ⟨_, rfl⟩
  have HG := Lib.hid (show G = mgS ns D m by rw [hG, hD, hm]; rfl)
  rw [← hD, ← hm] at HDI
  rw [← hm, ← hG]

  clear hm hG hD
  go_enter Tryz.func23, Tryz.ntmps23
  go_upto_region 2 with fail
  refine wp_world (fun W1 hW1 => ?_)
  have H1p : Blk W1 w.heap.size [.slice a m c, .int .i64 out] ∧ Below w.heap.size w W1 := by rw [hW1]; exact ⟨Blk.new _ _ _ _ rfl, by (repeat (first | exact Below.refl _ _ | assumption | (refine Below.setCell ?_ (by first | (simp; done) | (simp; omega) | omega) _) | (refine Below.drew ?_) | (refine below_drewN ?_ _) | (refine Below.alloc ?_ (by first | (simp; done) | (simp; omega) | omega) _) | (refine Below.trans ?_ (Below.mono (by assumption) (by first | (simp; done) | (simp; omega) | omega)))))⟩
  obtain ⟨pg, hpg⟩ : ∃ pg, pg = w.heap.size := ⟨_, rfl⟩
  have H1 : Hid (Blk W1 pg [.slice a m c, .int .i64 out] ∧ Below w.heap.size w W1) := Lib.hid ⟨by rw [hpg]; exact H1p.1, H1p.2⟩
  rw [← hpg]
  clear hW1 H1p hpg
  have g0 := H1.out.1.c 0 _ rfl; have g1 := H1.out.1.c 1 _ rfl; have gl := H1.out.1.lt
  go_wp2_with (go_at_call 29; refine (HDI.out _ H1.out.2).mono ?_; rintro e w1 ⟨rb, rfl, hR, hrb, hb1⟩)
  have H2 := Lib.hid (And.intro hR (And.intro (H1.out.1.past hb1) (H1.out.2.trans (hb1.mono H1.out.2.size))))
  clear hR hrb hb1 g0 g1 gl
  go_loopw [3, 9] (fun sm sk wr => ∃ i : Nat, i ≤ m ∧ sk = .int .i64 i ∧ sm = .int .i64 (mgS ns D i) ∧ Below w1.heap.size w1 wr) (fun _ sk _ => m - (intOf sk).toNat)
  case atStart => exact ⟨0, Nat.zero_le _, rfl, rfl, Below.refl _ _⟩
  case round =>
    obtain ⟨i, hi, rfl, rfl, hB⟩ := hrel
    have HB := Lib.hid hB
    have HR := Lib.hid (H2.out.1.of_block (hB.block _ H2.out.1.lt))
    have HK := Lib.hid (H2.out.2.1.past hB)
    have HW := Lib.hid (H2.out.2.2.trans (hB.mono H2.out.2.2.size))
    clear hB
    by_cases him : i < m
    · have himi : (i : Int) < (m : Int) := by omega
      have hx2 : i < ns.length := by rw [← HM.out]; exact him
      obtain ⟨n, hn⟩ : ∃ n, ns[i]? = some n := ⟨_, List.getElem?_eq_getElem hx2⟩
      obtain ⟨b, off, rfl, hna, hnb⟩ := HH.out.get hn
      obtain ⟨op, ins, ints, reals, ia, ic, na, nc, ra, rc⟩ := n
      obtain ⟨k, hk27, -, hk, -, hni, -, -, -⟩ := nd_ok hn (fstN_zero HZ0.out.2.2.1 i hx2)
      have hrc := rcO_at hn hk
      have NA := hna.past HW.out
      have HNA := Lib.hid NA
      simp only at hk hni hrc
      have HRE := Lib.hid (fun (w' : World) h => dreach_all hk ia na ra ins.length ic nc reals.length rc ints w' hni h : ∀ w', IntsAt 0 w' na ints → _)
      obtain ⟨rv, hrv⟩ : ∃ rv, rv = rcK k ints := ⟨_, rfl⟩
      rw [← hrv] at HRE hrc
      have HS : Hid (mgS ns D (i + 1) = if 0 ≤ D i then max (mgS ns D i) (wrap64 (D i + rv)) else mgS ns D i) := Lib.hid (by rw [← hrc]; rfl)
      obtain ⟨M, hM⟩ : ∃ M, M = mgS ns D i := ⟨_, rfl⟩
      obtain ⟨d, hd⟩ : ∃ d, d = D i := ⟨_, rfl⟩
      have r0 := HR.out.cell him
      rw [← hd] at r0 HS
      rw [← hM] at HS
      rw [← hM]
      have rl := HR.out.lt
      clear hn hna hnb hk hk27 hni hrc hrv hM hd hx2
      by_cases hneg : 0 ≤ d
      · rw [if_pos hneg] at HS
        have g0 := HK.out.c 0 _ rfl; have gl := HK.out.lt
        have c0 := NA.c0; have c1 := NA.c1; have c2 := NA.c2; have c3 := NA.c3
        have l0 := cell_lt c0; simp only at c0 c1 c2 c3 l0
        go_wp2_with (go_at_call 49; refine (HRE.out _ HNA.out.k).mono ?_; rintro e w5 ⟨rfl, hb5⟩; have HB5 := Lib.hid (HB.out.trans (hb5.mono HB.out.size)); clear hb5)
        go_roundw
        case rel => exact ⟨i + 1, by omega, by go_num, by first | (rw [HS.out]; done) | (rw [HS.out]; simp only [IntKind.wrap_i64, wrap64]), HB5.out⟩
        case measure => simp [intOf] <;> omega
      · rw [if_neg hneg] at HS
        go_wp2_with fail
        go_roundw
        case rel => exact ⟨i + 1, by omega, by go_num, by first | (rw [HS.out]; done) | (rw [HS.out]; simp only [IntKind.wrap_i64, wrap64]), HB.out⟩
        case measure => simp [intOf] <;> omega
    · have himi : ¬ (i : Int) < (m : Int) := by omega
      obtain rfl : i = m := by omega
      rw [← HG.out]
      go_wp2_with fail
      go_ret
      exact ⟨rfl, HW.out⟩
/-- What Margin tells of a graph. -/
def mgV (ns : List NodeD) (out : Int) : Int := if gE ns out = 0 then (if 64 < mgG ns out.toNat then 0 else mgG ns out.toNat) else 0
def mgE (ns : List NodeD) (out : Int) : Int := if gE ns out = 0 then (if 64 < mgG ns out.toNat then 4 else 0) else gE ns out
set_option maxRecDepth 100000 in
set_option maxHeartbeats 1600000 in
theorem Margin_any (a : Option Addr) (c : Nat) (ns : List NodeD) (out : Int) (w : World) (h : IsNodes w a c ns) :
    Calls Tryz.prog 18 #[.agg #[.slice a ns.length c, .int .i64 out]] w fun e w' => e = .returned (.tuple #[.int .i64 (mgV ns out), .int .i64 (mgE ns out)]) ∧ Below w.heap.size w w' := by
  have HK := Lib.hid (fun w' hb => CheckGraph_any a c ns out w' (h.past hb) : ∀ w', Below w.heap.size w w' → _)
  by_cases hg : gE ns out = 0
  · have HMG := Lib.hid (fun w' hb => margin_any a c ns out w' (h.past hb) hg : ∀ w', Below w.heap.size w w' → _)
    unfold mgV mgE
    rw [if_pos hg, if_pos hg]
    rw [hg] at HK
    obtain ⟨m, hm⟩ : ∃ m, m = ns.length := ⟨_, rfl⟩
    obtain ⟨v1, hv1⟩ : ∃ v1, v1 = if 64 < mgG ns out.toNat then 0 else mgG ns out.toNat := ⟨_, rfl⟩
    obtain ⟨v2, hv2⟩ : ∃ v2 : Int, v2 = if 64 < mgG ns out.toNat then 4 else 0 := ⟨_, rfl⟩
    rw [← hv1, ← hv2, ← hm] at HMG
    rw [← hm] at HK
    rw [← hv1, ← hv2, ← hm]
    clear hv1 hv2 hm h hg
    go_enter Tryz.func18, Tryz.ntmps18
    go_wp2_with (first
      | (go_at_call 22; refine (HK.out _ (by (repeat (first | exact Below.refl _ _ | assumption | (refine Below.setCell ?_ (by first | (simp; done) | (simp; omega) | omega) _) | (refine Below.drew ?_) | (refine below_drewN ?_ _) | (refine Below.alloc ?_ (by first | (simp; done) | (simp; omega) | omega) _) | (refine Below.trans ?_ (Below.mono (by assumption) (by first | (simp; done) | (simp; omega) | omega))))))).mono ?_; rintro e w1 ⟨rfl, hb1⟩; have g0 := ((Blk.new w [.slice a m c, .int .i64 out] 24 _ rfl).past hb1).c 0 _ rfl; have g1 := ((Blk.new w [.slice a m c, .int .i64 out] 24 _ rfl).past hb1).c 1 _ rfl; have gl := ((Blk.new w [.slice a m c, .int .i64 out] 24 _ rfl).past hb1).lt; have HB1 := Lib.hid (((Below.refl w.heap.size w).alloc (Nat.le_refl _) (.cells #[.slice a m c, .int .i64 out] 24)).trans (hb1.mono (by simp))); clear hb1)
      | (go_at_call 44; refine (HMG.out _ HB1.out).mono ?_; rintro e w2 ⟨rfl, hb2⟩))
    go_ret2
    exact ⟨rfl, HB1.out.trans (hb2.mono HB1.out.size)⟩
  · unfold mgV mgE
    rw [if_neg hg, if_neg hg]
    obtain ⟨m, hm⟩ : ∃ m, m = ns.length := ⟨_, rfl⟩
    obtain ⟨G, hG⟩ : ∃ G, G = gE ns out := ⟨_, rfl⟩
    rw [← hm, ← hG] at HK
    rw [← hG] at hg
    rw [← hm, ← hG]
    clear hG hm h
    go_enter Tryz.func18, Tryz.ntmps18
    go_wp2_with (go_at_call 22; refine (HK.out _ (by (repeat (first | exact Below.refl _ _ | assumption | (refine Below.setCell ?_ (by first | (simp; done) | (simp; omega) | omega) _) | (refine Below.drew ?_) | (refine below_drewN ?_ _) | (refine Below.alloc ?_ (by first | (simp; done) | (simp; omega) | omega) _) | (refine Below.trans ?_ (Below.mono (by assumption) (by first | (simp; done) | (simp; omega) | omega))))))).mono ?_; rintro e w1 ⟨rfl, hb1⟩)
    go_ret2
    exact ⟨rfl, ((Below.refl _ _).alloc (Nat.le_refl _) _).trans (hb1.mono (by simp))⟩
end Go.Proofs.YtbclecoblcfboaaGreatDoor
