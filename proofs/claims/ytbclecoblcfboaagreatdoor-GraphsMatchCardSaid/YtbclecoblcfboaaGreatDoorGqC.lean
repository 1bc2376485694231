/- How far around a region each node is needed: node.distances, dyelaw2.needed. Conditions: the nodes can be read, the graph is right. -/
import Derived.Test.YtbclecoblcfboaaGreatDoorGqB
import Derived.Test.YtbclecoblcfboaaGreatDoorGhC
import Derived.Test.YtbclecoblcfboaaGreatDoorQE
namespace Go.Proofs.YtbclecoblcfboaaGreatDoor
open Go Go.RowKit
/-- What distances hands back. -/
def DsP (ns : List NodeD) (o : Nat) (w : World) (e : Ending) (w' : World) : Prop := ∃ b, e = .returned (.slice (some ⟨b, 0, none⟩) ns.length ns.length) ∧ w'.rowIs b 3 ns.length (fun q => .int .i64 (dsS ns o ns.length q)) ∧ w.heap.size ≤ b ∧ Below w.heap.size w w'
set_option maxRecDepth 100000 in
set_option maxHeartbeats 6400000 in
theorem distances_any (a : Option Addr) (c : Nat) (ns : List NodeD) (out : Int) (w : World) (h : IsNodes w a c ns) (hg : gE ns out = 0) :
    Calls Tryz.prog 46 #[.agg #[.slice a ns.length c, .int .i64 out]] w (DsP ns out.toNat w) := by
  have HH := Lib.hid h
  have HZ0 := Lib.hid (gE_ok hg)
  clear h hg
  obtain ⟨o, ho⟩ : ∃ o : Nat, out = (o : Int) := ⟨out.toNat, by have := HZ0.out; omega⟩
  subst ho
  rw [Int.toNat_natCast]
  obtain ⟨m, hm⟩ : ∃ m, m = ns.length := ⟨_, rfl⟩
  have HM := Lib.hid hm
  have hm1 : m ≤ 100 := by have := HZ0.out.2.1; omega
  have hom : o < m := by have := HZ0.out; omega
  have homi : (o : Int) < (m : Int) := by omega
  have HF : Hid (∀ b w', w'.rowIs b 3 m (fun q => .int .i64 (dsS ns o m q)) → w.heap.size ≤ b → Below w.heap.size w w' → DsP ns o w (.returned (.slice (some ⟨b, 0, none⟩) m m)) w') := Lib.hid (by subst hm; exact fun b w' h1 h2 h3 => ⟨b, rfl, h1, h2, h3⟩)
  have HDS : Hid (∀ t i, i + t + 1 = m → ∀ q, dsS ns o (t + 1) q = if dsS ns o t i < 0 then dsS ns o t q else dsI (dsS ns o t) (wrap64 (dsS ns o t i + rcO ns i)) (insO ns i) (insO ns i).length q) := Lib.hid (fun t i hti q => by
    have e : ns.length - 1 - t = i := by omega
    show (if dsS ns o t (ns.length - 1 - t) < 0 then dsS ns o t else dsI (dsS ns o t) (wrap64 (dsS ns o t (ns.length - 1 - t) + rcO ns (ns.length - 1 - t))) (insO ns (ns.length - 1 - t)) (insO ns (ns.length - 1 - t)).length) q = _
    rw [e]
    split <;> rfl)
  rw [← hm]
  clear hm
  have hmk := run_make_row' (P := Tryz.prog) 25 3 (.int .i64 0) 8 Tryz.underlying25 (by kernel_rfl) rfl .i64 .i64 m (by omega) (by omega)
  go_enter Tryz.func46, Tryz.ntmps46
  go_upto_region 2 with fail
  refine wp_world (fun W2 hW2 => ?_)
  have hrow : W2.rowIs (w.heap.size + 1) 3 m (fun _ => .int .i64 0) := by
    rw [hW2]
    exact (show (w.heap.size + 1) = (w.alloc (.cells #[.slice a m c, .int .i64 o] 24)).heap.size by simp) ▸ World.rowIs_made (w.alloc (.cells #[.slice a m c, .int .i64 o] 24)) (.int .i64 0) m 3
  have H2p : Blk W2 w.heap.size [.slice a m c, .int .i64 o] ∧ Below w.heap.size w W2 := by rw [hW2]; exact ⟨(Blk.new _ _ _ _ rfl).alloc _, by (repeat (first | exact Below.refl _ _ | assumption | (refine Below.setCell ?_ (by first | (simp; done) | (simp; omega) | omega) _) | (refine Below.drew ?_) | (refine below_drewN ?_ _) | (refine Below.alloc ?_ (by first | (simp; done) | (simp; omega) | omega) _) | (refine Below.trans ?_ (Below.mono (by assumption) (by first | (simp; done) | (simp; omega) | omega)))))⟩
  obtain ⟨pg, hpg⟩ : ∃ pg, pg = w.heap.size := ⟨_, rfl⟩
  obtain ⟨rb, hrb⟩ : ∃ rb, rb = w.heap.size + 1 := ⟨_, rfl⟩
  have H2 : Hid (W2.rowIs rb 3 m (fun q => .int .i64 (if q < 0 then -1 else 0)) ∧ Blk W2 pg [.slice a m c, .int .i64 o] ∧ Below w.heap.size w W2) := Lib.hid ⟨by rw [hrb]; exact World.rowIs.congr hrow (fun q _ => by simp), by rw [hpg]; exact H2p.1, H2p.2⟩
  have HNE : Hid (rb ≠ pg ∧ w.heap.size ≤ rb) := Lib.hid (by omega)
  rw [← hrb, ← hpg]
  clear hW2 hrow hmk H2p hrb hpg
  go_wp2_with fail
  go_loopw [14] (fun s14 wr => ∃ i : Nat, i ≤ m ∧ s14 = .int .i64 i ∧ wr.rowIs rb 3 m (fun q => .int .i64 (if q < i then -1 else 0)) ∧ Blk wr pg [.slice a m c, .int .i64 o] ∧ Below w.heap.size w wr) (fun s14 _ => m - (intOf s14).toNat)
  case atStart => exact ⟨0, Nat.zero_le _, rfl, H2.out.1, H2.out.2.1, H2.out.2.2⟩
  case round =>
    obtain ⟨i, hi, rfl, hR, hK, hB⟩ := hrel
    have HR := Lib.hid hR; have HK := Lib.hid hK; have HB := Lib.hid hB
    clear hR hK hB
    by_cases him : i < m
    · have himi : (i : Int) < (m : Int) := by omega
      have r0 := HR.out.cell him
      have r1 := HR.out.frozen i
      have rl := HR.out.lt
      rw [if_neg (by omega)] at r0
      go_wp2_with fail
      go_roundw
      case rel =>
        refine ⟨i + 1, by omega, by go_num, World.rowIs.congr (World.rowIs.set HR.out i _) (fun q _ => ?_), HK.out.far _ _ HNE.out.1, HB.out.setCell HNE.out.2 _⟩
        by_cases e : q = i
        · subst e; rw [if_pos rfl, if_pos (by omega)]
        · rw [if_neg e]
          by_cases e2 : q < i
          · rw [if_pos e2, if_pos (by omega)]
          · rw [if_neg e2, if_neg (by omega)]
      case measure => simp [intOf] <;> omega
    · have himi : ¬ (i : Int) < (m : Int) := by omega
      obtain rfl : i = m := by omega
      have g0 := HK.out.c 0 _ rfl
      have g1 := HK.out.c 1 _ rfl
      have gl := HK.out.lt
      have r0 := HR.out.cell hom
      have r1 := HR.out.frozen o
      have rl := HR.out.lt
      rw [if_pos hom] at r0
      go_upto_region 8 with fail
      refine wp_world (fun W3 hW3 => ?_)
      have H3 : Hid (W3.rowIs rb 3 i (fun q => .int .i64 (dsS ns o 0 q)) ∧ Blk W3 pg [.slice a i c, .int .i64 o] ∧ Below w.heap.size w W3) := Lib.hid (by
        rw [hW3]
        refine ⟨World.rowIs.congr (World.rowIs.set HR.out o _) (fun q hq => ?_), HK.out.far _ _ HNE.out.1, HB.out.setCell HNE.out.2 _⟩
        by_cases e : q = o
        · rw [if_pos e]; simp [dsS, e]
        · rw [if_neg e, if_pos hq]; simp [dsS, e])
      clear hW3 g0 g1 gl r0 r1 rl HR HK HB H2
      have g0 := H3.out.2.1.c 0 _ rfl
      have gl := H3.out.2.1.lt
      go_wp2_with fail
      clear g0 gl
      go_loopw [5] (fun s5 wr => ∃ (t : Nat) (e : Int), t ≤ i ∧ s5 = .int .i64 e ∧ e = (i : Int) - 1 - t ∧ wr.rowIs rb 3 i (fun q => .int .i64 (dsS ns o t q)) ∧ Blk wr pg [.slice a i c, .int .i64 o] ∧ Below w.heap.size w wr) (fun s5 _ => (intOf s5 + 1).toNat)
      case atStart => exact ⟨0, _, Nat.zero_le _, rfl, by omega, H3.out.1, H3.out.2.1, H3.out.2.2⟩
      case round =>
        obtain ⟨t, e, ht, rfl, he, hR, hK, hB⟩ := hrel
        have HR := Lib.hid hR; have HK := Lib.hid hK; have HB := Lib.hid hB
        clear hR hK hB H3
        by_cases htm : t < i
        · obtain ⟨x0, hx0⟩ : ∃ x0 : Nat, e = (x0 : Int) := ⟨e.toNat, by omega⟩
          subst hx0
          have hti : x0 + t + 1 = i := by omega
          have hxm : x0 < i := by omega
          have hxi : (x0 : Int) < (i : Int) := by omega
          have hx2 : x0 < ns.length := by rw [← HM.out]; exact hxm
          obtain ⟨n, hn⟩ : ∃ n, ns[x0]? = some n := ⟨_, List.getElem?_eq_getElem hx2⟩
          obtain ⟨b, off, rfl, hna, hnb⟩ := HH.out.get hn
          obtain ⟨op, ins, ints, reals, ia, ic, na, nc, ra, rc⟩ := n
          have hins : insO ns x0 = ins := by unfold insO; rw [hn]
          have HIN := Lib.hid (nd_in HZ0.out.2.2.1 hx2)
          obtain ⟨k, hk27, -, hk, -, hni, -, -, -⟩ := nd_ok hn (fstN_zero HZ0.out.2.2.1 x0 hx2)
          have hrc := rcO_at hn hk
          have HNA := Lib.hid hna
          have HD := Lib.hid (HDS.out t x0 hti)
          rw [hins] at HIN HD
          simp only at hk hni hrc
          obtain ⟨D, hD⟩ : ∃ D, D = dsS ns o t := ⟨_, rfl⟩
          rw [← hD] at HD HR
          have HRE := Lib.hid (fun (w' : World) h => reach_all hk na nc ints w' hni h : ∀ w', IntsAt 0 w' na ints → _)
          obtain ⟨rv, hrv⟩ : ∃ rv, rv = rcK k ints := ⟨_, rfl⟩
          rw [← hrv] at HRE hrc
          rw [hrc] at HD
          obtain ⟨d, hd⟩ : ∃ d, d = D x0 := ⟨_, rfl⟩
          rw [← hd] at HD
          have r0 := HR.out.cell hxm
          rw [← hd] at r0
          have rl := HR.out.lt
          have HDD := Lib.hid hd
          clear hn hna hnb hins hk hk27 hni hrc hD hrv hd hx2 he
          by_cases hneg : d < 0
          · go_wp2_with fail
            go_roundw
            case rel => exact ⟨t + 1, _, by omega, rfl, by omega, World.rowIs.congr HR.out (fun q _ => by rw [HD.out q, if_pos hneg]), HK.out, HB.out⟩
            case measure => simp [intOf] <;> omega
          · have HD2 : Hid (∀ q, dsS ns o (t + 1) q = dsI D (wrap64 (d + rv)) ins ins.length q) := Lib.hid (fun q => by rw [HD.out q, if_neg hneg])
            obtain ⟨r, hr⟩ : ∃ r, r = wrap64 (d + rv) := ⟨_, rfl⟩
            rw [← hr] at HD2
            have HRR := Lib.hid hr
            clear hr HD
            have g0 := HK.out.c 0 _ rfl
            have gl := HK.out.lt
            have c1 := (HNA.out.past HB.out).c1
            have l1 := cell_lt c1; simp only at c1 l1
            go_upto_region 13 with fail
            clear g0 gl c1 l1 r0 rl
            go_loopw [45] (fun s45 wq => ∃ j : Nat, j ≤ ins.length ∧ s45 = .int .i64 j ∧ wq.rowIs rb 3 i (fun q => .int .i64 (dsI D r ins j q)) ∧ Blk wq pg [.slice (some ⟨b, off, none⟩) i c, .int .i64 o] ∧ Below w.heap.size w wq) (fun s45 _ => ins.length - (intOf s45).toNat)
            case atStart => exact ⟨0, Nat.zero_le _, rfl, HR.out, HK.out, HB.out⟩
            case round =>
              obtain ⟨j, hj, rfl, hR2, hK2, hT2⟩ := hrel
              clear HR HK HB
              have HR2 := Lib.hid hR2; have HK2 := Lib.hid hK2; have HT2 := Lib.hid hT2
              clear hR2 hK2 hT2
              by_cases hjl : j < ins.length
              · have hjli : (j : Int) < (ins.length : Int) := by omega
                have hj3 : j ≤ 3 := by have := HIN.out.2.1; omega
                obtain ⟨u, hu⟩ : ∃ u, ins[j]? = some u := ⟨_, List.getElem?_eq_getElem hjl⟩
                have hgd : ins.getD j 0 = u := by rw [List.getD_eq_getElem?_getD, hu, Option.getD_some]
                have hur := HIN.out.1 j hjl
                rw [hgd] at hur
                obtain ⟨x, hx⟩ : ∃ x : Nat, u = (x : Int) := ⟨u.toNat, by omega⟩
                subst hx
                have hxl : x < i := by omega
                have hxli : (x : Int) < (i : Int) := by omega
                obtain ⟨bi, oi, rfl, ci⟩ := (HNA.out.i.past HT2.out).one hu
                have li := cell_lt ci; simp only at li
                have HNX : Hid (∀ q, dsI D r ins (j + 1) q = if q = x then max (dsI D r ins j x) r else dsI D r ins j q) := Lib.hid (fun q => by
                  show (if q = (ins.getD j 0).toNat then max (dsI D r ins j (ins.getD j 0).toNat) r else dsI D r ins j q) = _
                  rw [hgd, Int.toNat_natCast])
                have hfar : dsI D r ins j x0 = d := by
                  rw [HDD.out]
                  exact dsI_far j (fun j' hj' => by have := HIN.out.1 j' (by omega); omega)
                have y0 := HR2.out.cell hxl
                have y1 := HR2.out.cell hxm
                rw [hfar] at y1
                obtain ⟨p, hp⟩ : ∃ p, p = dsI D r ins j x := ⟨_, rfl⟩
                rw [← hp] at y0 HNX
                have g0 := HK2.out.c 0 _ rfl
                have NA := HNA.out.past HT2.out
                have nc0 : wr.cell? ⟨b, off + x0 * 4, none⟩ = some (.string op) := NA.c0
                have nc2 : wr.cell? ⟨b, off + x0 * 4 + 2, none⟩ = some (.slice na ints.length nc) := NA.c2
                have HCP : Hid (∀ w', Below wr.heap.size wr w' → w'.cell? ⟨rb, x, none⟩ = some (.int .i64 p) ∧ w'.cell? ⟨rb, x0, none⟩ = some (.int .i64 d) ∧ w'.cell? ⟨pg, 0, none⟩ = some (.slice (some ⟨b, off, none⟩) i c) ∧ w'.cell? ⟨b, off + x0 * 4, none⟩ = some (.string op) ∧ w'.cell? ⟨b, off + x0 * 4 + 2, none⟩ = some (.slice na ints.length nc)) := Lib.hid (fun w' hb => ⟨(hb.cell (p := ⟨rb, x, none⟩) (cell_lt y0)).trans y0, (hb.cell (p := ⟨rb, x0, none⟩) (cell_lt y1)).trans y1, (hb.cell (p := ⟨pg, 0, none⟩) (cell_lt g0)).trans g0, (hb.cell (p := ⟨b, off + x0 * 4, none⟩) (cell_lt nc0)).trans nc0, (hb.cell (p := ⟨b, off + x0 * 4 + 2, none⟩) (cell_lt nc2)).trans nc2⟩)
                clear hu hgd hur hp hfar NA
                go_upto_region 15 with fail
                refine wp_region_C (fun w' => w'.cell? ⟨rb, x, none⟩ = some (.int .i64 p) ∧ w'.cell? ⟨rb, x0, none⟩ = some (.int .i64 d) ∧ w'.cell? ⟨pg, 0, none⟩ = some (.slice (some ⟨b, off, none⟩) i c) ∧ w'.cell? ⟨b, off + x0 * 4, none⟩ = some (.string op) ∧ w'.cell? ⟨b, off + x0 * 4 + 2, none⟩ = some (.slice na ints.length nc)) 26 27 (by kernel_rfl) rfl ?_
                have hC := HCP.out wr.drew ((Below.refl _ _).drew)
                clear y0 y1 g0 nc0 nc2
                refine wpAnyC_take (i := 0) (v := .slice (some ⟨rb, 0, none⟩) i i) rfl (by kernel_rfl) (by kernel_rfl) (fun _ _ _ h => h) (.inl ⟨rfl, fun w' hw' => ?_⟩) hC ?_
                · obtain ⟨k0, k1, k2, k3, k4⟩ := hw'
                  go_simp
                refine wpAnyC_act (by rfl) ?_
                simp only [Act.put, List.setIfInBounds_toArray, List.set_cons_zero, List.set_cons_succ]
                refine wpAnyC_take (i := 1) (v := .int .i64 x) rfl (by kernel_rfl) (by kernel_rfl) (fun _ _ _ h => h) (.inl ⟨rfl, fun w' hw' => ?_⟩) hC ?_
                · obtain ⟨k0, k1, k2, k3, k4⟩ := hw'
                  go_simp
                refine wpAnyC_act (by rfl) ?_
                simp only [Act.put, List.setIfInBounds_toArray, List.set_cons_zero, List.set_cons_succ]
                refine wpAnyC_take (i := 2) (v := .slice (some ⟨rb, 0, none⟩) i i) rfl (by kernel_rfl) (by kernel_rfl) (fun _ _ _ h => h) (.inl ⟨rfl, fun w' hw' => ?_⟩) hC ?_
                · obtain ⟨k0, k1, k2, k3, k4⟩ := hw'
                  go_simp
                refine wpAnyC_act (by rfl) ?_
                simp only [Act.put, List.setIfInBounds_toArray, List.set_cons_zero, List.set_cons_succ]
                refine wpAnyC_take (i := 3) (v := .int .i64 x) rfl (by kernel_rfl) (by kernel_rfl) (fun _ _ _ h => h) (.inl ⟨rfl, fun w' hw' => ?_⟩) hC ?_
                · obtain ⟨k0, k1, k2, k3, k4⟩ := hw'
                  go_simp
                refine wpAnyC_act (by rfl) ?_
                simp only [Act.put, List.setIfInBounds_toArray, List.set_cons_zero, List.set_cons_succ]
                refine wpAnyC_take (i := 4) (v := .pointer (some ⟨rb, x, none⟩)) rfl (by kernel_rfl) (by kernel_rfl) (fun _ _ _ h => h) (.inl ⟨rfl, fun w' hw' => ?_⟩) hC ?_
                · obtain ⟨k0, k1, k2, k3, k4⟩ := hw'
                  go_simp
                refine wpAnyC_act (by rfl) ?_
                simp only [Act.put, List.setIfInBounds_toArray, List.set_cons_zero, List.set_cons_succ]
                refine wpAnyC_take (i := 5) (v := .int .i64 p) rfl (by kernel_rfl) (by kernel_rfl) (fun _ _ _ h => h) (.inl ⟨rfl, fun w' hw' => ?_⟩) hC ?_
                · obtain ⟨k0, k1, k2, k3, k4⟩ := hw'
                  go_simp
                refine wpAnyC_act (by rfl) ?_
                simp only [Act.put, List.setIfInBounds_toArray, List.set_cons_zero, List.set_cons_succ]
                refine wpAnyC_take (i := 6) (v := .slice (some ⟨rb, 0, none⟩) i i) rfl (by kernel_rfl) (by kernel_rfl) (fun _ _ _ h => h) (.inl ⟨rfl, fun w' hw' => ?_⟩) hC ?_
                · obtain ⟨k0, k1, k2, k3, k4⟩ := hw'
                  go_simp
                refine wpAnyC_act (by rfl) ?_
                simp only [Act.put, List.setIfInBounds_toArray, List.set_cons_zero, List.set_cons_succ]
                refine wpAnyC_take (i := 7) (v := .int .i64 x0) rfl (by kernel_rfl) (by kernel_rfl) (fun _ _ _ h => h) (.inl ⟨rfl, fun w' hw' => ?_⟩) hC ?_
                · obtain ⟨k0, k1, k2, k3, k4⟩ := hw'
                  go_simp
                refine wpAnyC_act (by rfl) ?_
                simp only [Act.put, List.setIfInBounds_toArray, List.set_cons_zero, List.set_cons_succ]
                refine wpAnyC_take (i := 8) (v := .pointer (some ⟨rb, x0, none⟩)) rfl (by kernel_rfl) (by kernel_rfl) (fun _ _ _ h => h) (.inl ⟨rfl, fun w' hw' => ?_⟩) hC ?_
                · obtain ⟨k0, k1, k2, k3, k4⟩ := hw'
                  go_simp
                refine wpAnyC_act (by rfl) ?_
                simp only [Act.put, List.setIfInBounds_toArray, List.set_cons_zero, List.set_cons_succ]
                refine wpAnyC_take (i := 9) (v := .int .i64 d) rfl (by kernel_rfl) (by kernel_rfl) (fun _ _ _ h => h) (.inl ⟨rfl, fun w' hw' => ?_⟩) hC ?_
                · obtain ⟨k0, k1, k2, k3, k4⟩ := hw'
                  go_simp
                refine wpAnyC_act (by rfl) ?_
                simp only [Act.put, List.setIfInBounds_toArray, List.set_cons_zero, List.set_cons_succ]
                refine wpAnyC_take (i := 10) (v := .pointer (some ⟨pg, 0, none⟩)) rfl (by kernel_rfl) (by kernel_rfl) (fun _ _ _ h => h) (.inl ⟨rfl, fun w' hw' => ?_⟩) hC ?_
                · obtain ⟨k0, k1, k2, k3, k4⟩ := hw'
                  go_simp
                refine wpAnyC_act (by rfl) ?_
                simp only [Act.put, List.setIfInBounds_toArray, List.set_cons_zero, List.set_cons_succ]
                refine wpAnyC_take (i := 11) (v := .slice (some ⟨b, off, none⟩) i c) rfl (by kernel_rfl) (by kernel_rfl) (fun _ _ _ h => h) (.inl ⟨rfl, fun w' hw' => ?_⟩) hC ?_
                · obtain ⟨k0, k1, k2, k3, k4⟩ := hw'
                  go_simp
                refine wpAnyC_act (by rfl) ?_
                simp only [Act.put, List.setIfInBounds_toArray, List.set_cons_zero, List.set_cons_succ]
                refine wpAnyC_take (i := 12) (v := .int .i64 x0) rfl (by kernel_rfl) (by kernel_rfl) (fun _ _ _ h => h) (.inl ⟨rfl, fun w' hw' => ?_⟩) hC ?_
                · obtain ⟨k0, k1, k2, k3, k4⟩ := hw'
                  go_simp
                refine wpAnyC_act (by rfl) ?_
                simp only [Act.put, List.setIfInBounds_toArray, List.set_cons_zero, List.set_cons_succ]
                refine wpAnyC_take (i := 13) (v := .pointer (some ⟨b, off + x0 * 4, none⟩)) rfl (by kernel_rfl) (by kernel_rfl) (fun _ _ _ h => h) (.inl ⟨rfl, fun w' hw' => ?_⟩) hC ?_
                · obtain ⟨k0, k1, k2, k3, k4⟩ := hw'
                  go_simp
                refine wpAnyC_act (by rfl) ?_
                simp only [Act.put, List.setIfInBounds_toArray, List.set_cons_zero, List.set_cons_succ]
                refine wpAnyC_take (i := 14) (v := .pointer (some ⟨b, off + x0 * 4, none⟩)) rfl (by kernel_rfl) (by kernel_rfl) (fun _ _ _ h => h) (.inl ⟨rfl, fun w' hw' => ?_⟩) hC ?_
                · obtain ⟨k0, k1, k2, k3, k4⟩ := hw'
                  go_simp
                refine wpAnyC_act (by rfl) ?_
                simp only [Act.put, List.setIfInBounds_toArray, List.set_cons_zero, List.set_cons_succ]
                refine wpAnyC_take (i := 15) (v := .string op) rfl (by kernel_rfl) (by kernel_rfl) (fun _ _ _ h => h) (.inl ⟨rfl, fun w' hw' => ?_⟩) hC ?_
                · obtain ⟨k0, k1, k2, k3, k4⟩ := hw'
                  go_simp
                refine wpAnyC_act (by rfl) ?_
                simp only [Act.put, List.setIfInBounds_toArray, List.set_cons_zero, List.set_cons_succ]
                refine wpAnyC_take (i := 16) (v := .pointer (some ⟨pg, 0, none⟩)) rfl (by kernel_rfl) (by kernel_rfl) (fun _ _ _ h => h) (.inl ⟨rfl, fun w' hw' => ?_⟩) hC ?_
                · obtain ⟨k0, k1, k2, k3, k4⟩ := hw'
                  go_simp
                refine wpAnyC_act (by rfl) ?_
                simp only [Act.put, List.setIfInBounds_toArray, List.set_cons_zero, List.set_cons_succ]
                refine wpAnyC_take (i := 17) (v := .slice (some ⟨b, off, none⟩) i c) rfl (by kernel_rfl) (by kernel_rfl) (fun _ _ _ h => h) (.inl ⟨rfl, fun w' hw' => ?_⟩) hC ?_
                · obtain ⟨k0, k1, k2, k3, k4⟩ := hw'
                  go_simp
                refine wpAnyC_act (by rfl) ?_
                simp only [Act.put, List.setIfInBounds_toArray, List.set_cons_zero, List.set_cons_succ]
                refine wpAnyC_take (i := 18) (v := .int .i64 x0) rfl (by kernel_rfl) (by kernel_rfl) (fun _ _ _ h => h) (.inl ⟨rfl, fun w' hw' => ?_⟩) hC ?_
                · obtain ⟨k0, k1, k2, k3, k4⟩ := hw'
                  go_simp
                refine wpAnyC_act (by rfl) ?_
                simp only [Act.put, List.setIfInBounds_toArray, List.set_cons_zero, List.set_cons_succ]
                refine wpAnyC_take (i := 19) (v := .pointer (some ⟨b, off + x0 * 4, none⟩)) rfl (by kernel_rfl) (by kernel_rfl) (fun _ _ _ h => h) (.inl ⟨rfl, fun w' hw' => ?_⟩) hC ?_
                · obtain ⟨k0, k1, k2, k3, k4⟩ := hw'
                  go_simp
                refine wpAnyC_act (by rfl) ?_
                simp only [Act.put, List.setIfInBounds_toArray, List.set_cons_zero, List.set_cons_succ]
                refine wpAnyC_take (i := 20) (v := .pointer (some ⟨b, off + x0 * 4 + 2, none⟩)) rfl (by kernel_rfl) (by kernel_rfl) (fun _ _ _ h => h) (.inl ⟨rfl, fun w' hw' => ?_⟩) hC ?_
                · obtain ⟨k0, k1, k2, k3, k4⟩ := hw'
                  go_simp
                refine wpAnyC_act (by rfl) ?_
                simp only [Act.put, List.setIfInBounds_toArray, List.set_cons_zero, List.set_cons_succ]
                refine wpAnyC_take (i := 21) (v := .slice na ints.length nc) rfl (by kernel_rfl) (by kernel_rfl) (fun _ _ _ h => h) (.inl ⟨rfl, fun w' hw' => ?_⟩) hC ?_
                · obtain ⟨k0, k1, k2, k3, k4⟩ := hw'
                  go_simp
                refine wpAnyC_act (by rfl) ?_
                simp only [Act.put, List.setIfInBounds_toArray, List.set_cons_zero, List.set_cons_succ]
                refine wpAnyC_one (i := 22) rfl (by kernel_rfl) (fun K hK => ?_)
                go_simp
                refine (HRE.out _ (HNA.out.k.past (HT2.out.drew))).mono ?_
                rintro e w5 ⟨rfl, hb5⟩
                have hb : Below wr.heap.size wr w5 := (Below.refl _ _).drew.trans (hb5.mono (by simp))
                have HB5 := Lib.hid hb
                go_simp
                refine hK _ _ (fun _ => HCP.out _ hb) ?_
                clear hK K hb5 hb hC
                refine wpAnyC_one (i := 23) rfl (by kernel_rfl) (fun K hK => ?_)
                go_simp
                refine hK _ _ (fun _ => HCP.out _ HB5.out) ?_
                clear hK K
                refine wpAnyC_one (i := 24) rfl (by kernel_rfl) (fun K hK => ?_)
                go_simp
                refine hK _ _ (fun _ => HCP.out _ HB5.out) ?_
                clear hK K
                refine wpAnyC_one (i := 25) rfl (by kernel_rfl) (fun K hK => ?_)
                go_simp
                refine hK _ _ (fun _ => HCP.out _ HB5.out) ?_
                clear hK K
                have HR5 := Lib.hid (HR2.out.of_block (HB5.out.block _ HR2.out.lt))
                have y0 := HR5.out.cell hxl
                have r1 := HR5.out.frozen x
                have rl := HR5.out.lt
                refine wpAnyC_one (i := 26) rfl (by kernel_rfl) (fun K hK => ?_)
                go_simp
                refine hK _ _ (fun h => by rw [getD_setSelf] at h; cases h) ?_
                clear hK K
                refine wpAnyC_done (by kernel_rfl) ?_
                go_wp2_with fail
                go_roundw
                case rel =>
                  refine ⟨j + 1, by omega, by go_num, World.rowIs.congr (World.rowIs.set HR5.out x _) (fun q _ => ?_), (HK2.out.past HB5.out).far _ _ HNE.out.1, (HT2.out.trans (HB5.out.mono HT2.out.size)).setCell HNE.out.2 _⟩
                  rw [HNX.out q]
                  by_cases e : q = x
                  · rw [if_pos e, if_pos e, HRR.out]
                  · rw [if_neg e, if_neg e]
                case measure => simp [intOf] <;> omega
              · have hjli : ¬ (j : Int) < (ins.length : Int) := by omega
                obtain rfl : j = ins.length := by omega
                go_wp2_with fail
                go_roundw
                case rel => exact ⟨t + 1, _, by omega, rfl, by omega, World.rowIs.congr HR2.out (fun q _ => by rw [HD2.out q]), HK2.out, HT2.out⟩
                case measure => simp [intOf] <;> omega
        · obtain rfl : t = i := by omega
          have hneg : e < 0 := by omega
          clear he
          go_wp2_with fail
          go_ret
          exact HF.out _ _ HR.out HNE.out.2 HB.out
set_option maxRecDepth 100000 in
set_option maxHeartbeats 6400000 in
theorem needed_any (a : Option Addr) (c : Nat) (ns : List NodeD) (out : Int) (w : World) (h : IsNodes w a c ns) (hg : gE ns out = 0) :
    Calls Tryz.prog 29 #[.agg #[.slice a ns.length c, .int .i64 out]] w (DsP ns out.toNat w) := by
  have HH := Lib.hid h
  have HZ0 := Lib.hid (gE_ok hg)
  clear h hg
  obtain ⟨o, ho⟩ : ∃ o : Nat, out = (o : Int) := ⟨out.toNat, by have := HZ0.out; omega⟩
  subst ho
  rw [Int.toNat_natCast]
  obtain ⟨m, hm⟩ : ∃ m, m = ns.length := ⟨_, rfl⟩
  have HM := Lib.hid hm
  have hm1 : m ≤ 100 := by have := HZ0.out.2.1; omega
  have hom : o < m := by have := HZ0.out; omega
  have homi : (o : Int) < (m : Int) := by omega
  have HF : Hid (∀ b w', w'.rowIs b 3 m (fun q => .int .i64 (dsS ns o m q)) → w.heap.size ≤ b → Below w.heap.size w w' → DsP ns o w (.returned (.slice (some ⟨b, 0, none⟩) m m)) w') := Lib.hid (by subst hm; exact fun b w' h1 h2 h3 => ⟨b, rfl, h1, h2, h3⟩)
  have HDS : Hid (∀ t i, i + t + 1 = m → ∀ q, dsS ns o (t + 1) q = if dsS ns o t i < 0 then dsS ns o t q else dsI (dsS ns o t) (wrap64 (dsS ns o t i + rcO ns i)) (insO ns i) (insO ns i).length q) := Lib.hid (fun t i hti q => by
    have e : ns.length - 1 - t = i := by omega
    show (if dsS ns o t (ns.length - 1 - t) < 0 then dsS ns o t else dsI (dsS ns o t) (wrap64 (dsS ns o t (ns.length - 1 - t) + rcO ns (ns.length - 1 - t))) (insO ns (ns.length - 1 - t)) (insO ns (ns.length - 1 - t)).length) q = _
    rw [e]
    split <;> rfl)
  rw [← hm]
  clear hm
  have hmk := run_make_row' (P := Tryz.prog) 25 3 (.int .i64 0) 8 Tryz.underlying25 (by kernel_rfl) rfl .i64 .i64 m (by omega) (by omega)
  go_enter Tryz.func29, Tryz.ntmps29
  go_upto_region 2 with fail
  refine wp_world (fun W2 hW2 => ?_)
  have hrow : W2.rowIs (w.heap.size + 1) 3 m (fun _ => .int .i64 0) := by
    rw [hW2]
    exact (show (w.heap.size + 1) = (w.alloc (.cells #[.slice a m c, .int .i64 o] 24)).heap.size by simp) ▸ World.rowIs_made (w.alloc (.cells #[.slice a m c, .int .i64 o] 24)) (.int .i64 0) m 3
  have H2p : Blk W2 w.heap.size [.slice a m c, .int .i64 o] ∧ Below w.heap.size w W2 := by rw [hW2]; exact ⟨(Blk.new _ _ _ _ rfl).alloc _, by (repeat (first | exact Below.refl _ _ | assumption | (refine Below.setCell ?_ (by first | (simp; done) | (simp; omega) | omega) _) | (refine Below.drew ?_) | (refine below_drewN ?_ _) | (refine Below.alloc ?_ (by first | (simp; done) | (simp; omega) | omega) _) | (refine Below.trans ?_ (Below.mono (by assumption) (by first | (simp; done) | (simp; omega) | omega)))))⟩
  obtain ⟨pg, hpg⟩ : ∃ pg, pg = w.heap.size := ⟨_, rfl⟩
  obtain ⟨rb, hrb⟩ : ∃ rb, rb = w.heap.size + 1 := ⟨_, rfl⟩
  have H2 : Hid (W2.rowIs rb 3 m (fun q => .int .i64 (if q < 0 then -1 else 0)) ∧ Blk W2 pg [.slice a m c, .int .i64 o] ∧ Below w.heap.size w W2) := Lib.hid ⟨by rw [hrb]; exact World.rowIs.congr hrow (fun q _ => by simp), by rw [hpg]; exact H2p.1, H2p.2⟩
  have HNE : Hid (rb ≠ pg ∧ w.heap.size ≤ rb) := Lib.hid (by omega)
  rw [← hrb, ← hpg]
  clear hW2 hrow hmk H2p hrb hpg
  go_wp2_with fail
  go_loopw [14] (fun s14 wr => ∃ i : Nat, i ≤ m ∧ s14 = .int .i64 i ∧ wr.rowIs rb 3 m (fun q => .int .i64 (if q < i then -1 else 0)) ∧ Blk wr pg [.slice a m c, .int .i64 o] ∧ Below w.heap.size w wr) (fun s14 _ => m - (intOf s14).toNat)
  case atStart => exact ⟨0, Nat.zero_le _, rfl, H2.out.1, H2.out.2.1, H2.out.2.2⟩
  case round =>
    obtain ⟨i, hi, rfl, hR, hK, hB⟩ := hrel
    have HR := Lib.hid hR; have HK := Lib.hid hK; have HB := Lib.hid hB
    clear hR hK hB
    by_cases him : i < m
    · have himi : (i : Int) < (m : Int) := by omega
      have r0 := HR.out.cell him
      have r1 := HR.out.frozen i
      have rl := HR.out.lt
      rw [if_neg (by omega)] at r0
      go_wp2_with fail
      go_roundw
      case rel =>
        refine ⟨i + 1, by omega, by go_num, World.rowIs.congr (World.rowIs.set HR.out i _) (fun q _ => ?_), HK.out.far _ _ HNE.out.1, HB.out.setCell HNE.out.2 _⟩
        by_cases e : q = i
        · subst e; rw [if_pos rfl, if_pos (by omega)]
        · rw [if_neg e]
          by_cases e2 : q < i
          · rw [if_pos e2, if_pos (by omega)]
          · rw [if_neg e2, if_neg (by omega)]
      case measure => simp [intOf] <;> omega
    · have himi : ¬ (i : Int) < (m : Int) := by omega
      obtain rfl : i = m := by omega
      have g0 := HK.out.c 0 _ rfl
      have g1 := HK.out.c 1 _ rfl
      have gl := HK.out.lt
      have r0 := HR.out.cell hom
      have r1 := HR.out.frozen o
      have rl := HR.out.lt
      rw [if_pos hom] at r0
      go_upto_region 8 with fail
      refine wp_world (fun W3 hW3 => ?_)
      have H3 : Hid (W3.rowIs rb 3 i (fun q => .int .i64 (dsS ns o 0 q)) ∧ Blk W3 pg [.slice a i c, .int .i64 o] ∧ Below w.heap.size w W3) := Lib.hid (by
        rw [hW3]
        refine ⟨World.rowIs.congr (World.rowIs.set HR.out o _) (fun q hq => ?_), HK.out.far _ _ HNE.out.1, HB.out.setCell HNE.out.2 _⟩
        by_cases e : q = o
        · rw [if_pos e]; simp [dsS, e]
        · rw [if_neg e, if_pos hq]; simp [dsS, e])
      clear hW3 g0 g1 gl r0 r1 rl HR HK HB H2
      have g0 := H3.out.2.1.c 0 _ rfl
      have gl := H3.out.2.1.lt
      go_wp2_with fail
      clear g0 gl
      go_loopw [5] (fun s5 wr => ∃ (t : Nat) (e : Int), t ≤ i ∧ s5 = .int .i64 e ∧ e = (i : Int) - 1 - t ∧ wr.rowIs rb 3 i (fun q => .int .i64 (dsS ns o t q)) ∧ Blk wr pg [.slice a i c, .int .i64 o] ∧ Below w.heap.size w wr) (fun s5 _ => (intOf s5 + 1).toNat)
      case atStart => exact ⟨0, _, Nat.zero_le _, rfl, by omega, H3.out.1, H3.out.2.1, H3.out.2.2⟩
      case round =>
        obtain ⟨t, e, ht, rfl, he, hR, hK, hB⟩ := hrel
        have HR := Lib.hid hR; have HK := Lib.hid hK; have HB := Lib.hid hB
        clear hR hK hB H3
        by_cases htm : t < i
        · obtain ⟨x0, hx0⟩ : ∃ x0 : Nat, e = (x0 : Int) := ⟨e.toNat, by omega⟩
          subst hx0
          have hti : x0 + t + 1 = i := by omega
          have hxm : x0 < i := by omega
          have hxi : (x0 : Int) < (i : Int) := by omega
          have hx2 : x0 < ns.length := by rw [← HM.out]; exact hxm
          obtain ⟨n, hn⟩ : ∃ n, ns[x0]? = some n := ⟨_, List.getElem?_eq_getElem hx2⟩
          obtain ⟨b, off, rfl, hna, hnb⟩ := HH.out.get hn
          obtain ⟨op, ins, ints, reals, ia, ic, na, nc, ra, rc⟩ := n
          have hins : insO ns x0 = ins := by unfold insO; rw [hn]
          have HIN := Lib.hid (nd_in HZ0.out.2.2.1 hx2)
          obtain ⟨k, hk27, -, hk, -, hni, -, -, -⟩ := nd_ok hn (fstN_zero HZ0.out.2.2.1 x0 hx2)
          have hrc := rcO_at hn hk
          have HNA := Lib.hid hna
          have HD := Lib.hid (HDS.out t x0 hti)
          rw [hins] at HIN HD
          simp only at hk hni hrc
          obtain ⟨D, hD⟩ : ∃ D, D = dsS ns o t := ⟨_, rfl⟩
          rw [← hD] at HD HR
          have HRE := Lib.hid (fun (w' : World) h => dreach_all hk ia na ra ins.length ic nc reals.length rc ints w' hni h : ∀ w', IntsAt 0 w' na ints → _)
          obtain ⟨rv, hrv⟩ : ∃ rv, rv = rcK k ints := ⟨_, rfl⟩
          rw [← hrv] at HRE hrc
          rw [hrc] at HD
          obtain ⟨d, hd⟩ : ∃ d, d = D x0 := ⟨_, rfl⟩
          rw [← hd] at HD
          have r0 := HR.out.cell hxm
          rw [← hd] at r0
          have rl := HR.out.lt
          have HDD := Lib.hid hd
          clear hn hna hnb hins hk hk27 hni hrc hD hrv hd hx2 he
          by_cases hneg : d < 0
          · go_wp2_with fail
            go_roundw
            case rel => exact ⟨t + 1, _, by omega, rfl, by omega, World.rowIs.congr HR.out (fun q _ => by rw [HD.out q, if_pos hneg]), HK.out, HB.out⟩
            case measure => simp [intOf] <;> omega
          · have HD2 : Hid (∀ q, dsS ns o (t + 1) q = dsI D (wrap64 (d + rv)) ins ins.length q) := Lib.hid (fun q => by rw [HD.out q, if_neg hneg])
            obtain ⟨r, hr⟩ : ∃ r, r = wrap64 (d + rv) := ⟨_, rfl⟩
            rw [← hr] at HD2
            have HRR := Lib.hid hr
            clear hr HD
            have g0 := HK.out.c 0 _ rfl
            have gl := HK.out.lt
            have c1 := (HNA.out.past HB.out).c1
            have l1 := cell_lt c1; simp only at c1 l1
            go_upto_region 13 with fail
            clear g0 gl c1 l1 r0 rl
            go_loopw [45] (fun s45 wq => ∃ j : Nat, j ≤ ins.length ∧ s45 = .int .i64 j ∧ wq.rowIs rb 3 i (fun q => .int .i64 (dsI D r ins j q)) ∧ Blk wq pg [.slice (some ⟨b, off, none⟩) i c, .int .i64 o] ∧ Below w.heap.size w wq) (fun s45 _ => ins.length - (intOf s45).toNat)
            case atStart => exact ⟨0, Nat.zero_le _, rfl, HR.out, HK.out, HB.out⟩
            case round =>
              obtain ⟨j, hj, rfl, hR2, hK2, hT2⟩ := hrel
              clear HR HK HB
              have HR2 := Lib.hid hR2; have HK2 := Lib.hid hK2; have HT2 := Lib.hid hT2
              clear hR2 hK2 hT2
              by_cases hjl : j < ins.length
              · have hjli : (j : Int) < (ins.length : Int) := by omega
                have hj3 : j ≤ 3 := by have := HIN.out.2.1; omega
                obtain ⟨u, hu⟩ : ∃ u, ins[j]? = some u := ⟨_, List.getElem?_eq_getElem hjl⟩
                have hgd : ins.getD j 0 = u := by rw [List.getD_eq_getElem?_getD, hu, Option.getD_some]
                have hur := HIN.out.1 j hjl
                rw [hgd] at hur
                obtain ⟨x, hx⟩ : ∃ x : Nat, u = (x : Int) := ⟨u.toNat, by omega⟩
                subst hx
                have hxl : x < i := by omega
                have hxli : (x : Int) < (i : Int) := by omega
                obtain ⟨bi, oi, rfl, ci⟩ := (HNA.out.i.past HT2.out).one hu
                have li := cell_lt ci; simp only at li
                have HNX : Hid (∀ q, dsI D r ins (j + 1) q = if q = x then max (dsI D r ins j x) r else dsI D r ins j q) := Lib.hid (fun q => by
                  show (if q = (ins.getD j 0).toNat then max (dsI D r ins j (ins.getD j 0).toNat) r else dsI D r ins j q) = _
                  rw [hgd, Int.toNat_natCast])
                have hfar : dsI D r ins j x0 = d := by
                  rw [HDD.out]
                  exact dsI_far j (fun j' hj' => by have := HIN.out.1 j' (by omega); omega)
                have y0 := HR2.out.cell hxl
                have y1 := HR2.out.cell hxm
                rw [hfar] at y1
                obtain ⟨p, hp⟩ : ∃ p, p = dsI D r ins j x := ⟨_, rfl⟩
                rw [← hp] at y0 HNX
                have g0 := HK2.out.c 0 _ rfl
                have NA := HNA.out.past HT2.out
                have nc0 : wr.cell? ⟨b, off + x0 * 4, none⟩ = some (.string op) := NA.c0
                have nc1 : wr.cell? ⟨b, off + x0 * 4 + 1, none⟩ = some (.slice (some ⟨bi, oi, none⟩) ins.length ic) := NA.c1
                have nc2 : wr.cell? ⟨b, off + x0 * 4 + 2, none⟩ = some (.slice na ints.length nc) := NA.c2
                have nc3 : wr.cell? ⟨b, off + x0 * 4 + 3, none⟩ = some (.slice ra reals.length rc) := NA.c3
                have HCP : Hid (∀ w', Below wr.heap.size wr w' → w'.cell? ⟨rb, x, none⟩ = some (.int .i64 p) ∧ w'.cell? ⟨rb, x0, none⟩ = some (.int .i64 d) ∧ w'.cell? ⟨pg, 0, none⟩ = some (.slice (some ⟨b, off, none⟩) i c) ∧ w'.cell? ⟨b, off + x0 * 4, none⟩ = some (.string op) ∧ w'.cell? ⟨b, off + x0 * 4 + 1, none⟩ = some (.slice (some ⟨bi, oi, none⟩) ins.length ic) ∧ w'.cell? ⟨b, off + x0 * 4 + 2, none⟩ = some (.slice na ints.length nc) ∧ w'.cell? ⟨b, off + x0 * 4 + 3, none⟩ = some (.slice ra reals.length rc)) := Lib.hid (fun w' hb => ⟨(hb.cell (p := ⟨rb, x, none⟩) (cell_lt y0)).trans y0, (hb.cell (p := ⟨rb, x0, none⟩) (cell_lt y1)).trans y1, (hb.cell (p := ⟨pg, 0, none⟩) (cell_lt g0)).trans g0, (hb.cell (p := ⟨b, off + x0 * 4, none⟩) (cell_lt nc0)).trans nc0, (hb.cell (p := ⟨b, off + x0 * 4 + 1, none⟩) (cell_lt nc1)).trans nc1, (hb.cell (p := ⟨b, off + x0 * 4 + 2, none⟩) (cell_lt nc2)).trans nc2, (hb.cell (p := ⟨b, off + x0 * 4 + 3, none⟩) (cell_lt nc3)).trans nc3⟩)
                clear hu hgd hur hp hfar NA
                go_upto_region 15 with fail
                refine wp_region_C (fun w' => w'.cell? ⟨rb, x, none⟩ = some (.int .i64 p) ∧ w'.cell? ⟨rb, x0, none⟩ = some (.int .i64 d) ∧ w'.cell? ⟨pg, 0, none⟩ = some (.slice (some ⟨b, off, none⟩) i c) ∧ w'.cell? ⟨b, off + x0 * 4, none⟩ = some (.string op) ∧ w'.cell? ⟨b, off + x0 * 4 + 1, none⟩ = some (.slice (some ⟨bi, oi, none⟩) ins.length ic) ∧ w'.cell? ⟨b, off + x0 * 4 + 2, none⟩ = some (.slice na ints.length nc) ∧ w'.cell? ⟨b, off + x0 * 4 + 3, none⟩ = some (.slice ra reals.length rc)) 19 20 (by kernel_rfl) rfl ?_
                have hC := HCP.out wr.drew ((Below.refl _ _).drew)
                clear y0 y1 g0 nc0 nc1 nc2 nc3
                refine wpAnyC_take (i := 0) (v := .slice (some ⟨rb, 0, none⟩) i i) rfl (by kernel_rfl) (by kernel_rfl) (fun _ _ _ h => h) (.inl ⟨rfl, fun w' hw' => ?_⟩) hC ?_
                · obtain ⟨k0, k1, k2, k3, k4, k5, k6⟩ := hw'
                  go_simp
                refine wpAnyC_act (by rfl) ?_
                simp only [Act.put, List.setIfInBounds_toArray, List.set_cons_zero, List.set_cons_succ]
                refine wpAnyC_take (i := 1) (v := .int .i64 x) rfl (by kernel_rfl) (by kernel_rfl) (fun _ _ _ h => h) (.inl ⟨rfl, fun w' hw' => ?_⟩) hC ?_
                · obtain ⟨k0, k1, k2, k3, k4, k5, k6⟩ := hw'
                  go_simp
                refine wpAnyC_act (by rfl) ?_
                simp only [Act.put, List.setIfInBounds_toArray, List.set_cons_zero, List.set_cons_succ]
                refine wpAnyC_take (i := 2) (v := .slice (some ⟨rb, 0, none⟩) i i) rfl (by kernel_rfl) (by kernel_rfl) (fun _ _ _ h => h) (.inl ⟨rfl, fun w' hw' => ?_⟩) hC ?_
                · obtain ⟨k0, k1, k2, k3, k4, k5, k6⟩ := hw'
                  go_simp
                refine wpAnyC_act (by rfl) ?_
                simp only [Act.put, List.setIfInBounds_toArray, List.set_cons_zero, List.set_cons_succ]
                refine wpAnyC_take (i := 3) (v := .int .i64 x) rfl (by kernel_rfl) (by kernel_rfl) (fun _ _ _ h => h) (.inl ⟨rfl, fun w' hw' => ?_⟩) hC ?_
                · obtain ⟨k0, k1, k2, k3, k4, k5, k6⟩ := hw'
                  go_simp
                refine wpAnyC_act (by rfl) ?_
                simp only [Act.put, List.setIfInBounds_toArray, List.set_cons_zero, List.set_cons_succ]
                refine wpAnyC_take (i := 4) (v := .pointer (some ⟨rb, x, none⟩)) rfl (by kernel_rfl) (by kernel_rfl) (fun _ _ _ h => h) (.inl ⟨rfl, fun w' hw' => ?_⟩) hC ?_
                · obtain ⟨k0, k1, k2, k3, k4, k5, k6⟩ := hw'
                  go_simp
                refine wpAnyC_act (by rfl) ?_
                simp only [Act.put, List.setIfInBounds_toArray, List.set_cons_zero, List.set_cons_succ]
                refine wpAnyC_take (i := 5) (v := .int .i64 p) rfl (by kernel_rfl) (by kernel_rfl) (fun _ _ _ h => h) (.inl ⟨rfl, fun w' hw' => ?_⟩) hC ?_
                · obtain ⟨k0, k1, k2, k3, k4, k5, k6⟩ := hw'
                  go_simp
                refine wpAnyC_act (by rfl) ?_
                simp only [Act.put, List.setIfInBounds_toArray, List.set_cons_zero, List.set_cons_succ]
                refine wpAnyC_take (i := 6) (v := .slice (some ⟨rb, 0, none⟩) i i) rfl (by kernel_rfl) (by kernel_rfl) (fun _ _ _ h => h) (.inl ⟨rfl, fun w' hw' => ?_⟩) hC ?_
                · obtain ⟨k0, k1, k2, k3, k4, k5, k6⟩ := hw'
                  go_simp
                refine wpAnyC_act (by rfl) ?_
                simp only [Act.put, List.setIfInBounds_toArray, List.set_cons_zero, List.set_cons_succ]
                refine wpAnyC_take (i := 7) (v := .int .i64 x0) rfl (by kernel_rfl) (by kernel_rfl) (fun _ _ _ h => h) (.inl ⟨rfl, fun w' hw' => ?_⟩) hC ?_
                · obtain ⟨k0, k1, k2, k3, k4, k5, k6⟩ := hw'
                  go_simp
                refine wpAnyC_act (by rfl) ?_
                simp only [Act.put, List.setIfInBounds_toArray, List.set_cons_zero, List.set_cons_succ]
                refine wpAnyC_take (i := 8) (v := .pointer (some ⟨rb, x0, none⟩)) rfl (by kernel_rfl) (by kernel_rfl) (fun _ _ _ h => h) (.inl ⟨rfl, fun w' hw' => ?_⟩) hC ?_
                · obtain ⟨k0, k1, k2, k3, k4, k5, k6⟩ := hw'
                  go_simp
                refine wpAnyC_act (by rfl) ?_
                simp only [Act.put, List.setIfInBounds_toArray, List.set_cons_zero, List.set_cons_succ]
                refine wpAnyC_take (i := 9) (v := .int .i64 d) rfl (by kernel_rfl) (by kernel_rfl) (fun _ _ _ h => h) (.inl ⟨rfl, fun w' hw' => ?_⟩) hC ?_
                · obtain ⟨k0, k1, k2, k3, k4, k5, k6⟩ := hw'
                  go_simp
                refine wpAnyC_act (by rfl) ?_
                simp only [Act.put, List.setIfInBounds_toArray, List.set_cons_zero, List.set_cons_succ]
                refine wpAnyC_take (i := 10) (v := .pointer (some ⟨pg, 0, none⟩)) rfl (by kernel_rfl) (by kernel_rfl) (fun _ _ _ h => h) (.inl ⟨rfl, fun w' hw' => ?_⟩) hC ?_
                · obtain ⟨k0, k1, k2, k3, k4, k5, k6⟩ := hw'
                  go_simp
                refine wpAnyC_act (by rfl) ?_
                simp only [Act.put, List.setIfInBounds_toArray, List.set_cons_zero, List.set_cons_succ]
                refine wpAnyC_take (i := 11) (v := .slice (some ⟨b, off, none⟩) i c) rfl (by kernel_rfl) (by kernel_rfl) (fun _ _ _ h => h) (.inl ⟨rfl, fun w' hw' => ?_⟩) hC ?_
                · obtain ⟨k0, k1, k2, k3, k4, k5, k6⟩ := hw'
                  go_simp
                refine wpAnyC_act (by rfl) ?_
                simp only [Act.put, List.setIfInBounds_toArray, List.set_cons_zero, List.set_cons_succ]
                refine wpAnyC_take (i := 12) (v := .int .i64 x0) rfl (by kernel_rfl) (by kernel_rfl) (fun _ _ _ h => h) (.inl ⟨rfl, fun w' hw' => ?_⟩) hC ?_
                · obtain ⟨k0, k1, k2, k3, k4, k5, k6⟩ := hw'
                  go_simp
                refine wpAnyC_act (by rfl) ?_
                simp only [Act.put, List.setIfInBounds_toArray, List.set_cons_zero, List.set_cons_succ]
                refine wpAnyC_take (i := 13) (v := .pointer (some ⟨b, off + x0 * 4, none⟩)) rfl (by kernel_rfl) (by kernel_rfl) (fun _ _ _ h => h) (.inl ⟨rfl, fun w' hw' => ?_⟩) hC ?_
                · obtain ⟨k0, k1, k2, k3, k4, k5, k6⟩ := hw'
                  go_simp
                refine wpAnyC_act (by rfl) ?_
                simp only [Act.put, List.setIfInBounds_toArray, List.set_cons_zero, List.set_cons_succ]
                refine wpAnyC_take (i := 14) (v := .agg #[.string op, .slice (some ⟨bi, oi, none⟩) ins.length ic, .slice na ints.length nc, .slice ra reals.length rc]) rfl (by kernel_rfl) (by kernel_rfl) (fun _ _ _ h => h) (.inl ⟨rfl, fun w' hw' => ?_⟩) hC ?_
                · obtain ⟨k0, k1, k2, k3, k4, k5, k6⟩ := hw'
                  go_simp
                refine wpAnyC_act (by rfl) ?_
                simp only [Act.put, List.setIfInBounds_toArray, List.set_cons_zero, List.set_cons_succ]
                refine wpAnyC_one (i := 15) rfl (by kernel_rfl) (fun K hK => ?_)
                go_simp
                refine (HRE.out _ (HNA.out.k.past (HT2.out.drew))).mono ?_
                rintro e w5 ⟨rfl, hb5⟩
                have hb : Below wr.heap.size wr w5 := (Below.refl _ _).drew.trans (hb5.mono (by simp))
                have HB5 := Lib.hid hb
                go_simp
                refine hK _ _ (fun _ => HCP.out _ hb) ?_
                clear hK K hb5 hb hC
                refine wpAnyC_one (i := 16) rfl (by kernel_rfl) (fun K hK => ?_)
                go_simp
                refine hK _ _ (fun _ => HCP.out _ HB5.out) ?_
                clear hK K
                refine wpAnyC_one (i := 17) rfl (by kernel_rfl) (fun K hK => ?_)
                go_simp
                refine hK _ _ (fun _ => HCP.out _ HB5.out) ?_
                clear hK K
                refine wpAnyC_one (i := 18) rfl (by kernel_rfl) (fun K hK => ?_)
                go_simp
                refine hK _ _ (fun _ => HCP.out _ HB5.out) ?_
                clear hK K
                have HR5 := Lib.hid (HR2.out.of_block (HB5.out.block _ HR2.out.lt))
                have y0 := HR5.out.cell hxl
                have r1 := HR5.out.frozen x
                have rl := HR5.out.lt
                refine wpAnyC_one (i := 19) rfl (by kernel_rfl) (fun K hK => ?_)
                go_simp
                refine hK _ _ (fun h => by rw [getD_setSelf] at h; cases h) ?_
                clear hK K
                refine wpAnyC_done (by kernel_rfl) ?_
                go_wp2_with fail
                go_roundw
                case rel =>
                  refine ⟨j + 1, by omega, by go_num, World.rowIs.congr (World.rowIs.set HR5.out x _) (fun q _ => ?_), (HK2.out.past HB5.out).far _ _ HNE.out.1, (HT2.out.trans (HB5.out.mono HT2.out.size)).setCell HNE.out.2 _⟩
                  rw [HNX.out q]
                  by_cases e : q = x
                  · rw [if_pos e, if_pos e, HRR.out]
                  · rw [if_neg e, if_neg e]
                case measure => simp [intOf] <;> omega
              · have hjli : ¬ (j : Int) < (ins.length : Int) := by omega
                obtain rfl : j = ins.length := by omega
                go_wp2_with fail
                go_roundw
                case rel => exact ⟨t + 1, _, by omega, rfl, by omega, World.rowIs.congr HR2.out (fun q _ => by rw [HD2.out q]), HK2.out, HT2.out⟩
                case measure => simp [intOf] <;> omega
        · obtain rfl : t = i := by omega
          have hneg : e < 0 := by omega
          clear he
          go_wp2_with fail
          go_ret
          exact HF.out _ _ HR.out HNE.out.2 HB.out
end Go.Proofs.YtbclecoblcfboaaGreatDoor
