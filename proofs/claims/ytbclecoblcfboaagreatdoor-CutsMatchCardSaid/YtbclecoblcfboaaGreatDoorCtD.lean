/- The fuser: node.Fuse. Conditions: the nodes can be read. -/
import Derived.Test.YtbclecoblcfboaaGreatDoorGhC
import Derived.Test.YtbclecoblcfboaaGreatDoorQJ
import Derived.StillTailTactics
namespace Go.Proofs.YtbclecoblcfboaaGreatDoor
open Go Go.RowKit
/-- What Fuse hands back. -/
def FuP (ns : List NodeD) (w : World) (e : Ending) (w' : World) : Prop := ∃ b, e = .returned (.tuple #[.slice (some ⟨b, 0, none⟩) ns.length ns.length, .int .i64 0]) ∧ w'.rowIs b 3 ns.length (fun q => .int .i64 (lvS ns ns.length q)) ∧ w.heap.size ≤ b ∧ Below w.heap.size w w'
set_option maxRecDepth 100000 in
set_option maxHeartbeats 1600000 in
theorem Fuse_no (a : Option Addr) (c : Nat) (ns : List NodeD) (out : Int) (w : World) (h : IsNodes w a c ns) (hg : gE ns out ≠ 0) :
    Calls Tryz.prog 6 #[.agg #[.slice a ns.length c, .int .i64 out]] w fun e w' => e = .returned (.tuple #[.slice none 0 0, .int .i64 (gE ns out)]) ∧ Below w.heap.size w w' := by
  have HK := Lib.hid (fun w' hb => CheckGraph_any a c ns out w' (h.past hb) : ∀ w', Below w.heap.size w w' → _)
  obtain ⟨m, hm⟩ : ∃ m, m = ns.length := ⟨_, rfl⟩
  obtain ⟨G, hG⟩ : ∃ G, G = gE ns out := ⟨_, rfl⟩
  rw [← hm, ← hG] at HK
  rw [← hG] at hg
  rw [← hm, ← hG]
  clear hG hm h
  go_enter Tryz.func6, Tryz.ntmps6
  go_wp2_with (go_at_call 22; refine (HK.out _ (by (repeat (first | exact Below.refl _ _ | assumption | (refine Below.setCell ?_ (by first | (simp; done) | (simp; omega) | omega) _) | (refine Below.drew ?_) | (refine below_drewN ?_ _) | (refine Below.alloc ?_ (by first | (simp; done) | (simp; omega) | omega) _) | (refine Below.trans ?_ (Below.mono (by assumption) (by first | (simp; done) | (simp; omega) | omega))))))).mono ?_; rintro e w1 ⟨rfl, hb1⟩)
  go_ret2
  exact ⟨rfl, ((Below.refl _ _).alloc (Nat.le_refl _) _).trans (hb1.mono (by simp))⟩
set_option maxRecDepth 100000 in
set_option maxHeartbeats 6400000 in
theorem Fuse_yes (a : Option Addr) (c : Nat) (ns : List NodeD) (out : Int) (w : World) (h : IsNodes w a c ns) (hg : gE ns out = 0) :
    Calls Tryz.prog 6 #[.agg #[.slice a ns.length c, .int .i64 out]] w (FuP ns w) := by
  have HH := Lib.hid h
  have HK := Lib.hid (fun w' hb => CheckGraph_any a c ns out w' (h.past hb) : ∀ w', Below w.heap.size w w' → _)
  have HZ0 := Lib.hid (gE_ok hg)
  rw [hg] at HK
  clear h hg
  obtain ⟨m, hm⟩ : ∃ m, m = ns.length := ⟨_, rfl⟩
  have HM := Lib.hid hm
  have hm1 : m ≤ 100 := by have := HZ0.out.2.1; omega
  have HF : Hid (∀ b w', w'.rowIs b 3 m (fun q => .int .i64 (lvS ns m q)) → w.heap.size ≤ b → Below w.heap.size w w' → FuP ns w (.returned (.tuple #[.slice (some ⟨b, 0, none⟩) m m, .int .i64 0])) w') := Lib.hid (by subst hm; exact fun b w' h1 h2 h3 => ⟨b, rfl, h1, h2, h3⟩)
  rw [← hm] at HK
  rw [← hm]
  clear hm
  have hmk := run_make_row' (P := Tryz.prog) 25 3 (.int .i64 0) 8 Tryz.underlying25 (by kernel_rfl) rfl .i64 .i64 m (by omega) (by omega)
  go_enter Tryz.func6, Tryz.ntmps6
  go_upto_region 5 with (go_at_call 22; refine (HK.out _ (by (repeat (first | exact Below.refl _ _ | assumption | (refine Below.setCell ?_ (by first | (simp; done) | (simp; omega) | omega) _) | (refine Below.drew ?_) | (refine below_drewN ?_ _) | (refine Below.alloc ?_ (by first | (simp; done) | (simp; omega) | omega) _) | (refine Below.trans ?_ (Below.mono (by assumption) (by first | (simp; done) | (simp; omega) | omega))))))).mono ?_; rintro e w1 ⟨rfl, hb1⟩; have g0 := ((Blk.new w [.slice a m c, .int .i64 out] 24 _ rfl).past hb1).c 0 _ rfl; have gl := ((Blk.new w [.slice a m c, .int .i64 out] 24 _ rfl).past hb1).lt)
  refine wp_world (fun W2 hW2 => ?_)
  have hb2 : Below w.heap.size w w1 := ((Below.refl _ _).alloc (Nat.le_refl _) _).trans (hb1.mono (by simp))
  have hrow : W2.rowIs w1.heap.size 3 m (fun q => .int .i64 (lvS ns 0 q)) := by
    rw [hW2]
    exact World.rowIs.congr (World.rowIs_made w1 (.int .i64 0) m 3) (fun j _ => rfl)
  have hB2 : Below w1.heap.size w1 W2 := by rw [hW2]; (repeat (first | exact Below.refl _ _ | assumption | (refine Below.setCell ?_ (by first | (simp; done) | (simp; omega) | omega) _) | (refine Below.drew ?_) | (refine below_drewN ?_ _) | (refine Below.alloc ?_ (by first | (simp; done) | (simp; omega) | omega) _) | (refine Below.trans ?_ (Below.mono (by assumption) (by first | (simp; done) | (simp; omega) | omega)))))
  have G2 := ((Blk.new w [.slice a m c, .int .i64 out] 24 _ rfl).past hb1).past hB2
  obtain ⟨rb, hrb⟩ : ∃ rb, rb = w1.heap.size := ⟨_, rfl⟩
  have H2 : Hid (W2.rowIs rb 3 m (fun q => .int .i64 (lvS ns 0 q)) ∧ Below w.heap.size w W2 ∧ w.heap.size ≤ rb) := Lib.hid ⟨by rw [hrb]; exact hrow, hb2.trans (hB2.mono hb2.size), by rw [hrb]; exact hb2.size⟩
  rw [← hrb]
  clear hW2 hrow hmk hb1 hb2 hB2 g0 gl hrb
  have g0 := G2.c 0 _ rfl
  have gl := G2.lt
  clear G2
  go_wp2_with fail
  clear g0 gl
  go_loopw [24] (fun s24 wr => ∃ i : Nat, i ≤ m ∧ s24 = .int .i64 i ∧ wr.rowIs rb 3 m (fun q => .int .i64 (lvS ns i q)) ∧ Below w.heap.size w wr) (fun s24 _ => m - (intOf s24).toNat)
  case atStart => exact ⟨0, Nat.zero_le _, rfl, H2.out.1, H2.out.2.1⟩
  case round =>
    obtain ⟨i, hi, rfl, hR, hB⟩ := hrel
    have HR := Lib.hid hR; have HB := Lib.hid hB
    clear hR hB
    by_cases him : i < m
    · have himi : (i : Int) < (m : Int) := by omega
      have him2 : i < ns.length := by rw [← HM.out]; exact him
      obtain ⟨n, hn⟩ : ∃ n, ns[i]? = some n := ⟨_, List.getElem?_eq_getElem him2⟩
      obtain ⟨b, off, rfl, hna, hnb⟩ := HH.out.get hn
      have hna2 := hna.past HB.out
      obtain ⟨op, ins, ints, reals, ia, ic, na, nc, ra, rc⟩ := n
      have hins : insO ns i = ins := by unfold insO; rw [hn]
      have HIN := Lib.hid (nd_in HZ0.out.2.2.1 him2)
      obtain ⟨n', k, hn', hk, hkd⟩ := nd_op him2 (fstN_zero HZ0.out.2.2.1 i him2)
      rw [hn] at hn'
      cases hn'
      have har := arO_at hn hk
      have HOP := Lib.hid (fun w' => op_yes hk w')
      obtain ⟨f, hf⟩ : ∃ f, f = F k := ⟨_, rfl⟩
      obtain ⟨ar, har2⟩ : ∃ ar, ar = f.area := ⟨_, rfl⟩
      have HNEW := Lib.hid (lvS_new ns i)
      rw [hins, har, ← hf, ← har2] at HNEW
      rw [hins] at HIN
      rw [← hf] at HOP
      obtain ⟨L, hL⟩ : ∃ L, L = lvS ns i := ⟨_, rfl⟩
      have HLS : Hid (∀ q, q ≠ i → lvS ns (i + 1) q = L q) := Lib.hid (fun q h => by rw [hL]; exact lvS_old ns h)
      have HLB : Hid (∀ q, q < i → 0 ≤ L q ∧ L q ≤ 100) := Lib.hid (fun q h => by rw [hL]; have := lvS_bd HZ0.out.2.2.1 i (by omega) q h; omega)
      have HLI : Hid (L i = 0) := Lib.hid (by rw [hL]; exact lvS_far ns (Nat.le_refl _))
      rw [← hL] at HNEW HR
      have HAR := Lib.hid har2
      have HI := Lib.hid hna.i
      have c0 : wr.cell? ⟨b, off + i * 4, none⟩ = some (.string op) := hna2.c0
      have c1 : wr.cell? ⟨b, off + i * 4 + 1, none⟩ = some (.slice ia ins.length ic) := hna2.c1
      have c2 : wr.cell? ⟨b, off + i * 4 + 2, none⟩ = some (.slice na ints.length nc) := hna2.c2
      have c3 : wr.cell? ⟨b, off + i * 4 + 3, none⟩ = some (.slice ra reals.length rc) := hna2.c3
      have l0 := cell_lt c0; simp only at l0
      clear hn hna hnb hna2 hins hk hkd har hf har2 him2 hL
      go_upto_region 8 with fail
      refine wp_world (fun W4 hW4 => ?_)
      have H4p : Blk W4 wr.heap.size [.string op, .slice ia ins.length ic, .slice na ints.length nc, .slice ra reals.length rc] ∧ Below wr.heap.size wr W4 := by rw [hW4]; exact ⟨Blk.new _ _ _ _ rfl, by (repeat (first | exact Below.refl _ _ | assumption | (refine Below.setCell ?_ (by first | (simp; done) | (simp; omega) | omega) _) | (refine Below.drew ?_) | (refine below_drewN ?_ _) | (refine Below.alloc ?_ (by first | (simp; done) | (simp; omega) | omega) _) | (refine Below.trans ?_ (Below.mono (by assumption) (by first | (simp; done) | (simp; omega) | omega)))))⟩
      obtain ⟨nb, hnb⟩ : ∃ nb, nb = wr.heap.size := ⟨_, rfl⟩
      have HRI : Hid (nb ≠ rb ∧ rb < nb ∧ w.heap.size ≤ nb) := Lib.hid (by have := HR.out.lt; have := HB.out.size; omega)
      have H4 : Hid (Blk W4 nb [.string op, .slice ia ins.length ic, .slice na ints.length nc, .slice ra reals.length rc] ∧ Below w.heap.size w W4 ∧ W4.rowIs rb 3 m (fun q => .int .i64 (if q = i then lvM L ins 0 else L q))) := Lib.hid ⟨by rw [hnb]; exact H4p.1, HB.out.trans (H4p.2.mono HB.out.size), World.rowIs.congr (HR.out.of_block (H4p.2.block _ HR.out.lt)) (fun q _ => by
        by_cases e : q = i
        · subst e; rw [if_pos rfl, HLI.out]; rfl
        · rw [if_neg e])⟩
      rw [← hnb]
      clear hW4 c0 c1 c2 c3 l0 hnb H4p HB HR
      have m1 := H4.out.1.c 1 _ rfl; have ml := H4.out.1.lt
      go_wp2_with fail
      clear m1 ml
      go_loopw [32] (fun s32 wq => ∃ j : Nat, j ≤ ins.length ∧ s32 = .int .i64 j ∧ wq.rowIs rb 3 m (fun q => .int .i64 (if q = i then lvM L ins j else L q)) ∧ Blk wq nb [.string op, .slice ia ins.length ic, .slice na ints.length nc, .slice ra reals.length rc] ∧ Below w.heap.size w wq) (fun s32 _ => ins.length - (intOf s32).toNat)
      case atStart => exact ⟨0, Nat.zero_le _, rfl, H4.out.2.2, H4.out.1, H4.out.2.1⟩
      case round =>
        obtain ⟨j, hj, rfl, hR2, hN2, hT2⟩ := hrel
        have HR2 := Lib.hid hR2; have HN2 := Lib.hid hN2; have HT2 := Lib.hid hT2
        clear hR2 hN2 hT2
        by_cases hjl : j < ins.length
        · have hjli : (j : Int) < (ins.length : Int) := by omega
          have hj3 : j ≤ 3 := by have := HIN.out.2.1; omega
          obtain ⟨u, hu⟩ : ∃ u, ins[j]? = some u := ⟨_, List.getElem?_eq_getElem hjl⟩
          have hgd : ins.getD j 0 = u := by rw [List.getD_eq_getElem?_getD, hu, Option.getD_some]
          have hur := HIN.out.1 j hjl
          rw [hgd] at hur
          obtain ⟨x, hx⟩ : ∃ x : Nat, u = (x : Int) := ⟨u.toNat, by omega⟩
          subst hx
          have hxi : x < i := by omega
          have hxl : x < m := by omega
          have hxli : (x : Int) < (m : Int) := by omega
          obtain ⟨bi, oi, rfl, ci⟩ := (HI.out.past HT2.out).one hu
          have li := cell_lt ci; simp only at li
          have HNX := Lib.hid (show lvM L ins (j + 1) = max (lvM L ins j) (L x) by rw [show lvM L ins (j + 1) = max (lvM L ins j) (L (ins.getD j 0).toNat) from rfl, hgd, Int.toNat_natCast])
          have r0 := HR2.out.cell him
          have rx := HR2.out.cell hxl
          rw [if_pos rfl] at r0
          rw [if_neg (by omega)] at rx
          have r1 := HR2.out.frozen i
          have rl := HR2.out.lt
          obtain ⟨p, hp⟩ : ∃ p, p = lvM L ins j := ⟨_, rfl⟩
          obtain ⟨y, hy⟩ : ∃ y, y = L x := ⟨_, rfl⟩
          rw [← hp] at r0 HNX
          rw [← hy] at rx HNX
          clear hu hgd hur hp hy
          go_upto_region 11 with fail
          go_still_tail 12, (by kernel_rfl)
          go_wp2_with fail
          go_roundw
          case rel =>
            have hd : ∀ V : World, Below V.heap.size V V.drew := fun V => (Below.refl _ _).drew
            refine ⟨j + 1, by omega, by go_num, ?_, (HN2.out.far _ _ (by have := HRI.out; simp only; omega)).past (hd _), (HT2.out.setCell (by have := H2.out.2.2; simp only; omega) _).drew⟩
            refine World.rowIs.of_block (World.rowIs.congr (World.rowIs.set HR2.out i _) (fun q _ => ?_)) ((hd _).block _ (World.rowIs.set HR2.out i _).lt)
            by_cases e : q = i
            · subst e; rw [if_pos rfl, if_pos rfl, HNX.out]
            · rw [if_neg e, if_neg e, if_neg e]
          case measure => simp [intOf]; omega
        · have hjli : ¬ (j : Int) < (ins.length : Int) := by omega
          obtain rfl : j = ins.length := by omega
          have n0 := HN2.out.c 0 _ rfl; have nl := HN2.out.lt
          go_upto_region 14 with (go_at_call 30; refine (HOP.out _).mono ?_; rintro e w5 ⟨fa, fc, rfl, hI, hb5⟩)
          refine wp_world (fun W6 hW6 => ?_)
          have hb6 : Below w5.heap.size w5 W6 := by rw [hW6]; (repeat (first | exact Below.refl _ _ | assumption | (refine Below.setCell ?_ (by first | (simp; done) | (simp; omega) | omega) _) | (refine Below.drew ?_) | (refine below_drewN ?_ _) | (refine Below.alloc ?_ (by first | (simp; done) | (simp; omega) | omega) _) | (refine Below.trans ?_ (Below.mono (by assumption) (by first | (simp; done) | (simp; omega) | omega)))))
          have N6 : Blk W6 w5.heap.size (fCells f fa fc) := by rw [hW6]; exact Blk.new _ _ _ _ rfl
          obtain ⟨fb, hfb⟩ : ∃ fb, fb = w5.heap.size := ⟨_, rfl⟩
          have HNE : Hid (fb ≠ rb ∧ w.heap.size ≤ fb) := Lib.hid (by have := HR2.out.lt; have := hb5.size; have := HT2.out.size; omega)
          rw [← hfb] at N6
          rw [← hfb]
          have hbb := hb5.trans (hb6.mono hb5.size)
          have HR6 := Lib.hid (HR2.out.of_block (hbb.block _ HR2.out.lt))
          have HT6 := Lib.hid (HT2.out.trans (hbb.mono HT2.out.size))
          have z5 := (fCells_at N6).2.2.2.2.2
          rw [← HAR.out] at z5
          have zl := N6.lt
          have r0 := HR6.out.cell him
          rw [if_pos rfl] at r0
          have r1 := HR6.out.frozen i
          have rl := HR6.out.lt
          have hpb : 0 ≤ lvM L ins ins.length ∧ lvM L ins ins.length ≤ 100 := ⟨lvM_nn _, lvM_le (by decide) _ (fun j hj => by
            have h1 := HIN.out.1 j hj
            exact (HLB.out _ (by omega)).2)⟩
          obtain ⟨p, hp⟩ : ∃ p, p = lvM L ins ins.length := ⟨_, rfl⟩
          rw [← hp] at r0 HNEW hpb
          have HPP := Lib.hid hp
          clear hp hW6 hb6 N6 hfb hbb n0 nl hI hb5 HAR
          obtain ⟨hp0, hp1⟩ := hpb
          cases ar
          · go_wp2_with fail
            go_roundw
            case rel =>
              refine ⟨i + 1, by omega, by go_num, World.rowIs.congr HR6.out (fun q _ => ?_), HT6.out⟩
              by_cases e : q = i
              · subst e; rw [if_pos rfl, HNEW.out, HPP.out]; simp
              · rw [if_neg e, HLS.out q e]
            case measure => simp [intOf]; omega
          · go_wp2_with fail
            go_roundw
            case rel =>
              refine ⟨i + 1, by omega, by go_num, World.rowIs.congr (World.rowIs.set HR6.out i _) (fun q _ => ?_), HT6.out.setCell (by have := H2.out.2.2; simp only; omega) _⟩
              by_cases e : q = i
              · subst e; rw [if_pos rfl, HNEW.out]; simp
              · rw [if_neg e, if_neg e, HLS.out q e]
            case measure => simp [intOf]; omega
    · have himi : ¬ (i : Int) < (m : Int) := by omega
      obtain rfl : i = m := by omega
      go_wp2_with fail
      go_ret2
      exact HF.out _ _ HR.out H2.out.2.2 HB.out
end Go.Proofs.YtbclecoblcfboaaGreatDoor
