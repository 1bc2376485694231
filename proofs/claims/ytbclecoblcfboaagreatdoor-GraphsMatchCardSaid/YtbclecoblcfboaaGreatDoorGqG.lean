/- The nodes on which a node hangs: node.Below, dyelaw2.below. Conditions: the nodes can be read. -/
import Derived.Test.YtbclecoblcfboaaGreatDoorGqF
namespace Go.Proofs.YtbclecoblcfboaaGreatDoor
open Go Go.RowKit
set_option maxRecDepth 100000 in
set_option maxHeartbeats 1600000 in
theorem Below_no (a : Option Addr) (c : Nat) (ns : List NodeD) (out K : Int) (w : World) (h : IsNodes w a c ns) (hg : gE ns out ≠ 0) :
    Calls Tryz.prog 20 #[.agg #[.slice a ns.length c, .int .i64 out], .int .i64 K] w fun e w' => e = .returned (.tuple #[.slice none 0 0, .int .i64 (gE ns out)]) ∧ Below w.heap.size w w' := by
  have HK := Lib.hid (fun w' hb => CheckGraph_any a c ns out w' (h.past hb) : ∀ w', Below w.heap.size w w' → _)
  obtain ⟨m, hm⟩ : ∃ m, m = ns.length := ⟨_, rfl⟩
  obtain ⟨G, hG⟩ : ∃ G, G = gE ns out := ⟨_, rfl⟩
  rw [← hm, ← hG] at HK
  rw [← hG] at hg
  rw [← hm, ← hG]
  clear hG hm h
  go_enter Tryz.func20, Tryz.ntmps20
  go_wp2_with (go_at_call 22; refine (HK.out _ (by (repeat (first | exact Below.refl _ _ | assumption | (refine Below.setCell ?_ (by first | (simp; done) | (simp; omega) | omega) _) | (refine Below.drew ?_) | (refine below_drewN ?_ _) | (refine Below.alloc ?_ (by first | (simp; done) | (simp; omega) | omega) _) | (refine Below.trans ?_ (Below.mono (by assumption) (by first | (simp; done) | (simp; omega) | omega))))))).mono ?_; rintro e w1 ⟨rfl, hb1⟩)
  go_ret2
  exact ⟨rfl, ((Below.refl _ _).alloc (Nat.le_refl _) _).trans (hb1.mono (by simp))⟩
set_option maxRecDepth 100000 in
set_option maxHeartbeats 1600000 in
theorem Below_far (a : Option Addr) (c : Nat) (ns : List NodeD) (out K : Int) (w : World) (h : IsNodes w a c ns) (hg : gE ns out = 0) (hK : ¬ (0 ≤ K ∧ K < (ns.length : Int))) :
    Calls Tryz.prog 20 #[.agg #[.slice a ns.length c, .int .i64 out], .int .i64 K] w fun e w' => e = .returned (.tuple #[.slice none 0 0, .int .i64 11]) ∧ Below w.heap.size w w' := by
  have HK := Lib.hid (fun w' hb => CheckGraph_any a c ns out w' (h.past hb) : ∀ w', Below w.heap.size w w' → _)
  rw [hg] at HK
  obtain ⟨m, hm⟩ : ∃ m, m = ns.length := ⟨_, rfl⟩
  rw [← hm] at HK hK
  rw [← hm]
  clear hm h hg
  have hK2 : K < 0 ∨ (¬ K < 0 ∧ (m : Int) ≤ K) := by omega
  clear hK
  rcases hK2 with q1 | ⟨q1, q2⟩
  all_goals
    go_enter Tryz.func20, Tryz.ntmps20
    go_wp2_with (go_at_call 22; refine (HK.out _ (by (repeat (first | exact Below.refl _ _ | assumption | (refine Below.setCell ?_ (by first | (simp; done) | (simp; omega) | omega) _) | (refine Below.drew ?_) | (refine below_drewN ?_ _) | (refine Below.alloc ?_ (by first | (simp; done) | (simp; omega) | omega) _) | (refine Below.trans ?_ (Below.mono (by assumption) (by first | (simp; done) | (simp; omega) | omega))))))).mono ?_; rintro e w1 ⟨rfl, hb1⟩; have g0 := ((Blk.new w [.slice a m c, .int .i64 out] 24 _ rfl).past hb1).c 0 _ rfl; have gl := ((Blk.new w [.slice a m c, .int .i64 out] 24 _ rfl).past hb1).lt)
    go_ret2
    exact ⟨rfl, ((Below.refl _ _).alloc (Nat.le_refl _) _).trans (hb1.mono (by simp))⟩
theorem blS_next (ns : List NodeD) (K top : Nat) {t x0 : Nat} (h : x0 + t = top) (q : Nat) : blS ns K top (t + 1) q = (blS ns K top t q || (blS ns K top t x0 && (insO ns x0).any (fun x => x == (q : Int)))) := by
  have e : top - t = x0 := by omega
  show (blS ns K top t q || (blS ns K top t (top - t) && (insO ns (top - t)).any (fun x => x == (q : Int)))) = _
  rw [e]
/-- What below hands back. -/
def BlP (l : List Int) (w : World) (e : Ending) (w' : World) : Prop := ∃ u, e = .returned u ∧ NmR w w' u l
set_option maxRecDepth 100000 in
set_option maxHeartbeats 6400000 in
theorem Below_yes (a : Option Addr) (c : Nat) (ns : List NodeD) (out : Int) (K : Nat) (w : World) (h : IsNodes w a c ns) (hg : gE ns out = 0) (hK : K < ns.length) :
    Calls Tryz.prog 20 #[.agg #[.slice a ns.length c, .int .i64 out], .int .i64 K] w (StrP (nmZ (blS ns K K (K + 1)) (K + 1)) w) := by
  obtain ⟨i0, hi0, hz0, hz1, hz2⟩ := info_parts infoInt
  have HH := Lib.hid h
  have HZ0 := Lib.hid (gE_ok hg)
  have HK := Lib.hid (fun w' hb => CheckGraph_any a c ns out w' (h.past hb) : ∀ w', Below w.heap.size w w' → _)
  rw [hg] at HK
  obtain ⟨m, hm⟩ : ∃ m, m = ns.length := ⟨_, rfl⟩
  have HM := Lib.hid hm
  have hm1 : m ≤ 100 := by have := HZ0.out.2.1; omega
  have hKm : K < m := by omega
  have hKmi : (K : Int) < (m : Int) := by omega
  obtain ⟨top, htop⟩ : ∃ top, top = K := ⟨_, rfl⟩
  obtain ⟨ln, hln⟩ : ∃ ln, ln = K + 1 := ⟨_, rfl⟩
  have HBN := Lib.hid (fun t x0 q (h : x0 + t = top) => blS_next ns K top h q)
  obtain ⟨f, hf⟩ : ∃ f, f = blS ns K top ln := ⟨_, rfl⟩
  have HFF : Hid (∀ q, blS ns K top ln q = f q) := Lib.hid (fun q => by rw [hf])
  have hlt : top + 1 = ln := by omega
  have hKl : K < ln := by omega
  have hKli : (K : Int) < (ln : Int) := by omega
  have hlm : ln ≤ m := by omega
  rw [← hm] at HK
  rw [← hln, ← hm]
  rw [show blS ns K K ln = f by rw [hf, htop]]
  clear hm h hg hf
  have hmk := run_make_row' (P := Tryz.prog) 64 4 (.bool false) 1 Tryz.underlying64 (by kernel_rfl) rfl .i64 .i64 (K + 1) (by omega) (by omega)
  have hK0 : ¬ (K : Int) < 0 := by omega
  have hK1 : ¬ (m : Int) ≤ (K : Int) := by omega
  rw [show ((K + 1 : Nat) : Int) = (K : Int) + 1 by omega] at hmk
  go_enter Tryz.func20, Tryz.ntmps20
  go_upto_region 6 with (go_at_call 22; refine (HK.out _ (by (repeat (first | exact Below.refl _ _ | assumption | (refine Below.setCell ?_ (by first | (simp; done) | (simp; omega) | omega) _) | (refine Below.drew ?_) | (refine below_drewN ?_ _) | (refine Below.alloc ?_ (by first | (simp; done) | (simp; omega) | omega) _) | (refine Below.trans ?_ (Below.mono (by assumption) (by first | (simp; done) | (simp; omega) | omega))))))).mono ?_; rintro e w1 ⟨rfl, hb1⟩; have g0 := ((Blk.new w [.slice a m c, .int .i64 out] 24 _ rfl).past hb1).c 0 _ rfl; have gl := ((Blk.new w [.slice a m c, .int .i64 out] 24 _ rfl).past hb1).lt)
  have hb2 : Below w.heap.size w w1 := ((Below.refl _ _).alloc (Nat.le_refl _) _).trans (hb1.mono (by simp))
  have G1 := (Blk.new w [.slice a m c, .int .i64 out] 24 _ rfl).past hb1
  clear g0 gl
  go_upto_region 7 with fail
  refine wp_world (fun W2 hW2 => ?_)
  have hB2 : Below w1.heap.size w1 W2 := by rw [hW2]; (repeat (first | exact Below.refl _ _ | assumption | (refine Below.setCell ?_ (by first | (simp; done) | (simp; omega) | omega) _) | (refine Below.drew ?_) | (refine below_drewN ?_ _) | (refine Below.alloc ?_ (by first | (simp; done) | (simp; omega) | omega) _) | (refine Below.trans ?_ (Below.mono (by assumption) (by first | (simp; done) | (simp; omega) | omega)))))
  have hrow : W2.rowIs w1.heap.size 4 ln (fun _ => .bool false) := by
    rw [hW2, hln]
    exact World.rowIs_made w1 (.bool false) (K + 1) 4
  obtain ⟨pg, hpg⟩ : ∃ pg, pg = w.heap.size := ⟨_, rfl⟩
  obtain ⟨rb, hrb⟩ : ∃ rb, rb = w1.heap.size := ⟨_, rfl⟩
  have HNE : Hid (rb ≠ pg ∧ w.heap.size ≤ rb) := Lib.hid (by have := G1.lt; have := hb2.size; omega)
  have H2p : W2.rowIs rb 4 ln (fun _ => .bool false) ∧ Blk W2 pg [.slice a m c, .int .i64 out] ∧ Below w.heap.size w W2 := ⟨by rw [hrb]; exact hrow, by rw [hpg]; exact G1.past hB2, hb2.trans (hB2.mono hb2.size)⟩
  rw [← hrb, ← hpg]
  rw [show K + 1 = ln from hln.symm]
  clear hrow hrb hpg hb1 hb2 hB2 G1 hK0 hK1
  have H2 : Hid (W2.rowIs rb 4 ln (fun _ => .bool false) ∧ Blk W2 pg [.slice a m c, .int .i64 out] ∧ Below w.heap.size w W2) := Lib.hid H2p
  have HLT := Lib.hid hlt
  have HTOP := Lib.hid htop
  clear hW2 hmk H2p htop hlt hln
  have r0 := H2.out.1.cell hKl
  have r1 := H2.out.1.frozen K
  have rl := H2.out.1.lt
  go_upto_region 8 with fail
  refine wp_world (fun W3 hW3 => ?_)
  have H3 : Hid (W3.rowIs rb 4 ln (fun q => .bool (blS ns K top 0 q)) ∧ Blk W3 pg [.slice a m c, .int .i64 out] ∧ Below w.heap.size w W3) := Lib.hid (by
    rw [hW3]
    refine ⟨World.rowIs.congr (World.rowIs.set H2.out.1 K _) (fun q _ => ?_), H2.out.2.1.far _ _ HNE.out.1, H2.out.2.2.setCell HNE.out.2 _⟩
    by_cases e : q = K
    · rw [if_pos e]; simp [blS, e]
    · rw [if_neg e]; simp [blS, e])
  clear hW3 r0 r1 rl H2

  go_wp2_with fail

  go_loopw [8] (fun si wr => ∃ (t : Nat) (e : Int), t ≤ ln ∧ si = .int .i64 e ∧ e = (top : Int) - t ∧ wr.rowIs rb 4 ln (fun q => .bool (blS ns K top t q)) ∧ Blk wr pg [.slice a m c, .int .i64 out] ∧ Below w.heap.size w wr) (fun si _ => (intOf si + 1).toNat)
  case atStart => exact ⟨0, _, Nat.zero_le _, rfl, by have := HTOP.out; have := HLT.out; omega, H3.out.1, H3.out.2.1, H3.out.2.2⟩
  case round =>
    obtain ⟨t, e, ht, rfl, he, hR, hK, hB⟩ := hrel
    have HR := Lib.hid hR; have HK2 := Lib.hid hK; have HB := Lib.hid hB
    clear hR hK hB H3
    have hlt := HLT.out
    by_cases htm : t < ln
    · obtain ⟨x0, hx0⟩ : ∃ x0 : Nat, e = (x0 : Int) := ⟨e.toNat, by omega⟩
      subst hx0
      have hti : x0 + t = top := by omega
      have hxl : x0 < ln := by omega
      have hxli : (x0 : Int) < (ln : Int) := by omega
      have hxm : x0 < m := by omega
      have hxmi : (x0 : Int) < (m : Int) := by omega
      have hx2 : x0 < ns.length := by rw [← HM.out]; exact hxm
      obtain ⟨n, hn⟩ : ∃ n, ns[x0]? = some n := ⟨_, List.getElem?_eq_getElem hx2⟩
      obtain ⟨b, off, rfl, hna, hnb⟩ := HH.out.get hn
      obtain ⟨op, ins, ints, reals, ia, ic, na, nc, ra, rc⟩ := n
      have hins : insO ns x0 = ins := by unfold insO; rw [hn]
      have HIN := Lib.hid (nd_in HZ0.out.2.2.1 hx2)
      have HNA := Lib.hid hna
      have HD := Lib.hid (fun q => HBN.out t x0 q hti)
      rw [hins] at HIN HD
      obtain ⟨B, hBB⟩ : ∃ B, B = blS ns K top t := ⟨_, rfl⟩
      rw [← hBB] at HD HR
      obtain ⟨p, hp⟩ : ∃ p, p = B x0 := ⟨_, rfl⟩
      have r0 := HR.out.cell hxl
      rw [← hp] at r0 HD
      have rl := HR.out.lt
      clear hn hna hnb hins hBB hp hx2 he hlt
      cases p
      · go_wp2_with fail
        go_roundw
        case rel => exact ⟨t + 1, _, by omega, rfl, by omega, World.rowIs.congr HR.out (fun q _ => by rw [HD.out q]; simp), HK2.out, HB.out⟩
        case measure => simp [intOf] <;> omega
      · have g0 := HK2.out.c 0 _ rfl
        have gl := HK2.out.lt
        have c1 := (HNA.out.past HB.out).c1
        have l1 := cell_lt c1; simp only at c1 l1
        go_upto_region 13 with fail
        clear g0 gl c1 l1 r0 rl
        go_loopw [50] (fun sj wq => ∃ j : Nat, j ≤ ins.length ∧ sj = .int .i64 j ∧ wq.rowIs rb 4 ln (fun q => .bool (blT B ins j q)) ∧ Blk wq pg [.slice (some ⟨b, off, none⟩) m c, .int .i64 out] ∧ Below w.heap.size w wq) (fun sj _ => ins.length - (intOf sj).toNat)
        case atStart => exact ⟨0, Nat.zero_le _, rfl, World.rowIs.congr HR.out (fun q _ => by rw [blT_zero]), HK2.out, HB.out⟩
        case round =>
          obtain ⟨j, hj, rfl, hR2, hK3, hT2⟩ := hrel
          clear HR HK2 HB
          have HR2 := Lib.hid hR2; have HK3 := Lib.hid hK3; have HT2 := Lib.hid hT2
          clear hR2 hK3 hT2
          by_cases hjl : j < ins.length
          · have hjli : (j : Int) < (ins.length : Int) := by omega
            have hj3 : j ≤ 3 := by have := HIN.out.2.1; omega
            obtain ⟨u, hu⟩ : ∃ u, ins[j]? = some u := ⟨_, List.getElem?_eq_getElem hjl⟩
            have hgd : ins.getD j 0 = u := by rw [List.getD_eq_getElem?_getD, hu, Option.getD_some]
            have hur := HIN.out.1 j hjl
            rw [hgd] at hur
            obtain ⟨x, hx⟩ : ∃ x : Nat, u = (x : Int) := ⟨u.toNat, by omega⟩
            subst hx
            have hyl : x < ln := by omega
            have hyli : (x : Int) < (ln : Int) := by omega
            obtain ⟨bi, oi, rfl, ci⟩ := (HNA.out.i.past HT2.out).one hu
            have li := cell_lt ci; simp only at li
            have HNX := Lib.hid (fun q => blT_succ B ins j q hu)
            have r0 := HR2.out.cell hyl
            have r1 := HR2.out.frozen x
            have rl := HR2.out.lt
            clear hu hgd hur
            go_wp2_with fail
            go_roundw
            case rel =>
              refine ⟨j + 1, by omega, by go_num, World.rowIs.congr (World.rowIs.set HR2.out x _) (fun q _ => ?_), HK3.out.far _ _ HNE.out.1, HT2.out.setCell HNE.out.2 _⟩
              rw [HNX.out q]
              by_cases e : q = x
              · rw [if_pos e, if_pos e]
              · rw [if_neg e, if_neg e]
            case measure => simp [intOf] <;> omega
          · have hjli : ¬ (j : Int) < (ins.length : Int) := by omega
            obtain rfl : j = ins.length := by omega
            go_wp2_with fail
            go_roundw
            case rel => exact ⟨t + 1, _, by omega, rfl, by omega, World.rowIs.congr HR2.out (fun q _ => by rw [HD.out q, blT_all]; simp), HK3.out, HT2.out⟩
            case measure => simp [intOf] <;> omega
    · obtain rfl : t = ln := by omega
      have hneg : e < 0 := by omega
      have HRF : Hid (wr.rowIs rb 4 t (fun q => .bool (f q))) := Lib.hid (World.rowIs.congr HR.out (fun q _ => by rw [HFF.out q]))
      clear he HR hlt HLT
      have rl := HRF.out.lt
      go_wp2_with fail
      clear rl
      go_loopw [11, 60] (fun sr sl wr => ∃ (k : Nat) (u : Value), k ≤ t ∧ sl = .int .i64 k ∧ u = sr ∧ NmR w wr u (nmZ f k) ∧ wr.rowIs rb 4 t (fun q => .bool (f q)) ∧ ∀ b, u.ownBlock = some b → b ≠ rb) (fun _ sl _ => t - (intOf sl).toNat)
      case atStart => exact ⟨0, _, Nat.zero_le _, rfl, rfl, ⟨World.ownsRow_nil _ _ _ _, HB.out⟩, HRF.out, fun b h => by simp [Value.ownBlock] at h⟩
      case round =>
        obtain ⟨k, u, hk, rfl, rfl, hM, hR, hne⟩ := hrel
        have HMM := Lib.hid hM; have HR2 := Lib.hid hR; have HNO := Lib.hid hne
        clear HRF
        by_cases hin : k < t
        · have hini : (k : Int) < (t : Int) := by omega
          have r0 := hR.cell hin
          have rl := hR.lt
          have hL := nmZ_len f k
          have hbs := hM.bel.size
          have HF := Lib.hid (show nmZ f (k + 1) = if f k = true then nmZ f k ++ [(k : Int)] else nmZ f k from rfl)
          obtain ⟨L, hLL⟩ : ∃ L, L = nmZ f k := ⟨_, rfl⟩
          rw [← hLL] at HMM HF hL
          obtain ⟨b, hb⟩ : ∃ b, b = f k := ⟨_, rfl⟩
          rw [← hb] at r0 HF
          clear hR hM hLL hb hne
          cases b
          · go_wp2_with fail
            go_roundw
            case rel => exact ⟨k + 1, _, by omega, by go_num, rfl, by rw [HF.out]; simpa using HMM.out, HR2.out, HNO.out⟩
            case measure => simp [intOf] <;> omega
          · go_wp2_with (first | (at_builtin; refine wpList_append_lies _ rfl _ _ _ rfl w.heap.size 3 i0 (.int .i64 0) 1 8 Tryz.underlying25 hi0 hz0 hz1 hz2 rfl (by decide) u L.length (L.map (Value.int .i64)) rfl (own_past HMM.out.own (by (repeat (first | exact Below.refl _ _ | assumption | (refine Below.setCell ?_ (by first | (simp; done) | (simp; omega) | omega) _) | (refine Below.drew ?_) | (refine below_drewN ?_ _) | (refine Below.alloc ?_ (by first | (simp; done) | (simp; omega) | omega) _) | (refine Below.trans ?_ (Below.mono (by assumption) (by first | (simp; done) | (simp; omega) | omega))))))) ⟨wr.heap.size, 0, none⟩ 1 1 [.int .i64 k] rfl rfl (by intro j u hj; match j, hj with | 0, hj => (simp at hj; subst hj; simp [Addr.add])) (by intro u hu; simp at hu; subst hu; rfl) (by decide) (by unfold maxLen; omega) (by omega) (by simp; omega) _ rfl ?_; intro g' cap w7 hown hgrow hat hlt))
            have HN := Lib.hid (NmR.app HMM.out (by (repeat (first | exact Below.refl _ _ | assumption | (refine Below.setCell ?_ (by first | (simp; done) | (simp; omega) | omega) _) | (refine Below.drew ?_) | (refine below_drewN ?_ _) | (refine Below.alloc ?_ (by first | (simp; done) | (simp; omega) | omega) _) | (refine Below.trans ?_ (Below.mono (by assumption) (by first | (simp; done) | (simp; omega) | omega)))))) hown hgrow)
            have hR7 := Lib.hid ((World.rowIs.of_block HR2.out (((Below.refl wr.heap.size wr).alloc (Nat.le_refl _) _).block _ rl)).of_block (hgrow.block rb (by simp; omega) (fun e => HNO.out rb e.symm rfl)))
            have hG7 : Hid (g' ≠ rb) := Lib.hid (by
              rcases hat with h | h
              · exact HNO.out _ h
              · simp at h; omega)
            clear hown hgrow hat hlt
            go_roundw
            case rel => first
              | exact ⟨k + 1, _, by omega, by go_num, rfl, by rw [HF.out]; simpa using HN.out, hR7.out, fun b hb => by simp [Value.ownBlock] at hb; subst hb; exact hG7.out⟩
              | exact ⟨_, _, _, _, ⟨k + 1, by omega, by go_num, by rw [HF.out]; simpa using HN.out, hR7.out, fun b hb => by simp [Value.ownBlock] at hb; subst hb; exact hG7.out⟩, rfl, rfl, rfl, rfl⟩
            case measure => simp [intOf] <;> omega
        · have hini : ¬ (k : Int) < (t : Int) := by omega
          obtain rfl : k = t := by omega
          go_wp2_with fail
          go_ret2
          exact ⟨u, rfl, HMM.out⟩
set_option maxRecDepth 100000 in
set_option maxHeartbeats 6400000 in
theorem below_yes (a : Option Addr) (c : Nat) (ns : List NodeD) (out : Int) (K : Nat) (w : World) (h : IsNodes w a c ns) (hg : gE ns out = 0) (hK : K < ns.length) :
    Calls Tryz.prog 27 #[.agg #[.slice a ns.length c, .int .i64 out], .int .i64 K] w (BlP (nmZ (blS ns K (ns.length - 1) ns.length) ns.length) w) := by
  obtain ⟨i0, hi0, hz0, hz1, hz2⟩ := info_parts infoInt
  have HH := Lib.hid h
  have HZ0 := Lib.hid (gE_ok hg)

  obtain ⟨m, hm⟩ : ∃ m, m = ns.length := ⟨_, rfl⟩
  have HM := Lib.hid hm
  have hm1 : m ≤ 100 := by have := HZ0.out.2.1; omega
  have hKm : K < m := by omega
  have hKmi : (K : Int) < (m : Int) := by omega
  obtain ⟨top, htop⟩ : ∃ top, top = m - 1 := ⟨_, rfl⟩
  obtain ⟨ln, hln⟩ : ∃ ln, ln = m := ⟨_, rfl⟩
  have HBN := Lib.hid (fun t x0 q (h : x0 + t = top) => blS_next ns K top h q)
  obtain ⟨f, hf⟩ : ∃ f, f = blS ns K top ln := ⟨_, rfl⟩
  have HFF : Hid (∀ q, blS ns K top ln q = f q) := Lib.hid (fun q => by rw [hf])
  have hlt : top + 1 = ln := by omega
  have hKl : K < ln := by omega
  have hKli : (K : Int) < (ln : Int) := by omega
  have hlm : ln ≤ m := by omega
  rw [← hm]
  rw [show nmZ (blS ns K (m - 1) m) m = nmZ f ln by rw [hf, htop, hln]]
  clear hm h hg hf
  have hmk := run_make_row' (P := Tryz.prog) 64 4 (.bool false) 1 Tryz.underlying64 (by kernel_rfl) rfl .i64 .i64 m (by omega) (by omega)

  go_enter Tryz.func27, Tryz.ntmps27
  go_upto_region 2 with fail
  refine wp_world (fun W2 hW2 => ?_)
  have hrow : W2.rowIs (w.heap.size + 1) 4 ln (fun _ => .bool false) := by
    rw [hW2, hln]
    exact (show (w.heap.size + 1) = (w.alloc (.cells #[.slice a m c, .int .i64 out] 24)).heap.size by simp) ▸ World.rowIs_made (w.alloc (.cells #[.slice a m c, .int .i64 out] 24)) (.bool false) m 4
  have H2q : Blk W2 w.heap.size [.slice a m c, .int .i64 out] ∧ Below w.heap.size w W2 := by rw [hW2]; exact ⟨(Blk.new _ _ _ _ rfl).alloc _, by (repeat (first | exact Below.refl _ _ | assumption | (refine Below.setCell ?_ (by first | (simp; done) | (simp; omega) | omega) _) | (refine Below.drew ?_) | (refine below_drewN ?_ _) | (refine Below.alloc ?_ (by first | (simp; done) | (simp; omega) | omega) _) | (refine Below.trans ?_ (Below.mono (by assumption) (by first | (simp; done) | (simp; omega) | omega)))))⟩
  obtain ⟨pg, hpg⟩ : ∃ pg, pg = w.heap.size := ⟨_, rfl⟩
  obtain ⟨rb, hrb⟩ : ∃ rb, rb = w.heap.size + 1 := ⟨_, rfl⟩
  have HNE : Hid (rb ≠ pg ∧ w.heap.size ≤ rb) := Lib.hid (by omega)
  have H2p : W2.rowIs rb 4 ln (fun _ => .bool false) ∧ Blk W2 pg [.slice a m c, .int .i64 out] ∧ Below w.heap.size w W2 := ⟨by rw [hrb]; exact hrow, by rw [hpg]; exact H2q.1, H2q.2⟩
  rw [← hrb, ← hpg]
  obtain rfl : ln = m := hln
  clear hrow hrb hpg H2q
  have H2 : Hid (W2.rowIs rb 4 ln (fun _ => .bool false) ∧ Blk W2 pg [.slice a ln c, .int .i64 out] ∧ Below w.heap.size w W2) := Lib.hid H2p
  have HLT := Lib.hid hlt
  have HTOP := Lib.hid htop
  clear hW2 hmk H2p htop hlt 
  have r0 := H2.out.1.cell hKl
  have r1 := H2.out.1.frozen K
  have rl := H2.out.1.lt
  go_upto_region 3 with fail
  refine wp_world (fun W3 hW3 => ?_)
  have H3 : Hid (W3.rowIs rb 4 ln (fun q => .bool (blS ns K top 0 q)) ∧ Blk W3 pg [.slice a ln c, .int .i64 out] ∧ Below w.heap.size w W3) := Lib.hid (by
    rw [hW3]
    refine ⟨World.rowIs.congr (World.rowIs.set H2.out.1 K _) (fun q _ => ?_), H2.out.2.1.far _ _ HNE.out.1, H2.out.2.2.setCell HNE.out.2 _⟩
    by_cases e : q = K
    · rw [if_pos e]; simp [blS, e]
    · rw [if_neg e]; simp [blS, e])
  clear hW3 r0 r1 rl H2
  have g0 := H3.out.2.1.c 0 _ rfl
  have gl := H3.out.2.1.lt
  go_wp2_with fail
  clear g0 gl
  go_loopw [6] (fun si wr => ∃ (t : Nat) (e : Int), t ≤ ln ∧ si = .int .i64 e ∧ e = (top : Int) - t ∧ wr.rowIs rb 4 ln (fun q => .bool (blS ns K top t q)) ∧ Blk wr pg [.slice a ln c, .int .i64 out] ∧ Below w.heap.size w wr) (fun si _ => (intOf si + 1).toNat)
  case atStart => exact ⟨0, _, Nat.zero_le _, rfl, by have := HTOP.out; have := HLT.out; omega, H3.out.1, H3.out.2.1, H3.out.2.2⟩
  case round =>
    obtain ⟨t, e, ht, rfl, he, hR, hK, hB⟩ := hrel
    have HR := Lib.hid hR; have HK2 := Lib.hid hK; have HB := Lib.hid hB
    clear hR hK hB H3
    have hlt := HLT.out
    by_cases htm : t < ln
    · obtain ⟨x0, hx0⟩ : ∃ x0 : Nat, e = (x0 : Int) := ⟨e.toNat, by omega⟩
      subst hx0
      have hti : x0 + t = top := by omega
      have hxl : x0 < ln := by omega
      have hxli : (x0 : Int) < (ln : Int) := by omega
      have hxm : x0 < ln := by omega
      have hxmi : (x0 : Int) < (ln : Int) := by omega
      have hx2 : x0 < ns.length := by rw [← HM.out]; exact hxm
      obtain ⟨n, hn⟩ : ∃ n, ns[x0]? = some n := ⟨_, List.getElem?_eq_getElem hx2⟩
      obtain ⟨b, off, rfl, hna, hnb⟩ := HH.out.get hn
      obtain ⟨op, ins, ints, reals, ia, ic, na, nc, ra, rc⟩ := n
      have hins : insO ns x0 = ins := by unfold insO; rw [hn]
      have HIN := Lib.hid (nd_in HZ0.out.2.2.1 hx2)
      have HNA := Lib.hid hna
      have HD := Lib.hid (fun q => HBN.out t x0 q hti)
      rw [hins] at HIN HD
      obtain ⟨B, hBB⟩ : ∃ B, B = blS ns K top t := ⟨_, rfl⟩
      rw [← hBB] at HD HR
      obtain ⟨p, hp⟩ : ∃ p, p = B x0 := ⟨_, rfl⟩
      have r0 := HR.out.cell hxl
      rw [← hp] at r0 HD
      have rl := HR.out.lt
      clear hn hna hnb hins hBB hp hx2 he hlt
      cases p
      · go_wp2_with fail
        go_roundw
        case rel => exact ⟨t + 1, _, by omega, rfl, by omega, World.rowIs.congr HR.out (fun q _ => by rw [HD.out q]; simp), HK2.out, HB.out⟩
        case measure => simp [intOf] <;> omega
      · have g0 := HK2.out.c 0 _ rfl
        have gl := HK2.out.lt
        have c1 := (HNA.out.past HB.out).c1
        have l1 := cell_lt c1; simp only at c1 l1
        go_upto_region 8 with fail
        clear g0 gl c1 l1 r0 rl
        go_loopw [38] (fun sj wq => ∃ j : Nat, j ≤ ins.length ∧ sj = .int .i64 j ∧ wq.rowIs rb 4 ln (fun q => .bool (blT B ins j q)) ∧ Blk wq pg [.slice (some ⟨b, off, none⟩) ln c, .int .i64 out] ∧ Below w.heap.size w wq) (fun sj _ => ins.length - (intOf sj).toNat)
        case atStart => exact ⟨0, Nat.zero_le _, rfl, World.rowIs.congr HR.out (fun q _ => by rw [blT_zero]), HK2.out, HB.out⟩
        case round =>
          obtain ⟨j, hj, rfl, hR2, hK3, hT2⟩ := hrel
          clear HR HK2 HB
          have HR2 := Lib.hid hR2; have HK3 := Lib.hid hK3; have HT2 := Lib.hid hT2
          clear hR2 hK3 hT2
          by_cases hjl : j < ins.length
          · have hjli : (j : Int) < (ins.length : Int) := by omega
            have hj3 : j ≤ 3 := by have := HIN.out.2.1; omega
            obtain ⟨u, hu⟩ : ∃ u, ins[j]? = some u := ⟨_, List.getElem?_eq_getElem hjl⟩
            have hgd : ins.getD j 0 = u := by rw [List.getD_eq_getElem?_getD, hu, Option.getD_some]
            have hur := HIN.out.1 j hjl
            rw [hgd] at hur
            obtain ⟨x, hx⟩ : ∃ x : Nat, u = (x : Int) := ⟨u.toNat, by omega⟩
            subst hx
            have hyl : x < ln := by omega
            have hyli : (x : Int) < (ln : Int) := by omega
            obtain ⟨bi, oi, rfl, ci⟩ := (HNA.out.i.past HT2.out).one hu
            have li := cell_lt ci; simp only at li
            have HNX := Lib.hid (fun q => blT_succ B ins j q hu)
            have r0 := HR2.out.cell hyl
            have r1 := HR2.out.frozen x
            have rl := HR2.out.lt
            clear hu hgd hur
            go_wp2_with fail
            go_roundw
            case rel =>
              refine ⟨j + 1, by omega, by go_num, World.rowIs.congr (World.rowIs.set HR2.out x _) (fun q _ => ?_), HK3.out.far _ _ HNE.out.1, HT2.out.setCell HNE.out.2 _⟩
              rw [HNX.out q]
              by_cases e : q = x
              · rw [if_pos e, if_pos e]
              · rw [if_neg e, if_neg e]
            case measure => simp [intOf] <;> omega
          · have hjli : ¬ (j : Int) < (ins.length : Int) := by omega
            obtain rfl : j = ins.length := by omega
            go_wp2_with fail
            go_roundw
            case rel => exact ⟨t + 1, _, by omega, rfl, by omega, World.rowIs.congr HR2.out (fun q _ => by rw [HD.out q, blT_all]; simp), HK3.out, HT2.out⟩
            case measure => simp [intOf] <;> omega
    · obtain rfl : t = ln := by omega
      have hneg : e < 0 := by omega
      have HRF : Hid (wr.rowIs rb 4 t (fun q => .bool (f q))) := Lib.hid (World.rowIs.congr HR.out (fun q _ => by rw [HFF.out q]))
      clear he HR hlt HLT
      have rl := HRF.out.lt
      go_wp2_with fail
      clear rl
      go_loopw [9, 48] (fun sr sl wr => ∃ (k : Nat) (u : Value), k ≤ t ∧ sl = .int .i64 k ∧ u = sr ∧ NmR w wr u (nmZ f k) ∧ wr.rowIs rb 4 t (fun q => .bool (f q)) ∧ ∀ b, u.ownBlock = some b → b ≠ rb) (fun _ sl _ => t - (intOf sl).toNat)
      case atStart => exact ⟨0, _, Nat.zero_le _, rfl, rfl, ⟨World.ownsRow_nil _ _ _ _, HB.out⟩, HRF.out, fun b h => by simp [Value.ownBlock] at h⟩
      case round =>
        obtain ⟨k, u, hk, rfl, rfl, hM, hR, hne⟩ := hrel
        have HMM := Lib.hid hM; have HR2 := Lib.hid hR; have HNO := Lib.hid hne
        clear HRF
        by_cases hin : k < t
        · have hini : (k : Int) < (t : Int) := by omega
          have r0 := hR.cell hin
          have rl := hR.lt
          have hL := nmZ_len f k
          have hbs := hM.bel.size
          have HF := Lib.hid (show nmZ f (k + 1) = if f k = true then nmZ f k ++ [(k : Int)] else nmZ f k from rfl)
          obtain ⟨L, hLL⟩ : ∃ L, L = nmZ f k := ⟨_, rfl⟩
          rw [← hLL] at HMM HF hL
          obtain ⟨b, hb⟩ : ∃ b, b = f k := ⟨_, rfl⟩
          rw [← hb] at r0 HF
          clear hR hM hLL hb hne
          cases b
          · go_wp2_with fail
            go_roundw
            case rel => exact ⟨k + 1, _, by omega, by go_num, rfl, by rw [HF.out]; simpa using HMM.out, HR2.out, HNO.out⟩
            case measure => simp [intOf] <;> omega
          · go_wp2_with (first | (at_builtin; refine wpList_append_lies _ rfl _ _ _ rfl w.heap.size 3 i0 (.int .i64 0) 1 8 Tryz.underlying25 hi0 hz0 hz1 hz2 rfl (by decide) u L.length (L.map (Value.int .i64)) rfl (own_past HMM.out.own (by (repeat (first | exact Below.refl _ _ | assumption | (refine Below.setCell ?_ (by first | (simp; done) | (simp; omega) | omega) _) | (refine Below.drew ?_) | (refine below_drewN ?_ _) | (refine Below.alloc ?_ (by first | (simp; done) | (simp; omega) | omega) _) | (refine Below.trans ?_ (Below.mono (by assumption) (by first | (simp; done) | (simp; omega) | omega))))))) ⟨wr.heap.size, 0, none⟩ 1 1 [.int .i64 k] rfl rfl (by intro j u hj; match j, hj with | 0, hj => (simp at hj; subst hj; simp [Addr.add])) (by intro u hu; simp at hu; subst hu; rfl) (by decide) (by unfold maxLen; omega) (by omega) (by simp; omega) _ rfl ?_; intro g' cap w7 hown hgrow hat hlt))
            have HN := Lib.hid (NmR.app HMM.out (by (repeat (first | exact Below.refl _ _ | assumption | (refine Below.setCell ?_ (by first | (simp; done) | (simp; omega) | omega) _) | (refine Below.drew ?_) | (refine below_drewN ?_ _) | (refine Below.alloc ?_ (by first | (simp; done) | (simp; omega) | omega) _) | (refine Below.trans ?_ (Below.mono (by assumption) (by first | (simp; done) | (simp; omega) | omega)))))) hown hgrow)
            have hR7 := Lib.hid ((World.rowIs.of_block HR2.out (((Below.refl wr.heap.size wr).alloc (Nat.le_refl _) _).block _ rl)).of_block (hgrow.block rb (by simp; omega) (fun e => HNO.out rb e.symm rfl)))
            have hG7 : Hid (g' ≠ rb) := Lib.hid (by
              rcases hat with h | h
              · exact HNO.out _ h
              · simp at h; omega)
            clear hown hgrow hat hlt
            go_roundw
            case rel => first
              | exact ⟨k + 1, _, by omega, by go_num, rfl, by rw [HF.out]; simpa using HN.out, hR7.out, fun b hb => by simp [Value.ownBlock] at hb; subst hb; exact hG7.out⟩
              | exact ⟨_, _, _, _, ⟨k + 1, by omega, by go_num, by rw [HF.out]; simpa using HN.out, hR7.out, fun b hb => by simp [Value.ownBlock] at hb; subst hb; exact hG7.out⟩, rfl, rfl, rfl, rfl⟩
            case measure => simp [intOf] <;> omega
        · have hini : ¬ (k : Int) < (t : Int) := by omega
          obtain rfl : k = t := by omega
          go_wp2_with fail
          go_ret
          exact ⟨u, rfl, HMM.out⟩
end Go.Proofs.YtbclecoblcfboaaGreatDoor
