/- Rows of numbers that grow. No condition. (with: CtE, CtF) -/
import Derived.Test.YtbclecoblcfboaaGreatDoorCA
import Derived.Test.YtbclecoblcfboaaGreatDoorQF
import Derived.Test.YtbclecoblcfboaaGreatDoorCtD
import Derived.Test.YtbclecoblcfboaaGreatDoorQE
import Derived.Test.YtbclecoblcfboaaGreatDoorCtB
namespace Go.Proofs.YtbclecoblcfboaaGreatDoor
open Go Go.RowKit
/-- The numbers below n for which f. -/
def nmZ (f : Nat → Bool) : Nat → List Int
  | 0 => []
  | i + 1 => if f i = true then nmZ f i ++ [(i : Int)] else nmZ f i
theorem nmZ_len (f : Nat → Bool) (n : Nat) : (nmZ f n).length ≤ n := by
  induction n with
  | zero => exact Nat.le_refl _
  | succ n ih =>
    unfold nmZ
    split
    · rw [List.length_append]; simp; omega
    · omega
/-- A row of numbers that grows. -/
structure NmR (w wr : World) (u : Value) (l : List Int) : Prop where
  own : wr.ownsRow w.heap.size 3 1 u l.length (l.map (Value.int .i64))
  bel : Below w.heap.size w wr
theorem NmR.nil (w : World) : NmR w w (.slice none 0 0) [] := ⟨World.ownsRow_nil _ _ _ _, Below.refl _ _⟩
theorem NmR.past {w wr wy : World} {u : Value} {l : List Int} (k : NmR w wr u l) (h : Below wr.heap.size wr wy) : NmR w wy u l := ⟨own_past k.own h, k.bel.trans (h.mono k.bel.size)⟩
theorem NmR.app {w wr wa w1 : World} {u u' : Value} {l : List Int} {x : Int} (k0 : NmR w wr u l) (hb : Below wr.heap.size wr wa) (hown : w1.ownsRow w.heap.size 3 1 u' (l.length + 1) (l.map (Value.int .i64) ++ [.int .i64 x])) (hg : wa.grownBy w1 u.ownBlock) : NmR w w1 u' (l ++ [x]) := by
  have k := k0.past hb
  refine ⟨by simpa using hown, k.bel.grown hg k.bel.size (fun j hj => ?_)⟩
  exact (k.own.lt j hj).1
theorem NmR.cells {w wr : World} {u : Value} {l : List Int} (k : NmR w wr u l) : ∃ (g : Nat) (a : Option Addr) (c : Nat), u = .slice a l.length c ∧ (0 < l.length → a = some ⟨g, 0, none⟩) ∧ ∀ i, i < l.length → wr.cell? ⟨g, 0 + i, none⟩ = some (.int .i64 (l.getD i 0)) := by
  rcases Nat.eq_zero_or_pos l.length with h0 | h0
  · rcases k.own.2 with ⟨h1, h2⟩ | ⟨g, cap, cur, h1, -⟩
    · rw [h2]
      exact ⟨0, none, 0, by rw [h1], fun h => by omega, fun i hi => by omega⟩
    · exact ⟨g, _, cap, h1, fun h => by omega, fun i hi => by omega⟩
  · obtain ⟨g, c, rfl, -, -, -, -⟩ := own_form k.own h0
    have hc := k.own.cells (g := g) rfl
    refine ⟨g, _, c, rfl, fun _ => rfl, fun i hi => ?_⟩
    have := hc i (.int .i64 (l.getD i 0)) (by simp [hi])
    rw [Go.WideShapes.add_plain] at this
    exact this
end Go.Proofs.YtbclecoblcfboaaGreatDoor

namespace Go.Proofs.YtbclecoblcfboaaGreatDoor
open Go Go.RowKit
/-- What stored hands back. -/
def StoP (ns : List NodeD) (o : Nat) (C : Nat → Int) (w : World) (e : Ending) (w' : World) : Prop := ∃ b, e = .returned (.slice (some ⟨b, 0, none⟩) ns.length ns.length) ∧ w'.rowIs b 4 ns.length (fun q => .bool (stS ns o C ns.length q)) ∧ w.heap.size ≤ b ∧ Below w.heap.size w w'
set_option maxRecDepth 100000 in
set_option maxHeartbeats 6400000 in
theorem stored_yes (a : Option Addr) (c : Nat) (ns : List NodeD) (out : Int) (ca : Option Addr) (cc : Nat) (cut : List Int) (w : World) (h : IsNodes w a c ns) (hcut : IntsAt 0 w ca cut) (hg : gE ns out = 0) (hlen : cut.length = ns.length) :
    Calls Tryz.prog 31 #[.agg #[.slice a ns.length c, .int .i64 out], .slice ca cut.length cc] w (StoP ns out.toNat (fun i => cut.getD i 0) w) := by
  have HH := Lib.hid h
  have HZ0 := Lib.hid (gE_ok hg)
  obtain ⟨o, ho⟩ : ∃ o : Nat, out = (o : Int) := ⟨out.toNat, by have := HZ0.out; omega⟩
  subst ho
  rw [Int.toNat_natCast]
  obtain ⟨C, hC⟩ : ∃ C : Nat → Int, C = fun i => cut.getD i 0 := ⟨_, rfl⟩
  rw [← hC]
  rw [hlen]
  obtain ⟨bc, oc, hca, hcc⟩ := hcut.get
  rw [hlen] at hca hcc
  obtain rfl := hca HZ0.out.1
  obtain ⟨m, hm⟩ : ∃ m, m = ns.length := ⟨_, rfl⟩
  have HM := Lib.hid hm
  have hm1 : m ≤ 100 := by have := HZ0.out.2.1; omega
  have hom : o < m := by have := HZ0.out; omega
  have homi : (o : Int) < (m : Int) := by omega
  have HCC : Hid (∀ w', Below w.heap.size w w' → ∀ i, i < m → w'.cell? ⟨bc, oc + i, none⟩ = some (.int .i64 (C i))) := Lib.hid (fun w' hb i hi => by
    have h1 := hcc i (by rw [← hm]; exact hi)
    rw [hb.cell (p := ⟨bc, oc + i, none⟩) (cell_lt h1), h1, hC])
  have HF : Hid (∀ b w', w'.rowIs b 4 m (fun q => .bool (stS ns o C m q)) → w.heap.size ≤ b → Below w.heap.size w w' → StoP ns o C w (.returned (.slice (some ⟨b, 0, none⟩) m m)) w') := Lib.hid (by subst hm; exact fun b w' h1 h2 h3 => ⟨b, rfl, h1, h2, h3⟩)
  rw [← hm]
  clear h hg hcut hC hca hcc hm hlen
  have hmk := run_make_row' (P := Tryz.prog) 64 4 (.bool false) 1 Tryz.underlying64 (by kernel_rfl) rfl .i64 .i64 m (by omega) (by omega)
  go_enter Tryz.func31, Tryz.ntmps31
  go_upto_region 2 with fail
  refine wp_world (fun W2 hW2 => ?_)
  have hrow : W2.rowIs (w.heap.size + 1) 4 m (fun _ => .bool false) := by
    rw [hW2]
    exact (show (w.heap.size + 1) = (w.alloc (.cells #[.slice a m c, .int .i64 o] 24)).heap.size by simp) ▸ World.rowIs_made (w.alloc (.cells #[.slice a m c, .int .i64 o] 24)) (.bool false) m 4
  have H2p : Blk W2 w.heap.size [.slice a m c, .int .i64 o] ∧ Below w.heap.size w W2 := by rw [hW2]; exact ⟨(Blk.new _ _ _ _ rfl).alloc _, by (repeat (first | exact Below.refl _ _ | assumption | (refine Below.setCell ?_ (by first | (simp; done) | (simp; omega) | omega) _) | (refine Below.drew ?_) | (refine below_drewN ?_ _) | (refine Below.alloc ?_ (by first | (simp; done) | (simp; omega) | omega) _) | (refine Below.trans ?_ (Below.mono (by assumption) (by first | (simp; done) | (simp; omega) | omega)))))⟩
  obtain ⟨rb, hrb⟩ : ∃ rb, rb = w.heap.size + 1 := ⟨_, rfl⟩
  have H2 : Hid (W2.rowIs rb 4 m (fun _ => .bool false) ∧ Blk W2 w.heap.size [.slice a m c, .int .i64 o] ∧ Below w.heap.size w W2 ∧ rb ≠ w.heap.size ∧ w.heap.size ≤ rb) := Lib.hid ⟨by rw [hrb]; exact hrow, H2p.1, H2p.2, by omega, by omega⟩
  rw [← hrb]
  clear hW2 hrow hmk H2p hrb
  have g1 := H2.out.2.1.c 1 _ rfl
  have gl := H2.out.2.1.lt
  have r0 := H2.out.1.cell hom
  have r1 := H2.out.1.frozen o
  have rl := H2.out.1.lt
  go_upto_region 3 with fail
  refine wp_world (fun W3 hW3 => ?_)
  have H3 : Hid (W3.rowIs rb 4 m (fun q => .bool (stS ns o C 0 q)) ∧ Blk W3 w.heap.size [.slice a m c, .int .i64 o] ∧ Below w.heap.size w W3 ∧ w.heap.size ≤ rb) := Lib.hid (by
    rw [hW3]
    refine ⟨World.rowIs.congr (World.rowIs.set H2.out.1 o _) (fun q _ => ?_), H2.out.2.1.far _ _ H2.out.2.2.2.1, H2.out.2.2.1.setCell H2.out.2.2.2.2 _, H2.out.2.2.2.2⟩
    by_cases e : q = o
    · rw [if_pos e]; simp [stS, e]
    · rw [if_neg e]; simp [stS, e])
  clear hW3 g1 gl r0 r1 rl H2
  have g0 := H3.out.2.1.c 0 _ rfl
  have gl := H3.out.2.1.lt
  go_wp2_with fail
  clear g0 gl
  go_loopw [21] (fun s21 wr => ∃ i : Nat, i ≤ m ∧ s21 = .int .i64 i ∧ wr.rowIs rb 4 m (fun q => .bool (stS ns o C i q)) ∧ Below w.heap.size w wr) (fun s21 _ => m - (intOf s21).toNat)
  case atStart => exact ⟨0, Nat.zero_le _, rfl, H3.out.1, H3.out.2.2.1⟩
  case round =>
    obtain ⟨i, hi, rfl, hR, hB⟩ := hrel
    have HR := Lib.hid hR; have HB := Lib.hid hB
    clear hR hB
    by_cases him : i < m
    · have himi : (i : Int) < (m : Int) := by omega
      have him2 : i < ns.length := by rw [← HM.out]; exact him
      obtain ⟨n, hn⟩ : ∃ n, ns[i]? = some n := ⟨_, List.getElem?_eq_getElem him2⟩
      obtain ⟨b, off, rfl, hna, hnb⟩ := HH.out.get hn
      have hna2 := hna.past HB.out
      obtain ⟨op, ins, ints, reals, ia, ic, na, nc, ra, rc⟩ := n
      have hins : insO ns i = ins := by unfold insO; rw [hn]
      have HIN := Lib.hid (nd_in HZ0.out.2.2.1 him2)
      have HSX : Hid (∀ j (x : Nat), ins[j]? = some (x : Int) → ∀ q, stT ns o C i (j + 1) q = if q = x then (stT ns o C i j x || C x != C i) else stT ns o C i j q) := Lib.hid (fun j x hx q => stT_succ ns o C i j q (by rw [hins]; exact hx))
      have HSA : Hid (∀ q, stT ns o C i ins.length q = stS ns o C (i + 1) q) := Lib.hid (fun q => by rw [← hins]; exact stT_all ns o C i q)
      rw [hins] at HIN
      have HI := Lib.hid hna.i
      have c0 : wr.cell? ⟨b, off + i * 4, none⟩ = some (.string op) := hna2.c0
      have c1 : wr.cell? ⟨b, off + i * 4 + 1, none⟩ = some (.slice ia ins.length ic) := hna2.c1
      have c2 : wr.cell? ⟨b, off + i * 4 + 2, none⟩ = some (.slice na ints.length nc) := hna2.c2
      have c3 : wr.cell? ⟨b, off + i * 4 + 3, none⟩ = some (.slice ra reals.length rc) := hna2.c3
      have l0 := cell_lt c0; simp only at l0
      clear hn hna hnb hna2 hins him2
      go_upto_region 6 with fail
      refine wp_world (fun W4 hW4 => ?_)
      have H4p : Blk W4 wr.heap.size [.string op, .slice ia ins.length ic, .slice na ints.length nc, .slice ra reals.length rc] ∧ Below wr.heap.size wr W4 := by rw [hW4]; exact ⟨Blk.new _ _ _ _ rfl, by (repeat (first | exact Below.refl _ _ | assumption | (refine Below.setCell ?_ (by first | (simp; done) | (simp; omega) | omega) _) | (refine Below.drew ?_) | (refine below_drewN ?_ _) | (refine Below.alloc ?_ (by first | (simp; done) | (simp; omega) | omega) _) | (refine Below.trans ?_ (Below.mono (by assumption) (by first | (simp; done) | (simp; omega) | omega)))))⟩
      obtain ⟨nb, hnb⟩ : ∃ nb, nb = wr.heap.size := ⟨_, rfl⟩
      have H4 : Hid (Blk W4 nb [.string op, .slice ia ins.length ic, .slice na ints.length nc, .slice ra reals.length rc] ∧ Below w.heap.size w W4 ∧ W4.rowIs rb 4 m (fun q => .bool (stT ns o C i 0 q))) := Lib.hid ⟨by rw [hnb]; exact H4p.1, HB.out.trans (H4p.2.mono HB.out.size), World.rowIs.congr (HR.out.of_block (H4p.2.block _ HR.out.lt)) (fun q _ => by rw [stT_zero])⟩
      rw [← hnb]
      clear hW4 c0 c1 c2 c3 l0 hnb H4p HB HR
      have m1 := H4.out.1.c 1 _ rfl; have ml := H4.out.1.lt
      go_wp2_with fail
      clear m1 ml
      go_loopw [29] (fun s29 wq => ∃ j : Nat, j ≤ ins.length ∧ s29 = .int .i64 j ∧ wq.rowIs rb 4 m (fun q => .bool (stT ns o C i j q)) ∧ Below w.heap.size w wq) (fun s29 _ => ins.length - (intOf s29).toNat)
      case atStart => exact ⟨0, Nat.zero_le _, rfl, H4.out.2.2, H4.out.2.1⟩
      case round =>
        obtain ⟨j, hj, rfl, hR2, hT2⟩ := hrel
        have HR2 := Lib.hid hR2; have HT2 := Lib.hid hT2
        clear hR2 hT2
        by_cases hjl : j < ins.length
        · have hjli : (j : Int) < (ins.length : Int) := by omega
          have hj3 : j ≤ 3 := by have := HIN.out.2.1; omega
          obtain ⟨u, hu⟩ : ∃ u, ins[j]? = some u := ⟨_, List.getElem?_eq_getElem hjl⟩
          have hgd : ins.getD j 0 = u := by rw [List.getD_eq_getElem?_getD, hu, Option.getD_some]
          have hur := HIN.out.1 j hjl
          rw [hgd] at hur
          obtain ⟨x, hx⟩ : ∃ x : Nat, u = (x : Int) := ⟨u.toNat, by omega⟩
          subst hx
          have hxi : x < i := by omega
          have hxl : x < m := by omega
          have hxli : (x : Int) < (m : Int) := by omega
          obtain ⟨bi, oi, rfl, ci⟩ := (HI.out.past HT2.out).one hu
          have li := cell_lt ci; simp only at li
          have kc := HCC.out _ HT2.out i him
          have kx := HCC.out _ HT2.out x hxl
          have kl := cell_lt kc; simp only at kl
          have HNX := Lib.hid (HSX.out j x hu)
          have rx := HR2.out.cell hxl
          have r1 := HR2.out.frozen x
          have rl := HR2.out.lt
          obtain ⟨v, hv⟩ : ∃ v, v = C i := ⟨_, rfl⟩
          obtain ⟨y, hy⟩ : ∃ y, y = C x := ⟨_, rfl⟩
          obtain ⟨p, hp⟩ : ∃ p, p = stT ns o C i j x := ⟨_, rfl⟩
          rw [← hv] at kc HNX
          rw [← hy] at kx HNX
          rw [← hp] at rx HNX
          clear hu hgd hur hv hy hp
          have hd : ∀ V : World, Below V.heap.size V V.drew := fun V => (Below.refl _ _).drew
          have HD := Lib.hid hd
          clear hd
          have HCW : Hid (wr.drew.cell? ⟨rb, x, none⟩ = some (.bool p) ∧ wr.drew.cell? ⟨bc, oc + x, none⟩ = some (.int .i64 y) ∧ wr.drew.cell? ⟨bc, oc + i, none⟩ = some (.int .i64 v)) := Lib.hid ⟨rx, kx, kc⟩
          clear kx kc
          cases p
          case true =>
            go_upto_region 9 with fail
            refine wp_region_C (fun w' => w'.cell? ⟨rb, x, none⟩ = some (.bool true) ∧ w'.cell? ⟨bc, oc + x, none⟩ = some (.int .i64 y) ∧ w'.cell? ⟨bc, oc + i, none⟩ = some (.int .i64 v)) 18 19 (by kernel_rfl) rfl ?_
            have hC := HCW.out
            refine wpAnyC_take (i := 0) (v := .slice (some ⟨rb, 0, none⟩) m m) rfl (by kernel_rfl) (by kernel_rfl) (fun _ _ _ h => h) (.inl ⟨rfl, fun w' hw' => ?_⟩) hC ?_
            · obtain ⟨k0, k1, k2⟩ := hw'
              go_simp
            refine wpAnyC_act (by rfl) ?_
            simp only [Act.put, List.setIfInBounds_toArray, List.set_cons_zero, List.set_cons_succ]
            refine wpAnyC_take (i := 1) (v := .int .i64 x) rfl (by kernel_rfl) (by kernel_rfl) (fun _ _ _ h => h) (.inl ⟨rfl, fun w' hw' => ?_⟩) hC ?_
            · obtain ⟨k0, k1, k2⟩ := hw'
              go_simp
            refine wpAnyC_act (by rfl) ?_
            simp only [Act.put, List.setIfInBounds_toArray, List.set_cons_zero, List.set_cons_succ]
            refine wpAnyC_take (i := 2) (v := .slice (some ⟨rb, 0, none⟩) m m) rfl (by kernel_rfl) (by kernel_rfl) (fun _ _ _ h => h) (.inl ⟨rfl, fun w' hw' => ?_⟩) hC ?_
            · obtain ⟨k0, k1, k2⟩ := hw'
              go_simp
            refine wpAnyC_act (by rfl) ?_
            simp only [Act.put, List.setIfInBounds_toArray, List.set_cons_zero, List.set_cons_succ]
            refine wpAnyC_take (i := 3) (v := .int .i64 x) rfl (by kernel_rfl) (by kernel_rfl) (fun _ _ _ h => h) (.inl ⟨rfl, fun w' hw' => ?_⟩) hC ?_
            · obtain ⟨k0, k1, k2⟩ := hw'
              go_simp
            refine wpAnyC_act (by rfl) ?_
            simp only [Act.put, List.setIfInBounds_toArray, List.set_cons_zero, List.set_cons_succ]
            refine wpAnyC_take (i := 4) (v := .pointer (some ⟨rb, x, none⟩)) rfl (by kernel_rfl) (by kernel_rfl) (fun _ _ _ h => h) (.inl ⟨rfl, fun w' hw' => ?_⟩) hC ?_
            · obtain ⟨k0, k1, k2⟩ := hw'
              go_simp
            refine wpAnyC_act (by rfl) ?_
            simp only [Act.put, List.setIfInBounds_toArray, List.set_cons_zero, List.set_cons_succ]
            refine wpAnyC_take (i := 5) (v := .bool true) rfl (by kernel_rfl) (by kernel_rfl) (fun _ _ _ h => h) (.inl ⟨rfl, fun w' hw' => ?_⟩) hC ?_
            · obtain ⟨k0, k1, k2⟩ := hw'
              go_simp
            refine wpAnyC_act (by rfl) ?_
            simp only [Act.put, List.setIfInBounds_toArray, List.set_cons_zero, List.set_cons_succ]
            refine wpAnyC_take (i := 6) (v := .bool true) rfl (by kernel_rfl) (by kernel_rfl) (fun _ _ _ h => h) (.inl ⟨rfl, fun w' hw' => ?_⟩) hC ?_
            · obtain ⟨k0, k1, k2⟩ := hw'
              go_simp
            refine wpAnyC_act (by rfl) ?_
            simp only [Act.put, List.setIfInBounds_toArray, List.set_cons_zero, List.set_cons_succ]
            refine wpAnyC_take (i := 7) (v := undef) rfl (by kernel_rfl) (by kernel_rfl) (fun _ _ _ h => h) (.inr ⟨rfl, rfl⟩) hC ?_
            refine wpAnyC_act (by rfl) ?_
            simp only [Act.put, List.setIfInBounds_toArray, List.set_cons_zero, List.set_cons_succ]
            refine wpAnyC_take (i := 8) (v := undef) rfl (by kernel_rfl) (by kernel_rfl) (fun _ _ _ h => h) (.inr ⟨rfl, rfl⟩) hC ?_
            refine wpAnyC_act (by rfl) ?_
            simp only [Act.put, List.setIfInBounds_toArray, List.set_cons_zero, List.set_cons_succ]
            refine wpAnyC_take (i := 9) (v := undef) rfl (by kernel_rfl) (by kernel_rfl) (fun _ _ _ h => h) (.inr ⟨rfl, rfl⟩) hC ?_
            refine wpAnyC_act (by rfl) ?_
            simp only [Act.put, List.setIfInBounds_toArray, List.set_cons_zero, List.set_cons_succ]
            refine wpAnyC_take (i := 10) (v := undef) rfl (by kernel_rfl) (by kernel_rfl) (fun _ _ _ h => h) (.inr ⟨rfl, rfl⟩) hC ?_
            refine wpAnyC_act (by rfl) ?_
            simp only [Act.put, List.setIfInBounds_toArray, List.set_cons_zero, List.set_cons_succ]
            refine wpAnyC_take (i := 11) (v := undef) rfl (by kernel_rfl) (by kernel_rfl) (fun _ _ _ h => h) (.inr ⟨rfl, rfl⟩) hC ?_
            refine wpAnyC_act (by rfl) ?_
            simp only [Act.put, List.setIfInBounds_toArray, List.set_cons_zero, List.set_cons_succ]
            refine wpAnyC_take (i := 12) (v := undef) rfl (by kernel_rfl) (by kernel_rfl) (fun _ _ _ h => h) (.inr ⟨rfl, rfl⟩) hC ?_
            refine wpAnyC_act (by rfl) ?_
            simp only [Act.put, List.setIfInBounds_toArray, List.set_cons_zero, List.set_cons_succ]
            refine wpAnyC_take (i := 13) (v := undef) rfl (by kernel_rfl) (by kernel_rfl) (fun _ _ _ h => h) (.inr ⟨rfl, rfl⟩) hC ?_
            refine wpAnyC_act (by rfl) ?_
            simp only [Act.put, List.setIfInBounds_toArray, List.set_cons_zero, List.set_cons_succ]
            refine wpAnyC_take (i := 14) (v := undef) rfl (by kernel_rfl) (by kernel_rfl) (fun _ _ _ h => h) (.inr ⟨rfl, rfl⟩) hC ?_
            refine wpAnyC_act (by rfl) ?_
            simp only [Act.put, List.setIfInBounds_toArray, List.set_cons_zero, List.set_cons_succ]
            refine wpAnyC_take (i := 15) (v := undef) rfl (by kernel_rfl) (by kernel_rfl) (fun _ _ _ h => h) (.inr ⟨rfl, rfl⟩) hC ?_
            refine wpAnyC_act (by rfl) ?_
            simp only [Act.put, List.setIfInBounds_toArray, List.set_cons_zero, List.set_cons_succ]
            refine wpAnyC_take (i := 16) (v := .bool true) rfl (by kernel_rfl) (by kernel_rfl) (fun _ _ _ h => h) (.inl ⟨rfl, fun w' hw' => ?_⟩) hC ?_
            · obtain ⟨k0, k1, k2⟩ := hw'
              go_simp
            refine wpAnyC_act (by rfl) ?_
            simp only [Act.put, List.setIfInBounds_toArray, List.set_cons_zero, List.set_cons_succ]
            refine wpAnyC_take (i := 17) (v := .pointer (some ⟨rb, x, none⟩)) rfl (by kernel_rfl) (by kernel_rfl) (fun _ _ _ h => h) (.inl ⟨rfl, fun w' hw' => ?_⟩) hC ?_
            · obtain ⟨k0, k1, k2⟩ := hw'
              go_simp
            refine wpAnyC_act (by rfl) ?_
            simp only [Act.put, List.setIfInBounds_toArray, List.set_cons_zero, List.set_cons_succ]
            clear hC
            refine wpAnyC_one (i := 18) rfl (by kernel_rfl) (fun K hK => ?_)
            go_simp
            refine hK _ _ (fun h => by rw [getD_setSelf] at h; cases h) ?_
            clear hK K
            refine wpAnyC_done (by kernel_rfl) ?_
            go_wp2_with fail
            go_roundw
            case rel =>
              refine ⟨j + 1, by omega, by go_num, ?_, (HT2.out.setCell (by have := H3.out.2.2.2; simp only; omega) _).drew⟩
              refine World.rowIs.of_block (World.rowIs.congr (World.rowIs.set HR2.out x _) (fun q _ => ?_)) ((HD.out _).block _ (World.rowIs.set HR2.out x _).lt)
              rw [HNX.out q]
              by_cases e : q = x
              · rw [if_pos e, if_pos e]; simp
              · rw [if_neg e, if_neg e]
            case measure => simp [intOf]; omega
          case false =>
            by_cases hyv : y = v
            · have hyb : (y == v) = true := by rw [hyv]; simp
              go_upto_region 9 with fail
              refine wp_region_C (fun w' => w'.cell? ⟨rb, x, none⟩ = some (.bool false) ∧ w'.cell? ⟨bc, oc + x, none⟩ = some (.int .i64 y) ∧ w'.cell? ⟨bc, oc + i, none⟩ = some (.int .i64 v)) 18 19 (by kernel_rfl) rfl ?_
              have hC := HCW.out
              refine wpAnyC_take (i := 0) (v := .slice (some ⟨rb, 0, none⟩) m m) rfl (by kernel_rfl) (by kernel_rfl) (fun _ _ _ h => h) (.inl ⟨rfl, fun w' hw' => ?_⟩) hC ?_
              · obtain ⟨k0, k1, k2⟩ := hw'
                go_simp
              refine wpAnyC_act (by rfl) ?_
              simp only [Act.put, List.setIfInBounds_toArray, List.set_cons_zero, List.set_cons_succ]
              refine wpAnyC_take (i := 1) (v := .int .i64 x) rfl (by kernel_rfl) (by kernel_rfl) (fun _ _ _ h => h) (.inl ⟨rfl, fun w' hw' => ?_⟩) hC ?_
              · obtain ⟨k0, k1, k2⟩ := hw'
                go_simp
              refine wpAnyC_act (by rfl) ?_
              simp only [Act.put, List.setIfInBounds_toArray, List.set_cons_zero, List.set_cons_succ]
              refine wpAnyC_take (i := 2) (v := .slice (some ⟨rb, 0, none⟩) m m) rfl (by kernel_rfl) (by kernel_rfl) (fun _ _ _ h => h) (.inl ⟨rfl, fun w' hw' => ?_⟩) hC ?_
              · obtain ⟨k0, k1, k2⟩ := hw'
                go_simp
              refine wpAnyC_act (by rfl) ?_
              simp only [Act.put, List.setIfInBounds_toArray, List.set_cons_zero, List.set_cons_succ]
              refine wpAnyC_take (i := 3) (v := .int .i64 x) rfl (by kernel_rfl) (by kernel_rfl) (fun _ _ _ h => h) (.inl ⟨rfl, fun w' hw' => ?_⟩) hC ?_
              · obtain ⟨k0, k1, k2⟩ := hw'
                go_simp
              refine wpAnyC_act (by rfl) ?_
              simp only [Act.put, List.setIfInBounds_toArray, List.set_cons_zero, List.set_cons_succ]
              refine wpAnyC_take (i := 4) (v := .pointer (some ⟨rb, x, none⟩)) rfl (by kernel_rfl) (by kernel_rfl) (fun _ _ _ h => h) (.inl ⟨rfl, fun w' hw' => ?_⟩) hC ?_
              · obtain ⟨k0, k1, k2⟩ := hw'
                go_simp
              refine wpAnyC_act (by rfl) ?_
              simp only [Act.put, List.setIfInBounds_toArray, List.set_cons_zero, List.set_cons_succ]
              refine wpAnyC_take (i := 5) (v := .bool false) rfl (by kernel_rfl) (by kernel_rfl) (fun _ _ _ h => h) (.inl ⟨rfl, fun w' hw' => ?_⟩) hC ?_
              · obtain ⟨k0, k1, k2⟩ := hw'
                go_simp
              refine wpAnyC_act (by rfl) ?_
              simp only [Act.put, List.setIfInBounds_toArray, List.set_cons_zero, List.set_cons_succ]
              refine wpAnyC_take (i := 6) (v := .bool false) rfl (by kernel_rfl) (by kernel_rfl) (fun _ _ _ h => h) (.inl ⟨rfl, fun w' hw' => ?_⟩) hC ?_
              · obtain ⟨k0, k1, k2⟩ := hw'
                go_simp
              refine wpAnyC_act (by rfl) ?_
              simp only [Act.put, List.setIfInBounds_toArray, List.set_cons_zero, List.set_cons_succ]
              refine wpAnyC_take (i := 7) (v := .slice (some ⟨bc, oc, none⟩) m cc) rfl (by kernel_rfl) (by kernel_rfl) (fun _ _ _ h => h) (.inl ⟨rfl, fun w' hw' => ?_⟩) hC ?_
              · obtain ⟨k0, k1, k2⟩ := hw'
                go_simp
              refine wpAnyC_act (by rfl) ?_
              simp only [Act.put, List.setIfInBounds_toArray, List.set_cons_zero, List.set_cons_succ]
              refine wpAnyC_take (i := 8) (v := .int .i64 x) rfl (by kernel_rfl) (by kernel_rfl) (fun _ _ _ h => h) (.inl ⟨rfl, fun w' hw' => ?_⟩) hC ?_
              · obtain ⟨k0, k1, k2⟩ := hw'
                go_simp
              refine wpAnyC_act (by rfl) ?_
              simp only [Act.put, List.setIfInBounds_toArray, List.set_cons_zero, List.set_cons_succ]
              refine wpAnyC_take (i := 9) (v := .pointer (some ⟨bc, oc + x, none⟩)) rfl (by kernel_rfl) (by kernel_rfl) (fun _ _ _ h => h) (.inl ⟨rfl, fun w' hw' => ?_⟩) hC ?_
              · obtain ⟨k0, k1, k2⟩ := hw'
                go_simp
              refine wpAnyC_act (by rfl) ?_
              simp only [Act.put, List.setIfInBounds_toArray, List.set_cons_zero, List.set_cons_succ]
              refine wpAnyC_take (i := 10) (v := .int .i64 y) rfl (by kernel_rfl) (by kernel_rfl) (fun _ _ _ h => h) (.inl ⟨rfl, fun w' hw' => ?_⟩) hC ?_
              · obtain ⟨k0, k1, k2⟩ := hw'
                go_simp
              refine wpAnyC_act (by rfl) ?_
              simp only [Act.put, List.setIfInBounds_toArray, List.set_cons_zero, List.set_cons_succ]
              refine wpAnyC_take (i := 11) (v := .slice (some ⟨bc, oc, none⟩) m cc) rfl (by kernel_rfl) (by kernel_rfl) (fun _ _ _ h => h) (.inl ⟨rfl, fun w' hw' => ?_⟩) hC ?_
              · obtain ⟨k0, k1, k2⟩ := hw'
                go_simp
              refine wpAnyC_act (by rfl) ?_
              simp only [Act.put, List.setIfInBounds_toArray, List.set_cons_zero, List.set_cons_succ]
              refine wpAnyC_take (i := 12) (v := .int .i64 i) rfl (by kernel_rfl) (by kernel_rfl) (fun _ _ _ h => h) (.inl ⟨rfl, fun w' hw' => ?_⟩) hC ?_
              · obtain ⟨k0, k1, k2⟩ := hw'
                go_simp
              refine wpAnyC_act (by rfl) ?_
              simp only [Act.put, List.setIfInBounds_toArray, List.set_cons_zero, List.set_cons_succ]
              refine wpAnyC_take (i := 13) (v := .pointer (some ⟨bc, oc + i, none⟩)) rfl (by kernel_rfl) (by kernel_rfl) (fun _ _ _ h => h) (.inl ⟨rfl, fun w' hw' => ?_⟩) hC ?_
              · obtain ⟨k0, k1, k2⟩ := hw'
                go_simp
              refine wpAnyC_act (by rfl) ?_
              simp only [Act.put, List.setIfInBounds_toArray, List.set_cons_zero, List.set_cons_succ]
              refine wpAnyC_take (i := 14) (v := .int .i64 v) rfl (by kernel_rfl) (by kernel_rfl) (fun _ _ _ h => h) (.inl ⟨rfl, fun w' hw' => ?_⟩) hC ?_
              · obtain ⟨k0, k1, k2⟩ := hw'
                go_simp
              refine wpAnyC_act (by rfl) ?_
              simp only [Act.put, List.setIfInBounds_toArray, List.set_cons_zero, List.set_cons_succ]
              refine wpAnyC_take (i := 15) (v := .bool false) rfl (by kernel_rfl) (by kernel_rfl) (fun _ _ _ h => h) (.inl ⟨rfl, fun w' hw' => ?_⟩) hC ?_
              · obtain ⟨k0, k1, k2⟩ := hw'
                go_simp
              refine wpAnyC_act (by rfl) ?_
              simp only [Act.put, List.setIfInBounds_toArray, List.set_cons_zero, List.set_cons_succ]
              refine wpAnyC_take (i := 16) (v := .bool false) rfl (by kernel_rfl) (by kernel_rfl) (fun _ _ _ h => h) (.inl ⟨rfl, fun w' hw' => ?_⟩) hC ?_
              · obtain ⟨k0, k1, k2⟩ := hw'
                go_simp
              refine wpAnyC_act (by rfl) ?_
              simp only [Act.put, List.setIfInBounds_toArray, List.set_cons_zero, List.set_cons_succ]
              refine wpAnyC_take (i := 17) (v := .pointer (some ⟨rb, x, none⟩)) rfl (by kernel_rfl) (by kernel_rfl) (fun _ _ _ h => h) (.inl ⟨rfl, fun w' hw' => ?_⟩) hC ?_
              · obtain ⟨k0, k1, k2⟩ := hw'
                go_simp
              refine wpAnyC_act (by rfl) ?_
              simp only [Act.put, List.setIfInBounds_toArray, List.set_cons_zero, List.set_cons_succ]
              clear hC
              refine wpAnyC_one (i := 18) rfl (by kernel_rfl) (fun K hK => ?_)
              go_simp
              refine hK _ _ (fun h => by rw [getD_setSelf] at h; cases h) ?_
              clear hK K
              refine wpAnyC_done (by kernel_rfl) ?_
              go_wp2_with fail
              go_roundw
              case rel =>
                refine ⟨j + 1, by omega, by go_num, ?_, (HT2.out.setCell (by have := H3.out.2.2.2; simp only; omega) _).drew⟩
                refine World.rowIs.of_block (World.rowIs.congr (World.rowIs.set HR2.out x _) (fun q _ => ?_)) ((HD.out _).block _ (World.rowIs.set HR2.out x _).lt)
                rw [HNX.out q]
                by_cases e : q = x
                · rw [if_pos e, if_pos e]; simp [hyv]
                · rw [if_neg e, if_neg e]
              case measure => simp [intOf]; omega
            · have hyb : (y == v) = false := beq_false_of_ne hyv
              go_upto_region 9 with fail
              refine wp_region_C (fun w' => w'.cell? ⟨rb, x, none⟩ = some (.bool false) ∧ w'.cell? ⟨bc, oc + x, none⟩ = some (.int .i64 y) ∧ w'.cell? ⟨bc, oc + i, none⟩ = some (.int .i64 v)) 18 19 (by kernel_rfl) rfl ?_
              have hC := HCW.out
              refine wpAnyC_take (i := 0) (v := .slice (some ⟨rb, 0, none⟩) m m) rfl (by kernel_rfl) (by kernel_rfl) (fun _ _ _ h => h) (.inl ⟨rfl, fun w' hw' => ?_⟩) hC ?_
              · obtain ⟨k0, k1, k2⟩ := hw'
                go_simp
              refine wpAnyC_act (by rfl) ?_
              simp only [Act.put, List.setIfInBounds_toArray, List.set_cons_zero, List.set_cons_succ]
              refine wpAnyC_take (i := 1) (v := .int .i64 x) rfl (by kernel_rfl) (by kernel_rfl) (fun _ _ _ h => h) (.inl ⟨rfl, fun w' hw' => ?_⟩) hC ?_
              · obtain ⟨k0, k1, k2⟩ := hw'
                go_simp
              refine wpAnyC_act (by rfl) ?_
              simp only [Act.put, List.setIfInBounds_toArray, List.set_cons_zero, List.set_cons_succ]
              refine wpAnyC_take (i := 2) (v := .slice (some ⟨rb, 0, none⟩) m m) rfl (by kernel_rfl) (by kernel_rfl) (fun _ _ _ h => h) (.inl ⟨rfl, fun w' hw' => ?_⟩) hC ?_
              · obtain ⟨k0, k1, k2⟩ := hw'
                go_simp
              refine wpAnyC_act (by rfl) ?_
              simp only [Act.put, List.setIfInBounds_toArray, List.set_cons_zero, List.set_cons_succ]
              refine wpAnyC_take (i := 3) (v := .int .i64 x) rfl (by kernel_rfl) (by kernel_rfl) (fun _ _ _ h => h) (.inl ⟨rfl, fun w' hw' => ?_⟩) hC ?_
              · obtain ⟨k0, k1, k2⟩ := hw'
                go_simp
              refine wpAnyC_act (by rfl) ?_
              simp only [Act.put, List.setIfInBounds_toArray, List.set_cons_zero, List.set_cons_succ]
              refine wpAnyC_take (i := 4) (v := .pointer (some ⟨rb, x, none⟩)) rfl (by kernel_rfl) (by kernel_rfl) (fun _ _ _ h => h) (.inl ⟨rfl, fun w' hw' => ?_⟩) hC ?_
              · obtain ⟨k0, k1, k2⟩ := hw'
                go_simp
              refine wpAnyC_act (by rfl) ?_
              simp only [Act.put, List.setIfInBounds_toArray, List.set_cons_zero, List.set_cons_succ]
              refine wpAnyC_take (i := 5) (v := .bool false) rfl (by kernel_rfl) (by kernel_rfl) (fun _ _ _ h => h) (.inl ⟨rfl, fun w' hw' => ?_⟩) hC ?_
              · obtain ⟨k0, k1, k2⟩ := hw'
                go_simp
              refine wpAnyC_act (by rfl) ?_
              simp only [Act.put, List.setIfInBounds_toArray, List.set_cons_zero, List.set_cons_succ]
              refine wpAnyC_take (i := 6) (v := .bool false) rfl (by kernel_rfl) (by kernel_rfl) (fun _ _ _ h => h) (.inl ⟨rfl, fun w' hw' => ?_⟩) hC ?_
              · obtain ⟨k0, k1, k2⟩ := hw'
                go_simp
              refine wpAnyC_act (by rfl) ?_
              simp only [Act.put, List.setIfInBounds_toArray, List.set_cons_zero, List.set_cons_succ]
              refine wpAnyC_take (i := 7) (v := .slice (some ⟨bc, oc, none⟩) m cc) rfl (by kernel_rfl) (by kernel_rfl) (fun _ _ _ h => h) (.inl ⟨rfl, fun w' hw' => ?_⟩) hC ?_
              · obtain ⟨k0, k1, k2⟩ := hw'
                go_simp
              refine wpAnyC_act (by rfl) ?_
              simp only [Act.put, List.setIfInBounds_toArray, List.set_cons_zero, List.set_cons_succ]
              refine wpAnyC_take (i := 8) (v := .int .i64 x) rfl (by kernel_rfl) (by kernel_rfl) (fun _ _ _ h => h) (.inl ⟨rfl, fun w' hw' => ?_⟩) hC ?_
              · obtain ⟨k0, k1, k2⟩ := hw'
                go_simp
              refine wpAnyC_act (by rfl) ?_
              simp only [Act.put, List.setIfInBounds_toArray, List.set_cons_zero, List.set_cons_succ]
              refine wpAnyC_take (i := 9) (v := .pointer (some ⟨bc, oc + x, none⟩)) rfl (by kernel_rfl) (by kernel_rfl) (fun _ _ _ h => h) (.inl ⟨rfl, fun w' hw' => ?_⟩) hC ?_
              · obtain ⟨k0, k1, k2⟩ := hw'
                go_simp
              refine wpAnyC_act (by rfl) ?_
              simp only [Act.put, List.setIfInBounds_toArray, List.set_cons_zero, List.set_cons_succ]
              refine wpAnyC_take (i := 10) (v := .int .i64 y) rfl (by kernel_rfl) (by kernel_rfl) (fun _ _ _ h => h) (.inl ⟨rfl, fun w' hw' => ?_⟩) hC ?_
              · obtain ⟨k0, k1, k2⟩ := hw'
                go_simp
              refine wpAnyC_act (by rfl) ?_
              simp only [Act.put, List.setIfInBounds_toArray, List.set_cons_zero, List.set_cons_succ]
              refine wpAnyC_take (i := 11) (v := .slice (some ⟨bc, oc, none⟩) m cc) rfl (by kernel_rfl) (by kernel_rfl) (fun _ _ _ h => h) (.inl ⟨rfl, fun w' hw' => ?_⟩) hC ?_
              · obtain ⟨k0, k1, k2⟩ := hw'
                go_simp
              refine wpAnyC_act (by rfl) ?_
              simp only [Act.put, List.setIfInBounds_toArray, List.set_cons_zero, List.set_cons_succ]
              refine wpAnyC_take (i := 12) (v := .int .i64 i) rfl (by kernel_rfl) (by kernel_rfl) (fun _ _ _ h => h) (.inl ⟨rfl, fun w' hw' => ?_⟩) hC ?_
              · obtain ⟨k0, k1, k2⟩ := hw'
                go_simp
              refine wpAnyC_act (by rfl) ?_
              simp only [Act.put, List.setIfInBounds_toArray, List.set_cons_zero, List.set_cons_succ]
              refine wpAnyC_take (i := 13) (v := .pointer (some ⟨bc, oc + i, none⟩)) rfl (by kernel_rfl) (by kernel_rfl) (fun _ _ _ h => h) (.inl ⟨rfl, fun w' hw' => ?_⟩) hC ?_
              · obtain ⟨k0, k1, k2⟩ := hw'
                go_simp
              refine wpAnyC_act (by rfl) ?_
              simp only [Act.put, List.setIfInBounds_toArray, List.set_cons_zero, List.set_cons_succ]
              refine wpAnyC_take (i := 14) (v := .int .i64 v) rfl (by kernel_rfl) (by kernel_rfl) (fun _ _ _ h => h) (.inl ⟨rfl, fun w' hw' => ?_⟩) hC ?_
              · obtain ⟨k0, k1, k2⟩ := hw'
                go_simp
              refine wpAnyC_act (by rfl) ?_
              simp only [Act.put, List.setIfInBounds_toArray, List.set_cons_zero, List.set_cons_succ]
              refine wpAnyC_take (i := 15) (v := .bool true) rfl (by kernel_rfl) (by kernel_rfl) (fun _ _ _ h => h) (.inl ⟨rfl, fun w' hw' => ?_⟩) hC ?_
              · obtain ⟨k0, k1, k2⟩ := hw'
                go_simp
              refine wpAnyC_act (by rfl) ?_
              simp only [Act.put, List.setIfInBounds_toArray, List.set_cons_zero, List.set_cons_succ]
              refine wpAnyC_take (i := 16) (v := .bool true) rfl (by kernel_rfl) (by kernel_rfl) (fun _ _ _ h => h) (.inl ⟨rfl, fun w' hw' => ?_⟩) hC ?_
              · obtain ⟨k0, k1, k2⟩ := hw'
                go_simp
              refine wpAnyC_act (by rfl) ?_
              simp only [Act.put, List.setIfInBounds_toArray, List.set_cons_zero, List.set_cons_succ]
              refine wpAnyC_take (i := 17) (v := .pointer (some ⟨rb, x, none⟩)) rfl (by kernel_rfl) (by kernel_rfl) (fun _ _ _ h => h) (.inl ⟨rfl, fun w' hw' => ?_⟩) hC ?_
              · obtain ⟨k0, k1, k2⟩ := hw'
                go_simp
              refine wpAnyC_act (by rfl) ?_
              simp only [Act.put, List.setIfInBounds_toArray, List.set_cons_zero, List.set_cons_succ]
              clear hC
              refine wpAnyC_one (i := 18) rfl (by kernel_rfl) (fun K hK => ?_)
              go_simp
              refine hK _ _ (fun h => by rw [getD_setSelf] at h; cases h) ?_
              clear hK K
              refine wpAnyC_done (by kernel_rfl) ?_
              go_wp2_with fail
              go_roundw
              case rel =>
                refine ⟨j + 1, by omega, by go_num, ?_, (HT2.out.setCell (by have := H3.out.2.2.2; simp only; omega) _).drew⟩
                refine World.rowIs.of_block (World.rowIs.congr (World.rowIs.set HR2.out x _) (fun q _ => ?_)) ((HD.out _).block _ (World.rowIs.set HR2.out x _).lt)
                rw [HNX.out q]
                by_cases e : q = x
                · rw [if_pos e, if_pos e]; simp [hyv]
                · rw [if_neg e, if_neg e]
              case measure => simp [intOf]; omega
        · have hjli : ¬ (j : Int) < (ins.length : Int) := by omega
          obtain rfl : j = ins.length := by omega
          go_wp2_with fail
          go_roundw
          case rel => exact ⟨i + 1, by omega, by go_num, World.rowIs.congr HR2.out (fun q _ => by rw [HSA.out q]), HT2.out⟩
          case measure => simp [intOf]; omega
    · have himi : ¬ (i : Int) < (m : Int) := by omega
      obtain rfl : i = m := by omega
      go_wp2_with fail
      go_ret
      exact HF.out _ _ HR.out H3.out.2.2.2 HB.out
end Go.Proofs.YtbclecoblcfboaaGreatDoor

namespace Go.Proofs.YtbclecoblcfboaaGreatDoor
open Go Go.RowKit
/-- What Stored hands back. -/
def StrP (l : List Int) (w : World) (e : Ending) (w' : World) : Prop := ∃ u, e = .returned (.tuple #[u, .int .i64 0]) ∧ NmR w w' u l
theorem cE_ok {ns : List NodeD} {out : Int} {cut : List Int} (h : cE ns out cut = 0) : gE ns out = 0 ∧ cut.length = ns.length := by
  unfold cE at h
  by_cases hg : gE ns out = 0
  · rw [hg, fst2_0] at h
    by_cases hl : cut.length = ns.length
    · exact ⟨hg, hl⟩
    · rw [if_neg hl] at h; exact absurd h (by decide)
  · rw [fst2_n hg] at h; exact absurd h hg
set_option maxRecDepth 100000 in
set_option maxHeartbeats 1600000 in
theorem Stored_no (a : Option Addr) (c : Nat) (ns : List NodeD) (out : Int) (ca : Option Addr) (cc : Nat) (cut : List Int) (w : World) (h : IsNodes w a c ns) (hcut : IntsAt 0 w ca cut) (hg : cE ns out cut ≠ 0) :
    Calls Tryz.prog 7 #[.agg #[.slice a ns.length c, .int .i64 out], .slice ca cut.length cc] w fun e w' => e = .returned (.tuple #[.slice none 0 0, .int .i64 (cE ns out cut)]) ∧ Below w.heap.size w w' := by
  have HK := Lib.hid (fun w' hb => CheckCut_any a c ns out ca cc cut w' (h.past hb) (hcut.past hb) : ∀ w', Below w.heap.size w w' → _)
  obtain ⟨m, hm⟩ : ∃ m, m = ns.length := ⟨_, rfl⟩
  obtain ⟨l, hl⟩ : ∃ l, l = cut.length := ⟨_, rfl⟩
  obtain ⟨G, hG⟩ : ∃ G, G = cE ns out cut := ⟨_, rfl⟩
  rw [← hm, ← hG, ← hl] at HK
  rw [← hG] at hg
  rw [← hm, ← hG, ← hl]
  clear hG hm hl h hcut
  go_enter Tryz.func7, Tryz.ntmps7
  go_wp2_with (go_at_call 9; refine (HK.out _ (by (repeat (first | exact Below.refl _ _ | assumption | (refine Below.setCell ?_ (by first | (simp; done) | (simp; omega) | omega) _) | (refine Below.drew ?_) | (refine below_drewN ?_ _) | (refine Below.alloc ?_ (by first | (simp; done) | (simp; omega) | omega) _) | (refine Below.trans ?_ (Below.mono (by assumption) (by first | (simp; done) | (simp; omega) | omega))))))).mono ?_; rintro e w1 ⟨rfl, hb1⟩)
  go_ret2
  exact ⟨rfl, ((Below.refl _ _).alloc (Nat.le_refl _) _).trans (hb1.mono (by simp))⟩
set_option maxRecDepth 100000 in
set_option maxHeartbeats 3200000 in
theorem Stored_yes (a : Option Addr) (c : Nat) (ns : List NodeD) (out : Int) (ca : Option Addr) (cc : Nat) (cut : List Int) (w : World) (h : IsNodes w a c ns) (hcut : IntsAt 0 w ca cut) (hg : cE ns out cut = 0) :
    Calls Tryz.prog 7 #[.agg #[.slice a ns.length c, .int .i64 out], .slice ca cut.length cc] w (StrP (nmZ (stS ns out.toNat (fun i => cut.getD i 0) ns.length) ns.length) w) := by
  obtain ⟨i0, hi0, hz0, hz1, hz2⟩ := info_parts infoInt
  have HK := Lib.hid (fun w' hb => CheckCut_any a c ns out ca cc cut w' (h.past hb) (hcut.past hb) : ∀ w', Below w.heap.size w w' → _)
  have HS := Lib.hid (fun w' hb => stored_yes a c ns out ca cc cut w' (h.past hb) (hcut.past hb) (cE_ok hg).1 (cE_ok hg).2 : ∀ w', Below w.heap.size w w' → _)
  have hm1 : ns.length ≤ 100 := (gE_ok (cE_ok hg).1).2.1
  rw [hg] at HK
  unfold StoP at HS
  obtain ⟨m, hm⟩ : ∃ m, m = ns.length := ⟨_, rfl⟩
  obtain ⟨l, hl⟩ : ∃ l, l = cut.length := ⟨_, rfl⟩
  obtain ⟨f, hf⟩ : ∃ f, f = stS ns out.toNat (fun i => cut.getD i 0) ns.length := ⟨_, rfl⟩
  rw [← hf, ← hm, ← hl] at HS
  rw [← hm, ← hl] at HK
  rw [← hm] at hm1
  rw [← hf, ← hm, ← hl]
  clear hf hm hl h hcut hg
  go_enter Tryz.func7, Tryz.ntmps7
  go_upto_region 5 with (go_at_call 9; refine (HK.out _ (by (repeat (first | exact Below.refl _ _ | assumption | (refine Below.setCell ?_ (by first | (simp; done) | (simp; omega) | omega) _) | (refine Below.drew ?_) | (refine below_drewN ?_ _) | (refine Below.alloc ?_ (by first | (simp; done) | (simp; omega) | omega) _) | (refine Below.trans ?_ (Below.mono (by assumption) (by first | (simp; done) | (simp; omega) | omega))))))).mono ?_; rintro e w1 ⟨rfl, hb1⟩)
  have g0 := ((Blk.new w [.slice a m c, .int .i64 out] 24 _ rfl).past hb1).c 0 _ rfl
  have g1 := ((Blk.new w [.slice a m c, .int .i64 out] 24 _ rfl).past hb1).c 1 _ rfl
  have gl := ((Blk.new w [.slice a m c, .int .i64 out] 24 _ rfl).past hb1).lt
  have HB1 := Lib.hid (((Below.refl w.heap.size w).alloc (Nat.le_refl _) (.cells #[.slice a m c, .int .i64 out] 24)).trans (hb1.mono (by simp)))
  clear hb1
  go_wp2_with (go_at_call 31; refine (HS.out _ HB1.out).mono ?_; rintro e w2 ⟨rb, rfl, hR, hrb, hb2⟩)
  have HR := Lib.hid hR
  have HB2 := Lib.hid (HB1.out.trans (hb2.mono HB1.out.size))
  clear hR hrb hb2 g0 g1 gl
  go_loopw [7, 20] (fun s7 s20 wr => ∃ (i : Nat) (u : Value), i ≤ m ∧ s20 = .int .i64 i ∧ u = s7 ∧ NmR w wr u (nmZ f i) ∧ wr.rowIs rb 4 m (fun q => .bool (f q)) ∧ ∀ b, u.ownBlock = some b → b ≠ rb) (fun _ s20 _ => m - (intOf s20).toNat)
  case atStart => exact ⟨0, _, Nat.zero_le _, rfl, rfl, ⟨World.ownsRow_nil _ _ _ _, HB2.out⟩, HR.out, fun b h => by simp [Value.ownBlock] at h⟩
  case round =>
    obtain ⟨i, u, hi, rfl, rfl, hM, hR, hne⟩ := hrel
    have HM := Lib.hid hM; have HR2 := Lib.hid hR; have HNE := Lib.hid hne
    by_cases hin : i < m
    · have hini : (i : Int) < (m : Int) := by omega
      have r0 := hR.cell hin
      have rl := hR.lt
      have hL := nmZ_len f i
      have hbs := hM.bel.size
      have HF := Lib.hid (show nmZ f (i + 1) = if f i = true then nmZ f i ++ [(i : Int)] else nmZ f i from rfl)
      obtain ⟨L, hLL⟩ : ∃ L, L = nmZ f i := ⟨_, rfl⟩
      rw [← hLL] at HM HF hL
      obtain ⟨b, hb⟩ : ∃ b, b = f i := ⟨_, rfl⟩
      rw [← hb] at r0 HF
      clear hR hM hLL hb hne
      cases b
      · go_wp2_with fail
        go_roundw
        case rel => exact ⟨i + 1, _, by omega, by go_num, rfl, by rw [HF.out]; simpa using HM.out, HR2.out, HNE.out⟩
        case measure => simp [intOf]; omega
      · go_wp2_with (first | (at_builtin; refine wpList_append_lies _ rfl _ _ _ rfl w.heap.size 3 i0 (.int .i64 0) 1 8 Tryz.underlying25 hi0 hz0 hz1 hz2 rfl (by decide) u L.length (L.map (Value.int .i64)) rfl (own_past HM.out.own (by (repeat (first | exact Below.refl _ _ | assumption | (refine Below.setCell ?_ (by first | (simp; done) | (simp; omega) | omega) _) | (refine Below.drew ?_) | (refine below_drewN ?_ _) | (refine Below.alloc ?_ (by first | (simp; done) | (simp; omega) | omega) _) | (refine Below.trans ?_ (Below.mono (by assumption) (by first | (simp; done) | (simp; omega) | omega))))))) ⟨wr.heap.size, 0, none⟩ 1 1 [.int .i64 i] rfl rfl (by intro j u hj; match j, hj with | 0, hj => (simp at hj; subst hj; simp [Addr.add])) (by intro u hu; simp at hu; subst hu; rfl) (by decide) (by unfold maxLen; omega) (by omega) (by simp; omega) _ rfl ?_; intro g' cap w7 hown hgrow hat hlt))
        have HN := Lib.hid (NmR.app HM.out (by (repeat (first | exact Below.refl _ _ | assumption | (refine Below.setCell ?_ (by first | (simp; done) | (simp; omega) | omega) _) | (refine Below.drew ?_) | (refine below_drewN ?_ _) | (refine Below.alloc ?_ (by first | (simp; done) | (simp; omega) | omega) _) | (refine Below.trans ?_ (Below.mono (by assumption) (by first | (simp; done) | (simp; omega) | omega)))))) hown hgrow)
        have hR7 := Lib.hid ((World.rowIs.of_block HR2.out (((Below.refl wr.heap.size wr).alloc (Nat.le_refl _) _).block _ rl)).of_block (hgrow.block rb (by simp; omega) (fun e => HNE.out rb e.symm rfl)))
        have hG7 : Hid (g' ≠ rb) := Lib.hid (by
          rcases hat with h | h
          · exact HNE.out _ h
          · simp at h; omega)
        clear hown hgrow hat hlt
        go_roundw
        case rel => exact ⟨i + 1, _, by omega, by go_num, rfl, by rw [HF.out]; simpa using HN.out, hR7.out, fun b hb => by simp [Value.ownBlock] at hb; subst hb; exact hG7.out⟩
        case measure => simp [intOf]; omega
    · have hini : ¬ (i : Int) < (m : Int) := by omega
      obtain rfl : i = m := by omega
      go_wp2_with fail
      go_ret2
      exact ⟨_, rfl, HM.out⟩
end Go.Proofs.YtbclecoblcfboaaGreatDoor
