/- CutsMatch by the program: true. Conditions: the nodes and the cut can be read, the library's variables read as listed (LibN). -/
import Derived.Test.YtbclecoblcfboaaGreatDoorQJ
import Derived.Test.YtbclecoblcfboaaGreatDoorQK
import Derived.Test.YtbclecoblcfboaaGreatDoorQL
import Derived.Test.YtbclecoblcfboaaGreatDoorQE
import Derived.Test.YtbclecoblcfboaaGreatDoorQF
import Derived.StillTailTactics
namespace Go.Proofs.YtbclecoblcfboaaGreatDoor
open Go Go.RowKit
theorem rowIs_ints {w : World} {b n : Nat} {f : Nat → Int} (h : w.rowIs b 3 n (fun q => .int .i64 (f q))) : IntsAt 0 w (some ⟨b, 0, none⟩) ((List.range n).map f) := by
  rcases Nat.eq_zero_or_pos n with h0 | h0
  · subst h0; exact .inl rfl
  · refine .inr ⟨b, 0, rfl, Nat.zero_le _, h.lt, fun i v hv => ?_⟩
    have hi : i < n := by
      have := (List.getElem?_eq_some_iff.1 hv).1
      simpa using this
    rw [List.getElem?_map, List.getElem?_range hi] at hv
    simp only [Option.map_some, Option.some.injEq] at hv
    subst hv
    rw [Nat.zero_add]
    exact h.cell hi
/-- What Stored hands back, right or not. -/
def StAP (E : Int) (L : List Int) (w : World) (e : Ending) (w' : World) : Prop := ∃ (au : Option Addr) (nu cu : Nat), e = .returned (.tuple #[.slice au nu cu, .int .i64 E]) ∧ ((E ≠ 0 → nu = 0) ∧ (E = 0 → nu = L.length ∧ IntsAt 0 w' au L)) ∧ Below w.heap.size w w'
theorem Stored_any (a : Option Addr) (c : Nat) (ns : List NodeD) (out : Int) (ca : Option Addr) (cc : Nat) (cut : List Int) (w : World) (h : IsNodes w a c ns) (hcut : IntsAt 0 w ca cut) :
    Calls Tryz.prog 7 #[.agg #[.slice a ns.length c, .int .i64 out], .slice ca cut.length cc] w (StAP (cE ns out cut) (nmZ (stS ns out.toNat (fun i => cut.getD i 0) ns.length) ns.length) w) := by
  by_cases hg : cE ns out cut = 0
  · refine (Stored_yes a c ns out ca cc cut w h hcut hg).mono ?_
    rintro e w' ⟨u, rfl, hu⟩
    obtain ⟨au, cu, rfl, hI⟩ := hu.ints
    exact ⟨au, _, cu, by rw [hg], ⟨fun h => absurd hg h, fun _ => ⟨rfl, hI⟩⟩, hu.bel⟩
  · refine (Stored_no a c ns out ca cc cut w h hcut hg).mono ?_
    rintro e w' ⟨rfl, hb⟩
    exact ⟨none, 0, 0, rfl, ⟨fun _ => rfl, fun h => absurd h hg⟩, hb⟩
/-- The statement's boxes. -/
structure CtW (w : World) (pg pc : Nat) (a : Option Addr) (n c : Nat) (out : Int) (ca : Option Addr) (l cc : Nat) (X : World) : Prop where
  b1 : Blk X pg [.slice a n c, .int .i64 out]
  b2 : Blk X pc [.slice ca l cc]
  bel : Below w.heap.size w X
theorem CtW.past {w : World} {pg pc : Nat} {a : Option Addr} {n c : Nat} {out : Int} {ca : Option Addr} {l cc : Nat} {X X' : World} (h : CtW w pg pc a n c out ca l cc X) (hb : Below X.heap.size X X') : CtW w pg pc a n c out ca l cc X' :=
  ⟨h.b1.past hb, h.b2.past hb, h.bel.trans (hb.mono h.bel.size)⟩
set_option maxRecDepth 100000 in
set_option maxHeartbeats 6400000 in
theorem ct_no (a : Option Addr) (c : Nat) (ns : List NodeD) (out : Int) (ca : Option Addr) (cc : Nat) (cut : List Int) (w : World) (h : IsNodes w a c ns) (hcut : IntsAt 0 w ca cut) (hL : LibN w) (hg : gE ns out ≠ 0) :
    Calls Tryz.prog 3 #[.agg #[.slice a ns.length c, .int .i64 out], .slice ca cut.length cc] w fun e w' => e = .returned (.bool true) ∧ Below w.heap.size w w' := by
  have HH := Lib.hid h; have HC := Lib.hid hcut; have HL := Lib.hid hL
  have HCE := Lib.hid (fun w' hb => cutError_any a c ns out ca cc cut w' (h.past hb) (hcut.past hb) (hL.past hb).l : ∀ w', Below w.heap.size w w' → _)
  have HCC := Lib.hid (fun w' hb => CheckCut_any a c ns out ca cc cut w' (h.past hb) (hcut.past hb) : ∀ w', Below w.heap.size w w' → _)
  have HGE := Lib.hid (fun w' hb => graphError_any a c ns out w' (h.past hb) (hL.past hb).l : ∀ w', Below w.heap.size w w' → _)
  have HND := Lib.hid (fun w' hb => nodes_any w' (hL.past hb) : ∀ w', Below w.heap.size w w' → _)
  have HFU := Lib.hid (fun w' hb => Fuse_no a c ns out w' (h.past hb) hg : ∀ w', Below w.heap.size w w' → _)
  have hce : cE ns out cut = gE ns out := by unfold cE; exact fst2_n hg _
  have HST := Lib.hid (fun w' hb => Stored_no a c ns out ca cc cut w' (h.past hb) (hcut.past hb) (by rw [hce]; exact hg) : ∀ w', Below w.heap.size w w' → _)
  rw [hce] at HCE HCC HST
  obtain ⟨n, hn⟩ : ∃ n, n = ns.length := ⟨_, rfl⟩
  obtain ⟨l, hl⟩ : ∃ l, l = cut.length := ⟨_, rfl⟩
  obtain ⟨G, hG⟩ : ∃ G, G = gE ns out := ⟨_, rfl⟩
  rw [← hn, ← hl, ← hG] at HCE HCC HST
  rw [← hn, ← hG] at HFU HGE
  rw [← hn, ← hl]
  rw [← hG] at hg
  clear h hcut hL hce hn hl hG
  go_enter Tryz.func3, Tryz.ntmps3
  go_upto_region 1 with fail
  refine wp_world (fun W1 hW1 => ?_)
  have hy0 : CtW w w.heap.size (w.heap.size + 1) a n c out ca l cc W1 := by rw [hW1]; exact ⟨(Blk.new _ _ _ _ rfl).alloc _, Blk.new _ _ _ _ (by simp), by (repeat (first | exact Below.refl _ _ | assumption | (refine Below.setCell ?_ (by first | (simp; done) | (simp; omega) | omega) _) | (refine Below.drew ?_) | (refine below_drewN ?_ _) | (refine Below.alloc ?_ (by first | (simp; done) | (simp; omega) | omega) _) | (refine Below.trans ?_ (Below.mono (by assumption) (by first | (simp; done) | (simp; omega) | omega)))))⟩
  obtain ⟨pg, hpg⟩ : ∃ pg, pg = w.heap.size := ⟨_, rfl⟩
  obtain ⟨pc, hpc⟩ : ∃ pc, pc = w.heap.size + 1 := ⟨_, rfl⟩
  have HY : Hid (CtW w pg pc a n c out ca l cc W1) := Lib.hid (by rw [hpg, hpc]; exact hy0)
  rw [← hpc, ← hpg]
  clear hW1 hy0 hpg hpc
  have m0 := HY.out.b1.c 0 _ rfl; have m1 := HY.out.b1.c 1 _ rfl; have ml := HY.out.b1.lt; have p0 := HY.out.b2.c 0 _ rfl; have pl := HY.out.b2.lt
  go_upto_region 2 with (go_at_call 5; refine (HCE.out _ HY.out.bel).mono ?_; rintro e x1 ⟨rfl, hx1⟩)
  have HY1 := Lib.hid (HY.out.past hx1)
  clear hx1 m0 m1 ml p0 pl
  have m0 := HY1.out.b1.c 0 _ rfl; have m1 := HY1.out.b1.c 1 _ rfl; have ml := HY1.out.b1.lt; have p0 := HY1.out.b2.c 0 _ rfl; have pl := HY1.out.b2.lt
  go_upto_region 3 with (go_at_call 6; refine (HFU.out _ HY1.out.bel).mono ?_; rintro e x2 ⟨rfl, hx2⟩)
  have HY2 := Lib.hid (HY1.out.past hx2)
  clear hx2 m0 m1 ml p0 pl
  have m0 := HY2.out.b1.c 0 _ rfl; have m1 := HY2.out.b1.c 1 _ rfl; have ml := HY2.out.b1.lt; have p0 := HY2.out.b2.c 0 _ rfl; have pl := HY2.out.b2.lt
  go_upto_region 4 with (go_at_call 7; refine (HST.out _ HY2.out.bel).mono ?_; rintro e x3 ⟨rfl, hx3⟩)
  have HY3 := Lib.hid (HY2.out.past hx3)
  clear hx3 m0 m1 ml p0 pl
  have m0 := HY3.out.b1.c 0 _ rfl; have m1 := HY3.out.b1.c 1 _ rfl; have ml := HY3.out.b1.lt; have p0 := HY3.out.b2.c 0 _ rfl; have pl := HY3.out.b2.lt
  go_upto_region 6 with (first
    | (go_at_call 8; refine (HND.out _ HY3.out.bel).mono ?_; rintro e x4 ⟨rfl, hx4⟩; have HY4 := Lib.hid (HY3.out.past hx4); have HB4 := Lib.hid hx4; clear hx4 m0 m1 ml p0 pl; have m0 := HY4.out.b1.c 0 _ rfl; have m1 := HY4.out.b1.c 1 _ rfl; have ml := HY4.out.b1.lt; have p0 := HY4.out.b2.c 0 _ rfl; have pl := HY4.out.b2.lt)
    | (go_at_call 9; refine (HCC.out _ HY4.out.bel).mono ?_; rintro e x5 ⟨rfl, hx5⟩; have HY5 := Lib.hid (HY4.out.past hx5); have HB5 := Lib.hid hx5; clear hx5 m0 m1 ml p0 pl))
  have m0 := HY5.out.b1.c 0 _ rfl; have m1 := HY5.out.b1.c 1 _ rfl; have ml := HY5.out.b1.lt; have p0 := HY5.out.b2.c 0 _ rfl; have pl := HY5.out.b2.lt
  go_upto_region 7 with (go_at_call 10; refine (HGE.out _ HY5.out.bel).mono ?_; rintro e x6 ⟨rfl, hx6⟩)
  have HY6 := Lib.hid (HY5.out.past hx6); have HB6 := Lib.hid hx6
  clear hx6 m0 m1 ml p0 pl
  go_wp2_with fail
  go_ret
  exact ⟨rfl, HY6.out.bel⟩
theorem entCut : ∀ args w, (callFunc 16 args).run Tryz.prog w = .ok (.enter 16 args) w := body_enters Tryz.func16 (by kernel_rfl) rfl
set_option maxRecDepth 100000 in
set_option maxHeartbeats 12800000 in
theorem ct_yes (a : Option Addr) (c : Nat) (ns : List NodeD) (out : Int) (ca : Option Addr) (cc : Nat) (cut : List Int) (w : World) (h : IsNodes w a c ns) (hcut : IntsAt 0 w ca cut) (hL : LibN w) (hg : gE ns out = 0) :
    Calls Tryz.prog 3 #[.agg #[.slice a ns.length c, .int .i64 out], .slice ca cut.length cc] w fun e w' => e = .returned (.bool true) ∧ Below w.heap.size w w' := by
  obtain ⟨i0, hi0, hz0, hz1, hz2⟩ := info_parts infoInt
  have HH := Lib.hid h; have HC := Lib.hid hcut; have HL := Lib.hid hL
  have HCE := Lib.hid (fun w' hb => cutError_any a c ns out ca cc cut w' (h.past hb) (hcut.past hb) (hL.past hb).l : ∀ w', Below w.heap.size w w' → _)
  have HCC := Lib.hid (fun w' hb => CheckCut_any a c ns out ca cc cut w' (h.past hb) (hcut.past hb) : ∀ w', Below w.heap.size w w' → _)
  have HGE := Lib.hid (fun w' hb => graphError_any a c ns out w' (h.past hb) (hL.past hb).l : ∀ w', Below w.heap.size w w' → _)
  have HND := Lib.hid (fun w' hb => nodes_any w' (hL.past hb) : ∀ w', Below w.heap.size w w' → _)
  have HFU := Lib.hid (fun w' hb => Fuse_yes a c ns out w' (h.past hb) hg : ∀ w', Below w.heap.size w w' → _)
  have HST := Lib.hid (fun w' hb => Stored_any a c ns out ca cc cut w' (h.past hb) (hcut.past hb) : ∀ w', Below w.heap.size w w' → _)
  have HZ0 := Lib.hid (gE_ok hg)
  have hLEN : ((List.range ns.length).map (lvS ns ns.length)).length = ns.length := by simp
  have HCL := Lib.hid (fun w' ca' cc' hb hI => cutError_any a c ns out ca' cc' ((List.range ns.length).map (lvS ns ns.length)) w' (h.past hb) hI (hL.past hb).l : ∀ w' ca' cc', Below w.heap.size w w' → IntsAt 0 w' ca' ((List.range ns.length).map (lvS ns ns.length)) → _)
  rw [lv_right hg, hLEN] at HCL
  rw [hg] at HGE
  unfold FuP at HFU
  unfold StAP at HST
  obtain ⟨o, ho⟩ : ∃ o : Nat, out = (o : Int) := ⟨out.toNat, by have := HZ0.out; omega⟩
  obtain ⟨n, hn⟩ : ∃ n, n = ns.length := ⟨_, rfl⟩
  obtain ⟨l, hl⟩ : ∃ l, l = cut.length := ⟨_, rfl⟩
  obtain ⟨E, hE⟩ : ∃ E, E = cE ns out cut := ⟨_, rfl⟩
  obtain ⟨C, hC⟩ : ∃ C : Nat → Int, C = fun i => cut.getD i 0 := ⟨_, rfl⟩
  have HEO : Hid (E = 0 → l = n) := Lib.hid (fun h => by rw [hl, hn]; exact (cE_ok (hE ▸ h)).2)
  have HCU : Hid (∀ w', Below w.heap.size w w' → IntsAt 0 w' ca cut) := Lib.hid (fun w' hb => hcut.past hb)
  have HCI : Hid (∀ i, cut.getD i 0 = C i) := Lib.hid (fun i => by rw [hC])
  have HCLn : Hid (cut.length = l) := Lib.hid hl.symm
  have hn1 : n ≤ 100 := by have := HZ0.out.2.1; omega
  have hn0 : 0 < n := by have := HZ0.out.1; omega
  have hon : o < n := by have := HZ0.out; omega
  have HM := Lib.hid hn
  obtain ⟨f, hf⟩ : ∃ f, f = stS ns o C n := ⟨_, rfl⟩
  have HFF := Lib.hid (fun k => by rw [hf, anyQ_range]; rfl : ∀ k, f k = (decide (k = o) || anyQ (stO ns C k) n))
  rw [← hC, ← hE, ho, Int.toNat_natCast, ← hn, ← hl, ← hf] at HST
  rw [← hE, ← hn, ← hl] at HCE HCC
  rw [← hn] at HFU HGE HCL
  rw [← hn, ← hl]
  rw [ho] at HCE HCC HGE HFU HCL
  rw [ho]
  clear h hcut hL hn hl hE hC hf hg ho hLEN
  go_enter Tryz.func3, Tryz.ntmps3
  go_upto_region 1 with fail
  refine wp_world (fun W1 hW1 => ?_)
  have hy0 : CtW w w.heap.size (w.heap.size + 1) a n c (o : Int) ca l cc W1 := by rw [hW1]; exact ⟨(Blk.new _ _ _ _ rfl).alloc _, Blk.new _ _ _ _ (by simp), by (repeat (first | exact Below.refl _ _ | assumption | (refine Below.setCell ?_ (by first | (simp; done) | (simp; omega) | omega) _) | (refine Below.drew ?_) | (refine below_drewN ?_ _) | (refine Below.alloc ?_ (by first | (simp; done) | (simp; omega) | omega) _) | (refine Below.trans ?_ (Below.mono (by assumption) (by first | (simp; done) | (simp; omega) | omega)))))⟩
  obtain ⟨pg, hpg⟩ : ∃ pg, pg = w.heap.size := ⟨_, rfl⟩
  obtain ⟨pc, hpc⟩ : ∃ pc, pc = w.heap.size + 1 := ⟨_, rfl⟩
  have HY : Hid (CtW w pg pc a n c (o : Int) ca l cc W1) := Lib.hid (by rw [hpg, hpc]; exact hy0)
  rw [← hpc, ← hpg]
  clear hW1 hy0 hpg hpc
  have m0 := HY.out.b1.c 0 _ rfl; have m1 := HY.out.b1.c 1 _ rfl; have ml := HY.out.b1.lt; have p0 := HY.out.b2.c 0 _ rfl; have pl := HY.out.b2.lt
  go_upto_region 2 with (go_at_call 5; refine (HCE.out _ HY.out.bel).mono ?_; rintro e x1 ⟨rfl, hx1⟩)
  have HY1 := Lib.hid (HY.out.past hx1)
  clear hx1 m0 m1 ml p0 pl
  have m0 := HY1.out.b1.c 0 _ rfl; have m1 := HY1.out.b1.c 1 _ rfl; have ml := HY1.out.b1.lt; have p0 := HY1.out.b2.c 0 _ rfl; have pl := HY1.out.b2.lt
  go_upto_region 3 with (go_at_call 6; refine (HFU.out _ HY1.out.bel).mono ?_; rintro e x2 ⟨lb, rfl, hlr, hlb, hx2⟩)
  have HY2 := Lib.hid (HY1.out.past hx2)
  have HI2 := Lib.hid (rowIs_ints hlr)
  clear hx2 m0 m1 ml p0 pl hlr hlb
  have m0 := HY2.out.b1.c 0 _ rfl; have m1 := HY2.out.b1.c 1 _ rfl; have ml := HY2.out.b1.lt; have p0 := HY2.out.b2.c 0 _ rfl; have pl := HY2.out.b2.lt
  go_upto_region 4 with (go_at_call 7; refine (HST.out _ HY2.out.bel).mono ?_; rintro e x3 ⟨au, nu, cu, rfl, hs3, hx3⟩)
  have HY3 := Lib.hid (HY2.out.past hx3)
  have HI3 := Lib.hid (HI2.out.past hx3)
  have HS3 := Lib.hid hs3
  clear hx3 m0 m1 ml p0 pl hs3
  have m0 := HY3.out.b1.c 0 _ rfl; have m1 := HY3.out.b1.c 1 _ rfl; have ml := HY3.out.b1.lt; have p0 := HY3.out.b2.c 0 _ rfl; have pl := HY3.out.b2.lt
  go_upto_region 6 with (first
    | (go_at_call 8; refine (HND.out _ HY3.out.bel).mono ?_; rintro e x4 ⟨rfl, hx4⟩; have HY4 := Lib.hid (HY3.out.past hx4); have HB4 := Lib.hid hx4; clear hx4 m0 m1 ml p0 pl; have m0 := HY4.out.b1.c 0 _ rfl; have m1 := HY4.out.b1.c 1 _ rfl; have ml := HY4.out.b1.lt; have p0 := HY4.out.b2.c 0 _ rfl; have pl := HY4.out.b2.lt)
    | (go_at_call 9; refine (HCC.out _ HY4.out.bel).mono ?_; rintro e x5 ⟨rfl, hx5⟩; have HY5 := Lib.hid (HY4.out.past hx5); have HB5 := Lib.hid hx5; clear hx5 m0 m1 ml p0 pl))
  have m0 := HY5.out.b1.c 0 _ rfl; have m1 := HY5.out.b1.c 1 _ rfl; have ml := HY5.out.b1.lt; have p0 := HY5.out.b2.c 0 _ rfl; have pl := HY5.out.b2.lt
  go_upto_region 7 with (go_at_call 10; refine (HGE.out _ HY5.out.bel).mono ?_; rintro e x6 ⟨rfl, hx6⟩)
  have HY6 := Lib.hid (HY5.out.past hx6); have HB6 := Lib.hid hx6
  clear hx6 m0 m1 ml p0 pl
  have HI6 := Lib.hid (HI3.out.past (HB4.out.trans ((HB5.out.trans (HB6.out.mono HB5.out.size)).mono HB4.out.size)))
  have HS6 : Hid ((E ≠ 0 → nu = 0) ∧ (E = 0 → nu = (nmZ f n).length ∧ IntsAt 0 x6 au (nmZ f n))) := Lib.hid ⟨HS3.out.1, fun h => ⟨(HS3.out.2 h).1, (HS3.out.2 h).2.past (HB4.out.trans ((HB5.out.trans (HB6.out.mono HB5.out.size)).mono HB4.out.size))⟩⟩
  clear HI3 HI2 HS3 HB4 HB5 HB6 HY HY1 HY2 HY3 HY4 HY5
  have hmk := run_make_row' (P := Tryz.prog) 25 3 (.int .i64 0) 8 Tryz.underlying25 (by kernel_rfl) rfl .i64 .i64 n (by omega) (by omega)
  have m0 := HY6.out.b1.c 0 _ rfl; have m1 := HY6.out.b1.c 1 _ rfl; have ml := HY6.out.b1.lt; have p0 := HY6.out.b2.c 0 _ rfl; have pl := HY6.out.b2.lt
  go_upto_region 10 with fail
  refine wp_world (fun W2 hW2 => ?_)
  have hrow : W2.rowIs x6.heap.size 3 n (fun q => .int .i64 (lvS ns 0 q)) := by
    rw [hW2]
    exact World.rowIs.congr (World.rowIs_made x6 (.int .i64 0) n 3) (fun j _ => rfl)
  have hB2 : Below x6.heap.size x6 W2 := by rw [hW2]; (repeat (first | exact Below.refl _ _ | assumption | (refine Below.setCell ?_ (by first | (simp; done) | (simp; omega) | omega) _) | (refine Below.drew ?_) | (refine below_drewN ?_ _) | (refine Below.alloc ?_ (by first | (simp; done) | (simp; omega) | omega) _) | (refine Below.trans ?_ (Below.mono (by assumption) (by first | (simp; done) | (simp; omega) | omega)))))
  obtain ⟨rb, hrb⟩ : ∃ rb, rb = x6.heap.size := ⟨_, rfl⟩
  have H2 : Hid (W2.rowIs rb 3 n (fun q => .int .i64 (lvS ns 0 q)) ∧ Below x6.heap.size x6 W2 ∧ x6.heap.size ≤ rb) := Lib.hid ⟨by rw [hrb]; exact hrow, hB2, by omega⟩
  have HY7 := Lib.hid (HY6.out.past hB2)
  rw [← hrb]
  clear hW2 hrow hmk hB2 hrb m0 m1 ml p0 pl
  have m0 := HY7.out.b1.c 0 _ rfl; have m1 := HY7.out.b1.c 1 _ rfl; have ml := HY7.out.b1.lt; have p0 := HY7.out.b2.c 0 _ rfl; have pl := HY7.out.b2.lt
  go_wp2_with fail
  clear m0 m1 ml p0 pl HY7
  have HLX := Lib.hid (fun w' hb => (HL.out.past (HY6.out.bel.trans (hb.mono HY6.out.bel.size))).l : ∀ w', Below x6.heap.size x6 w' → LibW w')
  go_loopw [72] (fun s72 wr => ∃ i : Nat, i ≤ n ∧ s72 = .int .i64 i ∧ wr.rowIs rb 3 n (fun q => .int .i64 (lvS ns i q)) ∧ Below x6.heap.size x6 wr) (fun s72 _ => n - (intOf s72).toNat)
  case atStart => exact ⟨0, Nat.zero_le _, rfl, H2.out.1, H2.out.2.1⟩
  case round =>
    obtain ⟨i, hi, rfl, hR, hB⟩ := hrel
    have HR := Lib.hid hR; have HB := Lib.hid hB
    clear hR hB
    by_cases him : i < n
    · have himi : (i : Int) < (n : Int) := by omega
      have him2 : i < ns.length := by rw [← HM.out]; exact him
      obtain ⟨nd, hnd⟩ : ∃ nd, ns[i]? = some nd := ⟨_, List.getElem?_eq_getElem him2⟩
      obtain ⟨b, off, rfl, hna, hnb⟩ := (HH.out.past HY6.out.bel).get hnd
      have hna2 := hna.past HB.out
      obtain ⟨op, ins, ints, reals, ia, ic, na, nc, ra, rc⟩ := nd
      have hins : insO ns i = ins := by unfold insO; rw [hnd]
      have HIN := Lib.hid (nd_in HZ0.out.2.2.1 him2)
      obtain ⟨n', k, hn', hk, hkd⟩ := nd_op him2 (fstN_zero HZ0.out.2.2.1 i him2)
      rw [hnd] at hn'
      cases hn'
      have har := arO_at hnd hk
      have HOP := Lib.hid (fun w' hl => form_yes hk w' hl)
      obtain ⟨f, hf⟩ : ∃ f, f = F k := ⟨_, rfl⟩
      obtain ⟨ar, har2⟩ : ∃ ar, ar = f.area := ⟨_, rfl⟩
      have HNEW := Lib.hid (lvS_new ns i)
      rw [hins, har, ← hf, ← har2] at HNEW
      rw [hins] at HIN
      rw [← hf] at HOP
      obtain ⟨L, hL⟩ : ∃ L, L = lvS ns i := ⟨_, rfl⟩
      have HLS : Hid (∀ q, q ≠ i → lvS ns (i + 1) q = L q) := Lib.hid (fun q h => by rw [hL]; exact lvS_old ns h)
      have HLB : Hid (∀ q, q < i → 0 ≤ L q ∧ L q ≤ 100) := Lib.hid (fun q h => by rw [hL]; have := lvS_bd HZ0.out.2.2.1 i (by omega) q h; omega)
      have HLI : Hid (L i = 0) := Lib.hid (by rw [hL]; exact lvS_far ns (Nat.le_refl _))
      rw [← hL] at HNEW HR
      have HAR := Lib.hid har2
      have HI := Lib.hid hna.i
      have c0 : wr.cell? ⟨b, off + i * 4, none⟩ = some (.string op) := hna2.c0
      have c1 : wr.cell? ⟨b, off + i * 4 + 1, none⟩ = some (.slice ia ins.length ic) := hna2.c1
      have c2 : wr.cell? ⟨b, off + i * 4 + 2, none⟩ = some (.slice na ints.length nc) := hna2.c2
      have c3 : wr.cell? ⟨b, off + i * 4 + 3, none⟩ = some (.slice ra reals.length rc) := hna2.c3
      have l0 := cell_lt c0; simp only at l0
      clear hnd hna hnb hna2 hins hk hkd har hf har2 him2 hL
      go_upto_region 13 with fail
      refine wp_world (fun W4 hW4 => ?_)
      have H4p : Blk W4 wr.heap.size [.string op, .slice ia ins.length ic, .slice na ints.length nc, .slice ra reals.length rc] ∧ Below wr.heap.size wr W4 := by rw [hW4]; exact ⟨Blk.new _ _ _ _ rfl, by (repeat (first | exact Below.refl _ _ | assumption | (refine Below.setCell ?_ (by first | (simp; done) | (simp; omega) | omega) _) | (refine Below.drew ?_) | (refine below_drewN ?_ _) | (refine Below.alloc ?_ (by first | (simp; done) | (simp; omega) | omega) _) | (refine Below.trans ?_ (Below.mono (by assumption) (by first | (simp; done) | (simp; omega) | omega)))))⟩
      obtain ⟨nb, hnb⟩ : ∃ nb, nb = wr.heap.size := ⟨_, rfl⟩
      have HRI : Hid (nb ≠ rb ∧ rb < nb ∧ x6.heap.size ≤ nb) := Lib.hid (by have := HR.out.lt; have := HB.out.size; omega)
      have H4 : Hid (Blk W4 nb [.string op, .slice ia ins.length ic, .slice na ints.length nc, .slice ra reals.length rc] ∧ Below x6.heap.size x6 W4 ∧ W4.rowIs rb 3 n (fun q => .int .i64 (if q = i then lvM L ins 0 else L q))) := Lib.hid ⟨by rw [hnb]; exact H4p.1, HB.out.trans (H4p.2.mono HB.out.size), World.rowIs.congr (HR.out.of_block (H4p.2.block _ HR.out.lt)) (fun q _ => by
        by_cases e : q = i
        · subst e; rw [if_pos rfl, HLI.out]; rfl
        · rw [if_neg e])⟩
      rw [← hnb]
      clear hW4 c0 c1 c2 c3 l0 hnb H4p HB HR
      have m1 := H4.out.1.c 1 _ rfl; have ml := H4.out.1.lt
      go_wp2_with fail
      clear m1 ml
      go_loopw [80] (fun s80 wq => ∃ j : Nat, j ≤ ins.length ∧ s80 = .int .i64 j ∧ wq.rowIs rb 3 n (fun q => .int .i64 (if q = i then lvM L ins j else L q)) ∧ Blk wq nb [.string op, .slice ia ins.length ic, .slice na ints.length nc, .slice ra reals.length rc] ∧ Below x6.heap.size x6 wq) (fun s80 _ => ins.length - (intOf s80).toNat)
      case atStart => exact ⟨0, Nat.zero_le _, rfl, H4.out.2.2, H4.out.1, H4.out.2.1⟩
      case round =>
        obtain ⟨j, hj, rfl, hR2, hN2, hT2⟩ := hrel
        have HR2 := Lib.hid hR2; have HN2 := Lib.hid hN2; have HT2 := Lib.hid hT2
        clear hR2 hN2 hT2
        by_cases hjl : j < ins.length
        · have hjli : (j : Int) < (ins.length : Int) := by omega
          have hj3 : j ≤ 3 := by have := HIN.out.2.1; omega
          obtain ⟨u, hu⟩ : ∃ u, ins[j]? = some u := ⟨_, List.getElem?_eq_getElem hjl⟩
          have hgd : ins.getD j 0 = u := by rw [List.getD_eq_getElem?_getD, hu, Option.getD_some]
          have hur := HIN.out.1 j hjl
          rw [hgd] at hur
          obtain ⟨x, hx⟩ : ∃ x : Nat, u = (x : Int) := ⟨u.toNat, by omega⟩
          subst hx
          have hxi : x < i := by omega
          have hxl : x < n := by omega
          have hxli : (x : Int) < (n : Int) := by omega
          obtain ⟨bi, oi, rfl, ci⟩ := (HI.out.past HT2.out).one hu
          have li := cell_lt ci; simp only at li
          have HNX := Lib.hid (show lvM L ins (j + 1) = max (lvM L ins j) (L x) by rw [show lvM L ins (j + 1) = max (lvM L ins j) (L (ins.getD j 0).toNat) from rfl, hgd, Int.toNat_natCast])
          have r0 := HR2.out.cell him
          have rx := HR2.out.cell hxl
          rw [if_pos rfl] at r0
          rw [if_neg (by omega)] at rx
          have r1 := HR2.out.frozen i
          have rl := HR2.out.lt
          obtain ⟨p, hp⟩ : ∃ p, p = lvM L ins j := ⟨_, rfl⟩
          obtain ⟨y, hy⟩ : ∃ y, y = L x := ⟨_, rfl⟩
          rw [← hp] at r0 HNX
          rw [← hy] at rx HNX
          clear hu hgd hur hp hy
          go_upto_region 16 with fail
          go_still_tail 12, (by kernel_rfl)
          go_wp2_with fail
          go_roundw
          case rel =>
            have hd : ∀ V : World, Below V.heap.size V V.drew := fun V => (Below.refl _ _).drew
            refine ⟨j + 1, by omega, by go_num, ?_, (HN2.out.far _ _ (by have := HRI.out; simp only; omega)).past (hd _), (HT2.out.setCell (by have := H2.out.2.2; simp only; omega) _).drew⟩
            refine World.rowIs.of_block (World.rowIs.congr (World.rowIs.set HR2.out i _) (fun q _ => ?_)) ((hd _).block _ (World.rowIs.set HR2.out i _).lt)
            by_cases e : q = i
            · subst e; rw [if_pos rfl, if_pos rfl, HNX.out]
            · rw [if_neg e, if_neg e, if_neg e]
          case measure => simp [intOf]; omega
        · have hjli : ¬ (j : Int) < (ins.length : Int) := by omega
          obtain rfl : j = ins.length := by omega
          have n0 := HN2.out.c 0 _ rfl; have nl := HN2.out.lt
          go_upto_region 19 with (go_at_call 11; refine (HOP.out _ (HLX.out _ HT2.out)).mono ?_; rintro e w5 ⟨fa, fc, rfl, hI, hb5⟩)
          refine wp_world (fun W6 hW6 => ?_)
          have hb6 : Below w5.heap.size w5 W6 := by rw [hW6]; (repeat (first | exact Below.refl _ _ | assumption | (refine Below.setCell ?_ (by first | (simp; done) | (simp; omega) | omega) _) | (refine Below.drew ?_) | (refine below_drewN ?_ _) | (refine Below.alloc ?_ (by first | (simp; done) | (simp; omega) | omega) _) | (refine Below.trans ?_ (Below.mono (by assumption) (by first | (simp; done) | (simp; omega) | omega)))))
          have N6 : Blk W6 w5.heap.size (fCells f fa fc) := by rw [hW6]; exact Blk.new _ _ _ _ rfl
          obtain ⟨fb, hfb⟩ : ∃ fb, fb = w5.heap.size := ⟨_, rfl⟩
          have HNE : Hid (fb ≠ rb ∧ x6.heap.size ≤ fb) := Lib.hid (by have := HR2.out.lt; have := hb5.size; have := HT2.out.size; omega)
          rw [← hfb] at N6
          rw [← hfb]
          have hbb := hb5.trans (hb6.mono hb5.size)
          have HR6 := Lib.hid (HR2.out.of_block (hbb.block _ HR2.out.lt))
          have HT6 := Lib.hid (HT2.out.trans (hbb.mono HT2.out.size))
          have z5 := (fCells_at N6).2.2.2.2.2
          rw [← HAR.out] at z5
          have zl := N6.lt
          have r0 := HR6.out.cell him
          rw [if_pos rfl] at r0
          have r1 := HR6.out.frozen i
          have rl := HR6.out.lt
          have hpb : 0 ≤ lvM L ins ins.length ∧ lvM L ins ins.length ≤ 100 := ⟨lvM_nn _, lvM_le (by decide) _ (fun j hj => by
            have h1 := HIN.out.1 j hj
            exact (HLB.out _ (by omega)).2)⟩
          obtain ⟨p, hp⟩ : ∃ p, p = lvM L ins ins.length := ⟨_, rfl⟩
          rw [← hp] at r0 HNEW hpb
          have HPP := Lib.hid hp
          clear hp hW6 hb6 N6 hfb hbb n0 nl hI hb5 HAR
          obtain ⟨hp0, hp1⟩ := hpb
          cases ar
          · go_wp2_with fail
            go_roundw
            case rel =>
              refine ⟨i + 1, by omega, by go_num, World.rowIs.congr HR6.out (fun q _ => ?_), HT6.out⟩
              by_cases e : q = i
              · subst e; rw [if_pos rfl, HNEW.out, HPP.out]; simp
              · rw [if_neg e, HLS.out q e]
            case measure => simp [intOf]; omega
          · go_wp2_with fail
            go_roundw
            case rel =>
              refine ⟨i + 1, by omega, by go_num, World.rowIs.congr (World.rowIs.set HR6.out i _) (fun q _ => ?_), HT6.out.setCell (by have := H2.out.2.2; simp only; omega) _⟩
              by_cases e : q = i
              · subst e; rw [if_pos rfl, HNEW.out]; simp
              · rw [if_neg e, if_neg e, HLS.out q e]
            case measure => simp [intOf]; omega
    · have himi : ¬ (i : Int) < (n : Int) := by omega
      obtain rfl : i = n := by omega
      have HY8 := Lib.hid (HY6.out.past HB.out)
      have HI8 := Lib.hid (HI6.out.past HB.out)
      have HS8 : Hid ((E ≠ 0 → nu = 0) ∧ (E = 0 → nu = (nmZ f i).length ∧ IntsAt 0 wr au (nmZ f i))) := Lib.hid ⟨HS6.out.1, fun h => ⟨(HS6.out.2 h).1, (HS6.out.2 h).2.past HB.out⟩⟩
      have HIL := Lib.hid (rowIs_ints HR.out)
      clear HI6 HS6 HLX H2 HR HB HY6
      go_upto_region 24 with (first
        | (go_at_call 12; refine (eqI_same 0 0 ((List.range i).map (lvS ns i)) i _ _ _ _ _ (by simp) (by omega) HI8.out HIL.out).mono ?_; rintro e x9 ⟨rfl, hx9⟩; have HY9 := Lib.hid (HY8.out.past hx9); have HB9 := Lib.hid hx9; clear hx9; have m0 := HY9.out.b1.c 0 _ rfl; have m1 := HY9.out.b1.c 1 _ rfl; have ml := HY9.out.b1.lt)
        | (go_at_call 5; refine (HCL.out _ _ _ HY9.out.bel (HI8.out.past HB9.out)).mono ?_; rintro e x10 ⟨rfl, hx10⟩; have HY10 := Lib.hid (HY9.out.past hx10); have HB10 := Lib.hid (HB9.out.trans (hx10.mono HB9.out.size)); clear hx10 m0 m1 ml))
      have HSX : Hid ((E ≠ 0 → nu = 0) ∧ (E = 0 → nu = (nmZ f i).length ∧ IntsAt 0 x10 au (nmZ f i))) := Lib.hid ⟨HS8.out.1, fun h => ⟨(HS8.out.2 h).1, (HS8.out.2 h).2.past HB10.out⟩⟩
      clear HS8 HB9 HB10 HIL HI8 HY8 HY9
      by_cases hE0 : E = 0
      case neg =>
        obtain rfl := HSX.out.1 hE0
        go_wp2_with fail
        go_ret
        exact ⟨rfl, HY10.out.bel⟩
      subst hE0
      obtain ⟨rfl, hIs⟩ := HSX.out.2 rfl
      have HIS := Lib.hid hIs
      obtain rfl := HEO.out rfl
      clear hIs HSX
      have m0 := HY10.out.b1.c 0 _ rfl; have m1 := HY10.out.b1.c 1 _ rfl; have ml := HY10.out.b1.lt; have p0 := HY10.out.b2.c 0 _ rfl; have pl := HY10.out.b2.lt
      go_wp2_with fail
      clear m0 m1 ml p0 pl
      obtain ⟨bc, oc, hca, hcc⟩ := (HCU.out _ HY10.out.bel).get
      rw [HCLn.out] at hca hcc
      obtain rfl := hca hn0
      have HCX : Hid (∀ w', Below x10.heap.size x10 w' → ∀ j, j < l → w'.cell? ⟨bc, oc + j, none⟩ = some (.int .i64 (C j))) := Lib.hid (fun w' hb j hj => by
        have h1 := hcc j hj
        rw [hb.cell (p := ⟨bc, oc + j, none⟩) (cell_lt h1), h1, HCI.out])
      clear hca hcc
      go_loopw [18, 139] (fun s18 s139 wr => ∃ (k : Nat) (u : Value), k ≤ l ∧ s139 = .int .i64 k ∧ u = s18 ∧ NmR x10 wr u (nmZ f k)) (fun _ s139 _ => l - (intOf s139).toNat)
      case atStart => exact ⟨0, _, Nat.zero_le _, rfl, rfl, NmR.nil _⟩
      case round =>
        obtain ⟨k, u, hk, rfl, rfl, hM⟩ := hrel
        have HMM := Lib.hid hM
        clear hM
        by_cases hin : k < l
        · have hini : (k : Int) < (l : Int) := by omega
          have HF := Lib.hid (show nmZ f (k + 1) = if f k = true then nmZ f k ++ [(k : Int)] else nmZ f k from rfl)
          have hL := nmZ_len f k
          have HYr := Lib.hid (HY10.out.past HMM.out.bel)
          go_upto_region 30 with fail
          refine wp_world (fun V0 hV0 => ?_)
          have hb0 : Below wr.heap.size wr V0 := by rw [hV0]; (repeat (first | exact Below.refl _ _ | assumption | (refine Below.setCell ?_ (by first | (simp; done) | (simp; omega) | omega) _) | (refine Below.drew ?_) | (refine below_drewN ?_ _) | (refine Below.alloc ?_ (by first | (simp; done) | (simp; omega) | omega) _) | (refine Below.trans ?_ (Below.mono (by assumption) (by first | (simp; done) | (simp; omega) | omega)))))
          have K0 : Blk V0 wr.heap.size [.int .i64 k] := by rw [hV0]; exact Blk.new _ _ _ _ rfl
          obtain ⟨kb, hkb⟩ : ∃ kb, kb = wr.heap.size := ⟨_, rfl⟩
          rw [← hkb] at K0
          have HK0 := Lib.hid K0
          have HM0 := Lib.hid (HMM.out.past hb0)
          have HY0 := Lib.hid (HYr.out.past hb0)
          have HX0 := Lib.hid (HMM.out.bel.trans (hb0.mono HMM.out.bel.size))
          rw [← hkb]
          have hf1 := HFF.out k
          obtain ⟨L, hLL⟩ : ∃ L, L = nmZ f k := ⟨_, rfl⟩
          rw [← hLL] at HM0 HF hL
          clear hV0 hb0 hkb K0 hLL HMM HYr
          have k0 := HK0.out.c 0 _ rfl; have kl := HK0.out.lt
          have m0 := HY0.out.b1.c 0 _ rfl; have m1 := HY0.out.b1.c 1 _ rfl; have ml := HY0.out.b1.lt; have p0 := HY0.out.b2.c 0 _ rfl; have pl := HY0.out.b2.lt
          by_cases hko : k = o
          · have hfk : f k = true := by rw [hf1, decide_eq_true hko]; rfl
            rw [if_pos hfk] at HF
            have hkoi : (k : Int) = (o : Int) := by omega
            clear hfk hf1 hko
            go_upto_region 31 with fail
            refine wp_world (fun V hV => ?_)
            have hVb : Below V0.heap.size V0 V := by rw [hV]; exact Below.refl _ _
            have HMV := Lib.hid (HM0.out.past hVb)
            have HKV := Lib.hid (HK0.out.past hVb)
            clear hV hVb k0 kl m0 m1 ml p0 pl hkoi
            have k0 := HKV.out.c 0 _ rfl; have kl := HKV.out.lt
            have hbs := HMV.out.bel.size
            go_wp2_with (first | (at_builtin; refine wpList_append_lies _ rfl _ _ _ rfl x10.heap.size 3 i0 (.int .i64 0) 1 8 Tryz.underlying25 hi0 hz0 hz1 hz2 rfl (by decide) u L.length (L.map (Value.int .i64)) rfl (own_past HMV.out.own (by (repeat (first | exact Below.refl _ _ | assumption | (refine Below.setCell ?_ (by first | (simp; done) | (simp; omega) | omega) _) | (refine Below.drew ?_) | (refine below_drewN ?_ _) | (refine Below.alloc ?_ (by first | (simp; done) | (simp; omega) | omega) _) | (refine Below.trans ?_ (Below.mono (by assumption) (by first | (simp; done) | (simp; omega) | omega))))))) ⟨V.heap.size, 0, none⟩ 1 1 [.int .i64 k] rfl rfl (by intro j u hj; match j, hj with | 0, hj => (simp at hj; subst hj; simp [Addr.add])) (by intro u hu; simp at hu; subst hu; rfl) (by decide) (by unfold maxLen; omega) (by omega) (by simp; omega) _ rfl ?_; intro g' cap w7 hown hgrow hat hlt))
            have HN := Lib.hid (NmR.app HMV.out (by (repeat (first | exact Below.refl _ _ | assumption | (refine Below.setCell ?_ (by first | (simp; done) | (simp; omega) | omega) _) | (refine Below.drew ?_) | (refine below_drewN ?_ _) | (refine Below.alloc ?_ (by first | (simp; done) | (simp; omega) | omega) _) | (refine Below.trans ?_ (Below.mono (by assumption) (by first | (simp; done) | (simp; omega) | omega)))))) hown hgrow)
            clear hown hgrow hat hlt
            go_roundw
            case rel => exact ⟨k + 1, _, by omega, by go_num, rfl, by rw [HF.out]; simpa using HN.out⟩
            case measure => simp [intOf]; omega
          · have hkoi : ¬ (k : Int) = (o : Int) := by omega
            obtain ⟨p, hp⟩ : ∃ p, p = anyQ (stO ns C k) l := ⟨_, rfl⟩
            have hfk : f k = p := by rw [hf1, decide_eq_false hko, hp]; rfl
            have HCF : Hid (∀ wy a2 c2, Below V0.heap.size V0 wy → IntsAt 0 wy a2 (numI l) → Calls Tryz.prog 13 #[.slice a2 l c2, .func (.func 16) #[] #[.pointer (some ⟨pc, 0, none⟩), .pointer (some ⟨kb, 0, none⟩), .pointer (some ⟨pg, 0, none⟩)]] wy fun e w' => e = .returned (.bool p) ∧ Below wy.heap.size wy w') := Lib.hid (fun wy a2 c2 hb hI => by
              rw [hp]
              refine ContainsFI _ _ a2 l c2 (numI l) (stO ns C k) wy (numI_len l) (by omega) hI entCut (fun j wz hj hbz => ?_)
              rw [numI_at hj]
              have hbw := hb.trans (hbz.mono hb.size)
              exact cutCl_any a c ns o l bc oc cc C pc kb pg k j wz HM.out (HH.out.past (HY0.out.past hbw).bel) HZ0.out.2.2.1 (HCX.out _ (HX0.out.trans (hbw.mono HX0.out.size))) hj hin (HY0.out.past hbw).b2 (HK0.out.past hbw) (HY0.out.past hbw).b1)
            rw [hfk] at HF
            clear hfk hf1 hko hp
            cases p
            case false =>
              go_wp2_with (first
                | (go_at_call 15; refine (rangeOf_any _ _).mono ?_; rintro e y1 ⟨rfl, hy1⟩; have HK1 : Hid (Blk y1 V0.heap.size [.int .i64 l] ∧ Below V0.heap.size V0 y1) := Lib.hid (by rw [hy1]; exact ⟨Blk.new _ _ _ _ rfl, by (repeat (first | exact Below.refl _ _ | assumption | (refine Below.setCell ?_ (by first | (simp; done) | (simp; omega) | omega) _) | (refine Below.drew ?_) | (refine below_drewN ?_ _) | (refine Below.alloc ?_ (by first | (simp; done) | (simp; omega) | omega) _) | (refine Below.trans ?_ (Below.mono (by assumption) (by first | (simp; done) | (simp; omega) | omega)))))⟩); clear hy1)
                | (go_at_call 14; refine (Collect_any _ l (by omega) _ HK1.out.1.lt (HK1.out.1.c 0 _ rfl)).mono ?_; rintro e y2 ⟨a2, c2, rfl, hI2, hy2⟩; have HB2 := Lib.hid (HK1.out.2.trans (hy2.mono HK1.out.2.size)); have HI2 := Lib.hid hI2; clear hy2 hI2)
                | (go_at_call 13; refine (HCF.out _ _ _ HB2.out HI2.out).mono ?_; rintro e y3 ⟨rfl, hy3⟩; have HB3 := Lib.hid (HB2.out.trans (hy3.mono HB2.out.size)); clear hy3))
              go_roundw
              case rel => exact ⟨k + 1, _, by omega, by go_num, rfl, by rw [HF.out]; simpa using HM0.out.past HB3.out⟩
              case measure => simp [intOf]; omega
            case true =>
              rw [if_pos rfl] at HF
              go_upto_region 31 with (first
                | (go_at_call 15; refine (rangeOf_any _ _).mono ?_; rintro e y1 ⟨rfl, hy1⟩; have HK1 : Hid (Blk y1 V0.heap.size [.int .i64 l] ∧ Below V0.heap.size V0 y1) := Lib.hid (by rw [hy1]; exact ⟨Blk.new _ _ _ _ rfl, by (repeat (first | exact Below.refl _ _ | assumption | (refine Below.setCell ?_ (by first | (simp; done) | (simp; omega) | omega) _) | (refine Below.drew ?_) | (refine below_drewN ?_ _) | (refine Below.alloc ?_ (by first | (simp; done) | (simp; omega) | omega) _) | (refine Below.trans ?_ (Below.mono (by assumption) (by first | (simp; done) | (simp; omega) | omega)))))⟩); clear hy1)
                | (go_at_call 14; refine (Collect_any _ l (by omega) _ HK1.out.1.lt (HK1.out.1.c 0 _ rfl)).mono ?_; rintro e y2 ⟨a2, c2, rfl, hI2, hy2⟩; have HB2 := Lib.hid (HK1.out.2.trans (hy2.mono HK1.out.2.size)); have HI2 := Lib.hid hI2; clear hy2 hI2)
                | (go_at_call 13; refine (HCF.out _ _ _ HB2.out HI2.out).mono ?_; rintro e y3 ⟨rfl, hy3⟩; have HB3 := Lib.hid (HB2.out.trans (hy3.mono HB2.out.size)); clear hy3))
              refine wp_world (fun V hV => ?_)
              have hVb : Below V0.heap.size V0 V := by rw [hV]; exact HB3.out
              have HMV := Lib.hid (HM0.out.past hVb)
              have HKV := Lib.hid (HK0.out.past hVb)
              clear hV hVb k0 kl m0 m1 ml p0 pl HB3 HB2 HI2 HK1
              have k0 := HKV.out.c 0 _ rfl; have kl := HKV.out.lt
              have hbs := HMV.out.bel.size
              go_wp2_with (first | (at_builtin; refine wpList_append_lies _ rfl _ _ _ rfl x10.heap.size 3 i0 (.int .i64 0) 1 8 Tryz.underlying25 hi0 hz0 hz1 hz2 rfl (by decide) u L.length (L.map (Value.int .i64)) rfl (own_past HMV.out.own (by (repeat (first | exact Below.refl _ _ | assumption | (refine Below.setCell ?_ (by first | (simp; done) | (simp; omega) | omega) _) | (refine Below.drew ?_) | (refine below_drewN ?_ _) | (refine Below.alloc ?_ (by first | (simp; done) | (simp; omega) | omega) _) | (refine Below.trans ?_ (Below.mono (by assumption) (by first | (simp; done) | (simp; omega) | omega))))))) ⟨V.heap.size, 0, none⟩ 1 1 [.int .i64 k] rfl rfl (by intro j u hj; match j, hj with | 0, hj => (simp at hj; subst hj; simp [Addr.add])) (by intro u hu; simp at hu; subst hu; rfl) (by decide) (by unfold maxLen; omega) (by omega) (by simp; omega) _ rfl ?_; intro g' cap w7 hown hgrow hat hlt))
              have HN := Lib.hid (NmR.app HMV.out (by (repeat (first | exact Below.refl _ _ | assumption | (refine Below.setCell ?_ (by first | (simp; done) | (simp; omega) | omega) _) | (refine Below.drew ?_) | (refine below_drewN ?_ _) | (refine Below.alloc ?_ (by first | (simp; done) | (simp; omega) | omega) _) | (refine Below.trans ?_ (Below.mono (by assumption) (by first | (simp; done) | (simp; omega) | omega)))))) hown hgrow)
              clear hown hgrow hat hlt
              go_roundw
              case rel => exact ⟨k + 1, _, by omega, by go_num, rfl, by rw [HF.out]; simpa using HN.out⟩
              case measure => simp [intOf]; omega
        · have hini : ¬ (k : Int) < (l : Int) := by omega
          obtain rfl : k = l := by omega
          obtain ⟨a2, c2, rfl, hI2⟩ := HMM.out.ints
          have HI2 := Lib.hid hI2
          have hL := nmZ_len f k
          have HI3 := Lib.hid (HIS.out.past HMM.out.bel)
          have HBW := Lib.hid (HY10.out.bel.trans (HMM.out.bel.mono HY10.out.bel.size))
          clear hI2
          go_wp2_with (go_at_call 12; refine (eqI_same 0 0 (nmZ f k) (nmZ f k).length _ _ _ _ _ rfl (by omega) HI3.out HI2.out).mono ?_; rintro e x9 ⟨rfl, hx9⟩)
          go_ret
          exact ⟨rfl, HBW.out.trans (hx9.mono HBW.out.size)⟩
theorem ct_walk (a : Option Addr) (c : Nat) (ns : List NodeD) (out : Int) (ca : Option Addr) (cc : Nat) (cut : List Int) (w : World) (hL : LibN w) (h : IsNodes w a c ns) (_ho : IntKind.i64.min ≤ out ∧ out ≤ IntKind.i64.max) (hcut : IntsAt 0 w ca cut) :
    Calls Tryz.prog 3 #[.agg #[.slice a ns.length c, .int .i64 out], .slice ca cut.length cc] w fun e w' => e = .returned (.bool true) ∧ Below w.heap.size w w' := by
  by_cases hg : gE ns out = 0
  · exact ct_yes a c ns out ca cc cut w h hcut hL hg
  · exact ct_no a c ns out ca cc cut w h hcut hL hg
end Go.Proofs.YtbclecoblcfboaaGreatDoor
