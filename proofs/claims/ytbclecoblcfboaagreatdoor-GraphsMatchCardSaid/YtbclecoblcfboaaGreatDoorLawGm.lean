/- GraphsMatch by the program: true. Conditions: the nodes can be read, the library's variables read as listed (LibN). -/
import Derived.Test.YtbclecoblcfboaaGreatDoorGqH
import Derived.Test.YtbclecoblcfboaaGreatDoorGhD
import Derived.Test.YtbclecoblcfboaaGreatDoorQE
import Derived.Test.YtbclecoblcfboaaGreatDoorQF
namespace Go.Proofs.YtbclecoblcfboaaGreatDoor
open Go Go.RowKit
/-- The statement's boxes. -/
structure GmW (w : World) (pg pr : Nat) (a : Option Addr) (n c : Nat) (out x y v h : Int) (X : World) : Prop where
  b1 : Blk X pg [.slice a n c, .int .i64 out]
  b2 : Blk X pr [.int .i64 x, .int .i64 y, .int .i64 v, .int .i64 h]
  bel : Below w.heap.size w X
theorem GmW.past {w : World} {pg pr : Nat} {a : Option Addr} {n c : Nat} {out x y v h : Int} {X X' : World} (k : GmW w pg pr a n c out x y v h X) (hb : Below X.heap.size X X') : GmW w pg pr a n c out x y v h X' :=
  ⟨k.b1.past hb, k.b2.past hb, k.bel.trans (hb.mono k.bel.size)⟩
/-- What Below hands back of a right graph. -/
def BlAP (k : Int) (n : Nat) (L : List Int) (w : World) (e : Ending) (w' : World) : Prop := ∃ (au : Option Addr) (nu cu : Nat) (E : Int), e = .returned (.tuple #[.slice au nu cu, .int .i64 E]) ∧ (((0 ≤ k ∧ k < (n : Int)) → E = 0 ∧ nu = L.length ∧ IntsAt 0 w' au L) ∧ (¬ (0 ≤ k ∧ k < (n : Int)) → E = 11 ∧ nu = 0)) ∧ Below w.heap.size w w'
theorem Below_any (a : Option Addr) (c : Nat) (ns : List NodeD) (out k : Int) (w : World) (h : IsNodes w a c ns) (hg : gE ns out = 0) :
    Calls Tryz.prog 20 #[.agg #[.slice a ns.length c, .int .i64 out], .int .i64 k] w (BlAP k ns.length (nmZ (blS ns k.toNat k.toNat (k.toNat + 1)) (k.toNat + 1)) w) := by
  by_cases hk : 0 ≤ k ∧ k < (ns.length : Int)
  · obtain ⟨K, rfl⟩ : ∃ K : Nat, k = (K : Int) := ⟨k.toNat, by omega⟩
    rw [Int.toNat_natCast]
    refine (Below_yes a c ns out K w h hg (by omega)).mono ?_
    rintro e w' ⟨u, rfl, hu⟩
    obtain ⟨au, cu, rfl, hI⟩ := hu.ints
    exact ⟨au, _, cu, 0, rfl, ⟨fun _ => ⟨rfl, rfl, hI⟩, fun h => absurd hk h⟩, hu.bel⟩
  · refine (Below_far a c ns out k w h hg hk).mono ?_
    rintro e w' ⟨rfl, hb⟩
    exact ⟨none, 0, 0, 11, rfl, ⟨fun h => absurd h hk, fun _ => ⟨rfl, rfl⟩⟩, hb⟩
set_option maxRecDepth 100000 in
set_option maxHeartbeats 6400000 in
theorem gm_no (a : Option Addr) (c : Nat) (ns : List NodeD) (out x y v h k : Int) (w : World) (hL : LibN w) (hn : IsNodes w a c ns) (hg : gE ns out ≠ 0) :
    Calls Tryz.prog 4 #[.agg #[.slice a ns.length c, .int .i64 out], .agg #[.int .i64 x, .int .i64 y, .int .i64 v, .int .i64 h], .int .i64 k] w fun e w' => e = .returned (.bool true) ∧ Below w.heap.size w w' := by
  have HH := Lib.hid hn; have HL := Lib.hid hL
  have HGE := Lib.hid (fun w' hb => graphError_any a c ns out w' (hn.past hb) (hL.past hb).l : ∀ w', Below w.heap.size w w' → _)
  have HCK := Lib.hid (fun w' hb => CheckGraph_any a c ns out w' (hn.past hb) : ∀ w', Below w.heap.size w w' → _)
  have HND := Lib.hid (fun w' hb => nodes_any w' (hL.past hb) : ∀ w', Below w.heap.size w w' → _)
  have HMA := Lib.hid (fun w' hb => Margin_any a c ns out w' (hn.past hb) : ∀ w', Below w.heap.size w w' → _)
  have HCO := Lib.hid (fun w' hb => Cost_any a c ns out x y v h w' (hn.past hb) : ∀ w', Below w.heap.size w w' → _)
  have HUS := Lib.hid (fun w' hb => Uses_no a c ns out w' (hn.past hb) hg : ∀ w', Below w.heap.size w w' → _)
  have HBL := Lib.hid (fun w' hb => Below_no a c ns out k w' (hn.past hb) hg : ∀ w', Below w.heap.size w w' → _)
  rw [show mgV ns out = 0 by unfold mgV; rw [if_neg hg], show mgE ns out = gE ns out by unfold mgE; rw [if_neg hg]] at HMA
  rw [show csV ns out x y v h = 0 by unfold csV; rw [if_neg hg], show csE ns out x y v h = gE ns out by unfold csE; rw [if_neg hg]] at HCO
  obtain ⟨n, hnn⟩ : ∃ n, n = ns.length := ⟨_, rfl⟩
  obtain ⟨G, hG⟩ : ∃ G, G = gE ns out := ⟨_, rfl⟩
  rw [← hnn, ← hG] at HGE HCK HMA HCO HUS HBL
  rw [← hnn]
  rw [← hG] at hg
  clear hn hL hnn hG
  go_enter Tryz.func4, Tryz.ntmps4
  go_upto_region 1 with fail
  refine wp_world (fun W1 hW1 => ?_)
  have hy0 : GmW w w.heap.size (w.heap.size + 1) a n c out x y v h W1 := by rw [hW1]; exact ⟨(Blk.new _ _ _ _ rfl).alloc _, Blk.new _ _ _ _ (by simp), by (repeat (first | exact Below.refl _ _ | assumption | (refine Below.setCell ?_ (by first | (simp; done) | (simp; omega) | omega) _) | (refine Below.drew ?_) | (refine below_drewN ?_ _) | (refine Below.alloc ?_ (by first | (simp; done) | (simp; omega) | omega) _) | (refine Below.trans ?_ (Below.mono (by assumption) (by first | (simp; done) | (simp; omega) | omega)))))⟩
  obtain ⟨pg, hpg⟩ : ∃ pg, pg = w.heap.size := ⟨_, rfl⟩
  obtain ⟨pr, hpr⟩ : ∃ pr, pr = w.heap.size + 1 := ⟨_, rfl⟩
  have HY : Hid (GmW w pg pr a n c out x y v h W1) := Lib.hid (by rw [hpg, hpr]; exact hy0)
  rw [← hpr, ← hpg]
  clear hW1 hy0 hpg hpr
  have m0 := HY.out.b1.c 0 _ rfl; have m1 := HY.out.b1.c 1 _ rfl; have ml := HY.out.b1.lt; have p0 := HY.out.b2.c 0 _ rfl; have p1 := HY.out.b2.c 1 _ rfl; have p2 := HY.out.b2.c 2 _ rfl; have p3 := HY.out.b2.c 3 _ rfl; have pl := HY.out.b2.lt
  go_upto_region 2 with (go_at_call 10; refine (HGE.out _ HY.out.bel).mono ?_; rintro e x1 ⟨rfl, hx1⟩)
  have HY1 := Lib.hid (HY.out.past hx1)
  clear hx1 m0 m1 ml p0 p1 p2 p3 pl
  have m0 := HY1.out.b1.c 0 _ rfl; have m1 := HY1.out.b1.c 1 _ rfl; have ml := HY1.out.b1.lt; have p0 := HY1.out.b2.c 0 _ rfl; have p1 := HY1.out.b2.c 1 _ rfl; have p2 := HY1.out.b2.c 2 _ rfl; have p3 := HY1.out.b2.c 3 _ rfl; have pl := HY1.out.b2.lt
  go_upto_region 3 with (go_at_call 18; refine (HMA.out _ HY1.out.bel).mono ?_; rintro e x2 ⟨rfl, hx2⟩)
  have HY2 := Lib.hid (HY1.out.past hx2)
  clear hx2 m0 m1 ml p0 p1 p2 p3 pl
  have m0 := HY2.out.b1.c 0 _ rfl; have m1 := HY2.out.b1.c 1 _ rfl; have ml := HY2.out.b1.lt; have p0 := HY2.out.b2.c 0 _ rfl; have p1 := HY2.out.b2.c 1 _ rfl; have p2 := HY2.out.b2.c 2 _ rfl; have p3 := HY2.out.b2.c 3 _ rfl; have pl := HY2.out.b2.lt
  go_upto_region 4 with (go_at_call 19; refine (HUS.out _ HY2.out.bel).mono ?_; rintro e x3 ⟨rfl, hx3⟩)
  have HY3 := Lib.hid (HY2.out.past hx3)
  clear hx3 m0 m1 ml p0 p1 p2 p3 pl
  have m0 := HY3.out.b1.c 0 _ rfl; have m1 := HY3.out.b1.c 1 _ rfl; have ml := HY3.out.b1.lt; have p0 := HY3.out.b2.c 0 _ rfl; have p1 := HY3.out.b2.c 1 _ rfl; have p2 := HY3.out.b2.c 2 _ rfl; have p3 := HY3.out.b2.c 3 _ rfl; have pl := HY3.out.b2.lt
  go_upto_region 5 with (go_at_call 20; refine (HBL.out _ HY3.out.bel).mono ?_; rintro e x4 ⟨rfl, hx4⟩)
  have HY4 := Lib.hid (HY3.out.past hx4)
  clear hx4 m0 m1 ml p0 p1 p2 p3 pl
  have m0 := HY4.out.b1.c 0 _ rfl; have m1 := HY4.out.b1.c 1 _ rfl; have ml := HY4.out.b1.lt; have p0 := HY4.out.b2.c 0 _ rfl; have p1 := HY4.out.b2.c 1 _ rfl; have p2 := HY4.out.b2.c 2 _ rfl; have p3 := HY4.out.b2.c 3 _ rfl; have pl := HY4.out.b2.lt
  go_upto_region 6 with (go_at_call 21; refine (HCO.out _ HY4.out.bel).mono ?_; rintro e x5 ⟨rfl, hx5⟩)
  have HY5 := Lib.hid (HY4.out.past hx5)
  clear hx5 m0 m1 ml p0 p1 p2 p3 pl
  have m0 := HY5.out.b1.c 0 _ rfl; have m1 := HY5.out.b1.c 1 _ rfl; have ml := HY5.out.b1.lt; have p0 := HY5.out.b2.c 0 _ rfl; have p1 := HY5.out.b2.c 1 _ rfl; have p2 := HY5.out.b2.c 2 _ rfl; have p3 := HY5.out.b2.c 3 _ rfl; have pl := HY5.out.b2.lt
  go_upto_region 7 with (first
    | (go_at_call 8; refine (HND.out _ HY5.out.bel).mono ?_; rintro e x6a ⟨rfl, hxa⟩; have HYa := Lib.hid (HY5.out.past hxa); clear hxa m0 m1 ml p0 p1 p2 p3 pl; have m0 := HYa.out.b1.c 0 _ rfl; have m1 := HYa.out.b1.c 1 _ rfl; have ml := HYa.out.b1.lt)
    | (go_at_call 22; refine (HCK.out _ HYa.out.bel).mono ?_; rintro e x6b ⟨rfl, hxb⟩; have HY6 := Lib.hid (HYa.out.past hxb); clear hxb m0 m1 ml HYa))
  have m0 := HY6.out.b1.c 0 _ rfl; have m1 := HY6.out.b1.c 1 _ rfl; have ml := HY6.out.b1.lt; have p0 := HY6.out.b2.c 0 _ rfl; have p1 := HY6.out.b2.c 1 _ rfl; have p2 := HY6.out.b2.c 2 _ rfl; have p3 := HY6.out.b2.c 3 _ rfl; have pl := HY6.out.b2.lt
  go_wp2_with (first
    | (go_at_call 8; refine (HND.out _ HY6.out.bel).mono ?_; rintro e x7a ⟨rfl, hxa⟩; have HYa := Lib.hid (HY6.out.past hxa); clear hxa m0 m1 ml p0 p1 p2 p3 pl; have m0 := HYa.out.b1.c 0 _ rfl; have m1 := HYa.out.b1.c 1 _ rfl; have ml := HYa.out.b1.lt)
    | (go_at_call 22; refine (HCK.out _ HYa.out.bel).mono ?_; rintro e x7b ⟨rfl, hxb⟩; have HY7 := Lib.hid (HYa.out.past hxb); clear hxb m0 m1 ml HYa))
  go_ret
  exact ⟨rfl, HY7.out.bel⟩
set_option maxRecDepth 100000 in
set_option maxHeartbeats 12800000 in
theorem gm_yes (a : Option Addr) (c : Nat) (ns : List NodeD) (out x y v h k : Int) (w : World) (hL : LibN w) (hn : IsNodes w a c ns) (hx : -9223372036854775808 ≤ x ∧ x ≤ 9223372036854775807) (hy : -9223372036854775808 ≤ y ∧ y ≤ 9223372036854775807) (hg : gE ns out = 0) :
    Calls Tryz.prog 4 #[.agg #[.slice a ns.length c, .int .i64 out], .agg #[.int .i64 x, .int .i64 y, .int .i64 v, .int .i64 h], .int .i64 k] w fun e w' => e = .returned (.bool true) ∧ Below w.heap.size w w' := by
  obtain ⟨i0, hi0, hz0, hz1, hz2⟩ := info_parts infoInt
  have HH := Lib.hid hn; have HL := Lib.hid hL
  have HGE := Lib.hid (fun w' hb => graphError_any a c ns out w' (hn.past hb) (hL.past hb).l : ∀ w', Below w.heap.size w w' → _)
  have HCK := Lib.hid (fun w' hb => CheckGraph_any a c ns out w' (hn.past hb) : ∀ w', Below w.heap.size w w' → _)
  have HND := Lib.hid (fun w' hb => nodes_any w' (hL.past hb) : ∀ w', Below w.heap.size w w' → _)
  have HMA := Lib.hid (fun w' hb => Margin_any a c ns out w' (hn.past hb) : ∀ w', Below w.heap.size w w' → _)
  have HCO := Lib.hid (fun w' hb => Cost_any a c ns out x y v h w' (hn.past hb) : ∀ w', Below w.heap.size w w' → _)
  have HUS := Lib.hid (fun w' hb => Uses_yes a c ns out w' (hn.past hb) hg : ∀ w', Below w.heap.size w w' → _)
  have HBL := Lib.hid (fun w' hb => Below_any a c ns out k w' (hn.past hb) hg : ∀ w', Below w.heap.size w w' → _)
  have HDM := Lib.hid (fun w' hb => dmargin_any a c ns out w' (hn.past hb) hg : ∀ w', Below w.heap.size w w' → _)
  have HNE := Lib.hid (fun w' hb => needed_any a c ns out w' (hn.past hb) hg : ∀ w', Below w.heap.size w w' → _)
  have HBW := Lib.hid (fun K w' hb hK => below_yes a c ns out K w' (hn.past hb) hg hK : ∀ K w', Below w.heap.size w w' → K < ns.length → _)
  have HRE := Lib.hid (fun w' => RegionError_any x y v h w' hx hy)
  have HZ0 := Lib.hid (gE_ok hg)
  have HSC := Lib.hid (fun s ps w' hb hp => hasSrc a c ns ps s w' HZ0.out.2.1 HZ0.out.2.2.1 (hn.past hb) hp : ∀ s ps w', Below w.heap.size w w' → Blk w' ps [.int .i64 (s : Nat)] → _)
  rw [show mgV ns out = (if 64 < mgG ns out.toNat then 0 else mgG ns out.toNat) by unfold mgV; rw [if_pos hg], show mgE ns out = (if 64 < mgG ns out.toNat then 4 else 0) by unfold mgE; rw [if_pos hg]] at HMA
  rw [show csV ns out x y v h = (if regErr x y v h = 0 then csG ns out.toNat v h else 0) by unfold csV; rw [if_pos hg], show csE ns out x y v h = regErr x y v h by unfold csE; rw [if_pos hg]] at HCO
  rw [hg] at HGE HCK
  unfold DsP at HNE
  unfold BlAP at HBL
  unfold BlP at HBW
  unfold StrP at HUS
  obtain ⟨n, hnn⟩ : ∃ n, n = ns.length := ⟨_, rfl⟩
  have hn1 : n ≤ 100 := by have := HZ0.out.2.1; omega
  obtain ⟨D, hD⟩ : ∃ D, D = dsS ns out.toNat ns.length := ⟨_, rfl⟩
  obtain ⟨R, hR⟩ : ∃ R, R = regErr x y v h := ⟨_, rfl⟩
  obtain ⟨CV, hCV⟩ : ∃ CV, CV = if regErr x y v h = 0 then csG ns out.toNat v h else 0 := ⟨_, rfl⟩
  have HCV := Lib.hid (show CV = if R = 0 then csS v h D n else 0 by rw [hCV, hR, hD, hnn]; rfl)
  obtain ⟨M, hMM⟩ : ∃ M, M = mgG ns out.toNat := ⟨_, rfl⟩
  obtain ⟨v1, hv1⟩ : ∃ v1, v1 = if 64 < M then 0 else M := ⟨_, rfl⟩
  obtain ⟨v2, hv2⟩ : ∃ v2 : Int, v2 = if 64 < M then 4 else 0 := ⟨_, rfl⟩
  obtain ⟨f, hf⟩ : ∃ f, f = usF ns := ⟨_, rfl⟩
  obtain ⟨L1, hL1⟩ : ∃ L1, L1 = nmZ f 8 := ⟨_, rfl⟩
  obtain ⟨L2, hL2⟩ : ∃ L2, L2 = nmZ (blS ns k.toNat k.toNat (k.toNat + 1)) (k.toNat + 1) := ⟨_, rfl⟩
  have HL2 : Hid (∀ K : Nat, k = (K : Int) → K < n → L2 = nmZ (blS ns K (n - 1) n) n) := Lib.hid (fun K hK hKn => by
    rw [hL2, hK, Int.toNat_natCast, hnn]
    exact (below_same HZ0.out.2.2.1 (by omega)).symm)
  rw [← hMM, ← hv1, ← hv2, ← hnn] at HMA
  rw [← hMM, ← hnn] at HDM
  rw [← hCV, ← hR, ← hnn] at HCO
  rw [← hR] at HRE
  rw [← hD, ← hnn] at HNE
  rw [← hf, ← hL1, ← hnn] at HUS
  rw [← hL2, ← hnn] at HBL
  rw [← hnn] at HGE HCK HBW
  simp only [← hf, ← hnn] at HSC
  rw [← hnn]
  have HV1 := Lib.hid hv1; have HV2 := Lib.hid hv2; have HL1 := Lib.hid hL1
  clear hn hL hnn hD hR hCV hMM hv1 hv2 hf hL1 hL2 hx hy hg
  go_enter Tryz.func4, Tryz.ntmps4
  go_upto_region 1 with fail
  refine wp_world (fun W1 hW1 => ?_)
  have hy0 : GmW w w.heap.size (w.heap.size + 1) a n c out x y v h W1 := by rw [hW1]; exact ⟨(Blk.new _ _ _ _ rfl).alloc _, Blk.new _ _ _ _ (by simp), by (repeat (first | exact Below.refl _ _ | assumption | (refine Below.setCell ?_ (by first | (simp; done) | (simp; omega) | omega) _) | (refine Below.drew ?_) | (refine below_drewN ?_ _) | (refine Below.alloc ?_ (by first | (simp; done) | (simp; omega) | omega) _) | (refine Below.trans ?_ (Below.mono (by assumption) (by first | (simp; done) | (simp; omega) | omega)))))⟩
  obtain ⟨pg, hpg⟩ : ∃ pg, pg = w.heap.size := ⟨_, rfl⟩
  obtain ⟨pr, hpr⟩ : ∃ pr, pr = w.heap.size + 1 := ⟨_, rfl⟩
  have HY : Hid (GmW w pg pr a n c out x y v h W1) := Lib.hid (by rw [hpg, hpr]; exact hy0)
  rw [← hpr, ← hpg]
  clear hW1 hy0 hpg hpr
  have m0 := HY.out.b1.c 0 _ rfl; have m1 := HY.out.b1.c 1 _ rfl; have ml := HY.out.b1.lt; have p0 := HY.out.b2.c 0 _ rfl; have p1 := HY.out.b2.c 1 _ rfl; have p2 := HY.out.b2.c 2 _ rfl; have p3 := HY.out.b2.c 3 _ rfl; have pl := HY.out.b2.lt
  go_upto_region 2 with (go_at_call 10; refine (HGE.out _ HY.out.bel).mono ?_; rintro e x1 ⟨rfl, hx1⟩)
  have HY1 := Lib.hid (HY.out.past hx1)
  clear hx1 m0 m1 ml p0 p1 p2 p3 pl
  have m0 := HY1.out.b1.c 0 _ rfl; have m1 := HY1.out.b1.c 1 _ rfl; have ml := HY1.out.b1.lt; have p0 := HY1.out.b2.c 0 _ rfl; have p1 := HY1.out.b2.c 1 _ rfl; have p2 := HY1.out.b2.c 2 _ rfl; have p3 := HY1.out.b2.c 3 _ rfl; have pl := HY1.out.b2.lt
  go_upto_region 3 with (go_at_call 18; refine (HMA.out _ HY1.out.bel).mono ?_; rintro e x2 ⟨rfl, hx2⟩)
  have HY2 := Lib.hid (HY1.out.past hx2)
  clear hx2 m0 m1 ml p0 p1 p2 p3 pl
  have m0 := HY2.out.b1.c 0 _ rfl; have m1 := HY2.out.b1.c 1 _ rfl; have ml := HY2.out.b1.lt; have p0 := HY2.out.b2.c 0 _ rfl; have p1 := HY2.out.b2.c 1 _ rfl; have p2 := HY2.out.b2.c 2 _ rfl; have p3 := HY2.out.b2.c 3 _ rfl; have pl := HY2.out.b2.lt
  go_upto_region 4 with (go_at_call 19; refine (HUS.out _ HY2.out.bel).mono ?_; rintro e x3 ⟨u3, rfl, hu3⟩; obtain ⟨au, cu, rfl, hI3⟩ := hu3.ints)
  have HY3 := Lib.hid (HY2.out.past hu3.bel)
  have HI3 := Lib.hid hI3
  clear hu3 hI3 m0 m1 ml p0 p1 p2 p3 pl
  have m0 := HY3.out.b1.c 0 _ rfl; have m1 := HY3.out.b1.c 1 _ rfl; have ml := HY3.out.b1.lt; have p0 := HY3.out.b2.c 0 _ rfl; have p1 := HY3.out.b2.c 1 _ rfl; have p2 := HY3.out.b2.c 2 _ rfl; have p3 := HY3.out.b2.c 3 _ rfl; have pl := HY3.out.b2.lt
  go_upto_region 5 with (go_at_call 20; refine (HBL.out _ HY3.out.bel).mono ?_; rintro e x4 ⟨bu, nu, du, E, rfl, hbr, hx4⟩)
  have HY4 := Lib.hid (HY3.out.past hx4)
  have HI4 := Lib.hid (HI3.out.past hx4)
  have HBR4 := Lib.hid hbr
  clear hx4 hbr m0 m1 ml p0 p1 p2 p3 pl
  have m0 := HY4.out.b1.c 0 _ rfl; have m1 := HY4.out.b1.c 1 _ rfl; have ml := HY4.out.b1.lt; have p0 := HY4.out.b2.c 0 _ rfl; have p1 := HY4.out.b2.c 1 _ rfl; have p2 := HY4.out.b2.c 2 _ rfl; have p3 := HY4.out.b2.c 3 _ rfl; have pl := HY4.out.b2.lt
  go_upto_region 6 with (go_at_call 21; refine (HCO.out _ HY4.out.bel).mono ?_; rintro e x5 ⟨rfl, hx5⟩)
  have HY5 := Lib.hid (HY4.out.past hx5)
  have HX5 := Lib.hid hx5
  clear hx5 m0 m1 ml p0 p1 p2 p3 pl
  have m0 := HY5.out.b1.c 0 _ rfl; have m1 := HY5.out.b1.c 1 _ rfl; have ml := HY5.out.b1.lt; have p0 := HY5.out.b2.c 0 _ rfl; have p1 := HY5.out.b2.c 1 _ rfl; have p2 := HY5.out.b2.c 2 _ rfl; have p3 := HY5.out.b2.c 3 _ rfl; have pl := HY5.out.b2.lt
  go_upto_region 8 with (first
    | (go_at_call 8; refine (HND.out _ HY5.out.bel).mono ?_; rintro e x6 ⟨rfl, hx6⟩; have HY6 := Lib.hid (HY5.out.past hx6); have HX6 := Lib.hid hx6; clear hx6 m0 m1 ml p0 p1 p2 p3 pl; have m0 := HY6.out.b1.c 0 _ rfl; have m1 := HY6.out.b1.c 1 _ rfl; have ml := HY6.out.b1.lt)
    | (go_at_call 22; refine (HCK.out _ HY6.out.bel).mono ?_; rintro e x7 ⟨rfl, hx7⟩; have HY7 := Lib.hid (HY6.out.past hx7); have HX7 := Lib.hid hx7; clear hx7 m0 m1 ml))
  have m0 := HY7.out.b1.c 0 _ rfl; have m1 := HY7.out.b1.c 1 _ rfl; have ml := HY7.out.b1.lt; have p0 := HY7.out.b2.c 0 _ rfl; have p1 := HY7.out.b2.c 1 _ rfl; have p2 := HY7.out.b2.c 2 _ rfl; have p3 := HY7.out.b2.c 3 _ rfl; have pl := HY7.out.b2.lt
  go_upto_region 9 with (go_at_call 23; refine (HDM.out _ HY7.out.bel).mono ?_; rintro e x8 ⟨rfl, hx8⟩)
  have HY8 := Lib.hid (HY7.out.past hx8)
  have HXX := Lib.hid (HX5.out.trans ((HX6.out.trans ((HX7.out.trans (hx8.mono HX7.out.size)).mono HX6.out.size)).mono HX5.out.size))
  have HIU := Lib.hid (HI4.out.past HXX.out)
  have HBR : Hid (((0 ≤ k ∧ k < (n : Int)) → E = 0 ∧ nu = L2.length ∧ IntsAt 0 x8 bu L2) ∧ (¬ (0 ≤ k ∧ k < (n : Int)) → E = 11 ∧ nu = 0)) := Lib.hid ⟨fun h => ⟨(HBR4.out.1 h).1, (HBR4.out.1 h).2.1, (HBR4.out.1 h).2.2.past HXX.out⟩, HBR4.out.2⟩
  clear hx8 m0 m1 ml p0 p1 p2 p3 pl HX5 HX6 HX7 HXX HI3 HI4 HBR4 HY HY1 HY2 HY3 HY4 HY5 HY6 HY7
  have m0 := HY8.out.b1.c 0 _ rfl; have m1 := HY8.out.b1.c 1 _ rfl; have ml := HY8.out.b1.lt; have p0 := HY8.out.b2.c 0 _ rfl; have p1 := HY8.out.b2.c 1 _ rfl; have p2 := HY8.out.b2.c 2 _ rfl; have p3 := HY8.out.b2.c 3 _ rfl; have pl := HY8.out.b2.lt
  have hv1 := HV1.out; have hv2 := HV2.out
  by_cases hM : 64 < M
  · rw [if_pos hM] at hv1 hv2
    subst hv1; subst hv2
    go_upto_region 11 with fail
    clear hM m0 m1 ml p0 p1 p2 p3 pl
    go_wp2_with fail
    go_loopw [17, 129] (fun s17 s129 wr => ∃ (j : Nat) (u : Value), j ≤ 8 ∧ s129 = .int .i64 j ∧ u = s17 ∧ NmR x8 wr u (nmZ f j)) (fun _ s129 _ => 8 - (intOf s129).toNat)
    case atStart => exact ⟨0, _, Nat.zero_le _, rfl, rfl, NmR.nil _⟩
    case round =>
      obtain ⟨j, u, hj, rfl, rfl, hM⟩ := hrel
      have HMM := Lib.hid hM
      clear hM
      by_cases hin : j < 8
      · have hini : (j : Int) < 8 := by omega
        have HF := Lib.hid (show nmZ f (j + 1) = if f j = true then nmZ f j ++ [(j : Int)] else nmZ f j from rfl)
        have hL := nmZ_len f j
        have HYr := Lib.hid (HY8.out.past HMM.out.bel)
        go_upto_region 15 with fail
        refine wp_world (fun V0 hV0 => ?_)
        have hb0 : Below wr.heap.size wr V0 := by rw [hV0]; (repeat (first | exact Below.refl _ _ | assumption | (refine Below.setCell ?_ (by first | (simp; done) | (simp; omega) | omega) _) | (refine Below.drew ?_) | (refine below_drewN ?_ _) | (refine Below.alloc ?_ (by first | (simp; done) | (simp; omega) | omega) _) | (refine Below.trans ?_ (Below.mono (by assumption) (by first | (simp; done) | (simp; omega) | omega)))))
        have K0 : Blk V0 wr.heap.size [.int .i64 j] := by rw [hV0]; exact Blk.new _ _ _ _ rfl
        obtain ⟨kb, hkb⟩ : ∃ kb, kb = wr.heap.size := ⟨_, rfl⟩
        rw [← hkb] at K0
        have HK0 := Lib.hid K0
        have HM0 := Lib.hid (HMM.out.past hb0)
        have HY0 := Lib.hid (HYr.out.past hb0)
        rw [← hkb]
        have HCF := Lib.hid (HSC.out j kb V0 HY0.out.bel K0)
        obtain ⟨L, hLL⟩ : ∃ L, L = nmZ f j := ⟨_, rfl⟩
        rw [← hLL] at HM0 HF hL
        obtain ⟨p, hp⟩ : ∃ p, p = f j := ⟨_, rfl⟩
        rw [← hp] at HF HCF
        clear hV0 hb0 hkb K0 hLL HMM HYr hp
        have m0 := HY0.out.b1.c 0 _ rfl; have ml := HY0.out.b1.lt
        cases p
        · go_wp2_with (go_at_call 24; refine (HCF.out).mono ?_; rintro e y3 ⟨rfl, hy3⟩; have HB3 := Lib.hid hy3; clear hy3)
          go_roundw
          case rel => exact ⟨j + 1, _, by omega, by go_num, rfl, by rw [HF.out]; simpa using HM0.out.past HB3.out⟩
          case measure => simp [intOf] <;> omega
        · rw [if_pos rfl] at HF
          go_upto_region 16 with (go_at_call 24; refine (HCF.out).mono ?_; rintro e y3 ⟨rfl, hy3⟩; have HB3 := Lib.hid hy3; clear hy3)
          refine wp_world (fun V hV => ?_)
          have hVb : Below V0.heap.size V0 V := by rw [hV]; exact HB3.out
          have HMV := Lib.hid (HM0.out.past hVb)
          have HKV := Lib.hid (HK0.out.past hVb)
          clear hV hVb m0 ml HB3
          have k0 := HKV.out.c 0 _ rfl; have kl := HKV.out.lt
          have hbs := HMV.out.bel.size
          go_wp2_with (first | (at_builtin; refine wpList_append_lies _ rfl _ _ _ rfl x8.heap.size 3 i0 (.int .i64 0) 1 8 Tryz.underlying25 hi0 hz0 hz1 hz2 rfl (by decide) u L.length (L.map (Value.int .i64)) rfl (own_past HMV.out.own (by (repeat (first | exact Below.refl _ _ | assumption | (refine Below.setCell ?_ (by first | (simp; done) | (simp; omega) | omega) _) | (refine Below.drew ?_) | (refine below_drewN ?_ _) | (refine Below.alloc ?_ (by first | (simp; done) | (simp; omega) | omega) _) | (refine Below.trans ?_ (Below.mono (by assumption) (by first | (simp; done) | (simp; omega) | omega))))))) ⟨V.heap.size, 0, none⟩ 1 1 [.int .i64 j] rfl rfl (by intro q u hq; match q, hq with | 0, hq => (simp at hq; subst hq; simp [Addr.add])) (by intro u hu; simp at hu; subst hu; rfl) (by decide) (by unfold maxLen; omega) (by omega) (by simp; omega) _ rfl ?_; intro g' cap w7 hown hgrow hat hlt))
          have HN := Lib.hid (NmR.app HMV.out (by (repeat (first | exact Below.refl _ _ | assumption | (refine Below.setCell ?_ (by first | (simp; done) | (simp; omega) | omega) _) | (refine Below.drew ?_) | (refine below_drewN ?_ _) | (refine Below.alloc ?_ (by first | (simp; done) | (simp; omega) | omega) _) | (refine Below.trans ?_ (Below.mono (by assumption) (by first | (simp; done) | (simp; omega) | omega)))))) hown hgrow)
          clear hown hgrow hat hlt
          go_roundw
          case rel => exact ⟨j + 1, _, by omega, by go_num, rfl, by rw [HF.out]; simpa using HN.out⟩
          case measure => simp [intOf] <;> omega
      · have hini : ¬ (j : Int) < 8 := by omega
        obtain rfl : j = 8 := by omega
        obtain ⟨a2, c2, rfl, hI2⟩ := HMM.out.ints
        rw [← HL1.out] at hI2
        have HI2 := Lib.hid hI2
        have HI1 := Lib.hid (HIU.out.past HMM.out.bel)
        have HY9 := Lib.hid (HY8.out.past HMM.out.bel)
        have HBS9 := Lib.hid HMM.out.bel
        rw [← HL1.out]
        have hL1l : L1.length ≤ 8 := by rw [HL1.out]; exact nmZ_len f 8
        clear hI2 HMM
        go_upto_region 20 with (go_at_call 12; refine (eqI_same 0 0 L1 L1.length _ _ _ _ _ rfl (by omega) HI1.out HI2.out).mono ?_; rintro e x9 ⟨rfl, hx9⟩)
        have HYS := Lib.hid (HY9.out.past hx9)
        have HBX := Lib.hid (HBS9.out.trans (hx9.mono HBS9.out.size))
        clear hx9 HI1 HI2 HY9
        have m0 := HYS.out.b1.c 0 _ rfl; have m1 := HYS.out.b1.c 1 _ rfl; have ml := HYS.out.b1.lt; have p0 := HYS.out.b2.c 0 _ rfl; have p1 := HYS.out.b2.c 1 _ rfl; have p2 := HYS.out.b2.c 2 _ rfl; have p3 := HYS.out.b2.c 3 _ rfl; have pl := HYS.out.b2.lt
        by_cases hkr : 0 ≤ k ∧ k < (n : Int)
        case neg =>
          obtain ⟨hE, hnu⟩ := HBR.out.2 hkr
          subst hE; subst hnu
          have q0 : inB k 0 ((n : Int) - 1) = false := inB_f (by omega)
          clear hkr
          go_upto_region 25 with (first | (go_at_call 26; refine (In_any _ _ _ _).mono ?_; rintro e w' ⟨rfl, rfl⟩))
          clear q0 m0 m1 ml p0 p1 p2 p3 pl
          have HYT := Lib.hid HYS.out
          have m0 := HYT.out.b1.c 0 _ rfl; have m1 := HYT.out.b1.c 1 _ rfl; have ml := HYT.out.b1.lt; have p0 := HYT.out.b2.c 0 _ rfl; have p1 := HYT.out.b2.c 1 _ rfl; have p2 := HYT.out.b2.c 2 _ rfl; have p3 := HYT.out.b2.c 3 _ rfl; have pl := HYT.out.b2.lt
          go_upto_region 26 with (go_at_call 28; refine (HRE.out _).mono ?_; rintro e x20 ⟨rfl, hx20⟩)
          have HYU := Lib.hid (HYT.out.past hx20)
          clear hx20 m0 m1 ml p0 p1 p2 p3 pl
          by_cases hR : R = 0
          · rw [if_pos hR] at HCV
            subst hR
            have m0 := HYU.out.b1.c 0 _ rfl; have m1 := HYU.out.b1.c 1 _ rfl; have ml := HYU.out.b1.lt; have p0 := HYU.out.b2.c 0 _ rfl; have p1 := HYU.out.b2.c 1 _ rfl; have p2 := HYU.out.b2.c 2 _ rfl; have p3 := HYU.out.b2.c 3 _ rfl; have pl := HYU.out.b2.lt
            go_wp2_with (go_at_call 29; refine (HNE.out _ HYU.out.bel).mono ?_; rintro e x21 ⟨rb, rfl, hrow, hrb, hx21⟩)
            have HYV := Lib.hid (HYU.out.past hx21)
            have HRW := Lib.hid hrow
            clear hx21 hrow hrb m0 m1 ml p0 p1 p2 p3 pl
            have p2 := HYV.out.b2.c 2 _ rfl; have p3 := HYV.out.b2.c 3 _ rfl; have pl := HYV.out.b2.lt
            have r3 := HRW.out.lt
            go_loopw [20, 187] (fun s20 s187 wr => ∃ i : Nat, i ≤ n ∧ s187 = .int .i64 i ∧ s20 = .int .i64 (csS v h D i) ∧ wr = x21) (fun _ s187 _ => n - (intOf s187).toNat)
            case atStart => exact ⟨0, Nat.zero_le _, rfl, rfl, rfl⟩
            case round =>
              obtain ⟨i, hi, rfl, rfl, rfl⟩ := hrel
              by_cases him : i < n
              · have himi : (i : Int) < (n : Int) := by omega
                have HS := Lib.hid (show csS v h D (i + 1) = if 0 ≤ D i then wrap64 (csS v h D i + wrap64 (wrap64 (v + wrap64 (2 * D i)) * wrap64 (h + wrap64 (2 * D i)))) else csS v h D i from rfl)
                obtain ⟨M2, hM2⟩ : ∃ M2, M2 = csS v h D i := ⟨_, rfl⟩
                obtain ⟨d, hd⟩ : ∃ d, d = D i := ⟨_, rfl⟩
                have r0 := HRW.out.cell him
                rw [← hd] at r0 HS
                rw [← hM2] at HS
                rw [← hM2]
                clear hM2 hd
                by_cases hneg : 0 ≤ d
                · rw [if_pos hneg] at HS
                  go_wp2_with fail
                  go_roundw
                  case rel => exact ⟨i + 1, by omega, by go_num, by rw [HS.out], trivial⟩
                  case measure => simp [intOf] <;> omega
                · rw [if_neg hneg] at HS
                  go_wp2_with fail
                  go_roundw
                  case rel => exact ⟨i + 1, by omega, by go_num, by rw [HS.out], trivial⟩
                  case measure => simp [intOf] <;> omega
              · have himi : ¬ (i : Int) < (n : Int) := by omega
                obtain rfl : i = n := by omega
                rw [← HCV.out]
                go_wp2_with fail
                go_ret
                exact ⟨rfl, HYV.out.bel⟩
          · rw [if_neg hR] at HCV
            have hcv := HCV.out
            subst hcv
            go_wp2_with fail
            go_ret
            exact ⟨rfl, HYU.out.bel⟩
        case pos =>
          obtain ⟨hE, hnu, hIb⟩ := HBR.out.1 hkr
          have HIB := Lib.hid (hIb.past HBX.out)
          obtain ⟨K, hK⟩ : ∃ K : Nat, k = (K : Int) := ⟨k.toNat, by omega⟩
          have HBE := Lib.hid (fun w' hb => HBW.out K w' hb (by omega) : ∀ w', Below w.heap.size w w' → _)
          have HL2K := Lib.hid (HL2.out K hK (by omega))
          subst hK; subst hE; subst hnu
          have q0 : inB (K : Int) 0 ((n : Int) - 1) = true := inB_t (by omega)
          rw [← HL2K.out] at HBE
          have hL2l : L2.length ≤ 101 := by
            rw [HL2K.out]
            exact Nat.le_trans (nmZ_len _ _) (by omega)
          clear hkr hIb
          go_upto_region 25 with (first
            | (go_at_call 26; refine (In_any _ _ _ _).mono ?_; rintro e w' ⟨rfl, rfl⟩)
            | (go_at_call 27; refine (HBE.out _ HYS.out.bel).mono ?_; rintro e x10 ⟨u3, rfl, hu3⟩; obtain ⟨a3, c3, rfl, hI3⟩ := hu3.ints; have HI3 := Lib.hid hI3; have HB3 := Lib.hid hu3.bel; clear hu3 hI3)
            | (go_at_call 12; refine (eqI_same 0 0 L2 L2.length _ _ _ _ _ rfl (by omega) (HIB.out.past HB3.out) HI3.out).mono ?_; rintro e x11 ⟨rfl, hx11⟩))
          have HYT := Lib.hid ((HYS.out.past HB3.out).past hx11)
          clear q0 m0 m1 ml p0 p1 p2 p3 pl hx11 HI3 HIB HB3
          have m0 := HYT.out.b1.c 0 _ rfl; have m1 := HYT.out.b1.c 1 _ rfl; have ml := HYT.out.b1.lt; have p0 := HYT.out.b2.c 0 _ rfl; have p1 := HYT.out.b2.c 1 _ rfl; have p2 := HYT.out.b2.c 2 _ rfl; have p3 := HYT.out.b2.c 3 _ rfl; have pl := HYT.out.b2.lt
          go_upto_region 26 with (go_at_call 28; refine (HRE.out _).mono ?_; rintro e x20 ⟨rfl, hx20⟩)
          have HYU := Lib.hid (HYT.out.past hx20)
          clear hx20 m0 m1 ml p0 p1 p2 p3 pl
          by_cases hR : R = 0
          · rw [if_pos hR] at HCV
            subst hR
            have m0 := HYU.out.b1.c 0 _ rfl; have m1 := HYU.out.b1.c 1 _ rfl; have ml := HYU.out.b1.lt; have p0 := HYU.out.b2.c 0 _ rfl; have p1 := HYU.out.b2.c 1 _ rfl; have p2 := HYU.out.b2.c 2 _ rfl; have p3 := HYU.out.b2.c 3 _ rfl; have pl := HYU.out.b2.lt
            go_wp2_with (go_at_call 29; refine (HNE.out _ HYU.out.bel).mono ?_; rintro e x21 ⟨rb, rfl, hrow, hrb, hx21⟩)
            have HYV := Lib.hid (HYU.out.past hx21)
            have HRW := Lib.hid hrow
            clear hx21 hrow hrb m0 m1 ml p0 p1 p2 p3 pl
            have p2 := HYV.out.b2.c 2 _ rfl; have p3 := HYV.out.b2.c 3 _ rfl; have pl := HYV.out.b2.lt
            have r3 := HRW.out.lt
            go_loopw [20, 187] (fun s20 s187 wr => ∃ i : Nat, i ≤ n ∧ s187 = .int .i64 i ∧ s20 = .int .i64 (csS v h D i) ∧ wr = x21) (fun _ s187 _ => n - (intOf s187).toNat)
            case atStart => exact ⟨0, Nat.zero_le _, rfl, rfl, rfl⟩
            case round =>
              obtain ⟨i, hi, rfl, rfl, rfl⟩ := hrel
              by_cases him : i < n
              · have himi : (i : Int) < (n : Int) := by omega
                have HS := Lib.hid (show csS v h D (i + 1) = if 0 ≤ D i then wrap64 (csS v h D i + wrap64 (wrap64 (v + wrap64 (2 * D i)) * wrap64 (h + wrap64 (2 * D i)))) else csS v h D i from rfl)
                obtain ⟨M2, hM2⟩ : ∃ M2, M2 = csS v h D i := ⟨_, rfl⟩
                obtain ⟨d, hd⟩ : ∃ d, d = D i := ⟨_, rfl⟩
                have r0 := HRW.out.cell him
                rw [← hd] at r0 HS
                rw [← hM2] at HS
                rw [← hM2]
                clear hM2 hd
                by_cases hneg : 0 ≤ d
                · rw [if_pos hneg] at HS
                  go_wp2_with fail
                  go_roundw
                  case rel => exact ⟨i + 1, by omega, by go_num, by rw [HS.out], trivial⟩
                  case measure => simp [intOf] <;> omega
                · rw [if_neg hneg] at HS
                  go_wp2_with fail
                  go_roundw
                  case rel => exact ⟨i + 1, by omega, by go_num, by rw [HS.out], trivial⟩
                  case measure => simp [intOf] <;> omega
              · have himi : ¬ (i : Int) < (n : Int) := by omega
                obtain rfl : i = n := by omega
                rw [← HCV.out]
                go_wp2_with fail
                go_ret
                exact ⟨rfl, HYV.out.bel⟩
          · rw [if_neg hR] at HCV
            have hcv := HCV.out
            subst hcv
            go_wp2_with fail
            go_ret
            exact ⟨rfl, HYU.out.bel⟩
  · rw [if_neg hM] at hv1 hv2
    subst hv1; subst hv2
    go_upto_region 11 with fail
    clear hM m0 m1 ml p0 p1 p2 p3 pl
    go_wp2_with fail
    go_loopw [17, 129] (fun s17 s129 wr => ∃ (j : Nat) (u : Value), j ≤ 8 ∧ s129 = .int .i64 j ∧ u = s17 ∧ NmR x8 wr u (nmZ f j)) (fun _ s129 _ => 8 - (intOf s129).toNat)
    case atStart => exact ⟨0, _, Nat.zero_le _, rfl, rfl, NmR.nil _⟩
    case round =>
      obtain ⟨j, u, hj, rfl, rfl, hM⟩ := hrel
      have HMM := Lib.hid hM
      clear hM
      by_cases hin : j < 8
      · have hini : (j : Int) < 8 := by omega
        have HF := Lib.hid (show nmZ f (j + 1) = if f j = true then nmZ f j ++ [(j : Int)] else nmZ f j from rfl)
        have hL := nmZ_len f j
        have HYr := Lib.hid (HY8.out.past HMM.out.bel)
        go_upto_region 15 with fail
        refine wp_world (fun V0 hV0 => ?_)
        have hb0 : Below wr.heap.size wr V0 := by rw [hV0]; (repeat (first | exact Below.refl _ _ | assumption | (refine Below.setCell ?_ (by first | (simp; done) | (simp; omega) | omega) _) | (refine Below.drew ?_) | (refine below_drewN ?_ _) | (refine Below.alloc ?_ (by first | (simp; done) | (simp; omega) | omega) _) | (refine Below.trans ?_ (Below.mono (by assumption) (by first | (simp; done) | (simp; omega) | omega)))))
        have K0 : Blk V0 wr.heap.size [.int .i64 j] := by rw [hV0]; exact Blk.new _ _ _ _ rfl
        obtain ⟨kb, hkb⟩ : ∃ kb, kb = wr.heap.size := ⟨_, rfl⟩
        rw [← hkb] at K0
        have HK0 := Lib.hid K0
        have HM0 := Lib.hid (HMM.out.past hb0)
        have HY0 := Lib.hid (HYr.out.past hb0)
        rw [← hkb]
        have HCF := Lib.hid (HSC.out j kb V0 HY0.out.bel K0)
        obtain ⟨L, hLL⟩ : ∃ L, L = nmZ f j := ⟨_, rfl⟩
        rw [← hLL] at HM0 HF hL
        obtain ⟨p, hp⟩ : ∃ p, p = f j := ⟨_, rfl⟩
        rw [← hp] at HF HCF
        clear hV0 hb0 hkb K0 hLL HMM HYr hp
        have m0 := HY0.out.b1.c 0 _ rfl; have ml := HY0.out.b1.lt
        cases p
        · go_wp2_with (go_at_call 24; refine (HCF.out).mono ?_; rintro e y3 ⟨rfl, hy3⟩; have HB3 := Lib.hid hy3; clear hy3)
          go_roundw
          case rel => exact ⟨j + 1, _, by omega, by go_num, rfl, by rw [HF.out]; simpa using HM0.out.past HB3.out⟩
          case measure => simp [intOf] <;> omega
        · rw [if_pos rfl] at HF
          go_upto_region 16 with (go_at_call 24; refine (HCF.out).mono ?_; rintro e y3 ⟨rfl, hy3⟩; have HB3 := Lib.hid hy3; clear hy3)
          refine wp_world (fun V hV => ?_)
          have hVb : Below V0.heap.size V0 V := by rw [hV]; exact HB3.out
          have HMV := Lib.hid (HM0.out.past hVb)
          have HKV := Lib.hid (HK0.out.past hVb)
          clear hV hVb m0 ml HB3
          have k0 := HKV.out.c 0 _ rfl; have kl := HKV.out.lt
          have hbs := HMV.out.bel.size
          go_wp2_with (first | (at_builtin; refine wpList_append_lies _ rfl _ _ _ rfl x8.heap.size 3 i0 (.int .i64 0) 1 8 Tryz.underlying25 hi0 hz0 hz1 hz2 rfl (by decide) u L.length (L.map (Value.int .i64)) rfl (own_past HMV.out.own (by (repeat (first | exact Below.refl _ _ | assumption | (refine Below.setCell ?_ (by first | (simp; done) | (simp; omega) | omega) _) | (refine Below.drew ?_) | (refine below_drewN ?_ _) | (refine Below.alloc ?_ (by first | (simp; done) | (simp; omega) | omega) _) | (refine Below.trans ?_ (Below.mono (by assumption) (by first | (simp; done) | (simp; omega) | omega))))))) ⟨V.heap.size, 0, none⟩ 1 1 [.int .i64 j] rfl rfl (by intro q u hq; match q, hq with | 0, hq => (simp at hq; subst hq; simp [Addr.add])) (by intro u hu; simp at hu; subst hu; rfl) (by decide) (by unfold maxLen; omega) (by omega) (by simp; omega) _ rfl ?_; intro g' cap w7 hown hgrow hat hlt))
          have HN := Lib.hid (NmR.app HMV.out (by (repeat (first | exact Below.refl _ _ | assumption | (refine Below.setCell ?_ (by first | (simp; done) | (simp; omega) | omega) _) | (refine Below.drew ?_) | (refine below_drewN ?_ _) | (refine Below.alloc ?_ (by first | (simp; done) | (simp; omega) | omega) _) | (refine Below.trans ?_ (Below.mono (by assumption) (by first | (simp; done) | (simp; omega) | omega)))))) hown hgrow)
          clear hown hgrow hat hlt
          go_roundw
          case rel => exact ⟨j + 1, _, by omega, by go_num, rfl, by rw [HF.out]; simpa using HN.out⟩
          case measure => simp [intOf] <;> omega
      · have hini : ¬ (j : Int) < 8 := by omega
        obtain rfl : j = 8 := by omega
        obtain ⟨a2, c2, rfl, hI2⟩ := HMM.out.ints
        rw [← HL1.out] at hI2
        have HI2 := Lib.hid hI2
        have HI1 := Lib.hid (HIU.out.past HMM.out.bel)
        have HY9 := Lib.hid (HY8.out.past HMM.out.bel)
        have HBS9 := Lib.hid HMM.out.bel
        rw [← HL1.out]
        have hL1l : L1.length ≤ 8 := by rw [HL1.out]; exact nmZ_len f 8
        clear hI2 HMM
        go_upto_region 20 with (go_at_call 12; refine (eqI_same 0 0 L1 L1.length _ _ _ _ _ rfl (by omega) HI1.out HI2.out).mono ?_; rintro e x9 ⟨rfl, hx9⟩)
        have HYS := Lib.hid (HY9.out.past hx9)
        have HBX := Lib.hid (HBS9.out.trans (hx9.mono HBS9.out.size))
        clear hx9 HI1 HI2 HY9
        have m0 := HYS.out.b1.c 0 _ rfl; have m1 := HYS.out.b1.c 1 _ rfl; have ml := HYS.out.b1.lt; have p0 := HYS.out.b2.c 0 _ rfl; have p1 := HYS.out.b2.c 1 _ rfl; have p2 := HYS.out.b2.c 2 _ rfl; have p3 := HYS.out.b2.c 3 _ rfl; have pl := HYS.out.b2.lt
        by_cases hkr : 0 ≤ k ∧ k < (n : Int)
        case neg =>
          obtain ⟨hE, hnu⟩ := HBR.out.2 hkr
          subst hE; subst hnu
          have q0 : inB k 0 ((n : Int) - 1) = false := inB_f (by omega)
          clear hkr
          go_upto_region 25 with (first | (go_at_call 26; refine (In_any _ _ _ _).mono ?_; rintro e w' ⟨rfl, rfl⟩))
          clear q0 m0 m1 ml p0 p1 p2 p3 pl
          have HYT := Lib.hid HYS.out
          have m0 := HYT.out.b1.c 0 _ rfl; have m1 := HYT.out.b1.c 1 _ rfl; have ml := HYT.out.b1.lt; have p0 := HYT.out.b2.c 0 _ rfl; have p1 := HYT.out.b2.c 1 _ rfl; have p2 := HYT.out.b2.c 2 _ rfl; have p3 := HYT.out.b2.c 3 _ rfl; have pl := HYT.out.b2.lt
          go_upto_region 26 with (go_at_call 28; refine (HRE.out _).mono ?_; rintro e x20 ⟨rfl, hx20⟩)
          have HYU := Lib.hid (HYT.out.past hx20)
          clear hx20 m0 m1 ml p0 p1 p2 p3 pl
          by_cases hR : R = 0
          · rw [if_pos hR] at HCV
            subst hR
            have m0 := HYU.out.b1.c 0 _ rfl; have m1 := HYU.out.b1.c 1 _ rfl; have ml := HYU.out.b1.lt; have p0 := HYU.out.b2.c 0 _ rfl; have p1 := HYU.out.b2.c 1 _ rfl; have p2 := HYU.out.b2.c 2 _ rfl; have p3 := HYU.out.b2.c 3 _ rfl; have pl := HYU.out.b2.lt
            go_wp2_with (go_at_call 29; refine (HNE.out _ HYU.out.bel).mono ?_; rintro e x21 ⟨rb, rfl, hrow, hrb, hx21⟩)
            have HYV := Lib.hid (HYU.out.past hx21)
            have HRW := Lib.hid hrow
            clear hx21 hrow hrb m0 m1 ml p0 p1 p2 p3 pl
            have p2 := HYV.out.b2.c 2 _ rfl; have p3 := HYV.out.b2.c 3 _ rfl; have pl := HYV.out.b2.lt
            have r3 := HRW.out.lt
            go_loopw [20, 187] (fun s20 s187 wr => ∃ i : Nat, i ≤ n ∧ s187 = .int .i64 i ∧ s20 = .int .i64 (csS v h D i) ∧ wr = x21) (fun _ s187 _ => n - (intOf s187).toNat)
            case atStart => exact ⟨0, Nat.zero_le _, rfl, rfl, rfl⟩
            case round =>
              obtain ⟨i, hi, rfl, rfl, rfl⟩ := hrel
              by_cases him : i < n
              · have himi : (i : Int) < (n : Int) := by omega
                have HS := Lib.hid (show csS v h D (i + 1) = if 0 ≤ D i then wrap64 (csS v h D i + wrap64 (wrap64 (v + wrap64 (2 * D i)) * wrap64 (h + wrap64 (2 * D i)))) else csS v h D i from rfl)
                obtain ⟨M2, hM2⟩ : ∃ M2, M2 = csS v h D i := ⟨_, rfl⟩
                obtain ⟨d, hd⟩ : ∃ d, d = D i := ⟨_, rfl⟩
                have r0 := HRW.out.cell him
                rw [← hd] at r0 HS
                rw [← hM2] at HS
                rw [← hM2]
                clear hM2 hd
                by_cases hneg : 0 ≤ d
                · rw [if_pos hneg] at HS
                  go_wp2_with fail
                  go_roundw
                  case rel => exact ⟨i + 1, by omega, by go_num, by rw [HS.out], trivial⟩
                  case measure => simp [intOf] <;> omega
                · rw [if_neg hneg] at HS
                  go_wp2_with fail
                  go_roundw
                  case rel => exact ⟨i + 1, by omega, by go_num, by rw [HS.out], trivial⟩
                  case measure => simp [intOf] <;> omega
              · have himi : ¬ (i : Int) < (n : Int) := by omega
                obtain rfl : i = n := by omega
                rw [← HCV.out]
                go_wp2_with fail
                go_ret
                exact ⟨rfl, HYV.out.bel⟩
          · rw [if_neg hR] at HCV
            have hcv := HCV.out
            subst hcv
            go_wp2_with fail
            go_ret
            exact ⟨rfl, HYU.out.bel⟩
        case pos =>
          obtain ⟨hE, hnu, hIb⟩ := HBR.out.1 hkr
          have HIB := Lib.hid (hIb.past HBX.out)
          obtain ⟨K, hK⟩ : ∃ K : Nat, k = (K : Int) := ⟨k.toNat, by omega⟩
          have HBE := Lib.hid (fun w' hb => HBW.out K w' hb (by omega) : ∀ w', Below w.heap.size w w' → _)
          have HL2K := Lib.hid (HL2.out K hK (by omega))
          subst hK; subst hE; subst hnu
          have q0 : inB (K : Int) 0 ((n : Int) - 1) = true := inB_t (by omega)
          rw [← HL2K.out] at HBE
          have hL2l : L2.length ≤ 101 := by
            rw [HL2K.out]
            exact Nat.le_trans (nmZ_len _ _) (by omega)
          clear hkr hIb
          go_upto_region 25 with (first
            | (go_at_call 26; refine (In_any _ _ _ _).mono ?_; rintro e w' ⟨rfl, rfl⟩)
            | (go_at_call 27; refine (HBE.out _ HYS.out.bel).mono ?_; rintro e x10 ⟨u3, rfl, hu3⟩; obtain ⟨a3, c3, rfl, hI3⟩ := hu3.ints; have HI3 := Lib.hid hI3; have HB3 := Lib.hid hu3.bel; clear hu3 hI3)
            | (go_at_call 12; refine (eqI_same 0 0 L2 L2.length _ _ _ _ _ rfl (by omega) (HIB.out.past HB3.out) HI3.out).mono ?_; rintro e x11 ⟨rfl, hx11⟩))
          have HYT := Lib.hid ((HYS.out.past HB3.out).past hx11)
          clear q0 m0 m1 ml p0 p1 p2 p3 pl hx11 HI3 HIB HB3
          have m0 := HYT.out.b1.c 0 _ rfl; have m1 := HYT.out.b1.c 1 _ rfl; have ml := HYT.out.b1.lt; have p0 := HYT.out.b2.c 0 _ rfl; have p1 := HYT.out.b2.c 1 _ rfl; have p2 := HYT.out.b2.c 2 _ rfl; have p3 := HYT.out.b2.c 3 _ rfl; have pl := HYT.out.b2.lt
          go_upto_region 26 with (go_at_call 28; refine (HRE.out _).mono ?_; rintro e x20 ⟨rfl, hx20⟩)
          have HYU := Lib.hid (HYT.out.past hx20)
          clear hx20 m0 m1 ml p0 p1 p2 p3 pl
          by_cases hR : R = 0
          · rw [if_pos hR] at HCV
            subst hR
            have m0 := HYU.out.b1.c 0 _ rfl; have m1 := HYU.out.b1.c 1 _ rfl; have ml := HYU.out.b1.lt; have p0 := HYU.out.b2.c 0 _ rfl; have p1 := HYU.out.b2.c 1 _ rfl; have p2 := HYU.out.b2.c 2 _ rfl; have p3 := HYU.out.b2.c 3 _ rfl; have pl := HYU.out.b2.lt
            go_wp2_with (go_at_call 29; refine (HNE.out _ HYU.out.bel).mono ?_; rintro e x21 ⟨rb, rfl, hrow, hrb, hx21⟩)
            have HYV := Lib.hid (HYU.out.past hx21)
            have HRW := Lib.hid hrow
            clear hx21 hrow hrb m0 m1 ml p0 p1 p2 p3 pl
            have p2 := HYV.out.b2.c 2 _ rfl; have p3 := HYV.out.b2.c 3 _ rfl; have pl := HYV.out.b2.lt
            have r3 := HRW.out.lt
            go_loopw [20, 187] (fun s20 s187 wr => ∃ i : Nat, i ≤ n ∧ s187 = .int .i64 i ∧ s20 = .int .i64 (csS v h D i) ∧ wr = x21) (fun _ s187 _ => n - (intOf s187).toNat)
            case atStart => exact ⟨0, Nat.zero_le _, rfl, rfl, rfl⟩
            case round =>
              obtain ⟨i, hi, rfl, rfl, rfl⟩ := hrel
              by_cases him : i < n
              · have himi : (i : Int) < (n : Int) := by omega
                have HS := Lib.hid (show csS v h D (i + 1) = if 0 ≤ D i then wrap64 (csS v h D i + wrap64 (wrap64 (v + wrap64 (2 * D i)) * wrap64 (h + wrap64 (2 * D i)))) else csS v h D i from rfl)
                obtain ⟨M2, hM2⟩ : ∃ M2, M2 = csS v h D i := ⟨_, rfl⟩
                obtain ⟨d, hd⟩ : ∃ d, d = D i := ⟨_, rfl⟩
                have r0 := HRW.out.cell him
                rw [← hd] at r0 HS
                rw [← hM2] at HS
                rw [← hM2]
                clear hM2 hd
                by_cases hneg : 0 ≤ d
                · rw [if_pos hneg] at HS
                  go_wp2_with fail
                  go_roundw
                  case rel => exact ⟨i + 1, by omega, by go_num, by rw [HS.out], trivial⟩
                  case measure => simp [intOf] <;> omega
                · rw [if_neg hneg] at HS
                  go_wp2_with fail
                  go_roundw
                  case rel => exact ⟨i + 1, by omega, by go_num, by rw [HS.out], trivial⟩
                  case measure => simp [intOf] <;> omega
              · have himi : ¬ (i : Int) < (n : Int) := by omega
                obtain rfl : i = n := by omega
                rw [← HCV.out]
                go_wp2_with fail
                go_ret
                exact ⟨rfl, HYV.out.bel⟩
          · rw [if_neg hR] at HCV
            have hcv := HCV.out
            subst hcv
            go_wp2_with fail
            go_ret
            exact ⟨rfl, HYU.out.bel⟩
theorem gm_walk (a : Option Addr) (c : Nat) (ns : List NodeD) (out x y v h k : Int) (w : World) (hL : LibN w) (hn : IsNodes w a c ns) (_ho : IntKind.i64.min ≤ out ∧ out ≤ IntKind.i64.max) (hx : -9223372036854775808 ≤ x ∧ x ≤ 9223372036854775807) (hy : -9223372036854775808 ≤ y ∧ y ≤ 9223372036854775807) :
    Calls Tryz.prog 4 #[.agg #[.slice a ns.length c, .int .i64 out], .agg #[.int .i64 x, .int .i64 y, .int .i64 v, .int .i64 h], .int .i64 k] w fun e w' => e = .returned (.bool true) ∧ Below w.heap.size w w' := by
  by_cases hg : gE ns out = 0
  · exact gm_yes a c ns out x y v h k w hL hn hx hy hg
  · exact gm_no a c ns out x y v h k w hL hn hg
end Go.Proofs.YtbclecoblcfboaaGreatDoor
