/- How many places are evaluated: node.Cost. Conditions: the nodes can be read. -/
import Derived.Test.YtbclecoblcfboaaGreatDoorGqD
namespace Go.Proofs.YtbclecoblcfboaaGreatDoor
open Go Go.RowKit
/-- What Cost tells. -/
def csG (ns : List NodeD) (o : Nat) (W H : Int) : Int := csS W H (dsS ns o ns.length) ns.length
def csV (ns : List NodeD) (out x y W H : Int) : Int := if gE ns out = 0 then (if regErr x y W H = 0 then csG ns out.toNat W H else 0) else 0
def csE (ns : List NodeD) (out x y W H : Int) : Int := if gE ns out = 0 then regErr x y W H else gE ns out
set_option maxRecDepth 100000 in
set_option maxHeartbeats 3200000 in
theorem Cost_any (a : Option Addr) (c : Nat) (ns : List NodeD) (out x y v h : Int) (w : World) (hn : IsNodes w a c ns) :
    Calls Tryz.prog 21 #[.agg #[.slice a ns.length c, .int .i64 out], .agg #[.int .i64 x, .int .i64 y, .int .i64 v, .int .i64 h]] w fun e w' => e = .returned (.tuple #[.int .i64 (csV ns out x y v h), .int .i64 (csE ns out x y v h)]) ∧ Below w.heap.size w w' := by
  have HK := Lib.hid (fun w' hb => CheckGraph_any a c ns out w' (hn.past hb) : ∀ w', Below w.heap.size w w' → _)
  have HCR := Lib.hid (fun w' => CheckRegion_any x y v h w')
  have HDI0 := fun w' hb (hg : gE ns out = 0) => distances_any a c ns out w' (hn.past hb) hg
  obtain ⟨m, hm⟩ : ∃ m, m = ns.length := ⟨_, rfl⟩
  obtain ⟨G, hG⟩ : ∃ G, G = gE ns out := ⟨_, rfl⟩
  obtain ⟨R, hR⟩ : ∃ R, R = regErr x y v h := ⟨_, rfl⟩
  obtain ⟨D, hD⟩ : ∃ D, D = dsS ns out.toNat ns.length := ⟨_, rfl⟩
  obtain ⟨V, hV⟩ : ∃ V, V = csV ns out x y v h := ⟨_, rfl⟩
  obtain ⟨E, hE⟩ : ∃ E, E = csE ns out x y v h := ⟨_, rfl⟩
  have HV := Lib.hid (show V = if G = 0 then (if R = 0 then csS v h D m else 0) else 0 by rw [hV, hG, hR, hD, hm]; rfl)
  have HE := Lib.hid (show E = if G = 0 then R else G by rw [hE, hG, hR]; rfl)
  have hm1 : G = 0 → m ≤ 100 := fun h => by rw [hm]; exact (gE_ok (hG ▸ h)).2.1
  have HDI : Hid (G = 0 → ∀ w', Below w.heap.size w w' → Calls Tryz.prog 46 #[.agg #[.slice a m c, .int .i64 out]] w' fun e w'' => ∃ b, e = .returned (.slice (some ⟨b, 0, none⟩) m m) ∧ w''.rowIs b 3 m (fun q => .int .i64 (D q)) ∧ Below w'.heap.size w' w'') := Lib.hid (fun h w' hb => by
    rw [hm, hD]
    refine (HDI0 w' hb (hG ▸ h)).mono ?_
    rintro e w'' ⟨b, h1, h2, -, h3⟩
    exact ⟨b, h1, h2, h3⟩)
  clear HDI0
  rw [← hm, ← hG] at HK
  rw [← hR] at HCR
  rw [← hm, ← hV, ← hE]
  clear hm hG hR hD hV hE hn
  go_enter Tryz.func21, Tryz.ntmps21
  go_upto_region 1 with fail
  refine wp_world (fun W1 hW1 => ?_)
  have H1p : Blk W1 w.heap.size [.slice a m c, .int .i64 out] ∧ Blk W1 (w.heap.size + 1) [.int .i64 x, .int .i64 y, .int .i64 v, .int .i64 h] ∧ Below w.heap.size w W1 := by rw [hW1]; exact ⟨(Blk.new _ _ _ _ rfl).alloc _, Blk.new _ _ _ _ (by simp), by (repeat (first | exact Below.refl _ _ | assumption | (refine Below.setCell ?_ (by first | (simp; done) | (simp; omega) | omega) _) | (refine Below.drew ?_) | (refine below_drewN ?_ _) | (refine Below.alloc ?_ (by first | (simp; done) | (simp; omega) | omega) _) | (refine Below.trans ?_ (Below.mono (by assumption) (by first | (simp; done) | (simp; omega) | omega)))))⟩
  obtain ⟨pg, hpg⟩ : ∃ pg, pg = w.heap.size := ⟨_, rfl⟩
  obtain ⟨pr, hpr⟩ : ∃ pr, pr = w.heap.size + 1 := ⟨_, rfl⟩
  have H1 : Hid (Blk W1 pg [.slice a m c, .int .i64 out] ∧ Blk W1 pr [.int .i64 x, .int .i64 y, .int .i64 v, .int .i64 h] ∧ Below w.heap.size w W1) := Lib.hid (by rw [hpg, hpr]; exact H1p)
  rw [← hpr, ← hpg]
  clear hW1 H1p hpg hpr
  have g0 := H1.out.1.c 0 _ rfl; have g1 := H1.out.1.c 1 _ rfl; have gl := H1.out.1.lt
  by_cases hg : G = 0
  case neg =>
    rw [if_neg hg] at HV HE
    go_wp2_with (go_at_call 22; refine (HK.out _ H1.out.2.2).mono ?_; rintro e w1 ⟨rfl, hb1⟩)
    go_ret2
    rw [HV.out, HE.out]
    exact ⟨rfl, H1.out.2.2.trans (hb1.mono H1.out.2.2.size)⟩
  have hm2 := hm1 hg
  have HDX := Lib.hid (HDI.out hg)
  rw [if_pos hg] at HV HE
  subst hg
  go_upto_region 4 with (go_at_call 22; refine (HK.out _ H1.out.2.2).mono ?_; rintro e w1 ⟨rfl, hb1⟩)
  have H2 := Lib.hid (And.intro (H1.out.1.past hb1) (And.intro (H1.out.2.1.past hb1) (H1.out.2.2.trans (hb1.mono H1.out.2.2.size))))
  clear hb1 g0 g1 gl H1
  have p0 := H2.out.2.1.c 0 _ rfl; have p1 := H2.out.2.1.c 1 _ rfl; have p2 := H2.out.2.1.c 2 _ rfl; have p3 := H2.out.2.1.c 3 _ rfl; have pl := H2.out.2.1.lt
  by_cases hr : R = 0
  case neg =>
    rw [if_neg hr] at HV
    go_wp2_with (go_at_call 45; refine (HCR.out _).mono ?_; rintro e w2 ⟨rfl, hb2⟩)
    go_ret2
    rw [HV.out, HE.out]
    exact ⟨rfl, H2.out.2.2.trans (hb2.mono H2.out.2.2.size)⟩
  rw [if_pos hr] at HV
  subst hr
  go_upto_region 8 with (go_at_call 45; refine (HCR.out _).mono ?_; rintro e w2 ⟨rfl, hb2⟩)
  have H3 := Lib.hid (And.intro (H2.out.1.past hb2) (And.intro (H2.out.2.1.past hb2) (H2.out.2.2.trans (hb2.mono H2.out.2.2.size))))
  clear hb2 p0 p1 p2 p3 pl H2
  have g0 := H3.out.1.c 0 _ rfl; have g1 := H3.out.1.c 1 _ rfl; have gl := H3.out.1.lt
  go_wp2_with (go_at_call 46; refine (HDX.out _ H3.out.2.2).mono ?_; rintro e w3 ⟨rb, rfl, hrow, hb3⟩)
  have H4 := Lib.hid (And.intro hrow (And.intro (H3.out.2.1.past hb3) (H3.out.2.2.trans (hb3.mono H3.out.2.2.size))))
  clear hrow hb3 g0 g1 gl H3
  have r3 := H4.out.1.lt
  have p2 := H4.out.2.1.c 2 _ rfl; have p3 := H4.out.2.1.c 3 _ rfl; have pl := H4.out.2.1.lt
  go_loopw [8, 24] (fun s8 s24 wr => ∃ i : Nat, i ≤ m ∧ s24 = .int .i64 i ∧ s8 = .int .i64 (csS v h D i) ∧ wr = w3) (fun _ s24 _ => m - (intOf s24).toNat)
  case atStart => exact ⟨0, Nat.zero_le _, rfl, rfl, rfl⟩
  case round =>
    obtain ⟨i, hi, rfl, rfl, rfl⟩ := hrel
    by_cases him : i < m
    · have himi : (i : Int) < (m : Int) := by omega
      have HS := Lib.hid (show csS v h D (i + 1) = if 0 ≤ D i then wrap64 (csS v h D i + wrap64 (wrap64 (v + wrap64 (2 * D i)) * wrap64 (h + wrap64 (2 * D i)))) else csS v h D i from rfl)
      obtain ⟨M, hM⟩ : ∃ M, M = csS v h D i := ⟨_, rfl⟩
      obtain ⟨d, hd⟩ : ∃ d, d = D i := ⟨_, rfl⟩
      have r0 := H4.out.1.cell him
      rw [← hd] at r0 HS
      rw [← hM] at HS
      rw [← hM]
      clear hM hd
      by_cases hneg : 0 ≤ d
      · rw [if_pos hneg] at HS
        go_wp2_with fail
        go_roundw
        case rel => exact ⟨i + 1, by omega, by go_num, by rw [HS.out], trivial⟩
        case measure => simp [intOf] <;> omega
      · rw [if_neg hneg] at HS
        go_wp2_with fail
        go_roundw
        case rel => exact ⟨i + 1, by omega, by go_num, by rw [HS.out], trivial⟩
        case measure => simp [intOf] <;> omega
    · have himi : ¬ (i : Int) < (m : Int) := by omega
      obtain rfl : i = m := by omega
      rw [← HV.out]
      go_wp2_with fail
      go_ret2
      rw [HE.out]
      exact ⟨rfl, H4.out.2.2⟩
end Go.Proofs.YtbclecoblcfboaaGreatDoor
