/- PacksMatch: the walk of the statement, at 16 bits. No condition. -/
import Derived.Test.YtmckkgbdlgldbaaLawPk
namespace Go.Proofs.Ytmckkgbdlgldbaa
open Go Go.RowKit
set_option maxRecDepth 100000 in
set_option maxHeartbeats 6400000 in
theorem pk_large_16 (N cap : Nat) (a : Option Addr) (many : Int) (t : ByteArray) (w : World) (hN : 65536 < N) :
    Calls Try.prog 7 #[.slice a N cap, .int .i64 16, .int .i64 many, .string t] w fun e w' => e = .returned (.bool true) ∧ Below w.heap.size w w' := by
  have hn : (65536 : Int) < (N : Int) := by omega
  go_enter Try.func7, Try.ntmps7
  go_upto_region 10 with (first | (go_at_call 51; refine (Pack_large a N cap 16 _ (by decide) hN).mono ?_; rintro e w1 ⟨rfl, rfl⟩) | (go_at_call 21; refine (When_any _ _ _).mono ?_; rintro e w' ⟨rfl, rfl⟩) | (go_at_call 19; refine (First2_new _ _ _ _ _ (heap_new _ _ _ (by simp))).mono ?_; rintro e w' ⟨rfl, rfl⟩))
  go_upto_region 16 with (first | (go_at_call 23; refine (finishes_any _).mono ?_; rintro e w' ⟨n, rfl, rfl⟩))
  refine wp_world (fun W0 hW0 => ?_)
  have HB0 : Hid (Below w.heap.size w W0) := by rw [hW0]; exact (show Below _ _ _ by (repeat (first | exact Below.refl _ _ | assumption | (refine Below.setCell ?_ (by first | (simp; done) | (simp; omega) | omega) _) | (refine Below.drew ?_) | (refine below_drewN ?_ _) | (refine Below.alloc ?_ (by first | (simp; done) | (simp; omega) | omega) _) | (refine Below.trans ?_ (Below.mono (by assumption) (by first | (simp; done) | (simp; omega) | omega))))))
  clear hW0
  by_cases hmn : 0 ≤ many ∧ many ≤ 65536
  · obtain ⟨mn, rfl⟩ : ∃ n : Nat, many = n := ⟨many.toNat, by omega⟩
    have hmn' : mn ≤ 65536 := by omega
    have hi : inB (mn : Int) 0 65536 = true := inB_t hmn
    clear hmn
    by_cases hsz : t.size = longI 16 mn
    · have hsz' : t.size = 2 * mn := (by rw [hsz]; unfold longI; rw [if_neg (by decide), if_pos rfl])
      clear hsz
      go_wp2_with fail
      refine (Unpack_16 t mn _ hmn' hsz').mono ?_
      rintro e u1 ⟨u, rfl, hU⟩
      obtain ⟨g, ua, uc, rfl, hga, hgc⟩ := un_cells hU
      have HG := Lib.hid (And.intro hga hgc); have HU := Lib.hid (HB0.out.trans (hU.bel.mono HB0.out.size))
      have hst := pk16 hsz'
      have HST := Lib.hid hst
      clear hga hgc hU hst
      go_upto_region 18 with (first | (go_at_call 22; refine (In_any _ _ _ _).mono ?_; rintro e w' ⟨rfl, rfl⟩) | (go_at_call 21; refine (When_any _ _ _).mono ?_; rintro e w' ⟨rfl, rfl⟩) | (go_at_call 19; refine (First2_new _ _ _ _ _ (heap_new _ _ _ (by simp))).mono ?_; rintro e w' ⟨rfl, rfl⟩))
      refine wp_world (fun V2 hV2 => ?_)
      have B2 : Below u1.heap.size u1 V2 := by rw [hV2]; (repeat (first | exact Below.refl _ _ | assumption | (refine Below.setCell ?_ (by first | (simp; done) | (simp; omega) | omega) _) | (refine Below.drew ?_) | (refine below_drewN ?_ _) | (refine Below.alloc ?_ (by first | (simp; done) | (simp; omega) | omega) _) | (refine Below.trans ?_ (Below.mono (by assumption) (by first | (simp; done) | (simp; omega) | omega)))))
      have HB2 := Lib.hid (HU.out.trans (B2.mono HU.out.size))
      have HPK := Lib.hid (PackedOf_16 g 0 mn uc ua (fun i => wdI t (2 * i) 2) V2 hmn' HG.out.1 (fun i hi => (B2.cell (p := ⟨g, 0 + i, none⟩) (cell_lt (HG.out.2 i hi))).trans (HG.out.2 i hi)) (fun i _ => wdI2 t i))
      rw [show (⟨(pkL (g16 (fun i => wdI t (2 * i) 2)) mn).toArray⟩ : ByteArray) = t by rw [HST.out]] at HPK
      clear hV2 B2 HG HST
      go_wp2_with fail
      refine (HPK.out).mono ?_
      rintro e u3 ⟨rfl, hb3⟩
      have HB3 := Lib.hid (HB2.out.trans (hb3.mono HB2.out.size))
      clear hb3 HPK HB2
      go_wp2_with fail
      go_ret
      exact ⟨by simp, HB3.out⟩
    · have HNE := Lib.hid (show t.size ≠ 2 * mn from fun h => hsz (by rw [h]; unfold longI; simp))
      have hq : ((t.size : Int) != (mn : Int) * 16 / 8) = true := by have := HNE.out; simp; omega
      have hq2 : ((t.size : Int) == (mn : Int) * 16 / 8) = false := by have := HNE.out; simp; omega
      go_wp2_with fail
      refine (Unpack_long t mn 16 _ (by decide) hmn' hsz).mono ?_
      rintro e u1 ⟨rfl, hU⟩
      have HB1 := Lib.hid (HB0.out.trans (hU.mono HB0.out.size))
      have hs1 := hU.size
      clear hU hsz
      go_wp2_with (first | (go_at_call 22; refine (In_any _ _ _ _).mono ?_; rintro e w' ⟨rfl, rfl⟩) | (go_at_call 21; refine (When_any _ _ _).mono ?_; rintro e w' ⟨rfl, rfl⟩) | (go_at_call 19; refine (First2_new _ _ _ _ _ (heap_new _ _ _ (by simp))).mono ?_; rintro e w' ⟨rfl, rfl⟩))
      all_goals first
        | (exfalso; have := HNE.out; omega)
        | (go_ret; exact ⟨by simp, HB1.out.trans (Below.mono (by (repeat (first | exact Below.refl _ _ | assumption | (refine Below.setCell ?_ (by first | (simp; done) | (simp; omega) | omega) _) | (refine Below.drew ?_) | (refine below_drewN ?_ _) | (refine Below.alloc ?_ (by first | (simp; done) | (simp; omega) | omega) _) | (refine Below.trans ?_ (Below.mono (by assumption) (by first | (simp; done) | (simp; omega) | omega)))))) HB1.out.size)⟩)
  · have hi : inB many 0 65536 = false := by
      cases h : inB many 0 65536
      · rfl
      · exact absurd (inB_iff.1 h) hmn
    go_wp2_with fail
    refine (Unpack_range t many 16 _ (by decide) hmn).mono ?_
    rintro e u1 ⟨rfl, rfl⟩
    clear hmn
    go_wp2_with (first | (go_at_call 22; refine (In_any _ _ _ _).mono ?_; rintro e w' ⟨rfl, rfl⟩) | (go_at_call 21; refine (When_any _ _ _).mono ?_; rintro e w' ⟨rfl, rfl⟩) | (go_at_call 19; refine (First2_new _ _ _ _ _ (heap_new _ _ _ (by simp))).mono ?_; rintro e w' ⟨rfl, rfl⟩))
    go_ret
    exact ⟨by simp, HB0.out.trans (Below.mono (by (repeat (first | exact Below.refl _ _ | assumption | (refine Below.setCell ?_ (by first | (simp; done) | (simp; omega) | omega) _) | (refine Below.drew ?_) | (refine below_drewN ?_ _) | (refine Below.alloc ?_ (by first | (simp; done) | (simp; omega) | omega) _) | (refine Below.trans ?_ (Below.mono (by assumption) (by first | (simp; done) | (simp; omega) | omega)))))) HB0.out.size)⟩
set_option maxRecDepth 100000 in
set_option maxHeartbeats 6400000 in
theorem pk_bad_16 (b off N cap : Nat) (a : Option Addr) (zs : Nat → Int) (many : Int) (t : ByteArray) (w : World) (N0 : Nat) (hN : N ≤ 65536) (h0 : N0 < N) (ha : 0 < N → a = some ⟨b, off, none⟩) (hc : ∀ i, i < N → w.cell? ⟨b, off + i, none⟩ = some (.int .i64 (zs i))) (hz : ∀ i, i < N0 → 0 ≤ zs i ∧ zs i ≤ 65535) (hbad : ¬ (0 ≤ zs N0 ∧ zs N0 ≤ 65535)) (hp : pE zs 65535 N = 3) :
    Calls Try.prog 7 #[.slice a N cap, .int .i64 16, .int .i64 many, .string t] w fun e w' => e = .returned (.bool true) ∧ Below w.heap.size w w' := by
  have HA := Lib.hid ha; have HC := Lib.hid hc; have HP := Lib.hid hp
  have HBW := Lib.hid (fun h => cell_lt (hc 0 h) : 0 < N → b < w.heap.size)
  have hNl : decide ((65536 : Int) < (N : Int)) = false := by simp; omega
  have HPR := Lib.hid (Pack_range_16 b off N N0 cap a zs w hN h0 ha hc hz hbad)
  have HBS : Hid (Below w.heap.size w w) := Below.refl _ _
  clear ha hc hz hbad hp
  go_enter Try.func7, Try.ntmps7
  go_upto_region 5 with (first | (go_at_call 51; refine (HPR.out).mono ?_; rintro e w1 ⟨rfl, rfl⟩) | (go_at_call 21; refine (When_any _ _ _).mono ?_; rintro e w' ⟨rfl, rfl⟩) | (go_at_call 19; refine (First2_new _ _ _ _ _ (heap_new _ _ _ (by simp))).mono ?_; rintro e w' ⟨rfl, rfl⟩))
  refine wp_world (fun WS hWS => ?_)
  have HBS : Hid (Below w.heap.size w WS) := by rw [hWS]; exact (show Below _ _ _ by (repeat (first | exact Below.refl _ _ | assumption | (refine Below.setCell ?_ (by first | (simp; done) | (simp; omega) | omega) _) | (refine Below.drew ?_) | (refine below_drewN ?_ _) | (refine Below.alloc ?_ (by first | (simp; done) | (simp; omega) | omega) _) | (refine Below.trans ?_ (Below.mono (by assumption) (by first | (simp; done) | (simp; omega) | omega))))))
  clear hWS HPR
  go_wp2_with fail
  go_loopw [12, 49] (fun s12 s49 wr => ∃ k : Nat, k ≤ N ∧ s49 = .int .i64 k ∧ s12 = .int .i64 (pE zs 65535 k) ∧ Below w.heap.size w wr) (fun _ s49 _ => N - (intOf s49).toNat)
  case atStart => exact ⟨0, Nat.zero_le _, rfl, rfl, HBS.out⟩
  case round =>
    obtain ⟨k, hk, rfl, rfl, hB⟩ := hrel
    have HB := Lib.hid hB
    clear hB HBS
    by_cases hkN : k < N
    · obtain rfl := HA.out (by omega)
      have c0 := (HB.out.cell (p := ⟨b, off + k, none⟩) (HBW.out (by omega))).trans (HC.out k hkN)
      have HX := Lib.hid (show firstE (pE zs 65535 k) (whenE (!inB (zs k) 0 65535) 3) = pE zs 65535 (k + 1) from rfl)
      generalize pE zs 65535 k = p at *
      generalize zs k = z at *
      have hkN' : (k : Int) < (N : Int) := by omega
      obtain ⟨ib, hib⟩ : ∃ x, x = inB z 0 65535 := ⟨_, rfl⟩
      rw [← hib] at HX
      have hib' := hib.symm
      clear hib
      have hs0 := HB.out.size
      go_wp2_with (first | (go_at_call 22; refine (In_any _ _ _ _).mono ?_; rintro e w' ⟨rfl, rfl⟩) | (go_at_call 21; refine (When_any _ _ _).mono ?_; rintro e w' ⟨rfl, rfl⟩) | (go_at_call 19; refine (First2_new _ _ _ _ _ (heap_new _ _ _ (by simp))).mono ?_; rintro e w' ⟨rfl, rfl⟩))
      go_roundw
      case rel => exact ⟨k + 1, by omega, by go_num, by rw [HX.out], HB.out.trans (Below.mono (by (repeat (first | exact Below.refl _ _ | assumption | (refine Below.setCell ?_ (by first | (simp; done) | (simp; omega) | omega) _) | (refine Below.drew ?_) | (refine below_drewN ?_ _) | (refine Below.alloc ?_ (by first | (simp; done) | (simp; omega) | omega) _) | (refine Below.trans ?_ (Below.mono (by assumption) (by first | (simp; done) | (simp; omega) | omega)))))) HB.out.size)⟩
      case measure => simp [intOf]; omega
    · have hkk : ¬ (k : Int) < (N : Int) := by omega
      rw [show k = N by omega, HP.out]
      go_upto_region 16 with (first | (go_at_call 23; refine (finishes_any _).mono ?_; rintro e w' ⟨n, rfl, rfl⟩))
      refine wp_world (fun W0 hW0 => ?_)
      have HB0 : Hid (Below w.heap.size w W0) := by rw [hW0]; exact HB.out.trans (Below.mono (show Below _ _ _ by (repeat (first | exact Below.refl _ _ | assumption | (refine Below.setCell ?_ (by first | (simp; done) | (simp; omega) | omega) _) | (refine Below.drew ?_) | (refine below_drewN ?_ _) | (refine Below.alloc ?_ (by first | (simp; done) | (simp; omega) | omega) _) | (refine Below.trans ?_ (Below.mono (by assumption) (by first | (simp; done) | (simp; omega) | omega)))))) HB.out.size)
      clear hW0 HB
      by_cases hmn : 0 ≤ many ∧ many ≤ 65536
      · obtain ⟨mn, rfl⟩ : ∃ n : Nat, many = n := ⟨many.toNat, by omega⟩
        have hmn' : mn ≤ 65536 := by omega
        have hi : inB (mn : Int) 0 65536 = true := inB_t hmn
        clear hmn
        by_cases hsz : t.size = longI 16 mn
        · have hsz' : t.size = 2 * mn := (by rw [hsz]; unfold longI; rw [if_neg (by decide), if_pos rfl])
          clear hsz
          go_wp2_with fail
          refine (Unpack_16 t mn _ hmn' hsz').mono ?_
          rintro e u1 ⟨u, rfl, hU⟩
          obtain ⟨g, ua, uc, rfl, hga, hgc⟩ := un_cells hU
          have HG := Lib.hid (And.intro hga hgc); have HU := Lib.hid (HB0.out.trans (hU.bel.mono HB0.out.size))
          have hst := pk16 hsz'
          have HST := Lib.hid hst
          clear hga hgc hU hst
          go_upto_region 18 with (first | (go_at_call 22; refine (In_any _ _ _ _).mono ?_; rintro e w' ⟨rfl, rfl⟩) | (go_at_call 21; refine (When_any _ _ _).mono ?_; rintro e w' ⟨rfl, rfl⟩) | (go_at_call 19; refine (First2_new _ _ _ _ _ (heap_new _ _ _ (by simp))).mono ?_; rintro e w' ⟨rfl, rfl⟩))
          refine wp_world (fun V2 hV2 => ?_)
          have B2 : Below u1.heap.size u1 V2 := by rw [hV2]; (repeat (first | exact Below.refl _ _ | assumption | (refine Below.setCell ?_ (by first | (simp; done) | (simp; omega) | omega) _) | (refine Below.drew ?_) | (refine below_drewN ?_ _) | (refine Below.alloc ?_ (by first | (simp; done) | (simp; omega) | omega) _) | (refine Below.trans ?_ (Below.mono (by assumption) (by first | (simp; done) | (simp; omega) | omega)))))
          have HB2 := Lib.hid (HU.out.trans (B2.mono HU.out.size))
          have HPK := Lib.hid (PackedOf_16 g 0 mn uc ua (fun i => wdI t (2 * i) 2) V2 hmn' HG.out.1 (fun i hi => (B2.cell (p := ⟨g, 0 + i, none⟩) (cell_lt (HG.out.2 i hi))).trans (HG.out.2 i hi)) (fun i _ => wdI2 t i))
          rw [show (⟨(pkL (g16 (fun i => wdI t (2 * i) 2)) mn).toArray⟩ : ByteArray) = t by rw [HST.out]] at HPK
          clear hV2 B2 HG HST
          go_wp2_with fail
          refine (HPK.out).mono ?_
          rintro e u3 ⟨rfl, hb3⟩
          have HB3 := Lib.hid (HB2.out.trans (hb3.mono HB2.out.size))
          clear hb3 HPK HB2
          go_wp2_with fail
          go_ret
          exact ⟨by simp, HB3.out⟩
        · have HNE := Lib.hid (show t.size ≠ 2 * mn from fun h => hsz (by rw [h]; unfold longI; simp))
          have hq : ((t.size : Int) != (mn : Int) * 16 / 8) = true := by have := HNE.out; simp; omega
          have hq2 : ((t.size : Int) == (mn : Int) * 16 / 8) = false := by have := HNE.out; simp; omega
          go_wp2_with fail
          refine (Unpack_long t mn 16 _ (by decide) hmn' hsz).mono ?_
          rintro e u1 ⟨rfl, hU⟩
          have HB1 := Lib.hid (HB0.out.trans (hU.mono HB0.out.size))
          have hs1 := hU.size
          clear hU hsz
          go_wp2_with (first | (go_at_call 22; refine (In_any _ _ _ _).mono ?_; rintro e w' ⟨rfl, rfl⟩) | (go_at_call 21; refine (When_any _ _ _).mono ?_; rintro e w' ⟨rfl, rfl⟩) | (go_at_call 19; refine (First2_new _ _ _ _ _ (heap_new _ _ _ (by simp))).mono ?_; rintro e w' ⟨rfl, rfl⟩))
          all_goals first
            | (exfalso; have := HNE.out; omega)
            | (go_ret; exact ⟨by simp, HB1.out.trans (Below.mono (by (repeat (first | exact Below.refl _ _ | assumption | (refine Below.setCell ?_ (by first | (simp; done) | (simp; omega) | omega) _) | (refine Below.drew ?_) | (refine below_drewN ?_ _) | (refine Below.alloc ?_ (by first | (simp; done) | (simp; omega) | omega) _) | (refine Below.trans ?_ (Below.mono (by assumption) (by first | (simp; done) | (simp; omega) | omega)))))) HB1.out.size)⟩)
      · have hi : inB many 0 65536 = false := by
          cases h : inB many 0 65536
          · rfl
          · exact absurd (inB_iff.1 h) hmn
        go_wp2_with fail
        refine (Unpack_range t many 16 _ (by decide) hmn).mono ?_
        rintro e u1 ⟨rfl, rfl⟩
        clear hmn
        go_wp2_with (first | (go_at_call 22; refine (In_any _ _ _ _).mono ?_; rintro e w' ⟨rfl, rfl⟩) | (go_at_call 21; refine (When_any _ _ _).mono ?_; rintro e w' ⟨rfl, rfl⟩) | (go_at_call 19; refine (First2_new _ _ _ _ _ (heap_new _ _ _ (by simp))).mono ?_; rintro e w' ⟨rfl, rfl⟩))
        go_ret
        exact ⟨by simp, HB0.out.trans (Below.mono (by (repeat (first | exact Below.refl _ _ | assumption | (refine Below.setCell ?_ (by first | (simp; done) | (simp; omega) | omega) _) | (refine Below.drew ?_) | (refine below_drewN ?_ _) | (refine Below.alloc ?_ (by first | (simp; done) | (simp; omega) | omega) _) | (refine Below.trans ?_ (Below.mono (by assumption) (by first | (simp; done) | (simp; omega) | omega)))))) HB0.out.size)⟩
set_option maxRecDepth 100000 in
set_option maxHeartbeats 6400000 in
theorem pk_full_16 (b off N cap : Nat) (a : Option Addr) (zs : Nat → Int) (many : Int) (t : ByteArray) (w : World) (hN : N ≤ 65536) (ha : 0 < N → a = some ⟨b, off, none⟩) (hc : ∀ i, i < N → w.cell? ⟨b, off + i, none⟩ = some (.int .i64 (zs i))) (hz : ∀ i, i < N → 0 ≤ zs i ∧ zs i ≤ 65535) :
    Calls Try.prog 7 #[.slice a N cap, .int .i64 16, .int .i64 many, .string t] w fun e w' => e = .returned (.bool true) ∧ Below w.heap.size w w' := by
  have HA := Lib.hid ha; have HC := Lib.hid hc; have HP := Lib.hid (pE_zero hz); have HZ := Lib.hid hz
  have HBW := Lib.hid (fun h => cell_lt (hc 0 h) : 0 < N → b < w.heap.size)
  have hNl : decide ((65536 : Int) < (N : Int)) = false := by simp; omega
  have HPR := Lib.hid (Pack_16 b off N cap a zs w hN ha hc hz)
  have HCB : Hid (∀ w', Below w.heap.size w w' → ∀ i, i < N → w'.cell? ⟨b, off + i, none⟩ = some (.int .i64 (zs i))) := fun w' hb i hi => (hb.cell (p := ⟨b, off + i, none⟩) (HBW.out (by omega))).trans (hc i hi)
  have HPO := Lib.hid (fun w' hb => PackedOf_16 b off N cap a zs w' hN ha (HCB.out w' hb) hz : ∀ w', Below w.heap.size w w' → _)
  clear ha hc hz
  go_enter Try.func7, Try.ntmps7
  go_wp2_with fail
  refine (HPR.out).mono ?_
  rintro e w1 ⟨rfl, hb1⟩
  have HB1 := Lib.hid hb1
  have hs1 := hb1.size
  clear hb1 HPR
  go_upto_region 5 with (first | (go_at_call 21; refine (When_any _ _ _).mono ?_; rintro e w' ⟨rfl, rfl⟩) | (go_at_call 19; refine (First2_new _ _ _ _ _ (heap_new _ _ _ (by simp))).mono ?_; rintro e w' ⟨rfl, rfl⟩))
  refine wp_world (fun WS hWS => ?_)
  have HBS : Hid (Below w.heap.size w WS) := by rw [hWS]; exact HB1.out.trans (Below.mono (show Below _ _ _ by (repeat (first | exact Below.refl _ _ | assumption | (refine Below.setCell ?_ (by first | (simp; done) | (simp; omega) | omega) _) | (refine Below.drew ?_) | (refine below_drewN ?_ _) | (refine Below.alloc ?_ (by first | (simp; done) | (simp; omega) | omega) _) | (refine Below.trans ?_ (Below.mono (by assumption) (by first | (simp; done) | (simp; omega) | omega)))))) HB1.out.size)
  clear hWS HB1 hs1
  go_wp2_with fail
  go_loopw [12, 49] (fun s12 s49 wr => ∃ k : Nat, k ≤ N ∧ s49 = .int .i64 k ∧ s12 = .int .i64 (pE zs 65535 k) ∧ Below w.heap.size w wr) (fun _ s49 _ => N - (intOf s49).toNat)
  case atStart => exact ⟨0, Nat.zero_le _, rfl, rfl, HBS.out⟩
  case round =>
    obtain ⟨k, hk, rfl, rfl, hB⟩ := hrel
    have HB := Lib.hid hB
    clear hB HBS
    by_cases hkN : k < N
    · obtain rfl := HA.out (by omega)
      have c0 := (HB.out.cell (p := ⟨b, off + k, none⟩) (HBW.out (by omega))).trans (HC.out k hkN)
      have HX := Lib.hid (show firstE (pE zs 65535 k) (whenE (!inB (zs k) 0 65535) 3) = pE zs 65535 (k + 1) from rfl)
      generalize pE zs 65535 k = p at *
      generalize zs k = z at *
      have hkN' : (k : Int) < (N : Int) := by omega
      obtain ⟨ib, hib⟩ : ∃ x, x = inB z 0 65535 := ⟨_, rfl⟩
      rw [← hib] at HX
      have hib' := hib.symm
      clear hib
      have hs0 := HB.out.size
      go_wp2_with (first | (go_at_call 22; refine (In_any _ _ _ _).mono ?_; rintro e w' ⟨rfl, rfl⟩) | (go_at_call 21; refine (When_any _ _ _).mono ?_; rintro e w' ⟨rfl, rfl⟩) | (go_at_call 19; refine (First2_new _ _ _ _ _ (heap_new _ _ _ (by simp))).mono ?_; rintro e w' ⟨rfl, rfl⟩))
      go_roundw
      case rel => exact ⟨k + 1, by omega, by go_num, by rw [HX.out], HB.out.trans (Below.mono (by (repeat (first | exact Below.refl _ _ | assumption | (refine Below.setCell ?_ (by first | (simp; done) | (simp; omega) | omega) _) | (refine Below.drew ?_) | (refine below_drewN ?_ _) | (refine Below.alloc ?_ (by first | (simp; done) | (simp; omega) | omega) _) | (refine Below.trans ?_ (Below.mono (by assumption) (by first | (simp; done) | (simp; omega) | omega)))))) HB.out.size)⟩
      case measure => simp [intOf]; omega
    · have hkk : ¬ (k : Int) < (N : Int) := by omega
      rw [show k = N by omega, HP.out]
      go_wp2_with (first | (go_at_call 23; refine (finishes_any _).mono ?_; rintro e w' ⟨n, rfl, rfl⟩))
      refine (HPO.out _ (HB.out.trans (Below.mono (below_drewN (Below.refl _ _) _) HB.out.size))).mono ?_
      rintro e W2 ⟨rfl, hb2⟩
      have HB2 := Lib.hid ((HB.out.trans (Below.mono (below_drewN (Below.refl _ _) _) HB.out.size)).trans (hb2.mono (by have := HB.out.size; simp; omega)))
      clear hb2 HPO HB
      go_wp2_with fail
      refine (Unpack_16 ⟨(pkL (g16 zs) N).toArray⟩ N _ hN (by rw [size_pk (g := g16 zs) (m := 2) (fun _ => rfl) N]; omega)).mono ?_
      rintro e u1 ⟨u, rfl, hU⟩
      obtain ⟨g, ua, uc, rfl, hga, hgc⟩ := un_cells hU
      have HEQ := Lib.hid (EqI_yes b off g 0 N cap uc a ua zs u1 HA.out (HCB.out u1 (HB2.out.trans (hU.bel.mono HB2.out.size))) hga (fun i hi => by rw [hgc i hi]; exact congrArg (fun z => some (Value.int .i64 z)) (un16 hi (HZ.out i hi))) hN)
      have HBU := Lib.hid (HB2.out.trans (hU.bel.mono HB2.out.size))
      clear hga hgc hU HB2
      go_wp2_with fail
      refine (HEQ.out).mono ?_
      rintro e W0 ⟨rfl, hb3⟩
      have HB0 := Lib.hid (HBU.out.trans (hb3.mono HBU.out.size))
      clear hb3 HEQ HBU
      go_upto_region 16 with fail
      by_cases hmn : 0 ≤ many ∧ many ≤ 65536
      · obtain ⟨mn, rfl⟩ : ∃ n : Nat, many = n := ⟨many.toNat, by omega⟩
        have hmn' : mn ≤ 65536 := by omega
        have hi : inB (mn : Int) 0 65536 = true := inB_t hmn
        clear hmn
        by_cases hsz : t.size = longI 16 mn
        · have hsz' : t.size = 2 * mn := (by rw [hsz]; unfold longI; rw [if_neg (by decide), if_pos rfl])
          clear hsz
          go_wp2_with fail
          refine (Unpack_16 t mn _ hmn' hsz').mono ?_
          rintro e u1 ⟨u, rfl, hU⟩
          obtain ⟨g, ua, uc, rfl, hga, hgc⟩ := un_cells hU
          have HG := Lib.hid (And.intro hga hgc); have HU := Lib.hid (HB0.out.trans (hU.bel.mono HB0.out.size))
          have hst := pk16 hsz'
          have HST := Lib.hid hst
          clear hga hgc hU hst
          go_upto_region 18 with (first | (go_at_call 22; refine (In_any _ _ _ _).mono ?_; rintro e w' ⟨rfl, rfl⟩) | (go_at_call 21; refine (When_any _ _ _).mono ?_; rintro e w' ⟨rfl, rfl⟩) | (go_at_call 19; refine (First2_new _ _ _ _ _ (heap_new _ _ _ (by simp))).mono ?_; rintro e w' ⟨rfl, rfl⟩))
          refine wp_world (fun V2 hV2 => ?_)
          have B2 : Below u1.heap.size u1 V2 := by rw [hV2]; (repeat (first | exact Below.refl _ _ | assumption | (refine Below.setCell ?_ (by first | (simp; done) | (simp; omega) | omega) _) | (refine Below.drew ?_) | (refine below_drewN ?_ _) | (refine Below.alloc ?_ (by first | (simp; done) | (simp; omega) | omega) _) | (refine Below.trans ?_ (Below.mono (by assumption) (by first | (simp; done) | (simp; omega) | omega)))))
          have HB2 := Lib.hid (HU.out.trans (B2.mono HU.out.size))
          have HPK := Lib.hid (PackedOf_16 g 0 mn uc ua (fun i => wdI t (2 * i) 2) V2 hmn' HG.out.1 (fun i hi => (B2.cell (p := ⟨g, 0 + i, none⟩) (cell_lt (HG.out.2 i hi))).trans (HG.out.2 i hi)) (fun i _ => wdI2 t i))
          rw [show (⟨(pkL (g16 (fun i => wdI t (2 * i) 2)) mn).toArray⟩ : ByteArray) = t by rw [HST.out]] at HPK
          clear hV2 B2 HG HST
          go_wp2_with fail
          refine (HPK.out).mono ?_
          rintro e u3 ⟨rfl, hb3⟩
          have HB3 := Lib.hid (HB2.out.trans (hb3.mono HB2.out.size))
          clear hb3 HPK HB2
          go_wp2_with fail
          go_ret
          exact ⟨by simp, HB3.out⟩
        · have HNE := Lib.hid (show t.size ≠ 2 * mn from fun h => hsz (by rw [h]; unfold longI; simp))
          have hq : ((t.size : Int) != (mn : Int) * 16 / 8) = true := by have := HNE.out; simp; omega
          have hq2 : ((t.size : Int) == (mn : Int) * 16 / 8) = false := by have := HNE.out; simp; omega
          go_wp2_with fail
          refine (Unpack_long t mn 16 _ (by decide) hmn' hsz).mono ?_
          rintro e u1 ⟨rfl, hU⟩
          have HB1 := Lib.hid (HB0.out.trans (hU.mono HB0.out.size))
          have hs1 := hU.size
          clear hU hsz
          go_wp2_with (first | (go_at_call 22; refine (In_any _ _ _ _).mono ?_; rintro e w' ⟨rfl, rfl⟩) | (go_at_call 21; refine (When_any _ _ _).mono ?_; rintro e w' ⟨rfl, rfl⟩) | (go_at_call 19; refine (First2_new _ _ _ _ _ (heap_new _ _ _ (by simp))).mono ?_; rintro e w' ⟨rfl, rfl⟩))
          all_goals first
            | (exfalso; have := HNE.out; omega)
            | (go_ret; exact ⟨by simp, HB1.out.trans (Below.mono (by (repeat (first | exact Below.refl _ _ | assumption | (refine Below.setCell ?_ (by first | (simp; done) | (simp; omega) | omega) _) | (refine Below.drew ?_) | (refine below_drewN ?_ _) | (refine Below.alloc ?_ (by first | (simp; done) | (simp; omega) | omega) _) | (refine Below.trans ?_ (Below.mono (by assumption) (by first | (simp; done) | (simp; omega) | omega)))))) HB1.out.size)⟩)
      · have hi : inB many 0 65536 = false := by
          cases h : inB many 0 65536
          · rfl
          · exact absurd (inB_iff.1 h) hmn
        go_wp2_with fail
        refine (Unpack_range t many 16 _ (by decide) hmn).mono ?_
        rintro e u1 ⟨rfl, rfl⟩
        clear hmn
        go_wp2_with (first | (go_at_call 22; refine (In_any _ _ _ _).mono ?_; rintro e w' ⟨rfl, rfl⟩) | (go_at_call 21; refine (When_any _ _ _).mono ?_; rintro e w' ⟨rfl, rfl⟩) | (go_at_call 19; refine (First2_new _ _ _ _ _ (heap_new _ _ _ (by simp))).mono ?_; rintro e w' ⟨rfl, rfl⟩))
        go_ret
        exact ⟨by simp, HB0.out.trans (Below.mono (by (repeat (first | exact Below.refl _ _ | assumption | (refine Below.setCell ?_ (by first | (simp; done) | (simp; omega) | omega) _) | (refine Below.drew ?_) | (refine below_drewN ?_ _) | (refine Below.alloc ?_ (by first | (simp; done) | (simp; omega) | omega) _) | (refine Below.trans ?_ (Below.mono (by assumption) (by first | (simp; done) | (simp; omega) | omega)))))) HB0.out.size)⟩
end Go.Proofs.Ytmckkgbdlgldbaa
