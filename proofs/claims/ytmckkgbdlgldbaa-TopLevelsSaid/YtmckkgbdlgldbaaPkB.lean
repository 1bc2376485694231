/- Packed levels: finish.Pack, dyeref2.PackedOf. Conditions: what each theorem names. -/
import Derived.Test.YtmckkgbdlgldbaaPkA
namespace Go.Proofs.Ytmckkgbdlgldbaa
open Go Go.RowKit
set_option maxRecDepth 100000 in
set_option maxHeartbeats 1600000 in
theorem Pack_8 (b off N cap : Nat) (a : Option Addr) (zs : Nat → Int) (w : World) (hN : N ≤ 65536) (ha : 0 < N → a = some ⟨b, off, none⟩) (hc : ∀ i, i < N → w.cell? ⟨b, off + i, none⟩ = some (.int .i64 (zs i))) (hz : ∀ i, i < N → 0 ≤ zs i ∧ zs i ≤ 255) :
    Calls Try.prog 51 #[.slice a N cap, .int .i64 8] w fun e w' => e = .returned (.tuple #[.string ⟨(pkL (g8 zs) N).toArray⟩, .int .i64 0]) ∧ Below w.heap.size w w' := by
  have HA := Lib.hid ha; have HC := Lib.hid hc; have HZ := Lib.hid hz
  have HBW := Lib.hid (fun h => cell_lt (hc 0 h) : 0 < N → b < w.heap.size)
  obtain ⟨i0, hi0, hz0, hz1, hz2⟩ := info_parts infoU8
  clear ha hc hz
  go_enter Try.func51, Try.ntmps51
  go_upto_region 6 with (first | (go_at_call 143; refine (packed_any _ _).mono ?_; rintro e w' ⟨rfl, rfl⟩))
  go_loopw [24] (fun s24 wr => ∃ k : Nat, k ≤ N ∧ s24 = .int .i64 k ∧ w = wr) (fun s24 _ => N - (intOf s24).toNat)
  case atStart => exact ⟨0, Nat.zero_le _, rfl, rfl⟩
  case round =>
    obtain ⟨k, hk, rfl, rfl⟩ := hrel
    by_cases hkN : k < N
    · obtain rfl := HA.out (by omega)
      have c0 := HC.out k hkN
      obtain ⟨z0, z1⟩ := HZ.out k hkN
      generalize zs k = z at *
      have hkN' : (k : Int) < (N : Int) := by omega
      have e0 : ¬ z < 0 := by omega
      have e1 : ¬ 255 < z := by omega
      go_wp2_with fail
      go_roundw
      case rel => exact ⟨k + 1, by omega, by go_num, by first | rfl | trivial⟩
      case measure => simp [intOf]; omega
    · have hkk : ¬ (k : Int) < (N : Int) := by omega
      clear hk hkN
      go_wp2_with fail
      have P0 : PkR w w (.slice none 0 0) [] := ⟨World.ownsRow_nil _ _ _ _, Below.refl _ _⟩
      go_loopw [8, 85] (fun s8 s85 wr => ∃ k : Nat, k ≤ N ∧ s85 = .int .i64 k ∧ ∃ u, u = s8 ∧ PkR w wr u (pkL (g8 zs) k)) (fun _ s85 _ => N - (intOf s85).toNat)
      case atStart => exact ⟨0, Nat.zero_le _, rfl, _, rfl, P0⟩
      case round =>
        obtain ⟨k, hk, rfl, u, rfl, hM⟩ := hrel
        have HM := Lib.hid hM
        clear hM P0
        by_cases hkN : k < N
        · obtain rfl := HA.out (by omega)
          have c0 := (HM.out.bel.cell (p := ⟨b, off + k, none⟩) (HBW.out (by omega))).trans (HC.out k hkN)
          obtain ⟨z0, z1⟩ := HZ.out k hkN
          obtain ⟨bz, hbz⟩ : ∃ x, x = by8 (zs k) := ⟨_, rfl⟩
          have hzb : zs k = (bz.toNat : Int) := by rw [hbz, by8_nat]; omega
          have HG := Lib.hid (show [bz] = g8 zs k by rw [hbz]; rfl)
          rw [hzb] at c0 z0 z1
          have wu : IntKind.u8.wrap (bz.toNat : Int) = (bz.toNat : Int) := by have := by8_wrap (bz.toNat : Int); rw [this, by8_nat]; omega
          clear hbz hzb
          have HLEN := Lib.hid (show (pkL (g8 zs) k).length ≤ 131072 by rw [pkL_len (m := 1) (fun _ => rfl)]; omega)
          have hkN' : (k : Int) < (N : Int) := by omega
          go_wp2_with (first | (at_builtin; refine wpList_append_lies _ rfl _ _ _ rfl w.heap.size 5 i0 (.int .u8 0) 1 1 Try.underlying164 hi0 hz0 hz1 hz2 rfl (by decide) u (pkL (g8 zs) k).length (vals8 (pkL (g8 zs) k)) rfl (World.ownsRow.alloc HM.out.own _) ⟨wr.heap.size, 0, none⟩ 1 1 [.int .u8 (bz.toNat : Int)] rfl rfl (by intro j u hj; match j, hj with | 0, hj => (simp at hj; subst hj; simp [Addr.add])) (by intro u hu; simp at hu; first | (subst hu; rfl) | (rcases hu with rfl | rfl <;> rfl) | (rcases hu with rfl | rfl | rfl | rfl <;> rfl)) (by decide) (by unfold maxLen; have := HLEN.out; omega) (by have := HLEN.out; omega) (by have := HM.out.bel.size; simp; omega) _ rfl ?_; intro g cap w1 hown hgrow hat hlt))
          have HX := Lib.hid (show PkR w w1 (.slice (some ⟨g, 0, none⟩) ((pkL (g8 zs) k).length + 1) cap) (pkL (g8 zs) (k + 1)) by
            rw [show pkL (g8 zs) (k + 1) = pkL (g8 zs) k ++ [bz] by rw [HG.out]; rfl]
            exact PkR.app (m := [bz]) HM.out (by (repeat (first | exact Below.refl _ _ | assumption | (refine Below.setCell ?_ (by first | (simp; done) | (simp; omega) | omega) _) | (refine Below.drew ?_) | (refine below_drewN ?_ _) | (refine Below.alloc ?_ (by first | (simp; done) | (simp; omega) | omega) _) | (refine Below.trans ?_ (Below.mono (by assumption) (by first | (simp; done) | (simp; omega) | omega)))))) (by simp) hown hgrow)
          clear hown hgrow hat hlt
          go_roundw
          case rel => exact ⟨k + 1, by omega, by go_num, _, rfl, HX.out⟩
          case measure => simp [intOf]; omega
        · have hkk : ¬ (k : Int) < (N : Int) := by omega
          have hst := run_string8 HM.out
          rw [show k = N by omega] at hst
          go_wp2_with fail
          refine bodyPost_ret (v := .tuple #[.string ⟨(pkL (g8 zs) N).toArray⟩, .int .i64 0]) (by simp [results, Try.results51, go_sem]) rfl ⟨rfl, HM.out.bel⟩
set_option maxRecDepth 100000 in
set_option maxHeartbeats 1600000 in
theorem Pack_16 (b off N cap : Nat) (a : Option Addr) (zs : Nat → Int) (w : World) (hN : N ≤ 65536) (ha : 0 < N → a = some ⟨b, off, none⟩) (hc : ∀ i, i < N → w.cell? ⟨b, off + i, none⟩ = some (.int .i64 (zs i))) (hz : ∀ i, i < N → 0 ≤ zs i ∧ zs i ≤ 65535) :
    Calls Try.prog 51 #[.slice a N cap, .int .i64 16] w fun e w' => e = .returned (.tuple #[.string ⟨(pkL (g16 zs) N).toArray⟩, .int .i64 0]) ∧ Below w.heap.size w w' := by
  have HA := Lib.hid ha; have HC := Lib.hid hc; have HZ := Lib.hid hz
  have HBW := Lib.hid (fun h => cell_lt (hc 0 h) : 0 < N → b < w.heap.size)
  obtain ⟨i0, hi0, hz0, hz1, hz2⟩ := info_parts infoU8
  clear ha hc hz
  go_enter Try.func51, Try.ntmps51
  go_upto_region 6 with (first | (go_at_call 143; refine (packed_any _ _).mono ?_; rintro e w' ⟨rfl, rfl⟩))
  go_loopw [24] (fun s24 wr => ∃ k : Nat, k ≤ N ∧ s24 = .int .i64 k ∧ w = wr) (fun s24 _ => N - (intOf s24).toNat)
  case atStart => exact ⟨0, Nat.zero_le _, rfl, rfl⟩
  case round =>
    obtain ⟨k, hk, rfl, rfl⟩ := hrel
    by_cases hkN : k < N
    · obtain rfl := HA.out (by omega)
      have c0 := HC.out k hkN
      obtain ⟨z0, z1⟩ := HZ.out k hkN
      generalize zs k = z at *
      have hkN' : (k : Int) < (N : Int) := by omega
      have e0 : ¬ z < 0 := by omega
      have e1 : ¬ 65535 < z := by omega
      go_wp2_with fail
      go_roundw
      case rel => exact ⟨k + 1, by omega, by go_num, by first | rfl | trivial⟩
      case measure => simp [intOf]; omega
    · have hkk : ¬ (k : Int) < (N : Int) := by omega
      clear hk hkN
      go_wp2_with fail
      have P0 : PkR w w (.slice none 0 0) [] := ⟨World.ownsRow_nil _ _ _ _, Below.refl _ _⟩
      go_loopw [8, 99] (fun s8 s85 wr => ∃ k : Nat, k ≤ N ∧ s85 = .int .i64 k ∧ ∃ u, u = s8 ∧ PkR w wr u (pkL (g16 zs) k)) (fun _ s85 _ => N - (intOf s85).toNat)
      case atStart => exact ⟨0, Nat.zero_le _, rfl, _, rfl, P0⟩
      case round =>
        obtain ⟨k, hk, rfl, u, rfl, hM⟩ := hrel
        have HM := Lib.hid hM
        clear hM P0
        by_cases hkN : k < N
        · obtain rfl := HA.out (by omega)
          have c0 := (HM.out.bel.cell (p := ⟨b, off + k, none⟩) (HBW.out (by omega))).trans (HC.out k hkN)
          obtain ⟨z0, z1⟩ := HZ.out k hkN
          obtain ⟨bh, hbh⟩ : ∃ x, x = by8 (zs k / 256) := ⟨_, rfl⟩
          obtain ⟨bz, hbz⟩ : ∃ x, x = by8 (zs k) := ⟨_, rfl⟩
          have HG := Lib.hid (show [bh, bz] = g16 zs k by rw [hbz, hbh]; rfl)
          generalize zs k = z at *
          have wl : IntKind.u8.wrap z = (bz.toNat : Int) := by rw [hbz]; exact by8_wrap z
          have wh : z / 256 = (bh.toNat : Int) := by rw [hbh, by8_nat]; omega
          clear hbz hbh
          have HLEN := Lib.hid (show (pkL (g16 zs) k).length ≤ 131072 by rw [pkL_len (m := 2) (fun _ => rfl)]; omega)
          have hkN' : (k : Int) < (N : Int) := by omega
          go_wp2_with (first | (at_builtin; refine wpList_append_lies _ rfl _ _ _ rfl w.heap.size 5 i0 (.int .u8 0) 1 1 Try.underlying164 hi0 hz0 hz1 hz2 rfl (by decide) u (pkL (g16 zs) k).length (vals8 (pkL (g16 zs) k)) rfl (World.ownsRow.alloc HM.out.own _) ⟨wr.heap.size, 0, none⟩ 2 2 [.int .u8 (bh.toNat : Int), .int .u8 (bz.toNat : Int)] rfl rfl (by intro j u hj; match j, hj with | 0, hj => (simp at hj; subst hj; simp [Addr.add]) | 1, hj => (simp at hj; subst hj; simp [Addr.add])) (by intro u hu; simp at hu; first | (subst hu; rfl) | (rcases hu with rfl | rfl <;> rfl) | (rcases hu with rfl | rfl | rfl | rfl <;> rfl)) (by decide) (by unfold maxLen; have := HLEN.out; omega) (by have := HLEN.out; omega) (by have := HM.out.bel.size; simp; omega) _ rfl ?_; intro g cap w1 hown hgrow hat hlt))
          have HX := Lib.hid (show PkR w w1 (.slice (some ⟨g, 0, none⟩) ((pkL (g16 zs) k).length + 2) cap) (pkL (g16 zs) (k + 1)) by
            rw [show pkL (g16 zs) (k + 1) = pkL (g16 zs) k ++ [bh, bz] by rw [HG.out]; rfl]
            exact PkR.app (m := [bh, bz]) HM.out (by (repeat (first | exact Below.refl _ _ | assumption | (refine Below.setCell ?_ (by first | (simp; done) | (simp; omega) | omega) _) | (refine Below.drew ?_) | (refine below_drewN ?_ _) | (refine Below.alloc ?_ (by first | (simp; done) | (simp; omega) | omega) _) | (refine Below.trans ?_ (Below.mono (by assumption) (by first | (simp; done) | (simp; omega) | omega)))))) (by simp) hown hgrow)
          clear hown hgrow hat hlt
          go_roundw
          case rel => exact ⟨k + 1, by omega, by go_num, _, rfl, HX.out⟩
          case measure => simp [intOf]; omega
        · have hkk : ¬ (k : Int) < (N : Int) := by omega
          have hst := run_string8 HM.out
          rw [show k = N by omega] at hst
          go_wp2_with fail
          refine bodyPost_ret (v := .tuple #[.string ⟨(pkL (g16 zs) N).toArray⟩, .int .i64 0]) (by simp [results, Try.results51, go_sem]) rfl ⟨rfl, HM.out.bel⟩
set_option maxRecDepth 100000 in
set_option maxHeartbeats 1600000 in
theorem PackedOf_8 (b off N cap : Nat) (a : Option Addr) (zs : Nat → Int) (w : World) (hN : N ≤ 65536) (ha : 0 < N → a = some ⟨b, off, none⟩) (hc : ∀ i, i < N → w.cell? ⟨b, off + i, none⟩ = some (.int .i64 (zs i))) (hz : ∀ i, i < N → 0 ≤ zs i ∧ zs i ≤ 255) :
    Calls Try.prog 52 #[.slice a N cap, .int .i64 8] w fun e w' => e = .returned (.string ⟨(pkL (g8 zs) N).toArray⟩) ∧ Below w.heap.size w w' := by
  have HA := Lib.hid ha; have HC := Lib.hid hc; have HZ := Lib.hid hz
  have HBW := Lib.hid (fun h => cell_lt (hc 0 h) : 0 < N → b < w.heap.size)
  obtain ⟨i0, hi0, hz0, hz1, hz2⟩ := info_parts infoU8
  clear ha hc hz
  go_enter Try.func52, Try.ntmps52
  go_wp2_with fail
  have P0 : PkR w w (.slice none 0 0) [] := ⟨World.ownsRow_nil _ _ _ _, Below.refl _ _⟩
  go_loopw [5, 60] (fun s8 s85 wr => ∃ k : Nat, k ≤ N ∧ s85 = .int .i64 k ∧ ∃ u, u = s8 ∧ PkR w wr u (pkL (g8 zs) k)) (fun _ s85 _ => N - (intOf s85).toNat)
  case atStart => exact ⟨0, Nat.zero_le _, rfl, _, rfl, P0⟩
  case round =>
    obtain ⟨k, hk, rfl, u, rfl, hM⟩ := hrel
    have HM := Lib.hid hM
    clear hM P0
    by_cases hkN : k < N
    · obtain rfl := HA.out (by omega)
      have c0 := (HM.out.bel.cell (p := ⟨b, off + k, none⟩) (HBW.out (by omega))).trans (HC.out k hkN)
      obtain ⟨z0, z1⟩ := HZ.out k hkN
      obtain ⟨bz, hbz⟩ : ∃ x, x = by8 (zs k) := ⟨_, rfl⟩
      have hzb : zs k = (bz.toNat : Int) := by rw [hbz, by8_nat]; omega
      have HG := Lib.hid (show [bz] = g8 zs k by rw [hbz]; rfl)
      rw [hzb] at c0 z0 z1
      have wu : IntKind.u8.wrap (bz.toNat : Int) = (bz.toNat : Int) := by have := by8_wrap (bz.toNat : Int); rw [this, by8_nat]; omega
      clear hbz hzb
      have HLEN := Lib.hid (show (pkL (g8 zs) k).length ≤ 131072 by rw [pkL_len (m := 1) (fun _ => rfl)]; omega)
      have hkN' : (k : Int) < (N : Int) := by omega
      go_wp2_with (first | (at_builtin; refine wpList_append_lies _ rfl _ _ _ rfl w.heap.size 5 i0 (.int .u8 0) 1 1 Try.underlying164 hi0 hz0 hz1 hz2 rfl (by decide) u (pkL (g8 zs) k).length (vals8 (pkL (g8 zs) k)) rfl (World.ownsRow.alloc HM.out.own _) ⟨wr.heap.size, 0, none⟩ 1 1 [.int .u8 (bz.toNat : Int)] rfl rfl (by intro j u hj; match j, hj with | 0, hj => (simp at hj; subst hj; simp [Addr.add])) (by intro u hu; simp at hu; first | (subst hu; rfl) | (rcases hu with rfl | rfl <;> rfl) | (rcases hu with rfl | rfl | rfl | rfl <;> rfl)) (by decide) (by unfold maxLen; have := HLEN.out; omega) (by have := HLEN.out; omega) (by have := HM.out.bel.size; simp; omega) _ rfl ?_; intro g cap w1 hown hgrow hat hlt))
      have HX := Lib.hid (show PkR w w1 (.slice (some ⟨g, 0, none⟩) ((pkL (g8 zs) k).length + 1) cap) (pkL (g8 zs) (k + 1)) by
        rw [show pkL (g8 zs) (k + 1) = pkL (g8 zs) k ++ [bz] by rw [HG.out]; rfl]
        exact PkR.app (m := [bz]) HM.out (by (repeat (first | exact Below.refl _ _ | assumption | (refine Below.setCell ?_ (by first | (simp; done) | (simp; omega) | omega) _) | (refine Below.drew ?_) | (refine below_drewN ?_ _) | (refine Below.alloc ?_ (by first | (simp; done) | (simp; omega) | omega) _) | (refine Below.trans ?_ (Below.mono (by assumption) (by first | (simp; done) | (simp; omega) | omega)))))) (by simp) hown hgrow)
      clear hown hgrow hat hlt
      go_roundw
      case rel => exact ⟨k + 1, by omega, by go_num, _, rfl, HX.out⟩
      case measure => simp [intOf]; omega
    · have hkk : ¬ (k : Int) < (N : Int) := by omega
      have hst := run_string8 HM.out
      rw [show k = N by omega] at hst
      go_wp2_with fail
      go_ret
      exact ⟨rfl, HM.out.bel⟩
set_option maxRecDepth 100000 in
set_option maxHeartbeats 1600000 in
theorem PackedOf_16 (b off N cap : Nat) (a : Option Addr) (zs : Nat → Int) (w : World) (hN : N ≤ 65536) (ha : 0 < N → a = some ⟨b, off, none⟩) (hc : ∀ i, i < N → w.cell? ⟨b, off + i, none⟩ = some (.int .i64 (zs i))) (hz : ∀ i, i < N → 0 ≤ zs i ∧ zs i ≤ 65535) :
    Calls Try.prog 52 #[.slice a N cap, .int .i64 16] w fun e w' => e = .returned (.string ⟨(pkL (g16 zs) N).toArray⟩) ∧ Below w.heap.size w w' := by
  have HA := Lib.hid ha; have HC := Lib.hid hc; have HZ := Lib.hid hz
  have HBW := Lib.hid (fun h => cell_lt (hc 0 h) : 0 < N → b < w.heap.size)
  obtain ⟨i0, hi0, hz0, hz1, hz2⟩ := info_parts infoU8
  clear ha hc hz
  go_enter Try.func52, Try.ntmps52
  go_wp2_with fail
  have P0 : PkR w w (.slice none 0 0) [] := ⟨World.ownsRow_nil _ _ _ _, Below.refl _ _⟩
  go_loopw [5, 74] (fun s8 s85 wr => ∃ k : Nat, k ≤ N ∧ s85 = .int .i64 k ∧ ∃ u, u = s8 ∧ PkR w wr u (pkL (g16 zs) k)) (fun _ s85 _ => N - (intOf s85).toNat)
  case atStart => exact ⟨0, Nat.zero_le _, rfl, _, rfl, P0⟩
  case round =>
    obtain ⟨k, hk, rfl, u, rfl, hM⟩ := hrel
    have HM := Lib.hid hM
    clear hM P0
    by_cases hkN : k < N
    · obtain rfl := HA.out (by omega)
      have c0 := (HM.out.bel.cell (p := ⟨b, off + k, none⟩) (HBW.out (by omega))).trans (HC.out k hkN)
      obtain ⟨z0, z1⟩ := HZ.out k hkN
      obtain ⟨bh, hbh⟩ : ∃ x, x = by8 (zs k / 256) := ⟨_, rfl⟩
      obtain ⟨bz, hbz⟩ : ∃ x, x = by8 (zs k) := ⟨_, rfl⟩
      have HG := Lib.hid (show [bh, bz] = g16 zs k by rw [hbz, hbh]; rfl)
      generalize zs k = z at *
      have wl : IntKind.u8.wrap z = (bz.toNat : Int) := by rw [hbz]; exact by8_wrap z
      have wh : z / 256 = (bh.toNat : Int) := by rw [hbh, by8_nat]; omega
      clear hbz hbh
      have HLEN := Lib.hid (show (pkL (g16 zs) k).length ≤ 131072 by rw [pkL_len (m := 2) (fun _ => rfl)]; omega)
      have hkN' : (k : Int) < (N : Int) := by omega
      go_wp2_with (first | (at_builtin; refine wpList_append_lies _ rfl _ _ _ rfl w.heap.size 5 i0 (.int .u8 0) 1 1 Try.underlying164 hi0 hz0 hz1 hz2 rfl (by decide) u (pkL (g16 zs) k).length (vals8 (pkL (g16 zs) k)) rfl (World.ownsRow.alloc HM.out.own _) ⟨wr.heap.size, 0, none⟩ 2 2 [.int .u8 (bh.toNat : Int), .int .u8 (bz.toNat : Int)] rfl rfl (by intro j u hj; match j, hj with | 0, hj => (simp at hj; subst hj; simp [Addr.add]) | 1, hj => (simp at hj; subst hj; simp [Addr.add])) (by intro u hu; simp at hu; first | (subst hu; rfl) | (rcases hu with rfl | rfl <;> rfl) | (rcases hu with rfl | rfl | rfl | rfl <;> rfl)) (by decide) (by unfold maxLen; have := HLEN.out; omega) (by have := HLEN.out; omega) (by have := HM.out.bel.size; simp; omega) _ rfl ?_; intro g cap w1 hown hgrow hat hlt))
      have HX := Lib.hid (show PkR w w1 (.slice (some ⟨g, 0, none⟩) ((pkL (g16 zs) k).length + 2) cap) (pkL (g16 zs) (k + 1)) by
        rw [show pkL (g16 zs) (k + 1) = pkL (g16 zs) k ++ [bh, bz] by rw [HG.out]; rfl]
        exact PkR.app (m := [bh, bz]) HM.out (by (repeat (first | exact Below.refl _ _ | assumption | (refine Below.setCell ?_ (by first | (simp; done) | (simp; omega) | omega) _) | (refine Below.drew ?_) | (refine below_drewN ?_ _) | (refine Below.alloc ?_ (by first | (simp; done) | (simp; omega) | omega) _) | (refine Below.trans ?_ (Below.mono (by assumption) (by first | (simp; done) | (simp; omega) | omega)))))) (by simp) hown hgrow)
      clear hown hgrow hat hlt
      go_roundw
      case rel => exact ⟨k + 1, by omega, by go_num, _, rfl, HX.out⟩
      case measure => simp [intOf]; omega
    · have hkk : ¬ (k : Int) < (N : Int) := by omega
      have hst := run_string8 HM.out
      rw [show k = N by omega] at hst
      go_wp2_with fail
      go_ret
      exact ⟨rfl, HM.out.bel⟩
end Go.Proofs.Ytmckkgbdlgldbaa
