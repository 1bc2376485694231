/- Packed levels of ten bits: finish.Pack, dyeref2.PackedOf. Conditions: what each theorem names. -/
import Derived.Test.YtmckkgbdlgldbaaPkA
namespace Go.Proofs.Ytmckkgbdlgldbaa
open Go Go.RowKit
theorem or_nat {a z c : Nat} (h : z < 2 ^ c) (hb : a * 2 ^ c + z < 4611686018427387904) : bits .or .i64 ((a * 2 ^ c : Nat) : Int) (z : Int) = ((a * 2 ^ c + z : Nat) : Int) := by
  have e : (BitVec.ofInt 64 ((a * 2 ^ c : Nat) : Int) ||| BitVec.ofInt 64 (z : Int)).toNat = a * 2 ^ c + z := by
    rw [BitVec.toNat_or, BitVec.ofInt_natCast, BitVec.toNat_ofNat, BitVec.ofInt_natCast, BitVec.toNat_ofNat, Nat.mod_eq_of_lt (by omega), Nat.mod_eq_of_lt (by omega), ← Nat.shiftLeft_eq, ← Nat.shiftLeft_add_eq_or_of_lt h]
  show IntKind.i64.wrap (((BitVec.ofInt 64 ((a * 2 ^ c : Nat) : Int) ||| BitVec.ofInt 64 (z : Int)).toNat : Nat) : Int) = _
  rw [e, IntKind.wrap_i64]
  omega
theorem or10 {a z : Int} (a0 : 0 ≤ a) (a1 : a < 1099511627776) (z0 : 0 ≤ z) (z1 : z < 1024) : bits .or .i64 (a * 1024) z = a * 1024 + z := by
  obtain ⟨x, rfl⟩ : ∃ x : Nat, a = x := ⟨a.toNat, by omega⟩
  obtain ⟨y, rfl⟩ : ∃ y : Nat, z = y := ⟨z.toNat, by omega⟩
  have h := or_nat (a := x) (z := y) (c := 10) (by omega) (by omega)
  rw [show ((x * 2 ^ 10 : Nat) : Int) = (x : Int) * 1024 by omega, show ((x * 2 ^ 10 + y : Nat) : Int) = (x : Int) * 1024 + y by omega] at h
  exact h
def acc10 (zs : Nat → Int) (N i : Nat) : Nat → Int
  | 0 => 0
  | m + 1 => acc10 zs N i m * 1024 + at10 zs N (i + m)
theorem at10_bd {zs : Nat → Int} {N : Nat} (hz : ∀ i, i < N → 0 ≤ zs i ∧ zs i ≤ 1023) (i : Nat) : 0 ≤ at10 zs N i ∧ at10 zs N i ≤ 1023 := by
  unfold at10; split
  · rename_i h; exact hz i h
  · omega
theorem acc10_bd {zs : Nat → Int} {N : Nat} (hz : ∀ i, i < N → 0 ≤ zs i ∧ zs i ≤ 1023) (i m : Nat) (hm : m ≤ 3) : 0 ≤ acc10 zs N i m ∧ acc10 zs N i m ≤ 1073741823 := by
  have b0 := at10_bd hz (i + 0); rw [Nat.add_zero] at b0; have b1 := at10_bd hz (i + 1); have b2 := at10_bd hz (i + 2)
  rcases (show m = 0 ∨ m = 1 ∨ m = 2 ∨ m = 3 by omega) with rfl | rfl | rfl | rfl <;> simp only [acc10, Nat.add_zero] <;> omega
theorem w10_acc (zs : Nat → Int) (N k : Nat) : w10 zs N k = acc10 zs N (3 * k) 3 * 4 := by
  simp only [acc10, w10, Nat.add_zero]; omega
set_option maxRecDepth 100000 in
set_option maxHeartbeats 3200000 in
theorem Pack_10 (b off N cap : Nat) (a : Option Addr) (zs : Nat → Int) (w : World) (hN : N ≤ 65536) (ha : 0 < N → a = some ⟨b, off, none⟩) (hc : ∀ i, i < N → w.cell? ⟨b, off + i, none⟩ = some (.int .i64 (zs i))) (hz : ∀ i, i < N → 0 ≤ zs i ∧ zs i ≤ 1023) :
    Calls Try.prog 51 #[.slice a N cap, .int .i64 10] w fun e w' => e = .returned (.tuple #[.string ⟨(pkL (g10 zs N) ((N + 2) / 3)).toArray⟩, .int .i64 0]) ∧ Below w.heap.size w w' := by
  have HA := Lib.hid ha; have HC := Lib.hid hc; have HZ := Lib.hid hz
  have HBW := Lib.hid (fun h => cell_lt (hc 0 h) : 0 < N → b < w.heap.size)
  obtain ⟨i0, hi0, hz0, hz1, hz2⟩ := info_parts infoU8
  clear ha hc hz
  go_enter Try.func51, Try.ntmps51
  go_upto_region 6 with (first | (go_at_call 143; refine (packed_any _ _).mono ?_; rintro e w' ⟨rfl, rfl⟩))
  go_loopw [24] (fun s24 wr => ∃ k : Nat, k ≤ N ∧ s24 = .int .i64 k ∧ w = wr) (fun s24 _ => N - (intOf s24).toNat)
  case atStart => exact ⟨0, Nat.zero_le _, rfl, rfl⟩
  case round =>
    obtain ⟨k, hk, rfl, rfl⟩ := hrel
    by_cases hkN : k < N
    · obtain rfl := HA.out (by omega)
      have c0 := HC.out k hkN
      obtain ⟨z0, z1⟩ := HZ.out k hkN
      generalize zs k = z at *
      have hkN' : (k : Int) < (N : Int) := by omega
      have e0 : ¬ z < 0 := by omega
      have e1 : ¬ 1023 < z := by omega
      go_wp2_with fail
      go_roundw
      case rel => exact ⟨k + 1, by omega, by go_num, by first | rfl | trivial⟩
      case measure => simp [intOf]; omega
    · have hkk : ¬ (k : Int) < (N : Int) := by omega
      clear hk hkN
      go_wp2_with fail
      have P0 : PkR w w (.slice none 0 0) [] := ⟨World.ownsRow_nil _ _ _ _, Below.refl _ _⟩
      go_loopw [8, 13] (fun s8 s13 wr => ∃ k : Nat, 3 * k ≤ N + 2 ∧ s13 = .int .i64 (3 * k : Nat) ∧ ∃ u, u = s8 ∧ PkR w wr u (pkL (g10 zs N) k)) (fun _ s13 _ => N + 3 - (intOf s13).toNat)
      case atStart => exact ⟨0, by omega, rfl, _, rfl, P0⟩
      case round =>
        obtain ⟨k, hk, rfl, u, rfl, hM⟩ := hrel
        have HM := Lib.hid hM
        clear hM P0
        obtain ⟨i, hi⟩ : ∃ i, i = 3 * k := ⟨_, rfl⟩
        rw [← hi] at hk ⊢
        have HI := Lib.hid hi
        clear hi
        by_cases hkN : i < N
        · obtain rfl := HA.out (by omega)
          have hkN' : (i : Int) < (N : Int) := by omega
          go_wp2_with fail
          go_loopw [14, 45] (fun s14 s45 wy => ∃ m : Nat, m ≤ 3 ∧ s45 = .int .i64 m ∧ s14 = .int .i64 (acc10 zs N i m) ∧ wr = wy) (fun _ s45 _ => 3 - (intOf s45).toNat)
          case atStart => exact ⟨0, by omega, rfl, rfl, rfl⟩
          case round =>
            obtain ⟨m, hm, rfl, rfl, rfl⟩ := hrel
            by_cases hm3 : m < 3
            · have hm3' : (m : Int) < 3 := by omega
              obtain ⟨a0, a1⟩ := acc10_bd HZ.out i m (by omega)
              have HAC := Lib.hid (show acc10 zs N i m * 1024 + at10 zs N (i + m) = acc10 zs N i (m + 1) from rfl)
              generalize acc10 zs N i m = A at *
              by_cases hin : i + m < N
              · have c0 := (HM.out.bel.cell (p := ⟨b, off + (i + m), none⟩) (HBW.out (by omega))).trans (HC.out (i + m) hin)
                obtain ⟨z0, z1⟩ := HZ.out (i + m) hin
                rw [show at10 zs N (i + m) = zs (i + m) by unfold at10; rw [if_pos hin]] at HAC
                obtain ⟨z, hz⟩ : ∃ z, z = zs (i + m) := ⟨_, rfl⟩
                rw [← hz] at c0 z0 z1 HAC
                have hin' : (i : Int) + (m : Int) < (N : Int) := by omega
                clear hz
                have uor := or10 (a := A) (z := z) a0 (by omega) z0 (by omega)
                go_wp2_with fail
                go_roundw
                case rel => exact ⟨m + 1, by omega, by first | rfl | go_num, by rw [HAC.out], by first | rfl | trivial⟩
                case measure => simp [intOf]; omega
              · rw [show at10 zs N (i + m) = 0 by unfold at10; rw [if_neg hin]] at HAC
                have hin' : ¬ (i : Int) + (m : Int) < (N : Int) := by omega
                have HAC2 := Lib.hid (show A * 1024 = acc10 zs N i (m + 1) by rw [← HAC.out]; omega)
                clear HAC
                go_wp2_with fail
                go_roundw
                case rel => exact ⟨m + 1, by omega, by first | rfl | go_num, by rw [HAC2.out], by first | rfl | trivial⟩
                case measure => simp [intOf]; omega
            · obtain rfl : m = 3 := by omega
              have hm3' : ¬ ((3 : Nat) : Int) < 3 := by decide
              obtain ⟨a0, a1⟩ := acc10_bd HZ.out i 3 (by omega)
              have HW := Lib.hid (show w10 zs N k = acc10 zs N i 3 * 4 by rw [HI.out]; exact w10_acc zs N k)
              generalize acc10 zs N i 3 = A at *
              obtain ⟨W, hW⟩ : ∃ W, W = A * 4 := ⟨_, rfl⟩
              obtain ⟨b3, hb3⟩ : ∃ x, x = by8 (W / 16777216) := ⟨_, rfl⟩
              obtain ⟨b2, hb2⟩ : ∃ x, x = by8 (W / 65536) := ⟨_, rfl⟩
              obtain ⟨b1, hb1⟩ : ∃ x, x = by8 (W / 256) := ⟨_, rfl⟩
              obtain ⟨b0, hb0⟩ : ∃ x, x = by8 W := ⟨_, rfl⟩
              have HG := Lib.hid (show [b3, b2, b1, b0] = g10 zs N k by unfold g10; rw [HW.out, ← hW, hb3, hb2, hb1, hb0])
              have HLEN := Lib.hid (show (pkL (g10 zs N) k).length ≤ 131072 by rw [pkL_len (m := 4) (fun _ => rfl)]; have := HI.out; omega)
              have hW' := hW.symm
              have x3 : W / 16777216 = (b3.toNat : Int) := by rw [hb3, by8_nat]; omega
              have x2 : IntKind.u8.wrap (W / 65536) = (b2.toNat : Int) := by rw [hb2]; exact by8_wrap _
              have x1 : IntKind.u8.wrap (W / 256) = (b1.toNat : Int) := by rw [hb1]; exact by8_wrap _
              have x0 : IntKind.u8.wrap W = (b0.toNat : Int) := by rw [hb0]; exact by8_wrap _
              have hWb : 0 ≤ W ∧ W ≤ 4294967292 := by omega
              obtain ⟨W0, W1⟩ := hWb
              clear hb3 hb2 hb1 hb0 hW
              go_wp2_with (first | (at_builtin; refine wpList_append_lies _ rfl _ _ _ rfl w.heap.size 5 i0 (.int .u8 0) 1 1 Try.underlying164 hi0 hz0 hz1 hz2 rfl (by decide) u (pkL (g10 zs N) k).length (vals8 (pkL (g10 zs N) k)) rfl (World.ownsRow.alloc HM.out.own _) ⟨wr.heap.size, 0, none⟩ 4 4 [.int .u8 (b3.toNat : Int), .int .u8 (b2.toNat : Int), .int .u8 (b1.toNat : Int), .int .u8 (b0.toNat : Int)] rfl rfl (by intro j u hj; match j, hj with | 0, hj => (simp at hj; subst hj; simp [Addr.add]) | 1, hj => (simp at hj; subst hj; simp [Addr.add]) | 2, hj => (simp at hj; subst hj; simp [Addr.add]) | 3, hj => (simp at hj; subst hj; simp [Addr.add])) (by intro u hu; simp at hu; first | (subst hu; rfl) | (rcases hu with rfl | rfl <;> rfl) | (rcases hu with rfl | rfl | rfl | rfl <;> rfl)) (by decide) (by unfold maxLen; have := HLEN.out; omega) (by have := HLEN.out; omega) (by have := HM.out.bel.size; simp; omega) _ rfl ?_; intro g cap w1 hown hgrow hat hlt))
              have HX := Lib.hid (show PkR w w1 (.slice (some ⟨g, 0, none⟩) ((pkL (g10 zs N) k).length + 4) cap) (pkL (g10 zs N) (k + 1)) by
                rw [show pkL (g10 zs N) (k + 1) = pkL (g10 zs N) k ++ [b3, b2, b1, b0] by rw [HG.out]; rfl]
                exact PkR.app (m := [b3, b2, b1, b0]) HM.out (by (repeat (first | exact Below.refl _ _ | assumption | (refine Below.setCell ?_ (by first | (simp; done) | (simp; omega) | omega) _) | (refine Below.drew ?_) | (refine below_drewN ?_ _) | (refine Below.alloc ?_ (by first | (simp; done) | (simp; omega) | omega) _) | (refine Below.trans ?_ (Below.mono (by assumption) (by first | (simp; done) | (simp; omega) | omega)))))) (by simp) hown hgrow)
              clear hown hgrow hat hlt
              go_roundw
              case rel => exact ⟨k + 1, by have := HI.out; omega, by rw [show ((3 * (k + 1) : Nat) : Int) = (i : Int) + 3 by have := HI.out; omega], _, rfl, HX.out⟩
              case measure => simp [intOf]; omega
        · have hkk : ¬ (i : Int) < (N : Int) := by omega
          have hst := run_string8 HM.out
          rw [show k = (N + 2) / 3 by have := HI.out; omega] at hst
          go_wp2_with fail
          refine bodyPost_ret (v := .tuple #[.string ⟨(pkL (g10 zs N) ((N + 2) / 3)).toArray⟩, .int .i64 0]) (by simp [results, Try.results51, go_sem]) rfl ⟨rfl, HM.out.bel⟩
set_option maxRecDepth 100000 in
set_option maxHeartbeats 3200000 in
theorem PackedOf_10 (b off N cap : Nat) (a : Option Addr) (zs : Nat → Int) (w : World) (hN : N ≤ 65536) (ha : 0 < N → a = some ⟨b, off, none⟩) (hc : ∀ i, i < N → w.cell? ⟨b, off + i, none⟩ = some (.int .i64 (zs i))) (hz : ∀ i, i < N → 0 ≤ zs i ∧ zs i ≤ 1023) :
    Calls Try.prog 52 #[.slice a N cap, .int .i64 10] w fun e w' => e = .returned (.string ⟨(pkL (g10 zs N) ((N + 2) / 3)).toArray⟩) ∧ Below w.heap.size w w' := by
  have HA := Lib.hid ha; have HC := Lib.hid hc; have HZ := Lib.hid hz
  have HBW := Lib.hid (fun h => cell_lt (hc 0 h) : 0 < N → b < w.heap.size)
  obtain ⟨i0, hi0, hz0, hz1, hz2⟩ := info_parts infoU8
  clear ha hc hz
  go_enter Try.func52, Try.ntmps52
  go_wp2_with fail
  have P0 : PkR w w (.slice none 0 0) [] := ⟨World.ownsRow_nil _ _ _ _, Below.refl _ _⟩
  go_loopw [5, 10] (fun s8 s13 wr => ∃ k : Nat, 3 * k ≤ N + 2 ∧ s13 = .int .i64 (3 * k : Nat) ∧ ∃ u, u = s8 ∧ PkR w wr u (pkL (g10 zs N) k)) (fun _ s13 _ => N + 3 - (intOf s13).toNat)
  case atStart => exact ⟨0, by omega, rfl, _, rfl, P0⟩
  case round =>
    obtain ⟨k, hk, rfl, u, rfl, hM⟩ := hrel
    have HM := Lib.hid hM
    clear hM P0
    obtain ⟨i, hi⟩ : ∃ i, i = 3 * k := ⟨_, rfl⟩
    rw [← hi] at hk ⊢
    have HI := Lib.hid hi
    clear hi
    by_cases hkN : i < N
    · obtain rfl := HA.out (by omega)
      have hkN' : (i : Int) < (N : Int) := by omega
      go_wp2_with fail
      go_loopw [11, 20] (fun s14 s45 wy => ∃ m : Nat, m ≤ 3 ∧ s45 = .int .i64 m ∧ s14 = .int .i64 (acc10 zs N i m) ∧ wr = wy) (fun _ s45 _ => 3 - (intOf s45).toNat)
      case atStart => exact ⟨0, by omega, rfl, rfl, rfl⟩
      case round =>
        obtain ⟨m, hm, rfl, rfl, rfl⟩ := hrel
        by_cases hm3 : m < 3
        · have hm3' : (m : Int) < 3 := by omega
          obtain ⟨a0, a1⟩ := acc10_bd HZ.out i m (by omega)
          have HAC := Lib.hid (show acc10 zs N i m * 1024 + at10 zs N (i + m) = acc10 zs N i (m + 1) from rfl)
          generalize acc10 zs N i m = A at *
          by_cases hin : i + m < N
          · have c0 := (HM.out.bel.cell (p := ⟨b, off + (i + m), none⟩) (HBW.out (by omega))).trans (HC.out (i + m) hin)
            obtain ⟨z0, z1⟩ := HZ.out (i + m) hin
            rw [show at10 zs N (i + m) = zs (i + m) by unfold at10; rw [if_pos hin]] at HAC
            obtain ⟨z, hz⟩ : ∃ z, z = zs (i + m) := ⟨_, rfl⟩
            rw [← hz] at c0 z0 z1 HAC
            have hin' : (i : Int) + (m : Int) < (N : Int) := by omega
            clear hz
            have uor := or10 (a := A) (z := z) a0 (by omega) z0 (by omega)
            go_wp2_with fail
            go_roundw
            case rel => exact ⟨m + 1, by omega, by first | rfl | go_num, by rw [HAC.out], by first | rfl | trivial⟩
            case measure => simp [intOf]; omega
          · rw [show at10 zs N (i + m) = 0 by unfold at10; rw [if_neg hin]] at HAC
            have hin' : ¬ (i : Int) + (m : Int) < (N : Int) := by omega
            have HAC2 := Lib.hid (show A * 1024 = acc10 zs N i (m + 1) by rw [← HAC.out]; omega)
            clear HAC
            go_wp2_with fail
            go_roundw
            case rel => exact ⟨m + 1, by omega, by first | rfl | go_num, by rw [HAC2.out], by first | rfl | trivial⟩
            case measure => simp [intOf]; omega
        · obtain rfl : m = 3 := by omega
          have hm3' : ¬ ((3 : Nat) : Int) < 3 := by decide
          obtain ⟨a0, a1⟩ := acc10_bd HZ.out i 3 (by omega)
          have HW := Lib.hid (show w10 zs N k = acc10 zs N i 3 * 4 by rw [HI.out]; exact w10_acc zs N k)
          generalize acc10 zs N i 3 = A at *
          obtain ⟨W, hW⟩ : ∃ W, W = A * 4 := ⟨_, rfl⟩
          obtain ⟨b3, hb3⟩ : ∃ x, x = by8 (W / 16777216) := ⟨_, rfl⟩
          obtain ⟨b2, hb2⟩ : ∃ x, x = by8 (W / 65536) := ⟨_, rfl⟩
          obtain ⟨b1, hb1⟩ : ∃ x, x = by8 (W / 256) := ⟨_, rfl⟩
          obtain ⟨b0, hb0⟩ : ∃ x, x = by8 W := ⟨_, rfl⟩
          have HG := Lib.hid (show [b3, b2, b1, b0] = g10 zs N k by unfold g10; rw [HW.out, ← hW, hb3, hb2, hb1, hb0])
          have HLEN := Lib.hid (show (pkL (g10 zs N) k).length ≤ 131072 by rw [pkL_len (m := 4) (fun _ => rfl)]; have := HI.out; omega)
          have hW' := hW.symm
          have x3 : W / 16777216 = (b3.toNat : Int) := by rw [hb3, by8_nat]; omega
          have x2 : IntKind.u8.wrap (W / 65536) = (b2.toNat : Int) := by rw [hb2]; exact by8_wrap _
          have x1 : IntKind.u8.wrap (W / 256) = (b1.toNat : Int) := by rw [hb1]; exact by8_wrap _
          have x0 : IntKind.u8.wrap W = (b0.toNat : Int) := by rw [hb0]; exact by8_wrap _
          have hWb : 0 ≤ W ∧ W ≤ 4294967292 := by omega
          obtain ⟨W0, W1⟩ := hWb
          clear hb3 hb2 hb1 hb0 hW
          go_wp2_with (first | (at_builtin; refine wpList_append_lies _ rfl _ _ _ rfl w.heap.size 5 i0 (.int .u8 0) 1 1 Try.underlying164 hi0 hz0 hz1 hz2 rfl (by decide) u (pkL (g10 zs N) k).length (vals8 (pkL (g10 zs N) k)) rfl (World.ownsRow.alloc HM.out.own _) ⟨wr.heap.size, 0, none⟩ 4 4 [.int .u8 (b3.toNat : Int), .int .u8 (b2.toNat : Int), .int .u8 (b1.toNat : Int), .int .u8 (b0.toNat : Int)] rfl rfl (by intro j u hj; match j, hj with | 0, hj => (simp at hj; subst hj; simp [Addr.add]) | 1, hj => (simp at hj; subst hj; simp [Addr.add]) | 2, hj => (simp at hj; subst hj; simp [Addr.add]) | 3, hj => (simp at hj; subst hj; simp [Addr.add])) (by intro u hu; simp at hu; first | (subst hu; rfl) | (rcases hu with rfl | rfl <;> rfl) | (rcases hu with rfl | rfl | rfl | rfl <;> rfl)) (by decide) (by unfold maxLen; have := HLEN.out; omega) (by have := HLEN.out; omega) (by have := HM.out.bel.size; simp; omega) _ rfl ?_; intro g cap w1 hown hgrow hat hlt))
          have HX := Lib.hid (show PkR w w1 (.slice (some ⟨g, 0, none⟩) ((pkL (g10 zs N) k).length + 4) cap) (pkL (g10 zs N) (k + 1)) by
            rw [show pkL (g10 zs N) (k + 1) = pkL (g10 zs N) k ++ [b3, b2, b1, b0] by rw [HG.out]; rfl]
            exact PkR.app (m := [b3, b2, b1, b0]) HM.out (by (repeat (first | exact Below.refl _ _ | assumption | (refine Below.setCell ?_ (by first | (simp; done) | (simp; omega) | omega) _) | (refine Below.drew ?_) | (refine below_drewN ?_ _) | (refine Below.alloc ?_ (by first | (simp; done) | (simp; omega) | omega) _) | (refine Below.trans ?_ (Below.mono (by assumption) (by first | (simp; done) | (simp; omega) | omega)))))) (by simp) hown hgrow)
          clear hown hgrow hat hlt
          go_roundw
          case rel => exact ⟨k + 1, by have := HI.out; omega, by rw [show ((3 * (k + 1) : Nat) : Int) = (i : Int) + 3 by have := HI.out; omega], _, rfl, HX.out⟩
          case measure => simp [intOf]; omega
    · have hkk : ¬ (i : Int) < (N : Int) := by omega
      have hst := run_string8 HM.out
      rw [show k = (N + 2) / 3 by have := HI.out; omega] at hst
      go_wp2_with fail
      go_ret
      exact ⟨rfl, HM.out.bel⟩
end Go.Proofs.Ytmckkgbdlgldbaa
