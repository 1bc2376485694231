/- Packed levels: finish.Unpack at 8 and 16 bits. Conditions: what each theorem names. -/
import Derived.Test.YtmckkgbdlgldbaaPkC
namespace Go.Proofs.Ytmckkgbdlgldbaa
open Go Go.RowKit Go.Maps
theorem lawInt : Keyed Try.prog 3 := int_keyed Try.underlying3
theorem zeroInt (w : World) : (zeroValue 3).run Try.prog w = .ok (.int .i64 0) w := by kernel_rfl
theorem infoI64 : (Try.prog.info? 3).map (fun i => (i.zero, i.size, i.bytes)) = some (some (.int .i64 0), 1, 8) := by kernel_rfl
/-- A map literal of three. -/
theorem map3 (w : World) (a b c : Int) (ha : 0 ≤ a ∧ a ≤ 4611686018427387904) (hb : 0 ≤ b ∧ b ≤ 4611686018427387904) (hc : 0 ≤ c ∧ c ≤ 4611686018427387904) : ∃ W2 W3 W4 : World,
    (Instr.mapUpdate 165 (.map (some w.heap.size)) (.int .i64 8) (.int .i64 a)).run Try.prog (w.alloc (.map #[] 0)) = .ok () W2 ∧
    (Instr.mapUpdate 165 (.map (some w.heap.size)) (.int .i64 16) (.int .i64 b)).run Try.prog W2 = .ok () W3 ∧
    (Instr.mapUpdate 165 (.map (some w.heap.size)) (.int .i64 10) (.int .i64 c)).run Try.prog W3 = .ok () W4 ∧
    (Instr.lookup 165 (.map (some w.heap.size)) (.int .i64 8) false).run Try.prog W4 = .ok (.int .i64 a) W4 ∧
    (Instr.lookup 165 (.map (some w.heap.size)) (.int .i64 16) false).run Try.prog W4 = .ok (.int .i64 b) W4 ∧
    (Instr.lookup 165 (.map (some w.heap.size)) (.int .i64 10) false).run Try.prog W4 = .ok (.int .i64 c) W4 ∧
    Below w.heap.size w W4 := by
  have k8 : keyOf Try.prog 3 (.int .i64 8) = some (.int .i64 8) := keyOf_int_mk Try.underlying3 (by decide)
  have k16 : keyOf Try.prog 3 (.int .i64 16) = some (.int .i64 16) := keyOf_int_mk Try.underlying3 (by decide)
  have k10 : keyOf Try.prog 3 (.int .i64 10) = some (.int .i64 10) := keyOf_int_mk Try.underlying3 (by decide)
  obtain ⟨W2, r2, o2, g2⟩ := (World.ownsMap_made w Try.prog 3 (plainElem (H := Unit) Try.prog 3)).update lawInt Try.underlying165 (by decide) k8 (plainElem_int (a := a) Try.underlying3 (WalkArith.wf_i64 (by omega)))
  obtain ⟨W3, r3, o3, g3⟩ := o2.update lawInt Try.underlying165 (by decide) k16 (plainElem_int (a := b) Try.underlying3 (WalkArith.wf_i64 (by omega)))
  obtain ⟨W4, r4, o4, g4⟩ := o3.update lawInt Try.underlying165 (by decide) k10 (plainElem_int (a := c) Try.underlying3 (WalkArith.wf_i64 (by omega)))
  obtain ⟨c8, s8, h8, -⟩ := o4.lookup_int lawInt Try.underlying165 Try.underlying3 (zeroInt _) k8
  obtain ⟨c16, s16, h16, -⟩ := o4.lookup_int lawInt Try.underlying165 Try.underlying3 (zeroInt _) k16
  obtain ⟨c10, s10, h10, -⟩ := o4.lookup_int lawInt Try.underlying165 Try.underlying3 (zeroInt _) k10
  have e8 : (DataW.lit (.int .i64 a) : DataW Unit) = .lit (.int .i64 c8) := h8
  have e16 : (DataW.lit (.int .i64 b) : DataW Unit) = .lit (.int .i64 c16) := h16
  have e10 : (DataW.lit (.int .i64 c) : DataW Unit) = .lit (.int .i64 c10) := h10
  simp at e8 e16 e10
  subst e8 e16 e10
  refine ⟨W2, W3, W4, r2, r3, r4, s8, s16, s10, ?_⟩
  have b1 : Below w.heap.size w (w.alloc (.map #[] 0)) := (Below.refl _ _).alloc (Nat.le_refl _) _
  have z : ∀ j, some w.heap.size = some j → w.heap.size ≤ j := fun j hj => by cases hj; exact Nat.le_refl _
  have z2 := g2.size; have z3 := g3.size; have z4 := g4.size
  simp at z2
  exact ((b1.grown g2 (by simp) z).grown g3 (by omega) z).grown g4 (by omega) z
/-- What stands of the levels so far. -/
def valsI (f : Nat → Int) (n : Nat) : List Value := (List.range n).map (fun i => Value.int .i64 (f i))
theorem valsI_succ (f : Nat → Int) (n : Nat) : valsI f (n + 1) = valsI f n ++ [.int .i64 (f n)] := by unfold valsI; rw [List.range_succ, List.map_append]; rfl
structure UnR (w wr : World) (u : Value) (f : Nat → Int) (n : Nat) : Prop where
  own : wr.ownsRow w.heap.size 3 1 u n (valsI f n)
  bel : Below w.heap.size w wr
theorem UnR.past {w wr wy : World} {u : Value} {f : Nat → Int} {n : Nat} (k : UnR w wr u f n) (h : Below wr.heap.size wr wy) : UnR w wy u f n := ⟨own_past k.own h, k.bel.trans (h.mono k.bel.size)⟩
theorem UnR.app {w wr wa w1 : World} {u u' : Value} {f : Nat → Int} {n : Nat} {x : Int} (k0 : UnR w wr u f n) (hb : Below wr.heap.size wr wa) (hx : x = f n) (hown : w1.ownsRow w.heap.size 3 1 u' (n + 1) (valsI f n ++ [.int .i64 x])) (hg : wa.grownBy w1 u.ownBlock) : UnR w w1 u' f (n + 1) := by
  have k := k0.past hb
  refine ⟨by rw [valsI_succ, ← hx]; exact hown, k.bel.grown hg k.bel.size (fun j hj => ?_)⟩
  have := k.own.lt j hj
  omega
theorem or8 {a z : Int} (a0 : 0 ≤ a) (a1 : a < 1099511627776) (z0 : 0 ≤ z) (z1 : z < 256) : bits .or .i64 (a * 256) z = a * 256 + z := by
  obtain ⟨x, rfl⟩ : ∃ x : Nat, a = x := ⟨a.toNat, by omega⟩
  obtain ⟨y, rfl⟩ : ∃ y : Nat, z = y := ⟨z.toNat, by omega⟩
  have h := or_nat (a := x) (z := y) (c := 8) (by omega) (by omega)
  rw [show ((x * 2 ^ 8 : Nat) : Int) = (x : Int) * 256 by omega, show ((x * 2 ^ 8 + y : Nat) : Int) = (x : Int) * 256 + y by omega] at h
  exact h
/-- The byte at a place, and the number that a few of them make. -/
def btI (t : ByteArray) (i : Nat) : Int := if h : i < t.size then ((t[i]'h).toNat : Int) else 0
theorem btI_in {t : ByteArray} {i : Nat} (h : i < t.size) : wrap64 (((t[i]'h).toNat : Nat) : Int) = btI t i := by
  unfold btI; rw [dif_pos h]
  have := (t[i]'h).toNat_lt
  exact Go.IntWalk.wrap64_in _ (by omega)
theorem btI_bd (t : ByteArray) (i : Nat) : 0 ≤ btI t i ∧ btI t i ≤ 255 := by
  unfold btI; split
  · rename_i h; have := (t[i]'h).toNat_lt; omega
  · omega
def wdI (t : ByteArray) (i : Nat) : Nat → Int
  | 0 => 0
  | m + 1 => wdI t i m * 256 + btI t (i + m)
theorem wdI_bd (t : ByteArray) (i m : Nat) (hm : m ≤ 4) : 0 ≤ wdI t i m ∧ wdI t i m ≤ 4294967295 := by
  have b0 := btI_bd t (i + 0); have b1 := btI_bd t (i + 1); have b2 := btI_bd t (i + 2); have b3 := btI_bd t (i + 3)
  rw [Nat.add_zero] at b0
  rcases (show m = 0 ∨ m = 1 ∨ m = 2 ∨ m = 3 ∨ m = 4 by omega) with rfl | rfl | rfl | rfl | rfl <;> simp only [wdI, Nat.add_zero] <;> omega
set_option maxRecDepth 100000 in
set_option maxHeartbeats 3200000 in
theorem Unpack_8 (t : ByteArray) (many : Nat) (w : World) (hm : many ≤ 65536) (hs : t.size = 1 * many) :
    Calls Try.prog 53 #[.string t, .int .i64 many, .int .i64 8] w fun e w' => (∃ u, e = .returned (.tuple #[u, .int .i64 0]) ∧ UnR w w' u (fun i => wdI t (1 * i) 1) many) := by
  obtain ⟨f, hf⟩ : ∃ f : Nat → Int, f = fun i => wdI t (1 * i) 1 := ⟨_, rfl⟩
  rw [← hf]
  have HF := Lib.hid hf
  obtain ⟨W2, W3, W4, r2, r3, r4, r8, r16, r10, hB4⟩ := map3 w (many : Int) (2 * (many : Int)) (((many : Int) + 2) / 3 * 4) (by omega) (by omega) (by omega)
  have hmk := @run_makeMap Try.prog
  obtain ⟨i0, hi0, hz0, hz1, hz2⟩ := info_parts infoI64
  obtain ⟨L, hL⟩ : ∃ L : Nat, L = 1 * many := ⟨_, rfl⟩
  have hs' : (t.size : Int) = (many : Int) := by omega
  have HL := Lib.hid hL; have HSZ := Lib.hid hs
  clear hf hs hL
  have hB4' := hB4.size
  go_enter Try.func53, Try.ntmps53
  go_upto_region 8 with (first | (go_at_call 143; refine (packed_any _ _).mono ?_; rintro e w' ⟨rfl, rfl⟩))
  have HB4 := Lib.hid hB4
  clear r2 r3 r4 r8 r16 r10 hB4
  go_upto_region 9 with (first | (refine wpList_make_own _ rfl _ _ 24 rfl w.heap.size 3 i0 (.int .i64 0) 1 Try.underlying24 hi0 hz0 hz1 .i64 .i64 _ many rfl rfl rfl (by rw [hz2]; omega) (by unfold maxLen; omega) hB4' ?_; intro w5 own5 g5))
  have U5 : UnR w w5 (.slice (some ⟨W4.heap.size, 0, none⟩) 0 many) f 0 := ⟨own5, HB4.out.grown g5 hB4' (fun j hj => by cases hj)⟩
  have HU5 := Lib.hid U5
  obtain ⟨V2, V3, V4, r2, r3, r4, r8, r16, r10, hC4⟩ := map3 w5 1 2 4 (by omega) (by omega) (by omega)
  clear own5 g5 U5
  go_upto_region 10 with fail
  have HU6 := Lib.hid (HU5.out.past hC4)
  clear r2 r3 r4 r8 r16 r10 hC4 HU5
  go_wp2_with fail
  go_loopw [9, 11] (fun s9 s11 wr => ∃ k : Nat, k ≤ many ∧ s11 = .int .i64 (1 * k : Nat) ∧ ∃ u, u = s9 ∧ UnR w wr u f k) (fun _ s11 _ => 1 * many + 4 - (intOf s11).toNat)
  case atStart => exact ⟨0, Nat.zero_le _, rfl, _, rfl, HU6.out⟩
  case round =>
    obtain ⟨k, hk, rfl, u, rfl, hM⟩ := hrel
    have HM := Lib.hid hM
    clear hM HU6
    obtain ⟨i, hi⟩ : ∃ i, i = 1 * k := ⟨_, rfl⟩
    rw [← hi]
    have HI := Lib.hid hi
    clear hi
    by_cases hkN : k < many
    · have hkN' : (i : Int) < (many : Int) := by have := HI.out; omega
      have him : i + 1 ≤ t.size := by have := HI.out; have := HSZ.out; omega
      have hi6 : i ≤ 131072 := by have := HI.out; omega
      go_wp2_with fail
      go_loopw [12, 53] (fun s12 s53 wy => ∃ m : Nat, m ≤ 1 ∧ s53 = .int .i64 m ∧ s12 = .int .i64 (wdI t i m) ∧ wr = wy) (fun _ s53 _ => 1 - (intOf s53).toNat)
      case atStart => exact ⟨0, by omega, rfl, rfl, rfl⟩
      case round =>
        obtain ⟨m, hm2, rfl, rfl, rfl⟩ := hrel
        by_cases hm3 : m < 1
        · have hm3' : (m : Int) < 1 := by omega
          obtain ⟨a0, a1⟩ := wdI_bd t i m (by omega)
          obtain ⟨z0, z1⟩ := btI_bd t (i + m)
          have HAC := Lib.hid (show wdI t i m * 256 + btI t (i + m) = wdI t i (m + 1) from rfl)
          have him2 : i + m < t.size := by omega
          have him3 : (i : Int) + (m : Int) < (t.size : Int) := by omega
          generalize wdI t i m = A at *
          have uor := or8 (a := A) (z := btI t (i + m)) a0 (by omega) z0 (by omega)
          have hb := btI_in him2
          go_wp2_with fail
          go_roundw
          case rel => exact ⟨m + 1, by omega, by first | rfl | go_num, by rw [HAC.out], by first | rfl | trivial⟩
          case measure => simp [intOf]; omega
        · obtain rfl : m = 1 := by omega
          have hm3' : ¬ ((1 : Nat) : Int) < 1 := by decide
          obtain ⟨a0, a1⟩ := wdI_bd t i 1 (by omega)
          have HW := Lib.hid (show wdI t i 1 = f k by rw [HF.out, HI.out])
          generalize wdI t i 1 = A at *
          go_wp2_with (first | (at_builtin; refine wpList_append_lies _ rfl _ _ _ rfl w.heap.size 3 i0 (.int .i64 0) 1 8 Try.underlying24 hi0 hz0 hz1 hz2 rfl (by decide) u k (valsI f k) rfl (World.ownsRow.alloc HM.out.own _) ⟨wr.heap.size, 0, none⟩ 1 1 [.int .i64 A] rfl rfl (by intro j u hj; match j, hj with | 0, hj => (simp at hj; subst hj; simp [Addr.add])) (by intro u hu; simp at hu; subst hu; rfl) (by decide) (by unfold maxLen; omega) (by omega) (by have := HM.out.bel.size; simp; omega) _ rfl ?_; intro g cap w1 hown hgrow hat hlt))
          have HX := Lib.hid (UnR.app HM.out (by (repeat (first | exact Below.refl _ _ | assumption | (refine Below.setCell ?_ (by first | (simp; done) | (simp; omega) | omega) _) | (refine Below.drew ?_) | (refine below_drewN ?_ _) | (refine Below.alloc ?_ (by first | (simp; done) | (simp; omega) | omega) _) | (refine Below.trans ?_ (Below.mono (by assumption) (by first | (simp; done) | (simp; omega) | omega)))))) HW.out hown hgrow)
          clear hown hgrow hat hlt
          go_roundw
          case rel => exact ⟨k + 1, by omega, by rw [show ((1 * (k + 1) : Nat) : Int) = (i : Int) + 1 by have := HI.out; omega], _, rfl, HX.out⟩
          case measure => simp [intOf]; omega
    · have hkk : ¬ (i : Int) < (many : Int) := by have := HI.out; omega
      have HX := Lib.hid (show UnR w wr u f many by rw [show many = k by omega]; exact HM.out)
      go_wp2_with fail
      refine bodyPost_ret (v := .tuple #[u, .int .i64 0]) (by simp [results, Try.results53, go_sem]) rfl ⟨_, rfl, HX.out⟩
set_option maxRecDepth 100000 in
set_option maxHeartbeats 3200000 in
theorem Unpack_16 (t : ByteArray) (many : Nat) (w : World) (hm : many ≤ 65536) (hs : t.size = 2 * many) :
    Calls Try.prog 53 #[.string t, .int .i64 many, .int .i64 16] w fun e w' => (∃ u, e = .returned (.tuple #[u, .int .i64 0]) ∧ UnR w w' u (fun i => wdI t (2 * i) 2) many) := by
  obtain ⟨f, hf⟩ : ∃ f : Nat → Int, f = fun i => wdI t (2 * i) 2 := ⟨_, rfl⟩
  rw [← hf]
  have HF := Lib.hid hf
  obtain ⟨W2, W3, W4, r2, r3, r4, r8, r16, r10, hB4⟩ := map3 w (many : Int) (2 * (many : Int)) (((many : Int) + 2) / 3 * 4) (by omega) (by omega) (by omega)
  have hmk := @run_makeMap Try.prog
  obtain ⟨i0, hi0, hz0, hz1, hz2⟩ := info_parts infoI64
  obtain ⟨L, hL⟩ : ∃ L : Nat, L = 2 * many := ⟨_, rfl⟩
  have hs' : (t.size : Int) = 2 * (many : Int) := by omega
  have HL := Lib.hid hL; have HSZ := Lib.hid hs
  clear hf hs hL
  have hB4' := hB4.size
  go_enter Try.func53, Try.ntmps53
  go_upto_region 8 with (first | (go_at_call 143; refine (packed_any _ _).mono ?_; rintro e w' ⟨rfl, rfl⟩))
  have HB4 := Lib.hid hB4
  clear r2 r3 r4 r8 r16 r10 hB4
  go_upto_region 9 with (first | (refine wpList_make_own _ rfl _ _ 24 rfl w.heap.size 3 i0 (.int .i64 0) 1 Try.underlying24 hi0 hz0 hz1 .i64 .i64 _ many rfl rfl rfl (by rw [hz2]; omega) (by unfold maxLen; omega) hB4' ?_; intro w5 own5 g5))
  have U5 : UnR w w5 (.slice (some ⟨W4.heap.size, 0, none⟩) 0 many) f 0 := ⟨own5, HB4.out.grown g5 hB4' (fun j hj => by cases hj)⟩
  have HU5 := Lib.hid U5
  obtain ⟨V2, V3, V4, r2, r3, r4, r8, r16, r10, hC4⟩ := map3 w5 1 2 4 (by omega) (by omega) (by omega)
  clear own5 g5 U5
  go_upto_region 10 with fail
  have HU6 := Lib.hid (HU5.out.past hC4)
  clear r2 r3 r4 r8 r16 r10 hC4 HU5
  go_wp2_with fail
  go_loopw [9, 11] (fun s9 s11 wr => ∃ k : Nat, k ≤ many ∧ s11 = .int .i64 (2 * k : Nat) ∧ ∃ u, u = s9 ∧ UnR w wr u f k) (fun _ s11 _ => 2 * many + 4 - (intOf s11).toNat)
  case atStart => exact ⟨0, Nat.zero_le _, rfl, _, rfl, HU6.out⟩
  case round =>
    obtain ⟨k, hk, rfl, u, rfl, hM⟩ := hrel
    have HM := Lib.hid hM
    clear hM HU6
    obtain ⟨i, hi⟩ : ∃ i, i = 2 * k := ⟨_, rfl⟩
    rw [← hi]
    have HI := Lib.hid hi
    clear hi
    by_cases hkN : k < many
    · have hkN' : (i : Int) < 2 * (many : Int) := by have := HI.out; omega
      have him : i + 2 ≤ t.size := by have := HI.out; have := HSZ.out; omega
      have hi6 : i ≤ 131072 := by have := HI.out; omega
      go_wp2_with fail
      go_loopw [12, 53] (fun s12 s53 wy => ∃ m : Nat, m ≤ 2 ∧ s53 = .int .i64 m ∧ s12 = .int .i64 (wdI t i m) ∧ wr = wy) (fun _ s53 _ => 2 - (intOf s53).toNat)
      case atStart => exact ⟨0, by omega, rfl, rfl, rfl⟩
      case round =>
        obtain ⟨m, hm2, rfl, rfl, rfl⟩ := hrel
        by_cases hm3 : m < 2
        · have hm3' : (m : Int) < 2 := by omega
          obtain ⟨a0, a1⟩ := wdI_bd t i m (by omega)
          obtain ⟨z0, z1⟩ := btI_bd t (i + m)
          have HAC := Lib.hid (show wdI t i m * 256 + btI t (i + m) = wdI t i (m + 1) from rfl)
          have him2 : i + m < t.size := by omega
          have him3 : (i : Int) + (m : Int) < (t.size : Int) := by omega
          generalize wdI t i m = A at *
          have uor := or8 (a := A) (z := btI t (i + m)) a0 (by omega) z0 (by omega)
          have hb := btI_in him2
          go_wp2_with fail
          go_roundw
          case rel => exact ⟨m + 1, by omega, by first | rfl | go_num, by rw [HAC.out], by first | rfl | trivial⟩
          case measure => simp [intOf]; omega
        · obtain rfl : m = 2 := by omega
          have hm3' : ¬ ((2 : Nat) : Int) < 2 := by decide
          obtain ⟨a0, a1⟩ := wdI_bd t i 2 (by omega)
          have HW := Lib.hid (show wdI t i 2 = f k by rw [HF.out, HI.out])
          generalize wdI t i 2 = A at *
          go_wp2_with (first | (at_builtin; refine wpList_append_lies _ rfl _ _ _ rfl w.heap.size 3 i0 (.int .i64 0) 1 8 Try.underlying24 hi0 hz0 hz1 hz2 rfl (by decide) u k (valsI f k) rfl (World.ownsRow.alloc HM.out.own _) ⟨wr.heap.size, 0, none⟩ 1 1 [.int .i64 A] rfl rfl (by intro j u hj; match j, hj with | 0, hj => (simp at hj; subst hj; simp [Addr.add])) (by intro u hu; simp at hu; subst hu; rfl) (by decide) (by unfold maxLen; omega) (by omega) (by have := HM.out.bel.size; simp; omega) _ rfl ?_; intro g cap w1 hown hgrow hat hlt))
          have HX := Lib.hid (UnR.app HM.out (by (repeat (first | exact Below.refl _ _ | assumption | (refine Below.setCell ?_ (by first | (simp; done) | (simp; omega) | omega) _) | (refine Below.drew ?_) | (refine below_drewN ?_ _) | (refine Below.alloc ?_ (by first | (simp; done) | (simp; omega) | omega) _) | (refine Below.trans ?_ (Below.mono (by assumption) (by first | (simp; done) | (simp; omega) | omega)))))) HW.out hown hgrow)
          clear hown hgrow hat hlt
          go_roundw
          case rel => exact ⟨k + 1, by omega, by rw [show ((2 * (k + 1) : Nat) : Int) = (i : Int) + 2 by have := HI.out; omega], _, rfl, HX.out⟩
          case measure => simp [intOf]; omega
    · have hkk : ¬ (i : Int) < 2 * (many : Int) := by have := HI.out; omega
      have HX := Lib.hid (show UnR w wr u f many by rw [show many = k by omega]; exact HM.out)
      go_wp2_with fail
      refine bodyPost_ret (v := .tuple #[u, .int .i64 0]) (by simp [results, Try.results53, go_sem]) rfl ⟨_, rfl, HX.out⟩
end Go.Proofs.Ytmckkgbdlgldbaa
