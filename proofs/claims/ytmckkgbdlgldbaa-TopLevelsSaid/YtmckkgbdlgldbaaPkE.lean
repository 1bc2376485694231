/- Packed levels: finish.Unpack at ten bits, and its errors. Conditions: what each theorem names. -/
import Derived.Test.YtmckkgbdlgldbaaPkD
namespace Go.Proofs.Ytmckkgbdlgldbaa
open Go Go.RowKit
theorem and_nat {x c : Nat} (h : x < 4611686018427387904) (hc : 2 ^ c - 1 < 4611686018427387904) : bits .and .i64 (x : Int) ((2 ^ c - 1 : Nat) : Int) = ((x % 2 ^ c : Nat) : Int) := by
  have e : (BitVec.ofInt 64 (x : Int) &&& BitVec.ofInt 64 ((2 ^ c - 1 : Nat) : Int)).toNat = x % 2 ^ c := by
    rw [BitVec.toNat_and, BitVec.ofInt_natCast, BitVec.toNat_ofNat, BitVec.ofInt_natCast, BitVec.toNat_ofNat, Nat.mod_eq_of_lt (by omega), Nat.mod_eq_of_lt (by omega), Nat.and_two_pow_sub_one_eq_mod]
  have hl := Nat.mod_le x (2 ^ c)
  show IntKind.i64.wrap (((BitVec.ofInt 64 (x : Int) &&& BitVec.ofInt 64 ((2 ^ c - 1 : Nat) : Int)).toNat : Nat) : Int) = _
  rw [e, IntKind.wrap_i64]
  omega
theorem and1023 {x : Int} (h0 : 0 ≤ x) (h1 : x < 4611686018427387904) : bits .and .i64 x 1023 = x % 1024 := by
  obtain ⟨n, rfl⟩ : ∃ n : Nat, x = n := ⟨x.toNat, by omega⟩
  exact and_nat (c := 10) (by omega) (by decide)
theorem and3 {x : Int} (h0 : 0 ≤ x) (h1 : x < 4611686018427387904) : bits .and .i64 x 3 = x % 4 := by
  obtain ⟨n, rfl⟩ : ∃ n : Nat, x = n := ⟨x.toNat, by omega⟩
  exact and_nat (c := 2) (by omega) (by decide)
/-- A level of a word. -/
def lev10 (t : ByteArray) (k j : Nat) : Int := wdI t (4 * k) 4 / (if j = 0 then 4194304 else if j = 1 then 4096 else 4) % 1024
def f10 (t : ByteArray) (i : Nat) : Int := lev10 t (i / 3) (i % 3)
theorem f10_at (t : ByteArray) (k j : Nat) (hj : j < 3) : f10 t (3 * k + j) = lev10 t k j := by
  unfold f10; rw [show (3 * k + j) / 3 = k by omega, show (3 * k + j) % 3 = j by omega]
/-- Whether a word is one of levels. -/
def Good (t : ByteArray) (many k : Nat) : Prop := wdI t (4 * k) 4 % 4 = 0 ∧ ∀ j, j < 3 → many ≤ 3 * k + j → lev10 t k j = 0
theorem un_form {w wr : World} {u : Value} {f : Nat → Int} {n : Nat} (h : UnR w wr u f n) : ∃ a c, u = .slice a n c := by
  rcases h.own.2 with ⟨h1, h0⟩ | ⟨g, cap, cur, h1, -⟩
  · subst h0; exact ⟨_, _, h1⟩
  · exact ⟨_, _, h1⟩
set_option maxRecDepth 100000 in
set_option maxHeartbeats 6400000 in
theorem Unpack_10 (t : ByteArray) (many : Nat) (w : World) (hm : many ≤ 65536) (hs : t.size = (many + 2) / 3 * 4) :
    Calls Try.prog 53 #[.string t, .int .i64 many, .int .i64 10] w fun e w' =>
      (∃ u, e = .returned (.tuple #[u, .int .i64 0]) ∧ UnR w w' u (f10 t) many ∧ ∀ k, k < (many + 2) / 3 → Good t many k) ∨
      (e = .returned (.tuple #[.slice none 0 0, .int .i64 2]) ∧ Below w.heap.size w w' ∧ ∃ k, k < (many + 2) / 3 ∧ ¬ Good t many k) := by
  obtain ⟨W2, W3, W4, r2, r3, r4, r8, r16, r10, hB4⟩ := map3 w (many : Int) (2 * (many : Int)) (((many : Int) + 2) / 3 * 4) (by omega) (by omega) (by omega)
  have hmk := @run_makeMap Try.prog
  obtain ⟨i0, hi0, hz0, hz1, hz2⟩ := info_parts infoI64
  obtain ⟨K, hK⟩ : ∃ K : Nat, K = (many + 2) / 3 := ⟨_, rfl⟩
  have hs' : (t.size : Int) = ((many : Int) + 2) / 3 * 4 := by omega
  rw [← hK]
  have HKK := Lib.hid hK; have HSZ := Lib.hid hs
  clear hs hK
  have hB4' := hB4.size
  go_enter Try.func53, Try.ntmps53
  go_upto_region 8 with (first | (go_at_call 143; refine (packed_any _ _).mono ?_; rintro e w' ⟨rfl, rfl⟩))
  have HB4 := Lib.hid hB4
  clear r2 r3 r4 r8 r16 r10 hB4
  go_upto_region 9 with (first | (refine wpList_make_own _ rfl _ _ 24 rfl w.heap.size 3 i0 (.int .i64 0) 1 Try.underlying24 hi0 hz0 hz1 .i64 .i64 _ many rfl rfl rfl (by rw [hz2]; omega) (by unfold maxLen; omega) hB4' ?_; intro w5 own5 g5))
  have U5 : UnR w w5 (.slice (some ⟨W4.heap.size, 0, none⟩) 0 many) (f10 t) 0 := ⟨own5, HB4.out.grown g5 hB4' (fun j hj => by cases hj)⟩
  have HU5 := Lib.hid U5
  obtain ⟨V2, V3, V4, r2, r3, r4, r8, r16, r10, hC4⟩ := map3 w5 1 2 4 (by omega) (by omega) (by omega)
  clear own5 g5 U5
  go_upto_region 10 with fail
  have HU6 := Lib.hid (HU5.out.past hC4)
  clear r2 r3 r4 r8 r16 r10 hC4 HU5
  go_wp2_with fail
  go_loopw [9, 11] (fun s9 s11 wr => ∃ k : Nat, k ≤ K ∧ s11 = .int .i64 (4 * k : Nat) ∧ ∃ u, u = s9 ∧ UnR w wr u (f10 t) (Nat.min many (3 * k)) ∧ ∀ k', k' < k → Good t many k') (fun _ s11 _ => 4 * K + 4 - (intOf s11).toNat)
  case atStart => exact ⟨0, Nat.zero_le _, rfl, _, rfl, by rw [show Nat.min many (3 * 0) = 0 from Nat.min_zero _]; exact HU6.out, fun k' h => by omega⟩
  case round =>
    obtain ⟨k, hk, rfl, u, rfl, hM, hG⟩ := hrel
    have HM := Lib.hid (And.intro hM hG)
    clear hM hG HU6
    obtain ⟨i, hi⟩ : ∃ i, i = 4 * k := ⟨_, rfl⟩
    rw [← hi]
    have HI := Lib.hid hi
    clear hi
    by_cases hkN : k < K
    · have HK := Lib.hid hkN
      have hkN' : (i : Int) < ((many : Int) + 2) / 3 * 4 := by have := HI.out; have := HKK.out; omega
      have him : i + 4 ≤ t.size := by have := HI.out; have := HSZ.out; have := HKK.out; omega
      have hi6 : i ≤ 131072 := by have := HI.out; have := HKK.out; omega
      go_wp2_with fail
      go_loopw [12, 53] (fun s12 s53 wy => ∃ m : Nat, m ≤ 4 ∧ s53 = .int .i64 m ∧ s12 = .int .i64 (wdI t i m) ∧ wr = wy) (fun _ s53 _ => 4 - (intOf s53).toNat)
      case atStart => exact ⟨0, by omega, rfl, rfl, rfl⟩
      case round =>
        obtain ⟨m, hm2, rfl, rfl, rfl⟩ := hrel
        by_cases hm3 : m < 4
        · have hm3' : (m : Int) < 4 := by omega
          obtain ⟨a0, a1⟩ := wdI_bd t i m (by omega)
          obtain ⟨z0, z1⟩ := btI_bd t (i + m)
          have HAC := Lib.hid (show wdI t i m * 256 + btI t (i + m) = wdI t i (m + 1) from rfl)
          have him2 : i + m < t.size := by omega
          have him3 : (i : Int) + (m : Int) < (t.size : Int) := by omega
          generalize wdI t i m = A at *
          have uor := or8 (a := A) (z := btI t (i + m)) a0 (by omega) z0 (by omega)
          have hb := btI_in him2
          go_wp2_with fail
          go_roundw
          case rel => exact ⟨m + 1, by omega, by first | rfl | go_num, by rw [HAC.out], by first | rfl | trivial⟩
          case measure => simp [intOf]; omega
        · obtain rfl : m = 4 := by omega
          have hm3' : ¬ ((4 : Nat) : Int) < 4 := by decide
          obtain ⟨a0, a1⟩ := wdI_bd t i 4 (by omega)
          have HW := Lib.hid (show wdI t (4 * k) 4 = wdI t i 4 by rw [HI.out])
          generalize wdI t i 4 = A at *
          have e3 := and3 (x := A) a0 (by omega)
          by_cases h4 : A % 4 = 0
          · have h4b : (A % 4 != 0) = false := by simpa using h4
            have H4 := Lib.hid h4
            clear h4
            go_wp2_with fail
            go_loopw [9, 14] (fun s9 s14 wy => ∃ j : Nat, j ≤ 3 ∧ s14 = .int .i64 (22 - 10 * (j : Int)) ∧ ∃ u, u = s9 ∧ UnR w wy u (f10 t) (Nat.min many (3 * k + j)) ∧ ∀ j', j' < j → many ≤ 3 * k + j' → lev10 t k j' = 0) (fun _ s14 _ => (intOf s14 + 10).toNat)
            case atStart => exact ⟨0, by omega, rfl, _, rfl, HM.out.1, fun j' h => by omega⟩
            case round =>
              obtain ⟨j, hj, rfl, u, rfl, hM2, hz2'⟩ := hrel
              have HM2 := Lib.hid (And.intro hM2 hz2')
              clear hM2 hz2'
              rcases (show j = 0 ∨ j = 1 ∨ j = 2 ∨ j = 3 by omega) with rfl | rfl | rfl | rfl
              · rw [show (22 : Int) - 10 * ((0 : Nat) : Int) = 22 by decide]
                obtain ⟨n, hn⟩ : ∃ n, n = A / 4194304 % 1024 := ⟨_, rfl⟩
                have ean : bits .and .i64 (A / 4194304) 1023 = n := by rw [hn]; exact and1023 (by omega) (by omega)
                have hlev : lev10 t k 0 = n := by rw [hn, ← HW.out]; rfl
                have hn0 : 0 ≤ n ∧ n ≤ 1023 := by omega
                have HLV := Lib.hid hlev
                clear hn hlev
                by_cases hq : 3 * k + 0 < many
                · obtain ⟨q, hqq⟩ : ∃ q, q = 3 * k + 0 := ⟨_, rfl⟩
                  have hqm : (q : Int) < (many : Int) := by omega
                  have HX := Lib.hid (show UnR w wr u (f10 t) q by rw [hqq, ← show Nat.min many (3 * k + 0) = 3 * k + 0 from Nat.min_eq_right (by omega)]; exact HM2.out.1)
                  obtain ⟨ua, uc, hu⟩ := un_form HX.out
                  subst hu
                  have hfq : n = f10 t q := by rw [← HLV.out, hqq]; exact (f10_at t k 0 (by omega)).symm
                  have HFQ := Lib.hid hfq; have HQQ := Lib.hid hqq
                  clear hfq hqq
                  go_wp2_with (first | (at_builtin; refine wpList_append_lies _ rfl _ _ _ rfl w.heap.size 3 i0 (.int .i64 0) 1 8 Try.underlying24 hi0 hz0 hz1 hz2 rfl (by decide) (.slice ua q uc) q (valsI (f10 t) q) rfl (World.ownsRow.alloc HX.out.own _) ⟨wr.heap.size, 0, none⟩ 1 1 [.int .i64 n] rfl rfl (by intro j u hj; match j, hj with | 0, hj => (simp at hj; subst hj; simp [Addr.add])) (by intro u hu; simp at hu; subst hu; rfl) (by decide) (by unfold maxLen; omega) (by omega) (by have := HX.out.bel.size; simp; omega) _ rfl ?_; intro g cap w1 hown hgrow hat hlt))
                  have HY := Lib.hid (UnR.app HX.out (by (repeat (first | exact Below.refl _ _ | assumption | (refine Below.setCell ?_ (by first | (simp; done) | (simp; omega) | omega) _) | (refine Below.drew ?_) | (refine below_drewN ?_ _) | (refine Below.alloc ?_ (by first | (simp; done) | (simp; omega) | omega) _) | (refine Below.trans ?_ (Below.mono (by assumption) (by first | (simp; done) | (simp; omega) | omega)))))) HFQ.out hown hgrow)
                  clear hown hgrow hat hlt
                  go_roundw
                  case rel =>
                    refine ⟨0 + 1, by omega, by first | rfl | go_num, _, rfl, ?_, fun j' hj' hmm => ?_⟩
                    · rw [show Nat.min many (3 * k + (0 + 1)) = q + 1 by rw [HQQ.out]; exact Nat.min_eq_right (by omega)]; exact HY.out
                    · rcases (show j' < 0 ∨ j' = 0 by omega) with h | rfl
                      · exact HM2.out.2 j' h hmm
                      · omega
                  case measure => simp [intOf]
                · have hqm : ¬ (many : Int) < (many : Int) := by omega
                  have HX := Lib.hid (show UnR w wr u (f10 t) many by rw [← show Nat.min many (3 * k + 0) = many from Nat.min_eq_left (by omega)]; exact HM2.out.1)
                  obtain ⟨ua, uc, hu⟩ := un_form HX.out
                  subst hu
                  by_cases hnz : n = 0
                  · subst hnz
                    go_wp2_with fail
                    go_roundw
                    case rel =>
                      refine ⟨0 + 1, by omega, by first | rfl | go_num, _, rfl, ?_, fun j' hj' hmm => ?_⟩
                      · rw [show Nat.min many (3 * k + (0 + 1)) = many from Nat.min_eq_left (by omega)]; exact HX.out
                      · rcases (show j' < 0 ∨ j' = 0 by omega) with h | rfl
                        · exact HM2.out.2 j' h hmm
                        · exact HLV.out
                    case measure => simp [intOf]
                  · have hnb : (n != 0) = true := by simpa using hnz
                    go_wp2_with fail
                    refine bodyPost_ret (v := .tuple #[.slice none 0 0, .int .i64 2]) (by simp [results, Try.results53, go_sem]) rfl (.inr ⟨rfl, HX.out.bel, k, HK.out, fun hg => hnz (by rw [← HLV.out]; exact hg.2 0 (by omega) (by omega))⟩)
              · rw [show (22 : Int) - 10 * ((1 : Nat) : Int) = 12 by decide]
                obtain ⟨n, hn⟩ : ∃ n, n = A / 4096 % 1024 := ⟨_, rfl⟩
                have ean : bits .and .i64 (A / 4096) 1023 = n := by rw [hn]; exact and1023 (by omega) (by omega)
                have hlev : lev10 t k 1 = n := by rw [hn, ← HW.out]; rfl
                have hn0 : 0 ≤ n ∧ n ≤ 1023 := by omega
                have HLV := Lib.hid hlev
                clear hn hlev
                by_cases hq : 3 * k + 1 < many
                · obtain ⟨q, hqq⟩ : ∃ q, q = 3 * k + 1 := ⟨_, rfl⟩
                  have hqm : (q : Int) < (many : Int) := by omega
                  have HX := Lib.hid (show UnR w wr u (f10 t) q by rw [hqq, ← show Nat.min many (3 * k + 1) = 3 * k + 1 from Nat.min_eq_right (by omega)]; exact HM2.out.1)
                  obtain ⟨ua, uc, hu⟩ := un_form HX.out
                  subst hu
                  have hfq : n = f10 t q := by rw [← HLV.out, hqq]; exact (f10_at t k 1 (by omega)).symm
                  have HFQ := Lib.hid hfq; have HQQ := Lib.hid hqq
                  clear hfq hqq
                  go_wp2_with (first | (at_builtin; refine wpList_append_lies _ rfl _ _ _ rfl w.heap.size 3 i0 (.int .i64 0) 1 8 Try.underlying24 hi0 hz0 hz1 hz2 rfl (by decide) (.slice ua q uc) q (valsI (f10 t) q) rfl (World.ownsRow.alloc HX.out.own _) ⟨wr.heap.size, 0, none⟩ 1 1 [.int .i64 n] rfl rfl (by intro j u hj; match j, hj with | 0, hj => (simp at hj; subst hj; simp [Addr.add])) (by intro u hu; simp at hu; subst hu; rfl) (by decide) (by unfold maxLen; omega) (by omega) (by have := HX.out.bel.size; simp; omega) _ rfl ?_; intro g cap w1 hown hgrow hat hlt))
                  have HY := Lib.hid (UnR.app HX.out (by (repeat (first | exact Below.refl _ _ | assumption | (refine Below.setCell ?_ (by first | (simp; done) | (simp; omega) | omega) _) | (refine Below.drew ?_) | (refine below_drewN ?_ _) | (refine Below.alloc ?_ (by first | (simp; done) | (simp; omega) | omega) _) | (refine Below.trans ?_ (Below.mono (by assumption) (by first | (simp; done) | (simp; omega) | omega)))))) HFQ.out hown hgrow)
                  clear hown hgrow hat hlt
                  go_roundw
                  case rel =>
                    refine ⟨1 + 1, by omega, by first | rfl | go_num, _, rfl, ?_, fun j' hj' hmm => ?_⟩
                    · rw [show Nat.min many (3 * k + (1 + 1)) = q + 1 by rw [HQQ.out]; exact Nat.min_eq_right (by omega)]; exact HY.out
                    · rcases (show j' < 1 ∨ j' = 1 by omega) with h | rfl
                      · exact HM2.out.2 j' h hmm
                      · omega
                  case measure => simp [intOf]
                · have hqm : ¬ (many : Int) < (many : Int) := by omega
                  have HX := Lib.hid (show UnR w wr u (f10 t) many by rw [← show Nat.min many (3 * k + 1) = many from Nat.min_eq_left (by omega)]; exact HM2.out.1)
                  obtain ⟨ua, uc, hu⟩ := un_form HX.out
                  subst hu
                  by_cases hnz : n = 0
                  · subst hnz
                    go_wp2_with fail
                    go_roundw
                    case rel =>
                      refine ⟨1 + 1, by omega, by first | rfl | go_num, _, rfl, ?_, fun j' hj' hmm => ?_⟩
                      · rw [show Nat.min many (3 * k + (1 + 1)) = many from Nat.min_eq_left (by omega)]; exact HX.out
                      · rcases (show j' < 1 ∨ j' = 1 by omega) with h | rfl
                        · exact HM2.out.2 j' h hmm
                        · exact HLV.out
                    case measure => simp [intOf]
                  · have hnb : (n != 0) = true := by simpa using hnz
                    go_wp2_with fail
                    refine bodyPost_ret (v := .tuple #[.slice none 0 0, .int .i64 2]) (by simp [results, Try.results53, go_sem]) rfl (.inr ⟨rfl, HX.out.bel, k, HK.out, fun hg => hnz (by rw [← HLV.out]; exact hg.2 1 (by omega) (by omega))⟩)
              · rw [show (22 : Int) - 10 * ((2 : Nat) : Int) = 2 by decide]
                obtain ⟨n, hn⟩ : ∃ n, n = A / 4 % 1024 := ⟨_, rfl⟩
                have ean : bits .and .i64 (A / 4) 1023 = n := by rw [hn]; exact and1023 (by omega) (by omega)
                have hlev : lev10 t k 2 = n := by rw [hn, ← HW.out]; rfl
                have hn0 : 0 ≤ n ∧ n ≤ 1023 := by omega
                have HLV := Lib.hid hlev
                clear hn hlev
                by_cases hq : 3 * k + 2 < many
                · obtain ⟨q, hqq⟩ : ∃ q, q = 3 * k + 2 := ⟨_, rfl⟩
                  have hqm : (q : Int) < (many : Int) := by omega
                  have HX := Lib.hid (show UnR w wr u (f10 t) q by rw [hqq, ← show Nat.min many (3 * k + 2) = 3 * k + 2 from Nat.min_eq_right (by omega)]; exact HM2.out.1)
                  obtain ⟨ua, uc, hu⟩ := un_form HX.out
                  subst hu
                  have hfq : n = f10 t q := by rw [← HLV.out, hqq]; exact (f10_at t k 2 (by omega)).symm
                  have HFQ := Lib.hid hfq; have HQQ := Lib.hid hqq
                  clear hfq hqq
                  go_wp2_with (first | (at_builtin; refine wpList_append_lies _ rfl _ _ _ rfl w.heap.size 3 i0 (.int .i64 0) 1 8 Try.underlying24 hi0 hz0 hz1 hz2 rfl (by decide) (.slice ua q uc) q (valsI (f10 t) q) rfl (World.ownsRow.alloc HX.out.own _) ⟨wr.heap.size, 0, none⟩ 1 1 [.int .i64 n] rfl rfl (by intro j u hj; match j, hj with | 0, hj => (simp at hj; subst hj; simp [Addr.add])) (by intro u hu; simp at hu; subst hu; rfl) (by decide) (by unfold maxLen; omega) (by omega) (by have := HX.out.bel.size; simp; omega) _ rfl ?_; intro g cap w1 hown hgrow hat hlt))
                  have HY := Lib.hid (UnR.app HX.out (by (repeat (first | exact Below.refl _ _ | assumption | (refine Below.setCell ?_ (by first | (simp; done) | (simp; omega) | omega) _) | (refine Below.drew ?_) | (refine below_drewN ?_ _) | (refine Below.alloc ?_ (by first | (simp; done) | (simp; omega) | omega) _) | (refine Below.trans ?_ (Below.mono (by assumption) (by first | (simp; done) | (simp; omega) | omega)))))) HFQ.out hown hgrow)
                  clear hown hgrow hat hlt
                  go_roundw
                  case rel =>
                    refine ⟨2 + 1, by omega, by first | rfl | go_num, _, rfl, ?_, fun j' hj' hmm => ?_⟩
                    · rw [show Nat.min many (3 * k + (2 + 1)) = q + 1 by rw [HQQ.out]; exact Nat.min_eq_right (by omega)]; exact HY.out
                    · rcases (show j' < 2 ∨ j' = 2 by omega) with h | rfl
                      · exact HM2.out.2 j' h hmm
                      · omega
                  case measure => simp [intOf]
                · have hqm : ¬ (many : Int) < (many : Int) := by omega
                  have HX := Lib.hid (show UnR w wr u (f10 t) many by rw [← show Nat.min many (3 * k + 2) = many from Nat.min_eq_left (by omega)]; exact HM2.out.1)
                  obtain ⟨ua, uc, hu⟩ := un_form HX.out
                  subst hu
                  by_cases hnz : n = 0
                  · subst hnz
                    go_wp2_with fail
                    go_roundw
                    case rel =>
                      refine ⟨2 + 1, by omega, by first | rfl | go_num, _, rfl, ?_, fun j' hj' hmm => ?_⟩
                      · rw [show Nat.min many (3 * k + (2 + 1)) = many from Nat.min_eq_left (by omega)]; exact HX.out
                      · rcases (show j' < 2 ∨ j' = 2 by omega) with h | rfl
                        · exact HM2.out.2 j' h hmm
                        · exact HLV.out
                    case measure => simp [intOf]
                  · have hnb : (n != 0) = true := by simpa using hnz
                    go_wp2_with fail
                    refine bodyPost_ret (v := .tuple #[.slice none 0 0, .int .i64 2]) (by simp [results, Try.results53, go_sem]) rfl (.inr ⟨rfl, HX.out.bel, k, HK.out, fun hg => hnz (by rw [← HLV.out]; exact hg.2 2 (by omega) (by omega))⟩)
              · rw [show (22 : Int) - 10 * ((3 : Nat) : Int) = -8 by decide]
                go_wp2_with fail
                go_roundw
                case rel =>
                  refine ⟨k + 1, by omega, by rw [show ((4 * (k + 1) : Nat) : Int) = (i : Int) + 4 by have := HI.out; omega], _, rfl, HM2.out.1, fun k' hk' => ?_⟩
                  rcases (show k' < k ∨ k' = k by omega) with h | rfl
                  · exact HM.out.2 k' h
                  · exact ⟨by rw [HW.out]; exact H4.out, fun j hj hmm => HM2.out.2 j hj hmm⟩
                case measure => simp [intOf]; have := HI.out; have := HKK.out; omega
          · have h4b : (A % 4 != 0) = true := by simpa using h4
            go_wp2_with fail
            refine bodyPost_ret (v := .tuple #[.slice none 0 0, .int .i64 2]) (by simp [results, Try.results53, go_sem]) rfl (.inr ⟨rfl, HM.out.1.bel, k, HK.out, fun hg => h4 (by rw [← HW.out]; exact hg.1)⟩)
    · have hkk : ¬ (i : Int) < ((many : Int) + 2) / 3 * 4 := by have := HI.out; have := HKK.out; omega
      have HX := Lib.hid (show UnR w wr u (f10 t) many by rw [← show Nat.min many (3 * k) = many from Nat.min_eq_left (by have := HKK.out; omega)]; exact HM.out.1)
      have HY := Lib.hid (show ∀ k', k' < K → Good t many k' from fun k' h => HM.out.2 k' (by omega))
      go_wp2_with fail
      refine bodyPost_ret (v := .tuple #[u, .int .i64 0]) (by simp [results, Try.results53, go_sem]) rfl (.inl ⟨_, rfl, HX.out, HY.out⟩)
set_option maxHeartbeats 1600000 in
theorem Unpack_kind (t : ByteArray) (many d : Int) (w : World) (hd : ¬ (d = 8 ∨ d = 10 ∨ d = 16)) :
    Calls Try.prog 53 #[.string t, .int .i64 many, .int .i64 d] w fun e w' => e = .returned (.tuple #[.slice none 0 0, .int .i64 1]) ∧ w = w' := by
  have h : (decide (d = 8) || (decide (d = 10) || decide (d = 16))) = false := by simp only [not_or] at hd; simp [hd.1, hd.2.1, hd.2.2]
  clear hd
  go_enter Try.func53, Try.ntmps53
  go_wp2_with (first | (go_at_call 143; refine (packed_any _ _).mono ?_; rintro e w' ⟨rfl, rfl⟩; rw [h]))
  exact bodyPost_ret (v := .tuple #[.slice none 0 0, .int .i64 1]) (by simp [results, Try.results53, go_sem]) rfl ⟨rfl, rfl⟩
set_option maxHeartbeats 1600000 in
theorem Unpack_range (t : ByteArray) (many d : Int) (w : World) (hd : d = 8 ∨ d = 10 ∨ d = 16) (hm : ¬ (0 ≤ many ∧ many ≤ 65536)) :
    Calls Try.prog 53 #[.string t, .int .i64 many, .int .i64 d] w fun e w' => e = .returned (.tuple #[.slice none 0 0, .int .i64 3]) ∧ w = w' := by
  rcases hd with rfl | rfl | rfl
  all_goals
    go_enter Try.func53, Try.ntmps53
    by_cases h0 : many < 0
    · clear hm
      go_wp2_with (first | (go_at_call 143; refine (packed_any _ _).mono ?_; rintro e w' ⟨rfl, rfl⟩))
      exact bodyPost_ret (v := .tuple #[.slice none 0 0, .int .i64 3]) (by simp [results, Try.results53, go_sem]) rfl ⟨rfl, rfl⟩
    · have h1 : 65536 < many := by omega
      clear hm
      go_wp2_with (first | (go_at_call 143; refine (packed_any _ _).mono ?_; rintro e w' ⟨rfl, rfl⟩))
      exact bodyPost_ret (v := .tuple #[.slice none 0 0, .int .i64 3]) (by simp [results, Try.results53, go_sem]) rfl ⟨rfl, rfl⟩
/-- The length of a text. -/
def longI (d : Int) (many : Nat) : Nat := if d = 8 then many else if d = 16 then 2 * many else (many + 2) / 3 * 4
set_option maxRecDepth 100000 in
set_option maxHeartbeats 1600000 in
theorem Unpack_long (t : ByteArray) (many : Nat) (d : Int) (w : World) (hd : d = 8 ∨ d = 10 ∨ d = 16) (hm : many ≤ 65536) (hs : t.size ≠ longI d many) :
    Calls Try.prog 53 #[.string t, .int .i64 many, .int .i64 d] w fun e w' => e = .returned (.tuple #[.slice none 0 0, .int .i64 2]) ∧ Below w.heap.size w w' := by
  obtain ⟨W2, W3, W4, r2, r3, r4, r8, r16, r10, hB4⟩ := map3 w (many : Int) (2 * (many : Int)) (((many : Int) + 2) / 3 * 4) (by omega) (by omega) (by omega)
  have hmk := @run_makeMap Try.prog
  have HB4 := Lib.hid hB4
  clear hB4
  have h8 : d = 8 → ((t.size : Int) != (many : Int)) = true := fun h => by subst h; simp [longI] at hs; simp; omega
  have h16 : d = 16 → ((t.size : Int) != 2 * (many : Int)) = true := fun h => by subst h; simp [longI] at hs; simp; omega
  have h10 : d = 10 → ((t.size : Int) != ((many : Int) + 2) / 3 * 4) = true := fun h => by subst h; simp [longI] at hs; simp; omega
  clear hs
  rcases hd with rfl | rfl | rfl
  · have hq := h8 rfl
    clear h8 h16 h10
    go_enter Try.func53, Try.ntmps53
    go_wp2_with (first | (go_at_call 143; refine (packed_any _ _).mono ?_; rintro e w' ⟨rfl, rfl⟩))
    exact bodyPost_ret (v := .tuple #[.slice none 0 0, .int .i64 2]) (by simp [results, Try.results53, go_sem]) rfl ⟨rfl, HB4.out⟩
  · have hq := h10 rfl
    clear h8 h16 h10
    go_enter Try.func53, Try.ntmps53
    go_wp2_with (first | (go_at_call 143; refine (packed_any _ _).mono ?_; rintro e w' ⟨rfl, rfl⟩))
    exact bodyPost_ret (v := .tuple #[.slice none 0 0, .int .i64 2]) (by simp [results, Try.results53, go_sem]) rfl ⟨rfl, HB4.out⟩
  · have hq := h16 rfl
    clear h8 h16 h10
    go_enter Try.func53, Try.ntmps53
    go_wp2_with (first | (go_at_call 143; refine (packed_any _ _).mono ?_; rintro e w' ⟨rfl, rfl⟩))
    exact bodyPost_ret (v := .tuple #[.slice none 0 0, .int .i64 2]) (by simp [results, Try.results53, go_sem]) rfl ⟨rfl, HB4.out⟩
end Go.Proofs.Ytmckkgbdlgldbaa
