/- DoneMatches: the walk of the statement. No condition. -/
import Derived.Test.YtnicamndlkdcmaaDnF
import Derived.Test.YtnicamndlkdcmaaFaF
namespace Go.Proofs.Ytnicamndlkdcmaa
open Go Go.RowKit
set_option maxRecDepth 100000 in
set_option maxHeartbeats 1600000 in
theorem dn_err (a : Option Addr) (n c : Nat) (ks : Nat → Wk) (a2 : Option Addr) (m c2 : Nat) (w : World) (h : IsWorks w a n c ks) (hE : wkErr n ks ≠ 0) :
    Calls Try.prog 5 #[.slice a n c, .slice a2 m c2] w fun e w' => e = .returned (.bool true) ∧ Below w.heap.size w w' := by
  have HD := Lib.hid (fun w' hb => Done_no a n c ks (.slice a2 m c2) w' (h.below hb) hE : ∀ w', Below w.heap.size w w' → _)
  have HL := Lib.hid (fun w' hb => Longest_no a n c ks w' (h.below hb) hE : ∀ w', Below w.heap.size w w' → _)
  have HW := Lib.hid (fun w' hb => workError_any a n c ks w' (h.below hb) : ∀ w', Below w.heap.size w w' → _)
  generalize wkErr n ks = E at *
  have hb : (E != 0) = true := by simpa using hE
  clear h hE
  go_enter Try.func5, Try.ntmps5
  go_wp2_with fail
  refine (HD.out _ (Below.refl _ _)).mono ?_
  rintro e w1 ⟨rfl, hB⟩
  have HB1 := Lib.hid hB
  clear hB
  go_wp2_with fail
  refine (HL.out _ HB1.out).mono ?_
  rintro e w2 ⟨rfl, hB⟩
  have HB2 := Lib.hid (HB1.out.trans (hB.mono HB1.out.size))
  clear hB
  go_wp2_with fail
  refine (HW.out _ HB2.out).mono ?_
  rintro e w3 ⟨rfl, hB⟩
  have HB3 := Lib.hid (HB2.out.trans (hB.mono HB2.out.size))
  clear hB
  go_wp2_with (first | (go_at_call 11; refine (farms_any _).mono ?_; rintro e w4 ⟨rfl, hbb⟩; have HB4 := Lib.hid (HB3.out.trans (hbb.mono HB3.out.size)); clear hbb HB3) | (go_at_call 11; refine (farms_any _).mono ?_; rintro e w5 ⟨rfl, hbb⟩; have HB5 := Lib.hid (HB4.out.trans (hbb.mono HB4.out.size)); clear hbb HB4))
  go_ret
  exact ⟨by simp, HB5.out⟩
theorem rn_step (n : Nat) (rs : Nat → RunV) (k : Nat) : firstE (firstN (rnE n rs) k) (whenE (!inB (rs k).wk 0 ((n : Int) - 1)) 11) = firstN (rnE n rs) (k + 1) := by
  have e : whenE (!inB (rs k).wk 0 ((n : Int) - 1)) 11 = rnE n rs k := by
    unfold rnE
    by_cases h : (rs k).wk < 0 ∨ (n : Int) ≤ (rs k).wk
    · rw [if_pos h, inB_f (by omega)]; rfl
    · rw [if_neg h, inB_t (by omega)]; rfl
  rw [e]
  rfl
set_option maxRecDepth 100000 in
set_option maxHeartbeats 6400000 in
theorem dn_bad (a : Option Addr) (n c : Nat) (ks : Nat → Wk) (a2 : Option Addr) (m c2 : Nat) (rs : Nat → RunV) (w : World) (h : IsWorks w a n c ks) (h2 : IsRuns w a2 m c2 rs) (hE : wkErr n ks = 0) (hF : firstN (rnE n rs) m ≠ 0) :
    Calls Try.prog 5 #[.slice a n c, .slice a2 m c2] w fun e w' => e = .returned (.bool true) ∧ Below w.heap.size w w' := by
  obtain ⟨hn, hok⟩ := wk_ok hE
  have HD := Lib.hid (Done_any a n c ks a2 m c2 rs w h h2 hE)
  have HL := Lib.hid (fun w' hb => Longest_yes a n c ks w' (h.below hb) hE : ∀ w', Below w.heap.size w w' → _)
  have HW := Lib.hid (fun w' hb => workError_any a n c ks w' (h.below hb) : ∀ w', Below w.heap.size w w' → _)
  have HH := Lib.hid (And.intro h h2); have HE := Lib.hid hE; have HOK := Lib.hid hok; have HF := Lib.hid hF
  have hm63 : m ≤ 9223372036854775807 := by have h1 := h2.1; have h3 := h2.2.1; unfold maxLen at h3; omega
  have hmk := run_make_row' (P := Try.prog) 51 3 (.int .i64 0) 8 Try.underlying51 (by kernel_rfl) rfl .i64 .i64 n (by omega) (by omega)
  obtain ⟨M, hM⟩ : ∃ M, M = lgM ks n := ⟨_, rfl⟩
  rw [← hM] at HL
  have HMM := Lib.hid hM
  clear h h2 hE hok hF hM
  go_enter Try.func5, Try.ntmps5
  go_wp2_with fail
  refine (HD.out).mono ?_
  rintro e w1 (⟨hF', -⟩ | ⟨-, rfl, hB⟩)
  · exact absurd hF' HF.out
  have HB1 := Lib.hid hB
  obtain ⟨F, hF⟩ : ∃ F, F = firstN (rnE n rs) m := ⟨_, rfl⟩
  rw [← hF]
  have HFF := Lib.hid hF
  have hFb : (F != 0) = true := by have := HF.out; rw [← hF] at this; simpa using this
  clear hB HD hF
  go_wp2_with fail
  refine (HL.out _ HB1.out).mono ?_
  rintro e w2 ⟨rfl, hB⟩
  have HB2 := Lib.hid (And.intro (HB1.out.trans (hB.mono HB1.out.size)) hB)
  clear hB
  go_wp2_with fail
  refine (HW.out _ HB2.out.1).mono ?_
  rintro e w3 ⟨rfl, hB⟩
  rw [HE.out]
  have HB3 := Lib.hid (And.intro (HB2.out.1.trans (hB.mono HB2.out.1.size)) (HB2.out.2.trans (hB.mono HB2.out.2.size)))
  clear hB
  go_upto_region 6 with (first | (go_at_call 11; refine (farms_any _).mono ?_; rintro e wb ⟨rfl, hbb⟩; have HB4 := Lib.hid (And.intro (HB3.out.1.trans (hbb.mono HB3.out.1.size)) (HB3.out.2.trans (hbb.mono HB3.out.2.size))); clear hbb HB3))
  have HWK := Lib.hid (HH.out.1.below HB4.out.1); have HRN := Lib.hid (HH.out.2.below HB4.out.1)
  clear HB1 HB2
  go_upto_region 7 with fail
  refine wp_world (fun W7 hW7 => ?_)
  have R7 : W7.rowIs wb.heap.size 3 n (fun j => .int .i64 (lgS ks 0 j)) := by rw [hW7]; exact World.rowIs_made wb (.int .i64 0) n 3
  have HB7 := Lib.hid (show Below wb.heap.size wb W7 by rw [hW7]; (repeat (first | exact Below.refl _ _ | assumption | (refine Below.setCell ?_ (by first | (simp; done) | (simp; omega) | omega) _) | (refine Below.drew ?_) | (refine below_drewN ?_ _) | (refine Below.alloc ?_ (by first | (simp; done) | (simp; omega) | omega) _) | (refine Below.trans ?_ (Below.mono (by assumption) (by first | (simp; done) | (simp; omega) | omega))))))
  have HR7 := Lib.hid R7
  have hgw : wb.heap.size ≤ wb.heap.size := Nat.le_refl _
  clear hW7 R7 hmk
  obtain ⟨g, hgg⟩ : ∃ g, g = wb.heap.size := ⟨_, rfl⟩
  rw [show W7.rowIs wb.heap.size 3 n (fun j => .int .i64 (lgS ks 0 j)) = W7.rowIs g 3 n (fun j => .int .i64 (lgS ks 0 j)) by rw [hgg]] at HR7
  rw [← hgg] at hgw
  rw [← hgg]
  have hgw2 : wb.heap.size ≤ g := by omega
  clear hgw hgg
  go_wp2_with fail
  go_loopw [11, 64] (fun s11 s64 wr => ∃ (i : Nat) (mo : Int), i ≤ n ∧ s64 = .int .i64 i ∧ s11 = .int .i64 mo ∧ mo = lgM ks i ∧ wr.rowIs g 3 n (fun j => .int .i64 (lgS ks i j)) ∧ Below wb.heap.size wb wr) (fun _ s64 _ => n - (intOf s64).toNat)
  case atStart => exact ⟨0, _, Nat.zero_le _, rfl, rfl, rfl, HR7.out, HB7.out⟩
  case round =>
    obtain ⟨i, mo, hi, rfl, rfl, hmo, hR, hB⟩ := hrel
    have HMO := Lib.hid hmo; have HR := Lib.hid hR; have HB := Lib.hid hB
    clear hmo hR HR7 HB7
    by_cases hin : i < n
    · have hini : (i : Int) < (n : Int) := by omega
      obtain ⟨b, off, rfl, hc⟩ := HWK.out.2.2 (by omega)
      have hw := (hc i hin).below hB
      have hw0 := hc i hin
      have hk := HOK.out i hin
      obtain ⟨K, hK⟩ : ∃ K, K = ks i := ⟨_, rfl⟩
      rw [← hK] at hw hw0 hk
      have HLS := Lib.hid (show lgS ks (i + 1) = fun j => if j = i then IntKind.i64.wrap (lgA K.az i (lgS ks i) K.an i + K.cost) else lgA K.az i (lgS ks i) K.an j by rw [hK]; rfl)
      obtain ⟨co, ra, aa, an, ac, az⟩ := K
      clear hK hc hB
      have c0 := hw.1; have c1 := hw.2.1; have c2 := hw.2.2.1
      simp only at c0 c1 c2
      have l0 := cell_lt c0; simp only at l0
      have HI := Lib.hid (show InI wb aa an ac az from hw0.2.2.2.2.2)
      have HK := Lib.hid (show (1 ≤ co ∧ co ≤ 1000000) ∧ (0 ≤ ra ∧ ra ≤ 100) ∧ an ≤ 20 ∧ ∀ k, k < an → ∃ q : Nat, az k = q ∧ q < i from hk)
      simp only at HLS
      clear hw hw0 hk
      go_upto_region 11 with fail
      refine wp_world (fun W4 hW4 => ?_)
      have B4 : Below wr.heap.size wr W4 := by rw [hW4]; (repeat (first | exact Below.refl _ _ | assumption | (refine Below.setCell ?_ (by first | (simp; done) | (simp; omega) | omega) _) | (refine Below.drew ?_) | (refine below_drewN ?_ _) | (refine Below.alloc ?_ (by first | (simp; done) | (simp; omega) | omega) _) | (refine Below.trans ?_ (Below.mono (by assumption) (by first | (simp; done) | (simp; omega) | omega)))))
      have N4 : Blk W4 wr.heap.size [.int .i64 co, .int .i64 ra, .slice aa an ac] := by rw [hW4]; exact Blk.new _ _ _ _ rfl
      have hgl := HR.out.lt
      have H4 := Lib.hid (And.intro N4 (And.intro (HR.out.of_block (B4.block g hgl)) (HB.out.trans (B4.mono HB.out.size))))
      have hsz := HB.out.size
      have m2 := N4.c 2 _ rfl; have ml := N4.lt
      clear hW4 B4 N4 c0 c1 c2 l0 HR HB
      generalize wr.heap.size = nb at *
      go_wp2_with fail
      clear m2 ml
      obtain ⟨S, hS⟩ : ∃ S, S = lgS ks i := ⟨_, rfl⟩
      rw [← hS] at H4 HLS
      clear hS
      go_loopw [72] (fun s72 wq => ∃ k : Nat, k ≤ an ∧ s72 = .int .i64 k ∧ Blk wq nb [.int .i64 co, .int .i64 ra, .slice aa an ac] ∧ wq.rowIs g 3 n (fun j => .int .i64 (lgA az i S k j)) ∧ Below wb.heap.size wb wq) (fun s72 _ => an - (intOf s72).toNat)
      case atStart => exact ⟨0, Nat.zero_le _, rfl, H4.out⟩
      case round =>
        obtain ⟨k, hk, rfl, hN, hR, hB⟩ := hrel
        have HQ := Lib.hid (And.intro hN (And.intro hR hB))
        clear hN hR hB H4
        by_cases hka : k < an
        · have hkai : (k : Int) < (an : Int) := by omega
          have h20 := HK.out.2.2.1
          have hI := HI.out.below HQ.out.2.2
          obtain ⟨b2, off2, rfl, hcc⟩ := hI.2.2 (by omega)
          obtain ⟨d0, -⟩ := hcc k hka
          obtain ⟨q, hq, hqi⟩ := HK.out.2.2.2 k hka
          rw [hq] at d0
          have hqn : (q : Int) < (n : Int) := by omega
          obtain ⟨T, hT⟩ : ∃ T, T = lgA az i S k := ⟨_, rfl⟩
          have HT := Lib.hid (show lgA az i S (k + 1) = fun j => if j = i then mxI (T i) (T q) else T j by rw [hT]; funext j; show (if j = i then mxI (lgA az i S k i) (lgA az i S k (az k).toNat) else lgA az i S k j) = _; rw [hq]; rfl)
          rw [← hT] at HQ
          have r0 := HQ.out.2.1.cell hin
          have r1 := HQ.out.2.1.cell (show q < n by omega)
          have gl := HQ.out.2.1.lt
          obtain ⟨vi, hvi⟩ : ∃ v, v = T i := ⟨_, rfl⟩
          obtain ⟨vq, hvq⟩ : ∃ v, v = T q := ⟨_, rfl⟩
          rw [← hvi] at r0
          rw [← hvq] at r1
          obtain ⟨m, hm⟩ : ∃ m, (if vi < vq then vq else vi) = m := ⟨_, rfl⟩
          have HM := Lib.hid (show mxI (T i) (T q) = m by rw [← hvi, ← hvq]; exact hm)
          have e0 := cell_lt d0; simp only at e0
          clear hI hcc hq hT hvi hvq
          go_upto_region 14 with fail
          refine wp_region_loose 11 (fun _ _ _ => False) (by kernel_rfl) (by kernel_rfl) ?_
          simp only [List.take_succ_cons, List.take_zero, List.drop_succ_cons, List.drop_zero]
          iterate 11 (refine loose_wanted rfl (fun K hK => ?_); go_simp; refine hK _ ?_; clear hK K)
          refine loose_nil (fun w8 hb8 => ?_)
          have H5 := Lib.hid (And.intro (HQ.out.1.past hb8) (And.intro (HQ.out.2.1.of_block (hb8.block g HQ.out.2.1.lt)) (HQ.out.2.2.trans (hb8.mono HQ.out.2.2.size))))
          have x5 := H5.out.2.1.cell hin
          have y5 : w8.frozen? ⟨g, i, none⟩ = false := H5.out.2.1.frozen _
          clear hb8 d0 r0 r1 gl e0 HQ hm
          go_wp2_with fail
          go_roundw
          case rel =>
            refine ⟨k + 1, by omega, by go_num, H5.out.1.far _ _ (by simp; omega), ?_, H5.out.2.2.setCell (by simp; omega) _⟩
            rw [HT.out]
            refine World.rowIs.congr (World.rowIs.set H5.out.2.1 i _) (fun j hj => ?_)
            rw [HM.out]
            by_cases e : j = i <;> simp [e]
          case measure => simp [intOf]; omega
        · have hkai : ¬ (k : Int) < (an : Int) := by omega
          have hke : k = an := by omega
          subst hke
          obtain ⟨T, hT⟩ : ∃ T, T = lgA az i S k := ⟨_, rfl⟩
          rw [← hT] at HQ HLS
          clear hT
          have r0 := HQ.out.2.1.cell hin
          have gl := HQ.out.2.1.lt
          obtain ⟨vi, hvi⟩ : ∃ v, v = T i := ⟨_, rfl⟩
          rw [← hvi] at r0
          obtain ⟨v2, hv2⟩ : ∃ v, IntKind.i64.wrap (vi + co) = v := ⟨_, rfl⟩
          have m0 := HQ.out.1.c 0 _ rfl; have ml := HQ.out.1.lt
          have HV := Lib.hid (show lgS ks (i + 1) = fun j => if j = i then v2 else T j by rw [HLS.out, ← hvi, hv2])
          clear hvi
          go_upto_region 16 with fail
          refine wp_region_loose 7 (fun _ _ _ => False) (by kernel_rfl) (by kernel_rfl) ?_
          simp only [List.take_succ_cons, List.take_zero, List.drop_succ_cons, List.drop_zero]
          iterate 7 (refine loose_wanted rfl (fun K hK => ?_); go_simp; refine hK _ ?_; clear hK K)
          refine loose_nil (fun w8 hb8 => ?_)
          have H5 := Lib.hid (And.intro (HQ.out.2.1.of_block (hb8.block g HQ.out.2.1.lt)) (HQ.out.2.2.trans (hb8.mono HQ.out.2.2.size)))
          have x5 := H5.out.1.cell hin
          have y5 : w8.frozen? ⟨g, i, none⟩ = false := H5.out.1.frozen _
          clear hb8 m0 ml r0 gl HQ
          go_upto_region 17 with fail
          refine wp_world (fun W6 hW6 => ?_)
          have R6 : W6.rowIs g 3 n (fun j => .int .i64 (lgS ks (i + 1) j)) := by
            rw [hW6, HV.out]
            refine World.rowIs.congr (World.rowIs.set H5.out.1 i _) (fun j hj => ?_)
            by_cases e : j = i <;> simp [e]
          have H6 := Lib.hid (And.intro R6 (show Below wb.heap.size wb W6 by rw [hW6]; exact H5.out.2.setCell (by simp; omega) _))
          have r6 : W6.cell? ⟨g, i, none⟩ = some (.int .i64 v2) := by have h := R6.cell hin; rw [HV.out] at h; simpa using h
          have gl := R6.lt
          obtain ⟨m, hm⟩ : ∃ m, (if mo < v2 then v2 else mo) = m := ⟨_, rfl⟩
          have HM := Lib.hid (show m = lgM ks (i + 1) by show m = mxI (lgM ks i) (lgS ks (i + 1) i); rw [← HMO.out, HV.out]; simp only [if_true]; exact hm.symm)
          clear hW6 R6 H5 x5 y5 hv2
          go_wp2_with fail
          go_roundw
          case rel => exact ⟨i + 1, m, by omega, by go_num, rfl, HM.out, H6.out.1, H6.out.2⟩
          case measure => simp [intOf]; omega
    · have hini : ¬ (i : Int) < (n : Int) := by omega
      have hie : i = n := by omega
      have hme : mo = M := by rw [HMO.out, hie, HMM.out]
      subst hme
      clear HMO HR
      go_wp2_with fail
      go_loopw [9, 113] (fun s9 s113 wq => ∃ k : Nat, k ≤ m ∧ s113 = .int .i64 k ∧ s9 = .int .i64 (firstN (rnE n rs) k) ∧ Below wb.heap.size wb wq) (fun _ s113 _ => m - (intOf s113).toNat)
      case atStart => exact ⟨0, Nat.zero_le _, rfl, rfl, HB.out⟩
      case round =>
        obtain ⟨k, hk, rfl, rfl, hB⟩ := hrel
        have HBB := Lib.hid hB
        have HST := Lib.hid (rn_step n rs k)
        by_cases hkm : k < m
        · have hkmi : (k : Int) < (m : Int) := by omega
          obtain ⟨b, off, rfl, hc⟩ := HRN.out.2.2 (by omega)
          have hw := (hc k hkm).below hB
          obtain ⟨K, hK⟩ : ∃ K, K = rs k := ⟨_, rfl⟩
          rw [← hK] at hw HST
          obtain ⟨wk, mc, fr, te, fl⟩ := K
          obtain ⟨Fk, hFk⟩ : ∃ Fk, Fk = firstN (rnE n rs) k := ⟨_, rfl⟩
          rw [← hFk] at HST ⊢
          simp only at HST
          clear hK hc hB hFk
          have c0 := hw.1; have c1 := hw.2.1; have c2 := hw.2.2.1; have c3 := hw.2.2.2.1; have c4 := hw.2.2.2.2.1
          simp only at c0 c1 c2 c3 c4
          have l0 := cell_lt c0; simp only at l0
          clear hw
          go_upto_region 24 with fail
          refine wp_world (fun W4 hW4 => ?_)
          have B4 : Below wr.heap.size wr W4 := by rw [hW4]; (repeat (first | exact Below.refl _ _ | assumption | (refine Below.setCell ?_ (by first | (simp; done) | (simp; omega) | omega) _) | (refine Below.drew ?_) | (refine below_drewN ?_ _) | (refine Below.alloc ?_ (by first | (simp; done) | (simp; omega) | omega) _) | (refine Below.trans ?_ (Below.mono (by assumption) (by first | (simp; done) | (simp; omega) | omega)))))
          have N4 : Blk W4 wr.heap.size [.int .i64 wk, .int .i64 mc, .int .i64 fr, .int .i64 te, .bool fl] := by rw [hW4]; exact Blk.new _ _ _ _ rfl
          have H4 := Lib.hid (HBB.out.trans (B4.mono HBB.out.size))
          have m0 := N4.c 0 _ rfl; have ml := N4.lt
          clear hW4 B4 N4 c0 c1 c2 c3 c4 l0 HBB
          go_upto_region 25 with (first | (go_at_call 16; refine (In_any _ _ _ _).mono ?_; rintro e w' ⟨rfl, rfl⟩) | (go_at_call 15; refine (When_any _ _ _).mono ?_; rintro e w' ⟨rfl, rfl⟩) | (go_at_call 14; refine (First2_new _ _ _ _ _ (heap_new _ _ _ (by simp))).mono ?_; rintro e w' ⟨rfl, rfl⟩; rw [HST.out]))
          refine wp_world (fun W5 hW5 => ?_)
          have H5 := Lib.hid (show Below wb.heap.size wb W5 by rw [hW5]; exact Below.alloc H4.out H4.out.size _)
          clear hW5 H4 m0 ml
          go_wp2_with fail
          go_roundw
          case rel => exact ⟨k + 1, by omega, by go_num, rfl, H5.out⟩
          case measure => simp [intOf]; omega
        · have hkmi : ¬ (k : Int) < (m : Int) := by omega
          have hke : k = m := by omega
          subst hke
          clear HST hB
          rw [← HFF.out]
          go_wp2_with fail
          go_ret
          exact ⟨by simp, HB4.out.1.trans (HBB.out.mono HB4.out.1.size)⟩
set_option maxRecDepth 100000 in
set_option maxHeartbeats 6400000 in
theorem dn_good (a : Option Addr) (n c : Nat) (ks : Nat → Wk) (a2 : Option Addr) (m c2 : Nat) (rs : Nat → RunV) (w : World) (h : IsWorks w a n c ks) (h2 : IsRuns w a2 m c2 rs) (hE : wkErr n ks = 0) (hF : firstN (rnE n rs) m = 0) :
    Calls Try.prog 5 #[.slice a n c, .slice a2 m c2] w fun e w' => e = .returned (.bool true) ∧ Below w.heap.size w w' := by
  obtain ⟨hn, hok⟩ := wk_ok hE
  have HD := Lib.hid (Done_any a n c ks a2 m c2 rs w h h2 hE)
  have HL := Lib.hid (fun w' hb => Longest_yes a n c ks w' (h.below hb) hE : ∀ w', Below w.heap.size w w' → _)
  have HW := Lib.hid (fun w' hb => workError_any a n c ks w' (h.below hb) : ∀ w', Below w.heap.size w w' → _)
  have HH := Lib.hid (And.intro h h2); have HE := Lib.hid hE; have HOK := Lib.hid hok; have HF := Lib.hid hF
  have hm63 : m ≤ 9223372036854775807 := by have h1 := h2.1; have h3 := h2.2.1; unfold maxLen at h3; omega
  have hmk := run_make_row' (P := Try.prog) 51 3 (.int .i64 0) 8 Try.underlying51 (by kernel_rfl) rfl .i64 .i64 n (by omega) (by omega)
  obtain ⟨M, hM⟩ : ∃ M, M = lgM ks n := ⟨_, rfl⟩
  rw [← hM] at HL
  have HMM := Lib.hid hM
  clear h h2 hE hok hF hM
  go_enter Try.func5, Try.ntmps5
  go_wp2_with fail
  refine (HD.out).mono ?_
  rintro e w1 (⟨-, u, wz, rfl, hwz, hN, hB⟩ | ⟨hF', -, -⟩)
  rotate_left
  · exact absurd HF.out hF'
  obtain ⟨gl, al, cl, rfl, hal, hcl⟩ := hN.cells
  obtain ⟨Z, hZ⟩ : ∃ Z, Z = nmZ (dnB rs m) n := ⟨_, rfl⟩
  have hZl : Z.length ≤ n := by rw [hZ]; exact nmZ_len _ _
  rw [← hZ] at hal hcl ⊢
  have HZZ := Lib.hid hZ
  have HLL := Lib.hid (And.intro hal (fun (w' : World) (hb : Below w1.heap.size w1 w') (i : Nat) (hi : i < Z.length) => (hb.cell (p := ⟨gl, 0 + i, none⟩) (cell_lt (hcl i hi))).trans (hcl i hi) : ∀ w', Below w1.heap.size w1 w' → ∀ i, i < Z.length → w'.cell? ⟨gl, 0 + i, none⟩ = some (.int .i64 (Z.getD i 0))))
  have HB1 := Lib.hid hB
  clear hwz hN hB hal hcl hZ HD
  go_wp2_with fail
  refine (HL.out _ HB1.out).mono ?_
  rintro e w2 ⟨rfl, hB⟩
  have HB2 := Lib.hid (And.intro (HB1.out.trans (hB.mono HB1.out.size)) hB)
  clear hB
  go_wp2_with fail
  refine (HW.out _ HB2.out.1).mono ?_
  rintro e w3 ⟨rfl, hB⟩
  rw [HE.out]
  have HB3 := Lib.hid (And.intro (HB2.out.1.trans (hB.mono HB2.out.1.size)) (HB2.out.2.trans (hB.mono HB2.out.2.size)))
  clear hB
  go_upto_region 6 with (first | (go_at_call 11; refine (farms_any _).mono ?_; rintro e wb ⟨rfl, hbb⟩; have HB4 := Lib.hid (And.intro (HB3.out.1.trans (hbb.mono HB3.out.1.size)) (HB3.out.2.trans (hbb.mono HB3.out.2.size))); clear hbb HB3))
  have HWK := Lib.hid (HH.out.1.below HB4.out.1); have HRN := Lib.hid (HH.out.2.below HB4.out.1)
  clear HB1 HB2
  go_upto_region 7 with fail
  refine wp_world (fun W7 hW7 => ?_)
  have R7 : W7.rowIs wb.heap.size 3 n (fun j => .int .i64 (lgS ks 0 j)) := by rw [hW7]; exact World.rowIs_made wb (.int .i64 0) n 3
  have HB7 := Lib.hid (show Below wb.heap.size wb W7 by rw [hW7]; (repeat (first | exact Below.refl _ _ | assumption | (refine Below.setCell ?_ (by first | (simp; done) | (simp; omega) | omega) _) | (refine Below.drew ?_) | (refine below_drewN ?_ _) | (refine Below.alloc ?_ (by first | (simp; done) | (simp; omega) | omega) _) | (refine Below.trans ?_ (Below.mono (by assumption) (by first | (simp; done) | (simp; omega) | omega))))))
  have HR7 := Lib.hid R7
  have hgw : wb.heap.size ≤ wb.heap.size := Nat.le_refl _
  clear hW7 R7 hmk
  obtain ⟨g, hgg⟩ : ∃ g, g = wb.heap.size := ⟨_, rfl⟩
  rw [show W7.rowIs wb.heap.size 3 n (fun j => .int .i64 (lgS ks 0 j)) = W7.rowIs g 3 n (fun j => .int .i64 (lgS ks 0 j)) by rw [hgg]] at HR7
  rw [← hgg] at hgw
  rw [← hgg]
  have hgw2 : wb.heap.size ≤ g := by omega
  clear hgw hgg
  go_wp2_with fail
  go_loopw [11, 64] (fun s11 s64 wr => ∃ (i : Nat) (mo : Int), i ≤ n ∧ s64 = .int .i64 i ∧ s11 = .int .i64 mo ∧ mo = lgM ks i ∧ wr.rowIs g 3 n (fun j => .int .i64 (lgS ks i j)) ∧ Below wb.heap.size wb wr) (fun _ s64 _ => n - (intOf s64).toNat)
  case atStart => exact ⟨0, _, Nat.zero_le _, rfl, rfl, rfl, HR7.out, HB7.out⟩
  case round =>
    obtain ⟨i, mo, hi, rfl, rfl, hmo, hR, hB⟩ := hrel
    have HMO := Lib.hid hmo; have HR := Lib.hid hR; have HB := Lib.hid hB
    clear hmo hR HR7 HB7
    by_cases hin : i < n
    · have hini : (i : Int) < (n : Int) := by omega
      obtain ⟨b, off, rfl, hc⟩ := HWK.out.2.2 (by omega)
      have hw := (hc i hin).below hB
      have hw0 := hc i hin
      have hk := HOK.out i hin
      obtain ⟨K, hK⟩ : ∃ K, K = ks i := ⟨_, rfl⟩
      rw [← hK] at hw hw0 hk
      have HLS := Lib.hid (show lgS ks (i + 1) = fun j => if j = i then IntKind.i64.wrap (lgA K.az i (lgS ks i) K.an i + K.cost) else lgA K.az i (lgS ks i) K.an j by rw [hK]; rfl)
      obtain ⟨co, ra, aa, an, ac, az⟩ := K
      clear hK hc hB
      have c0 := hw.1; have c1 := hw.2.1; have c2 := hw.2.2.1
      simp only at c0 c1 c2
      have l0 := cell_lt c0; simp only at l0
      have HI := Lib.hid (show InI wb aa an ac az from hw0.2.2.2.2.2)
      have HK := Lib.hid (show (1 ≤ co ∧ co ≤ 1000000) ∧ (0 ≤ ra ∧ ra ≤ 100) ∧ an ≤ 20 ∧ ∀ k, k < an → ∃ q : Nat, az k = q ∧ q < i from hk)
      simp only at HLS
      clear hw hw0 hk
      go_upto_region 11 with fail
      refine wp_world (fun W4 hW4 => ?_)
      have B4 : Below wr.heap.size wr W4 := by rw [hW4]; (repeat (first | exact Below.refl _ _ | assumption | (refine Below.setCell ?_ (by first | (simp; done) | (simp; omega) | omega) _) | (refine Below.drew ?_) | (refine below_drewN ?_ _) | (refine Below.alloc ?_ (by first | (simp; done) | (simp; omega) | omega) _) | (refine Below.trans ?_ (Below.mono (by assumption) (by first | (simp; done) | (simp; omega) | omega)))))
      have N4 : Blk W4 wr.heap.size [.int .i64 co, .int .i64 ra, .slice aa an ac] := by rw [hW4]; exact Blk.new _ _ _ _ rfl
      have hgl := HR.out.lt
      have H4 := Lib.hid (And.intro N4 (And.intro (HR.out.of_block (B4.block g hgl)) (HB.out.trans (B4.mono HB.out.size))))
      have hsz := HB.out.size
      have m2 := N4.c 2 _ rfl; have ml := N4.lt
      clear hW4 B4 N4 c0 c1 c2 l0 HR HB
      generalize wr.heap.size = nb at *
      go_wp2_with fail
      clear m2 ml
      obtain ⟨S, hS⟩ : ∃ S, S = lgS ks i := ⟨_, rfl⟩
      rw [← hS] at H4 HLS
      clear hS
      go_loopw [72] (fun s72 wq => ∃ k : Nat, k ≤ an ∧ s72 = .int .i64 k ∧ Blk wq nb [.int .i64 co, .int .i64 ra, .slice aa an ac] ∧ wq.rowIs g 3 n (fun j => .int .i64 (lgA az i S k j)) ∧ Below wb.heap.size wb wq) (fun s72 _ => an - (intOf s72).toNat)
      case atStart => exact ⟨0, Nat.zero_le _, rfl, H4.out⟩
      case round =>
        obtain ⟨k, hk, rfl, hN, hR, hB⟩ := hrel
        have HQ := Lib.hid (And.intro hN (And.intro hR hB))
        clear hN hR hB H4
        by_cases hka : k < an
        · have hkai : (k : Int) < (an : Int) := by omega
          have h20 := HK.out.2.2.1
          have hI := HI.out.below HQ.out.2.2
          obtain ⟨b2, off2, rfl, hcc⟩ := hI.2.2 (by omega)
          obtain ⟨d0, -⟩ := hcc k hka
          obtain ⟨q, hq, hqi⟩ := HK.out.2.2.2 k hka
          rw [hq] at d0
          have hqn : (q : Int) < (n : Int) := by omega
          obtain ⟨T, hT⟩ : ∃ T, T = lgA az i S k := ⟨_, rfl⟩
          have HT := Lib.hid (show lgA az i S (k + 1) = fun j => if j = i then mxI (T i) (T q) else T j by rw [hT]; funext j; show (if j = i then mxI (lgA az i S k i) (lgA az i S k (az k).toNat) else lgA az i S k j) = _; rw [hq]; rfl)
          rw [← hT] at HQ
          have r0 := HQ.out.2.1.cell hin
          have r1 := HQ.out.2.1.cell (show q < n by omega)
          have gl := HQ.out.2.1.lt
          obtain ⟨vi, hvi⟩ : ∃ v, v = T i := ⟨_, rfl⟩
          obtain ⟨vq, hvq⟩ : ∃ v, v = T q := ⟨_, rfl⟩
          rw [← hvi] at r0
          rw [← hvq] at r1
          obtain ⟨m, hm⟩ : ∃ m, (if vi < vq then vq else vi) = m := ⟨_, rfl⟩
          have HM := Lib.hid (show mxI (T i) (T q) = m by rw [← hvi, ← hvq]; exact hm)
          have e0 := cell_lt d0; simp only at e0
          clear hI hcc hq hT hvi hvq
          go_upto_region 14 with fail
          refine wp_region_loose 11 (fun _ _ _ => False) (by kernel_rfl) (by kernel_rfl) ?_
          simp only [List.take_succ_cons, List.take_zero, List.drop_succ_cons, List.drop_zero]
          iterate 11 (refine loose_wanted rfl (fun K hK => ?_); go_simp; refine hK _ ?_; clear hK K)
          refine loose_nil (fun w8 hb8 => ?_)
          have H5 := Lib.hid (And.intro (HQ.out.1.past hb8) (And.intro (HQ.out.2.1.of_block (hb8.block g HQ.out.2.1.lt)) (HQ.out.2.2.trans (hb8.mono HQ.out.2.2.size))))
          have x5 := H5.out.2.1.cell hin
          have y5 : w8.frozen? ⟨g, i, none⟩ = false := H5.out.2.1.frozen _
          clear hb8 d0 r0 r1 gl e0 HQ hm
          go_wp2_with fail
          go_roundw
          case rel =>
            refine ⟨k + 1, by omega, by go_num, H5.out.1.far _ _ (by simp; omega), ?_, H5.out.2.2.setCell (by simp; omega) _⟩
            rw [HT.out]
            refine World.rowIs.congr (World.rowIs.set H5.out.2.1 i _) (fun j hj => ?_)
            rw [HM.out]
            by_cases e : j = i <;> simp [e]
          case measure => simp [intOf]; omega
        · have hkai : ¬ (k : Int) < (an : Int) := by omega
          have hke : k = an := by omega
          subst hke
          obtain ⟨T, hT⟩ : ∃ T, T = lgA az i S k := ⟨_, rfl⟩
          rw [← hT] at HQ HLS
          clear hT
          have r0 := HQ.out.2.1.cell hin
          have gl := HQ.out.2.1.lt
          obtain ⟨vi, hvi⟩ : ∃ v, v = T i := ⟨_, rfl⟩
          rw [← hvi] at r0
          obtain ⟨v2, hv2⟩ : ∃ v, IntKind.i64.wrap (vi + co) = v := ⟨_, rfl⟩
          have m0 := HQ.out.1.c 0 _ rfl; have ml := HQ.out.1.lt
          have HV := Lib.hid (show lgS ks (i + 1) = fun j => if j = i then v2 else T j by rw [HLS.out, ← hvi, hv2])
          clear hvi
          go_upto_region 16 with fail
          refine wp_region_loose 7 (fun _ _ _ => False) (by kernel_rfl) (by kernel_rfl) ?_
          simp only [List.take_succ_cons, List.take_zero, List.drop_succ_cons, List.drop_zero]
          iterate 7 (refine loose_wanted rfl (fun K hK => ?_); go_simp; refine hK _ ?_; clear hK K)
          refine loose_nil (fun w8 hb8 => ?_)
          have H5 := Lib.hid (And.intro (HQ.out.2.1.of_block (hb8.block g HQ.out.2.1.lt)) (HQ.out.2.2.trans (hb8.mono HQ.out.2.2.size)))
          have x5 := H5.out.1.cell hin
          have y5 : w8.frozen? ⟨g, i, none⟩ = false := H5.out.1.frozen _
          clear hb8 m0 ml r0 gl HQ
          go_upto_region 17 with fail
          refine wp_world (fun W6 hW6 => ?_)
          have R6 : W6.rowIs g 3 n (fun j => .int .i64 (lgS ks (i + 1) j)) := by
            rw [hW6, HV.out]
            refine World.rowIs.congr (World.rowIs.set H5.out.1 i _) (fun j hj => ?_)
            by_cases e : j = i <;> simp [e]
          have H6 := Lib.hid (And.intro R6 (show Below wb.heap.size wb W6 by rw [hW6]; exact H5.out.2.setCell (by simp; omega) _))
          have r6 : W6.cell? ⟨g, i, none⟩ = some (.int .i64 v2) := by have h := R6.cell hin; rw [HV.out] at h; simpa using h
          have gl := R6.lt
          obtain ⟨m, hm⟩ : ∃ m, (if mo < v2 then v2 else mo) = m := ⟨_, rfl⟩
          have HM := Lib.hid (show m = lgM ks (i + 1) by show m = mxI (lgM ks i) (lgS ks (i + 1) i); rw [← HMO.out, HV.out]; simp only [if_true]; exact hm.symm)
          clear hW6 R6 H5 x5 y5 hv2
          go_wp2_with fail
          go_roundw
          case rel => exact ⟨i + 1, m, by omega, by go_num, rfl, HM.out, H6.out.1, H6.out.2⟩
          case measure => simp [intOf]; omega
    · have hini : ¬ (i : Int) < (n : Int) := by omega
      have hie : i = n := by omega
      have hme : mo = M := by rw [HMO.out, hie, HMM.out]
      subst hme
      clear HMO HR
      go_wp2_with fail
      go_loopw [9, 113] (fun s9 s113 wq => ∃ k : Nat, k ≤ m ∧ s113 = .int .i64 k ∧ s9 = .int .i64 (firstN (rnE n rs) k) ∧ Below wb.heap.size wb wq) (fun _ s113 _ => m - (intOf s113).toNat)
      case atStart => exact ⟨0, Nat.zero_le _, rfl, rfl, HB.out⟩
      case round =>
        obtain ⟨k, hk, rfl, rfl, hB⟩ := hrel
        have HBB := Lib.hid hB
        have HST := Lib.hid (rn_step n rs k)
        by_cases hkm : k < m
        · have hkmi : (k : Int) < (m : Int) := by omega
          obtain ⟨b, off, rfl, hc⟩ := HRN.out.2.2 (by omega)
          have hw := (hc k hkm).below hB
          obtain ⟨K, hK⟩ : ∃ K, K = rs k := ⟨_, rfl⟩
          rw [← hK] at hw HST
          obtain ⟨wk, mc, fr, te, fl⟩ := K
          obtain ⟨Fk, hFk⟩ : ∃ Fk, Fk = firstN (rnE n rs) k := ⟨_, rfl⟩
          rw [← hFk] at HST ⊢
          simp only at HST
          clear hK hc hB hFk
          have c0 := hw.1; have c1 := hw.2.1; have c2 := hw.2.2.1; have c3 := hw.2.2.2.1; have c4 := hw.2.2.2.2.1
          simp only at c0 c1 c2 c3 c4
          have l0 := cell_lt c0; simp only at l0
          clear hw
          go_upto_region 24 with fail
          refine wp_world (fun W4 hW4 => ?_)
          have B4 : Below wr.heap.size wr W4 := by rw [hW4]; (repeat (first | exact Below.refl _ _ | assumption | (refine Below.setCell ?_ (by first | (simp; done) | (simp; omega) | omega) _) | (refine Below.drew ?_) | (refine below_drewN ?_ _) | (refine Below.alloc ?_ (by first | (simp; done) | (simp; omega) | omega) _) | (refine Below.trans ?_ (Below.mono (by assumption) (by first | (simp; done) | (simp; omega) | omega)))))
          have N4 : Blk W4 wr.heap.size [.int .i64 wk, .int .i64 mc, .int .i64 fr, .int .i64 te, .bool fl] := by rw [hW4]; exact Blk.new _ _ _ _ rfl
          have H4 := Lib.hid (HBB.out.trans (B4.mono HBB.out.size))
          have m0 := N4.c 0 _ rfl; have ml := N4.lt
          clear hW4 B4 N4 c0 c1 c2 c3 c4 l0 HBB
          go_upto_region 25 with (first | (go_at_call 16; refine (In_any _ _ _ _).mono ?_; rintro e w' ⟨rfl, rfl⟩) | (go_at_call 15; refine (When_any _ _ _).mono ?_; rintro e w' ⟨rfl, rfl⟩) | (go_at_call 14; refine (First2_new _ _ _ _ _ (heap_new _ _ _ (by simp))).mono ?_; rintro e w' ⟨rfl, rfl⟩; rw [HST.out]))
          refine wp_world (fun W5 hW5 => ?_)
          have H5 := Lib.hid (show Below wb.heap.size wb W5 by rw [hW5]; exact Below.alloc H4.out H4.out.size _)
          clear hW5 H4 m0 ml
          go_wp2_with fail
          go_roundw
          case rel => exact ⟨k + 1, by omega, by go_num, rfl, H5.out⟩
          case measure => simp [intOf]; omega
        · have hkmi : ¬ (k : Int) < (m : Int) := by omega
          have hke : k = m := by omega
          subst hke
          clear HST hB
          rw [HF.out]
          have HV := Lib.hid (fun j hj => by have h := firstN_zero HF.out j hj; unfold rnE at h; split at h; cases h; rename_i hh; omega : ∀ j, j < k → 0 ≤ (rs j).wk)
          obtain ⟨i0, hi0, hz0, hz1, hz2⟩ := info_parts infoInt
          go_wp2_with fail
          have HNB := Lib.hid (HB4.out.1.trans (HBB.out.mono HB4.out.1.size)); have HNL := Lib.hid (HB4.out.2.trans (HBB.out.mono HB4.out.2.size)); have HRR := Lib.hid (HRN.out.below HBB.out)
          clear HBB HB HB4
          obtain ⟨we, rfl⟩ : ∃ we, we = wr := ⟨_, rfl⟩
          go_loopw [18, 141] (fun s18 s141 wq => ∃ (i : Nat) (u : Value), i ≤ n ∧ s141 = .int .i64 i ∧ u = s18 ∧ NmR we wq u (nmZ (dnB rs k) i)) (fun _ s141 _ => n - (intOf s141).toNat)
          case atStart => exact ⟨0, _, Nat.zero_le _, rfl, rfl, NmR.nil _⟩
          case round =>
            obtain ⟨i, u, hi, rfl, rfl, hM⟩ := hrel
            have HM := Lib.hid hM
            by_cases hin : i < n
            · have hini : (i : Int) < (n : Int) := by omega
              have hL := nmZ_len (dnB rs k) i
              have HFN := Lib.hid (show nmZ (dnB rs k) (i + 1) = if dnB rs k i = true then nmZ (dnB rs k) i ++ [(i : Int)] else nmZ (dnB rs k) i from rfl)
              obtain ⟨L, hLL⟩ : ∃ L, L = nmZ (dnB rs k) i := ⟨_, rfl⟩
              rw [← hLL] at HM HFN hL
              clear hM hLL
              go_upto_region 32 with fail
              refine wp_world (fun W4 hW4 => ?_)
              have B4 : Below wr.heap.size wr W4 := by rw [hW4]; (repeat (first | exact Below.refl _ _ | assumption | (refine Below.setCell ?_ (by first | (simp; done) | (simp; omega) | omega) _) | (refine Below.drew ?_) | (refine below_drewN ?_ _) | (refine Below.alloc ?_ (by first | (simp; done) | (simp; omega) | omega) _) | (refine Below.trans ?_ (Below.mono (by assumption) (by first | (simp; done) | (simp; omega) | omega)))))
              have N4 : Blk W4 wr.heap.size [.int .i64 i] := by rw [hW4]; exact Blk.new _ _ _ _ rfl
              have H4 := Lib.hid (And.intro (HM.out.past B4) N4)
              have HC := Lib.hid (ContainsRun_any a2 k c2 rs i wr.heap.size W4 (HRR.out.below (HM.out.past B4).bel) N4 HV.out)
              clear hW4 B4 N4 HM
              generalize wr.heap.size = pi at *
              obtain ⟨vb, hvb⟩ : ∃ vb, vb = dnB rs k i := ⟨_, rfl⟩
              rw [← hvb] at HC HFN
              clear hvb
              go_wp2_with fail
              refine (HC.out).mono ?_
              rintro e w6 ⟨rfl, hb⟩
              have H6 := Lib.hid (And.intro (H4.out.1.past hb) (H4.out.2.past hb))
              clear hb HC H4
              cases vb
              · go_wp2_with fail
                go_roundw
                case rel => exact ⟨i + 1, _, by omega, by go_num, rfl, by rw [HFN.out]; simpa using H6.out.1⟩
                case measure => simp [intOf]; omega
              · have p0 := H6.out.2.c 0 _ rfl; have pl := H6.out.2.lt
                have hbs := H6.out.1.bel.size
                go_wp2_with (first | (at_builtin; refine wpList_append_lies _ rfl _ _ _ rfl we.heap.size 3 i0 (.int .i64 0) 1 8 Try.underlying51 hi0 hz0 hz1 hz2 rfl (by decide) u L.length (L.map (Value.int .i64)) rfl (own_past H6.out.1.own (by (repeat (first | exact Below.refl _ _ | assumption | (refine Below.setCell ?_ (by first | (simp; done) | (simp; omega) | omega) _) | (refine Below.drew ?_) | (refine below_drewN ?_ _) | (refine Below.alloc ?_ (by first | (simp; done) | (simp; omega) | omega) _) | (refine Below.trans ?_ (Below.mono (by assumption) (by first | (simp; done) | (simp; omega) | omega))))))) ⟨w6.heap.size, 0, none⟩ 1 1 [.int .i64 i] rfl rfl (by intro j u hj; match j, hj with | 0, hj => (simp at hj; subst hj; simp [Addr.add])) (by intro u hu; simp at hu; subst hu; rfl) (by decide) (by unfold maxLen; omega) (by omega) (by simp; omega) _ rfl ?_; intro g' cap w7 hown hgrow hat hlt))
                have HN := Lib.hid (NmR.app H6.out.1 (by (repeat (first | exact Below.refl _ _ | assumption | (refine Below.setCell ?_ (by first | (simp; done) | (simp; omega) | omega) _) | (refine Below.drew ?_) | (refine below_drewN ?_ _) | (refine Below.alloc ?_ (by first | (simp; done) | (simp; omega) | omega) _) | (refine Below.trans ?_ (Below.mono (by assumption) (by first | (simp; done) | (simp; omega) | omega)))))) hown hgrow)
                clear hown hgrow hat hlt
                go_roundw
                case rel => exact ⟨i + 1, _, by omega, by go_num, rfl, by rw [HFN.out]; simpa using HN.out⟩
                case measure => simp [intOf]; omega
            · have hini : ¬ (i : Int) < (n : Int) := by omega
              have hie : i = n := by omega
              have HM2 := Lib.hid (show NmR we wr u Z by rw [HZZ.out, ← hie]; exact HM.out)
              obtain ⟨gd, ad, cd, rfl, had, hcd⟩ := HM2.out.cells
              have HEQ := Lib.hid (EqI_yes gl 0 gd 0 Z.length cl cd al ad (fun i => Z.getD i 0) wr HLL.out.1 (HLL.out.2 wr (HNL.out.trans (HM2.out.bel.mono HNL.out.size))) had hcd (by omega))
              clear hM had hcd
              go_wp2_with fail
              refine (HEQ.out).mono ?_
              rintro e w9 ⟨rfl, hbb⟩
              have HB9 := Lib.hid (HNB.out.trans ((HM2.out.bel.mono HNB.out.size).trans (hbb.mono (HNB.out.trans (HM2.out.bel.mono HNB.out.size)).size)))
              clear hbb HEQ
              go_wp2_with fail
              go_ret
              exact ⟨by simp, HB9.out⟩
theorem dn_walk (a : Option Addr) (n c : Nat) (ks : Nat → Wk) (a2 : Option Addr) (m c2 : Nat) (rs : Nat → RunV) (w : World) (h : IsWorks w a n c ks) (h2 : IsRuns w a2 m c2 rs) :
    Calls Try.prog 5 #[.slice a n c, .slice a2 m c2] w fun e w' => e = .returned (.bool true) ∧ Below w.heap.size w w' := by
  by_cases hE : wkErr n ks = 0
  · by_cases hF : firstN (rnE n rs) m = 0
    · exact dn_good a n c ks a2 m c2 rs w h h2 hE hF
    · exact dn_bad a n c ks a2 m c2 rs w h h2 hE hF
  · exact dn_err a n c ks a2 m c2 w h hE
end Go.Proofs.Ytnicamndlkdcmaa
