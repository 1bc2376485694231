/- The longest row of works: farm.Longest. Conditions: what each theorem names. -/
import Derived.Test.YtnicamndlkdcmaaDnC
namespace Go.Proofs.Ytnicamndlkdcmaa
open Go Go.RowKit
theorem firstN_zero {f : Nat → Int} {n : Nat} (h : firstN f n = 0) : ∀ k, k < n → f k = 0 := by
  induction n with
  | zero => intro k hk; omega
  | succ n ih =>
    unfold firstN at h
    intro k hk
    by_cases h0 : firstN f n = 0
    · rw [if_pos h0] at h
      rcases Nat.lt_or_ge k n with h1 | h1
      · exact ih h0 k h1
      · have : k = n := by omega
        subst this; exact h
    · rw [if_neg h0] at h; exact absurd h h0
/-- What right work says. -/
theorem wk_ok {n : Nat} {ks : Nat → Wk} (h : wkErr n ks = 0) : n ≤ 2000 ∧ ∀ i, i < n → (1 ≤ (ks i).cost ∧ (ks i).cost ≤ 1000000) ∧ (0 ≤ (ks i).rank ∧ (ks i).rank ≤ 100) ∧ (ks i).an ≤ 20 ∧ ∀ k, k < (ks i).an → ∃ q : Nat, (ks i).az k = q ∧ q < i := by
  unfold wkErr at h
  by_cases hn : 2000 < n
  · rw [if_pos hn] at h; cases h
  · rw [if_neg hn] at h
    refine ⟨by omega, fun i hi => ?_⟩
    have hw := firstN_zero h i hi
    unfold wkE at hw
    split at hw
    · cases hw
    · rename_i hb
      split at hw
      · cases hw
      · rename_i ha
        refine ⟨by omega, by omega, by omega, fun k hk => ?_⟩
        have hk2 := firstN_zero hw k hk
        unfold afE at hk2
        split at hk2
        · cases hk2
        · rename_i hz
          exact ⟨((ks i).az k).toNat, by omega, by omega⟩
/-- Go's max. -/
def mxI (a b : Int) : Int := if a < b then b else a
/-- The sums while work i is looked at: k of what it comes after. -/
def lgA (zs : Nat → Int) (i : Nat) (s : Nat → Int) : Nat → (Nat → Int)
  | 0 => s
  | k + 1 => fun j => if j = i then mxI (lgA zs i s k i) (lgA zs i s k (zs k).toNat) else lgA zs i s k j
/-- The sums behind i works. -/
def lgS (ks : Nat → Wk) : Nat → (Nat → Int)
  | 0 => fun _ => 0
  | i + 1 => fun j => if j = i then IntKind.i64.wrap (lgA (ks i).az i (lgS ks i) (ks i).an i + (ks i).cost) else lgA (ks i).az i (lgS ks i) (ks i).an j
/-- The greatest of them. -/
def lgM (ks : Nat → Wk) : Nat → Int
  | 0 => 0
  | i + 1 => mxI (lgM ks i) (lgS ks (i + 1) i)
set_option maxRecDepth 100000 in
set_option maxHeartbeats 3200000 in
theorem Longest_yes (a : Option Addr) (n c : Nat) (ks : Nat → Wk) (w : World) (h : IsWorks w a n c ks) (hE : wkErr n ks = 0) :
    Calls Try.prog 23 #[.slice a n c] w fun e w' => e = .returned (.tuple #[.int .i64 (lgM ks n), .int .i64 0]) ∧ Below w.heap.size w w' := by
  obtain ⟨hn, hok⟩ := wk_ok hE
  have HH := Lib.hid h; have HE := Lib.hid hE; have HOK := Lib.hid hok
  have hmk := run_make_row' (P := Try.prog) 51 3 (.int .i64 0) 8 Try.underlying51 (by kernel_rfl) rfl .i64 .i64 n (by omega) (by omega)
  clear h hE hok
  go_enter Try.func23, Try.ntmps23
  go_upto_region 5 with (first | (go_at_call 12; refine (CheckWork_any _ _ _ _ _ HH.out).mono ?_; rintro e w1 ⟨rfl, hb⟩; rw [HE.out]; have HB1 := Lib.hid hb; clear hb))
  go_upto_region 6 with fail
  refine wp_world (fun W2 hW2 => ?_)
  have R2 : W2.rowIs w1.heap.size 3 n (fun j => .int .i64 (lgS ks 0 j)) := by rw [hW2]; exact World.rowIs_made w1 (.int .i64 0) n 3
  have HB2 := Lib.hid (show Below w.heap.size w W2 by rw [hW2]; exact Below.alloc HB1.out HB1.out.size _)
  have HR2 := Lib.hid R2
  have hgw : w.heap.size ≤ w1.heap.size := HB1.out.size
  clear hW2 R2 HB1 hmk
  generalize w1.heap.size = g at *
  go_wp2_with fail
  go_loopw [5, 21] (fun s5 s21 wr => ∃ (i : Nat) (mo : Int), i ≤ n ∧ s21 = .int .i64 i ∧ s5 = .int .i64 mo ∧ mo = lgM ks i ∧ wr.rowIs g 3 n (fun j => .int .i64 (lgS ks i j)) ∧ Below w.heap.size w wr) (fun _ s21 _ => n - (intOf s21).toNat)
  case atStart => exact ⟨0, _, Nat.zero_le _, rfl, rfl, rfl, HR2.out, HB2.out⟩
  case round =>
    obtain ⟨i, mo, hi, rfl, rfl, hmo, hR, hB⟩ := hrel
    have HMO := Lib.hid hmo; have HR := Lib.hid hR; have HB := Lib.hid hB
    clear hmo hR HR2 HB2
    by_cases hin : i < n
    · have hini : (i : Int) < (n : Int) := by omega
      obtain ⟨b, off, rfl, hc⟩ := HH.out.2.2 (by omega)
      have hw := (hc i hin).below hB
      have hw0 := hc i hin
      have hk := HOK.out i hin
      obtain ⟨K, hK⟩ : ∃ K, K = ks i := ⟨_, rfl⟩
      rw [← hK] at hw hw0 hk
      have HLS := Lib.hid (show lgS ks (i + 1) = fun j => if j = i then IntKind.i64.wrap (lgA K.az i (lgS ks i) K.an i + K.cost) else lgA K.az i (lgS ks i) K.an j by rw [hK]; rfl)
      obtain ⟨co, ra, aa, an, ac, az⟩ := K
      clear hK hc hB
      have c0 := hw.1; have c1 := hw.2.1; have c2 := hw.2.2.1
      simp only at c0 c1 c2
      have l0 := cell_lt c0; simp only at l0
      have HI := Lib.hid (show InI w aa an ac az from hw0.2.2.2.2.2)
      have HK := Lib.hid (show (1 ≤ co ∧ co ≤ 1000000) ∧ (0 ≤ ra ∧ ra ≤ 100) ∧ an ≤ 20 ∧ ∀ k, k < an → ∃ q : Nat, az k = q ∧ q < i from hk)
      simp only at HLS
      clear hw hw0 hk
      go_upto_region 9 with fail
      refine wp_world (fun W4 hW4 => ?_)
      have B4 : Below wr.heap.size wr W4 := by rw [hW4]; (repeat (first | exact Below.refl _ _ | assumption | (refine Below.setCell ?_ (by first | (simp; done) | (simp; omega) | omega) _) | (refine Below.drew ?_) | (refine below_drewN ?_ _) | (refine Below.alloc ?_ (by first | (simp; done) | (simp; omega) | omega) _) | (refine Below.trans ?_ (Below.mono (by assumption) (by first | (simp; done) | (simp; omega) | omega)))))
      have N4 : Blk W4 wr.heap.size [.int .i64 co, .int .i64 ra, .slice aa an ac] := by rw [hW4]; exact Blk.new _ _ _ _ rfl
      have hgl := HR.out.lt
      have H4 := Lib.hid (And.intro N4 (And.intro (HR.out.of_block (B4.block g hgl)) (HB.out.trans (B4.mono HB.out.size))))
      have hsz := HB.out.size
      have m2 := N4.c 2 _ rfl; have ml := N4.lt
      clear hW4 B4 N4 c0 c1 c2 l0 HR HB
      generalize wr.heap.size = nb at *
      go_wp2_with fail
      clear m2 ml
      obtain ⟨S, hS⟩ : ∃ S, S = lgS ks i := ⟨_, rfl⟩
      rw [← hS] at H4 HLS
      clear hS
      go_loopw [29] (fun s29 wq => ∃ k : Nat, k ≤ an ∧ s29 = .int .i64 k ∧ Blk wq nb [.int .i64 co, .int .i64 ra, .slice aa an ac] ∧ wq.rowIs g 3 n (fun j => .int .i64 (lgA az i S k j)) ∧ Below w.heap.size w wq) (fun s29 _ => an - (intOf s29).toNat)
      case atStart => exact ⟨0, Nat.zero_le _, rfl, H4.out⟩
      case round =>
        obtain ⟨k, hk, rfl, hN, hR, hB⟩ := hrel
        have HQ := Lib.hid (And.intro hN (And.intro hR hB))
        clear hN hR hB H4
        by_cases hka : k < an
        · have hkai : (k : Int) < (an : Int) := by omega
          have h20 := HK.out.2.2.1
          have hI := HI.out.below HQ.out.2.2
          obtain ⟨b2, off2, rfl, hcc⟩ := hI.2.2 (by omega)
          obtain ⟨d0, -⟩ := hcc k hka
          obtain ⟨q, hq, hqi⟩ := HK.out.2.2.2 k hka
          rw [hq] at d0
          have hqn : (q : Int) < (n : Int) := by omega
          obtain ⟨T, hT⟩ : ∃ T, T = lgA az i S k := ⟨_, rfl⟩
          have HT := Lib.hid (show lgA az i S (k + 1) = fun j => if j = i then mxI (T i) (T q) else T j by rw [hT]; funext j; show (if j = i then mxI (lgA az i S k i) (lgA az i S k (az k).toNat) else lgA az i S k j) = _; rw [hq]; rfl)
          rw [← hT] at HQ
          have r0 := HQ.out.2.1.cell hin
          have r1 := HQ.out.2.1.cell (show q < n by omega)
          have gl := HQ.out.2.1.lt
          obtain ⟨vi, hvi⟩ : ∃ v, v = T i := ⟨_, rfl⟩
          obtain ⟨vq, hvq⟩ : ∃ v, v = T q := ⟨_, rfl⟩
          rw [← hvi] at r0
          rw [← hvq] at r1
          obtain ⟨m, hm⟩ : ∃ m, (if vi < vq then vq else vi) = m := ⟨_, rfl⟩
          have HM := Lib.hid (show mxI (T i) (T q) = m by rw [← hvi, ← hvq]; exact hm)
          have e0 := cell_lt d0; simp only at e0
          clear hI hcc hq hT hvi hvq
          go_upto_region 12 with fail
          refine wp_region_loose 11 (fun _ _ _ => False) (by kernel_rfl) (by kernel_rfl) ?_
          simp only [List.take_succ_cons, List.take_zero, List.drop_succ_cons, List.drop_zero]
          iterate 11 (refine loose_wanted rfl (fun K hK => ?_); go_simp; refine hK _ ?_; clear hK K)
          refine loose_nil (fun w5 hb5 => ?_)
          have H5 := Lib.hid (And.intro (HQ.out.1.past hb5) (And.intro (HQ.out.2.1.of_block (hb5.block g HQ.out.2.1.lt)) (HQ.out.2.2.trans (hb5.mono HQ.out.2.2.size))))
          have x5 := H5.out.2.1.cell hin
          have y5 : w5.frozen? ⟨g, i, none⟩ = false := H5.out.2.1.frozen _
          clear hb5 d0 r0 r1 gl e0 HQ hm
          go_wp2_with fail
          go_roundw
          case rel =>
            refine ⟨k + 1, by omega, by go_num, H5.out.1.far _ _ (by simp; omega), ?_, H5.out.2.2.setCell (by simp; omega) _⟩
            rw [HT.out]
            refine World.rowIs.congr (World.rowIs.set H5.out.2.1 i _) (fun j hj => ?_)
            rw [HM.out]
            by_cases e : j = i <;> simp [e]
          case measure => simp [intOf]; omega
        · have hkai : ¬ (k : Int) < (an : Int) := by omega
          have hke : k = an := by omega
          subst hke
          obtain ⟨T, hT⟩ : ∃ T, T = lgA az i S k := ⟨_, rfl⟩
          rw [← hT] at HQ HLS
          clear hT
          have r0 := HQ.out.2.1.cell hin
          have gl := HQ.out.2.1.lt
          obtain ⟨vi, hvi⟩ : ∃ v, v = T i := ⟨_, rfl⟩
          rw [← hvi] at r0
          obtain ⟨v2, hv2⟩ : ∃ v, IntKind.i64.wrap (vi + co) = v := ⟨_, rfl⟩
          have m0 := HQ.out.1.c 0 _ rfl; have ml := HQ.out.1.lt
          have HV := Lib.hid (show lgS ks (i + 1) = fun j => if j = i then v2 else T j by rw [HLS.out, ← hvi, hv2])
          clear hvi
          go_upto_region 14 with fail
          refine wp_region_loose 7 (fun _ _ _ => False) (by kernel_rfl) (by kernel_rfl) ?_
          simp only [List.take_succ_cons, List.take_zero, List.drop_succ_cons, List.drop_zero]
          iterate 7 (refine loose_wanted rfl (fun K hK => ?_); go_simp; refine hK _ ?_; clear hK K)
          refine loose_nil (fun w5 hb5 => ?_)
          have H5 := Lib.hid (And.intro (HQ.out.2.1.of_block (hb5.block g HQ.out.2.1.lt)) (HQ.out.2.2.trans (hb5.mono HQ.out.2.2.size)))
          have x5 := H5.out.1.cell hin
          have y5 : w5.frozen? ⟨g, i, none⟩ = false := H5.out.1.frozen _
          clear hb5 m0 ml r0 gl HQ
          go_upto_region 15 with fail
          refine wp_world (fun W6 hW6 => ?_)
          have R6 : W6.rowIs g 3 n (fun j => .int .i64 (lgS ks (i + 1) j)) := by
            rw [hW6, HV.out]
            refine World.rowIs.congr (World.rowIs.set H5.out.1 i _) (fun j hj => ?_)
            by_cases e : j = i <;> simp [e]
          have H6 := Lib.hid (And.intro R6 (show Below w.heap.size w W6 by rw [hW6]; exact H5.out.2.setCell (by simp; omega) _))
          have r6 : W6.cell? ⟨g, i, none⟩ = some (.int .i64 v2) := by have h := R6.cell hin; rw [HV.out] at h; simpa using h
          have gl := R6.lt
          obtain ⟨m, hm⟩ : ∃ m, (if mo < v2 then v2 else mo) = m := ⟨_, rfl⟩
          have HM := Lib.hid (show m = lgM ks (i + 1) by show m = mxI (lgM ks i) (lgS ks (i + 1) i); rw [← HMO.out, HV.out]; simp only [if_true]; exact hm.symm)
          clear hW6 R6 H5 x5 y5 hv2
          go_wp2_with fail
          go_roundw
          case rel => exact ⟨i + 1, m, by omega, by go_num, rfl, HM.out, H6.out.1, H6.out.2⟩
          case measure => simp [intOf]; omega
    · have hini : ¬ (i : Int) < (n : Int) := by omega
      have hie : i = n := by omega
      go_wp2_with fail
      go_ret2
      refine ⟨?_, HB.out⟩
      rw [← hie, ← HMO.out]
      rfl
end Go.Proofs.Ytnicamndlkdcmaa
