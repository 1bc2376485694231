/- LevelsAsFrames: the walk of the statement, where region, depth and length are right. No condition. -/
import Derived.Test.YtmnmcmmhnbnndaaLawA
namespace Go.Proofs.Ytmnmcmmhnbnndaa
open Go.RowKit

/-- What is wanted behind k levels. -/
def wantK (N k : Nat) : Int := if k ≤ N then 0 else 3
theorem wantK_step {N k : Nat} (h : k < N) : firstE (wantK N k) (whenE (!true) 3) = wantK N (k + 1) := by unfold wantK; rw [if_pos (by omega), if_pos (by omega)]; rfl
theorem wantK_bad {N k : Nat} (h : k = N) : firstE (wantK N k) (whenE (!false) 3) = wantK N (k + 1) := by unfold wantK; rw [if_pos (by omega), if_neg (by omega)]; rfl
theorem wantK_past {N k : Nat} (h : N < k) (b : Int) : firstE (wantK N k) b = wantK N (k + 1) := by unfold wantK; rw [if_neg (by omega), if_neg (by omega)]; rfl

theorem wantK_next {N k : Nat} {z a c : Int} (h1 : k < N → inB z a c = true) (h2 : k = N → inB z a c = false) : firstE (wantK N k) (whenE (!inB z a c) 3) = wantK N (k + 1) := by
  rcases Nat.lt_trichotomy k N with h | h | h
  · rw [h1 h]; exact wantK_step h
  · rw [h2 h]; exact wantK_bad h
  · exact wantK_past h _
theorem val_i {a b : Int} (h : a = b) : Value.int .i64 a = .int .i64 b := by rw [h]

set_option maxRecDepth 100000 in
set_option maxHeartbeats 1600000 in
theorem laf_d (x y v h d : Int) (b off len cap N : Nat) (zs : List Int) (w : World) (hx : -9223372036854775808 ≤ x ∧ x ≤ 9223372036854775807) (hy : -9223372036854775808 ≤ y ∧ y ≤ 9223372036854775807)
    (he : regErr x y v h = 0) (hd : 1 ≤ d ∧ d ≤ 16) (hl : (len : Int) = 4 * v * h) (hN : N ≤ len) (hbad : N < len → zs.getD N 0 < 0 ∨ 2 ^ d.toNat - 1 < zs.getD N 0)
    (hcell : ∀ i, i < len → w.cell? ⟨b, off + i, none⟩ = some (.int .i64 (zs.getD i 0))) (hz : ∀ i, i < N → 0 ≤ zs.getD i 0 ∧ zs.getD i 0 ≤ 2 ^ d.toNat - 1) :
    Calls Try.prog 3 #[.agg #[.int .i64 x, .int .i64 y, .int .i64 v, .int .i64 h], .slice (some ⟨b, off, none⟩) len cap, .int .i64 d] w fun e w' => e = .returned (.bool true) ∧ Below w.heap.size w w' := by
  have hi := inB_t hd
  have hb := pow_bd hd
  have hd' := Lib.hid hd
  obtain ⟨r1, r2, r3, r4, r5, r6, -⟩ := regErr_ok he
  have hlt : 4 * v * h ≤ 65536 := by rw [Int.mul_assoc]; omega
  have hlt0 : 1 ≤ 4 * v * h := by rw [Int.mul_assoc]; omega
  have hne : ((len : Int) != 4 * v * h) = false := by rw [hl]; simp
  have hlen : len ≤ 65536 := by omega
  have hlen0 : 0 < len := by omega
  have hL := Lib.hid hl; clear hl
  have HC := Lib.hid hcell
  have HZ := Lib.hid hz; clear hz
  have HB := Lib.hid hbad; clear hbad
  obtain ⟨h3, h4⟩ := hb
  obtain ⟨h1, h2⟩ := hd
  have hx' := Lib.hid hx; clear hx
  have hy' := Lib.hid hy; clear hy
  have hbw : b < w.heap.size := cell_lt (hcell 0 hlen0)
  clear hcell
  go_enter Try.func3, Try.ntmps3
  go_wp2_with fail
  refine (Frame_upto _ _ _ _ _ _ _ _ _ N zs _ he hd'.out hL.out hN HB.out ?_ HZ.out).mono ?_
  · intro i hi
    rw [← HC.out i hi]
    exact World.cell?_of_block (w := w) (Below.heap_alloc _ _ _ (by omega))
  rintro e w1 (⟨hNl, g, rfl, hg, hrow, hb1⟩ | ⟨hNl, rfl, hb1⟩)
  · -- all levels are right
    have hs1 := hb1.size
    simp at hs1
    have hbz : b < w1.heap.size := by omega
    have hr0 : w.heap.size < w1.heap.size := by omega
    obtain ⟨hc1, hf1, -⟩ := bcell hb1
    go_wp2_with fail
    refine (RegionError_any _ _ _ _ _ hx'.out hy'.out).mono ?_
    rintro e w2 ⟨rfl, hb2⟩
    have hs2 := hb2.size
    simp at hs2
    have hr1 : w1.heap.size < w2.heap.size := by omega
    have hr2 : w.heap.size < w2.heap.size := by omega
    have hr3 : b < w2.heap.size := by omega
    have HC2 : Hid (∀ i, i < len → w2.cell? ⟨b, off + i, none⟩ = some (.int .i64 (zs.getD i 0))) := fun i hi => by
      rw [hb2.cell (p := ⟨b, off + i, none⟩) (by simp; omega), World.cell?_alloc_past _ _ _ hbz, hb1.cell (p := ⟨b, off + i, none⟩) (by simp; omega), World.cell?_alloc_past _ _ _ hbw]
      exact HC.out i hi
    obtain ⟨hc2, hf2, -⟩ := bcell hb2
    go_wp2_with (first | (go_at_call 21; refine (In_any _ _ _ _).mono ?_; rintro e w' ⟨rfl, rfl⟩) | (go_at_call 20; refine (When_any _ _ _).mono ?_; rintro e w' ⟨rfl, rfl⟩) | (go_at_call 18; refine (First2_new _ _ _ _ _ (heap_new _ _ _ (by simp))).mono ?_; rintro e w' ⟨rfl, rfl⟩))
    have hNl' := Lib.hid hNl
    clear hNl
    have hg2 : g < w1.heap.size := cell_lt (hrow 0 hlen0)
    have hg3 : g < w2.heap.size := by omega
    have HG : Hid (∀ i, i < len → w2.cell? ⟨g, i, none⟩ = some (.float .f32 (valueF (zs.getD i 0) d))) := fun i hi => by
      rw [hb2.cell (p := ⟨g, i, none⟩) (by simp; omega), World.cell?_alloc_past _ _ _ hg2]
      exact hrow i hi
    clear hrow
    go_loopw [9, 46] (fun s9 i wr => ∃ k : Nat, k ≤ len ∧ i = .int .i64 k ∧ s9 = .int .i64 0 ∧ Below w2.heap.size w2 wr) (fun _ i _ => len - (intOf i).toNat)
    case atStart => refine ⟨0, Nat.zero_le _, rfl, rfl, ?_⟩; (repeat (first | exact Below.refl _ _ | assumption | (refine Below.setCell ?_ (by first | (simp; done) | (simp; omega) | omega) _) | (refine Below.drew ?_) | (refine below_drewN ?_ _) | (refine Below.alloc ?_ (by first | (simp; done) | (simp; omega) | omega) _) | (refine Below.trans ?_ (Below.mono (by assumption) (by first | (simp; done) | (simp; omega) | omega)))))
    case round =>
      obtain ⟨k, hk, rfl, rfl, hwr⟩ := hrel
      have hswr := hwr.size
      obtain ⟨hcr, hfr, -⟩ := bcell hwr
      by_cases hlt : k < len
      · have hzc : wr.cell? ⟨b, off + k, none⟩ = some (.int .i64 (zs.getD k 0)) := by rw [hwr.cell (p := ⟨b, off + k, none⟩) (by simpa using hr3)]; exact HC2.out k hlt
        have hzb := HZ.out k (by have := hNl'.out; omega)
        generalize zs.getD k 0 = z at hzc hzb
        have hzi := inB_t hzb
        clear hzb hcr hfr
        go_wp2_with (first | (go_at_call 21; refine (In_any _ _ _ _).mono ?_; rintro e w' ⟨rfl, rfl⟩) | (go_at_call 20; refine (When_any _ _ _).mono ?_; rintro e w' ⟨rfl, rfl⟩) | (go_at_call 18; refine (First2_new _ _ _ _ _ (heap_new _ _ _ (by simp))).mono ?_; rintro e w' ⟨rfl, rfl⟩))
        go_roundw
        case rel =>
          refine ⟨k + 1, by omega, by go_num, rfl, ?_⟩
          (repeat (first | exact Below.refl _ _ | assumption | (refine Below.setCell ?_ (by first | (simp; done) | (simp; omega) | omega) _) | (refine Below.drew ?_) | (refine below_drewN ?_ _) | (refine Below.alloc ?_ (by first | (simp; done) | (simp; omega) | omega) _) | (refine Below.trans ?_ (Below.mono (by assumption) (by first | (simp; done) | (simp; omega) | omega)))))
        case measure => simp [intOf]; omega
      · have hke : k = len := by omega
        clear hk
        subst hke
        go_wp2_with (first | (go_at_call 22; refine (finishes_any _).mono ?_; rintro e w' ⟨n, rfl, rfl⟩))
        obtain ⟨wo, rfl⟩ : ∃ wo : World, wo = wr := ⟨_, rfl⟩
        go_loopw [12, 95] (fun s12 i wr => ∃ j : Nat, j ≤ k ∧ i = .int .i64 j ∧ s12 = .bool true ∧ Below w2.heap.size w2 wr) (fun _ i _ => k - (intOf i).toNat)
        case atStart => refine ⟨0, Nat.zero_le _, rfl, ?_, ?_⟩; (· rfl); (repeat (first | exact Below.refl _ _ | assumption | (refine Below.setCell ?_ (by first | (simp; done) | (simp; omega) | omega) _) | (refine Below.drew ?_) | (refine below_drewN ?_ _) | (refine Below.alloc ?_ (by first | (simp; done) | (simp; omega) | omega) _) | (refine Below.trans ?_ (Below.mono (by assumption) (by first | (simp; done) | (simp; omega) | omega)))))
        case round =>
          obtain ⟨j, hj, rfl, rfl, hwt⟩ := hrel
          have hswt := hwt.size
          by_cases hlt : j < k
          · have hzc : wr.cell? ⟨b, off + j, none⟩ = some (.int .i64 (zs.getD j 0)) := by rw [hwt.cell (p := ⟨b, off + j, none⟩) (by simpa using hr3)]; exact HC2.out j hlt
            have hgc : wr.cell? ⟨g, j, none⟩ = some (.float .f32 (valueF (zs.getD j 0) d)) := by rw [hwt.cell (p := ⟨g, j, none⟩) (by simpa using hg3)]; exact HG.out j hlt
            have hfc : wr.cell? ⟨w1.heap.size, 4, none⟩ = some (.slice (some ⟨g, 0, none⟩) k k) := by
              rw [hwt.cell (p := ⟨w1.heap.size, 4, none⟩) (by simpa using hr1), hb2.cell (p := ⟨w1.heap.size, 4, none⟩) (by simp)]
              simp [go_sem]
            have hzb := HZ.out j (by have := hNl'.out; omega)
            generalize zs.getD j 0 = z at hzc hzb hgc
            have hwb : b < wr.heap.size := by omega
            have hwg : g < wr.heap.size := by omega
            have hwf : w1.heap.size < wr.heap.size := by omega
            obtain ⟨hz1, hz2⟩ := hzb
            clear hcr hfr hc1 hc2 hf1 hf2
            go_wp2_with fail
            refine wp_region_loose 15 (fun f args u => (f = 25 ∧ args = #[.int .i64 z, .int .i64 d] ∧ u = .float .f32 (valueF z d)) ∨ (f = 24 ∧ args = #[.float .f32 (valueF z d), .float .f32 (valueF z d)] ∧ u = .bool true)) (by kernel_rfl) (by kernel_rfl) ?_
            simp only [List.take_succ_cons, List.take_zero, List.drop_succ_cons, List.drop_zero]
            repeat (refine loose_wanted rfl (fun K hK => ?_); go_simp; refine hK _ ?_; clear hK K)
            refine loose_wanted rfl (fun K hK => ?_)
            go_simp
            refine ⟨fun p => (ValueOf_any _ _ _ hd'.out (by omega)).mono ?_, ?_⟩
            · rintro e w' ⟨m, rfl, rfl⟩
              exact ⟨_, rfl, rfl, below_drewN p.h m⟩
            refine hK _ ?_; clear hK K
            refine loose_wanted rfl (fun K hK => ?_)
            go_simp
            refine ⟨fun p => (same_any _ _ _).mono ?_, ?_⟩
            · rintro e w' ⟨rfl, rfl⟩
              exact ⟨_, rfl, by simp, p.h⟩
            refine hK _ ?_; clear hK K
            repeat (refine loose_wanted rfl (fun K hK => ?_); go_simp; refine hK _ ?_; clear hK K)
            refine loose_nil (fun w5 hb5 => ?_)
            go_wp2_with fail
            go_roundw
            case rel =>
              refine ⟨j + 1, by omega, by go_num, rfl, ?_⟩
              exact hwt.trans (hb5.mono (by omega))
            case measure => simp [intOf]; omega
          · have hje : j = k := by omega
            clear hj
            subst hje
            go_wp2_with fail
            go_ret
            refine ⟨rfl, ?_⟩
            clear hwr
            (repeat (first | exact Below.refl _ _ | assumption | (refine Below.setCell ?_ (by first | (simp; done) | (simp; omega) | omega) _) | (refine Below.drew ?_) | (refine below_drewN ?_ _) | (refine Below.alloc ?_ (by first | (simp; done) | (simp; omega) | omega) _) | (refine Below.trans ?_ (Below.mono (by assumption) (by first | (simp; done) | (simp; omega) | omega)))))
  · -- a level that is none
    have hs1 := hb1.size
    simp at hs1
    have hbz : b < w1.heap.size := by omega
    have hr0 : w.heap.size < w1.heap.size := by omega
    obtain ⟨hc1, hf1, -⟩ := bcell hb1
    go_wp2_with fail
    refine (RegionError_any _ _ _ _ _ hx'.out hy'.out).mono ?_
    rintro e w2 ⟨rfl, hb2⟩
    have hs2 := hb2.size
    simp at hs2
    have hr1 : w1.heap.size < w2.heap.size := by omega
    have hr2 : w.heap.size < w2.heap.size := by omega
    have hr3 : b < w2.heap.size := by omega
    have HC2 : Hid (∀ i, i < len → w2.cell? ⟨b, off + i, none⟩ = some (.int .i64 (zs.getD i 0))) := fun i hi => by
      rw [hb2.cell (p := ⟨b, off + i, none⟩) (by simp; omega), World.cell?_alloc_past _ _ _ hbz, hb1.cell (p := ⟨b, off + i, none⟩) (by simp; omega), World.cell?_alloc_past _ _ _ hbw]
      exact HC.out i hi
    obtain ⟨hc2, hf2, -⟩ := bcell hb2
    go_wp2_with (first | (go_at_call 21; refine (In_any _ _ _ _).mono ?_; rintro e w' ⟨rfl, rfl⟩) | (go_at_call 20; refine (When_any _ _ _).mono ?_; rintro e w' ⟨rfl, rfl⟩) | (go_at_call 18; refine (First2_new _ _ _ _ _ (heap_new _ _ _ (by simp))).mono ?_; rintro e w' ⟨rfl, rfl⟩))
    go_loopw [9, 46] (fun s9 i wr => ∃ k : Nat, k ≤ len ∧ i = .int .i64 k ∧ s9 = .int .i64 (wantK N k) ∧ Below w2.heap.size w2 wr) (fun _ i _ => len - (intOf i).toNat)
    case atStart => refine ⟨0, Nat.zero_le _, rfl, rfl, ?_⟩; (repeat (first | exact Below.refl _ _ | assumption | (refine Below.setCell ?_ (by first | (simp; done) | (simp; omega) | omega) _) | (refine Below.drew ?_) | (refine below_drewN ?_ _) | (refine Below.alloc ?_ (by first | (simp; done) | (simp; omega) | omega) _) | (refine Below.trans ?_ (Below.mono (by assumption) (by first | (simp; done) | (simp; omega) | omega)))))
    case round =>
      obtain ⟨k, hk, rfl, rfl, hwr⟩ := hrel
      have hswr := hwr.size
      obtain ⟨hcr, hfr, -⟩ := bcell hwr
      by_cases hlt : k < len
      · have hzc : wr.cell? ⟨b, off + k, none⟩ = some (.int .i64 (zs.getD k 0)) := by rw [hwr.cell (p := ⟨b, off + k, none⟩) (by simpa using hr3)]; exact HC2.out k hlt
        have hzb1 := Lib.hid (fun h => inB_t (HZ.out k h) : k < N → inB (zs.getD k 0) 0 (2 ^ d.toNat - 1) = true)
        have hzb2 := Lib.hid (fun h => inB_f (by rw [h]; exact HB.out hNl) : k = N → inB (zs.getD k 0) 0 (2 ^ d.toNat - 1) = false)
        generalize zs.getD k 0 = z at hzc hzb1 hzb2
        clear hcr hfr
        go_wp2_with (first | (go_at_call 21; refine (In_any _ _ _ _).mono ?_; rintro e w' ⟨rfl, rfl⟩) | (go_at_call 20; refine (When_any _ _ _).mono ?_; rintro e w' ⟨rfl, rfl⟩) | (go_at_call 18; refine (First2_new _ _ _ _ _ (heap_new _ _ _ (by simp))).mono ?_; rintro e w' ⟨rfl, rfl⟩))
        go_roundw
        case rel =>
          refine ⟨k + 1, by omega, by go_num, val_i (wantK_next hzb1.out hzb2.out), ?_⟩
          (repeat (first | exact Below.refl _ _ | assumption | (refine Below.setCell ?_ (by first | (simp; done) | (simp; omega) | omega) _) | (refine Below.drew ?_) | (refine below_drewN ?_ _) | (refine Below.alloc ?_ (by first | (simp; done) | (simp; omega) | omega) _) | (refine Below.trans ?_ (Below.mono (by assumption) (by first | (simp; done) | (simp; omega) | omega)))))
        case measure => simp [intOf]; omega
      · have hke : k = len := by omega
        clear hk
        subst hke
        have hw3 : wantK N k = 3 := by unfold wantK; rw [if_neg (by omega)]
        go_wp2_with (first | (go_at_call 22; refine (finishes_any _).mono ?_; rintro e w' ⟨n, rfl, rfl⟩) | (go_at_call 23; refine (none_any _ _ _ _ _ _ _ _).mono ?_; rintro e w3 ⟨rfl, hb3⟩; have hs3 := hb3.size; simp at hs3))
        go_ret
        refine ⟨rfl, ?_⟩
        (repeat (first | exact Below.refl _ _ | assumption | (refine Below.setCell ?_ (by first | (simp; done) | (simp; omega) | omega) _) | (refine Below.drew ?_) | (refine below_drewN ?_ _) | (refine Below.alloc ?_ (by first | (simp; done) | (simp; omega) | omega) _) | (refine Below.trans ?_ (Below.mono (by assumption) (by first | (simp; done) | (simp; omega) | omega)))))
end Go.Proofs.Ytmnmcmmhnbnndaa
