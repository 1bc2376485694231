/- A frame of levels (finish.Frame). -/
import Derived.Test.YtalgepfammpmbaaLevB
import Derived.Test.YtalgepfammpmbaaLooseB
import Derived.Deep.OwnRows
import Derived.Outline
import Derived.Deep.DeepCutAuto
namespace Go.Proofs.Ytalgepfammpmbaa
open Go.RowKit

theorem bcell {W w1 : World} (hb : Below W.heap.size W w1) : (∀ b o, b < W.heap.size → w1.cell? ⟨b, o, none⟩ = W.cell? ⟨b, o, none⟩) ∧ (∀ b o, b < W.heap.size → w1.frozen? ⟨b, o, none⟩ = W.frozen? ⟨b, o, none⟩) ∧ W.heap.size ≤ w1.heap.size :=
  ⟨fun b o h => hb.cell (p := ⟨b, o, none⟩) h, fun b o h => hb.frozen (p := ⟨b, o, none⟩) h, hb.size⟩
theorem regErr_ok {x y v h : Int} (he : regErr x y v h = 0) : 1 ≤ v ∧ v ≤ 256 ∧ 1 ≤ h ∧ h ≤ 256 ∧ v * h ≤ 16384 ∧ 1 ≤ v * h ∧ -1048576 ≤ x ∧ x ≤ 1048576 - v ∧ -1048576 ≤ y ∧ y ≤ 1048576 - h := by
  unfold regErr at he
  by_cases h1 : v < 1 ∨ 256 < v ∨ h < 1 ∨ 256 < h
  · rw [if_pos h1] at he; cases he
  · rw [if_neg h1] at he
    by_cases h2 : 16384 < v * h
    · rw [if_pos h2] at he; cases he
    · rw [if_neg h2] at he
      by_cases h3 : x < -1048576 ∨ 1048576 - v < x ∨ y < -1048576 ∨ 1048576 - h < y
      · rw [if_pos h3] at he; cases he
      · have hp : 1 * 1 ≤ v * h := Int.mul_le_mul (by omega) (by omega) (by decide) (by omega)
        exact ⟨by omega, by omega, by omega, by omega, by omega, by omega, by omega, by omega, by omega, by omega⟩
theorem cell_lt {w : World} {a : Addr} {v : Value} (h : w.cell? a = some v) : a.block < w.heap.size := by
  rcases Nat.lt_or_ge a.block w.heap.size with h' | h'
  · exact h'
  · simp [World.cell?, Array.getElem?_eq_none h'] at h
/-- A frame's variable at block n: the region, the row of values at block g. -/
structure FrameAt (w : World) (n : Nat) (x y v h : Int) (g len : Nat) : Prop where
  c0 : w.cell? ⟨n, 0, none⟩ = some (.int .i64 x)
  c1 : w.cell? ⟨n, 1, none⟩ = some (.int .i64 y)
  c2 : w.cell? ⟨n, 2, none⟩ = some (.int .i64 v)
  c3 : w.cell? ⟨n, 3, none⟩ = some (.int .i64 h)
  c4 : w.cell? ⟨n, 4, none⟩ = some (.slice (some ⟨g, 0, none⟩) len len)
/-- What Frame leaves: the frame, or, where level N is none, an error. -/
def FramePost (w : World) (x y v h d : Int) (zs : List Int) (N len : Nat) (e : Ending) (w' : World) : Prop :=
  (N = len ∧ ∃ g, e = .returned (.tuple #[.agg #[.int .i64 x, .int .i64 y, .int .i64 v, .int .i64 h, .slice (some ⟨g, 0, none⟩) len len], .int .i64 0]) ∧ w.heap.size ≤ g ∧ (∀ i, i < len → w'.cell? ⟨g, i, none⟩ = some (.float .f32 (valueF (zs.getD i 0) d))) ∧ Below w.heap.size w w') ∨
  (N < len ∧ e = .returned (.tuple #[.agg #[.int .i64 0, .int .i64 0, .int .i64 0, .int .i64 0, .slice none 0 0], .int .i64 3]) ∧ Below w.heap.size w w')
set_option maxHeartbeats 800000 in
theorem Frame_upto (x y v h d : Int) (b off len cap N : Nat) (zs : List Int) (w : World) (he : regErr x y v h = 0) (hd : 1 ≤ d ∧ d ≤ 16) (hl : (len : Int) = 4 * v * h) (hN : N ≤ len) (hbad : N < len → zs.getD N 0 < 0 ∨ 2 ^ d.toNat - 1 < zs.getD N 0)
    (hcell : ∀ i, i < len → w.cell? ⟨b, off + i, none⟩ = some (.int .i64 (zs.getD i 0))) (hz : ∀ i, i < N → 0 ≤ zs.getD i 0 ∧ zs.getD i 0 ≤ 2 ^ d.toNat - 1) :
    Calls Try.prog 40 #[.agg #[.int .i64 x, .int .i64 y, .int .i64 v, .int .i64 h], .slice (some ⟨b, off, none⟩) len cap, .int .i64 d] w (FramePost w x y v h d zs N len) := by
  obtain ⟨r1, r2, r3, r4, r5, r6, -⟩ := regErr_ok he
  have hi := inB_t hd
  have hb := pow_bd hd
  have hlt : 4 * v * h ≤ 65536 := by rw [Int.mul_assoc]; omega
  have hlt0 : 0 ≤ 4 * v * h := by rw [Int.mul_assoc]; omega
  have hne : ((len : Int) != 4 * v * h) = false := by rw [hl]; simp
  have hL := Lib.hid hl; clear hl
  obtain ⟨h3, h4⟩ := hb
  obtain ⟨h1, h2⟩ := hd
  have hlen : len ≤ 65536 := by have := hL.out; omega
  have hlen0 : 0 < len := by have := hL.out; have : 1 ≤ 4 * v * h := by { rw [Int.mul_assoc]; omega }; omega
  have hmk := run_make_row' (P := Try.prog) 24 27 (.float .f32 0) 4 Try.underlying24 (by kernel_rfl) rfl .i64 .i64 len (by omega) (by omega)
  go_enter Try.func40, Try.ntmps40
  go_upto_region 8 with (first | (go_at_call 131; refine (CheckRegion_any _ _ _ _ _).mono ?_; rintro e w1 ⟨rfl, hb1⟩; obtain ⟨hc1, hf1, hs1⟩ := bcell hb1; simp at hs1; have hq0 : w.heap.size < w1.heap.size := (by omega); have hq1 : w.heap.size + 1 < w1.heap.size := (by omega)) | (go_at_call 123; refine (deep_any _ _).mono ?_; rintro e w' ⟨rfl, rfl⟩))
  go_cut [9] (fun s9 wx => ∃ nf g : Nat, s9 = .pointer (some ⟨nf, 0, none⟩) ∧ FrameAt wx nf x y v h g len ∧ wx.rowIs g 27 len (fun _ => .float .f32 0) ∧ nf ≠ g ∧ w1.heap.size ≤ nf ∧ w1.heap.size ≤ g ∧ Below w1.heap.size w1 wx)
  case first =>
    go_region
    · go_wp2_with fail
      go_meet
      exact ⟨_, w1.heap.size, rfl, ⟨by simp [go_sem], by simp [go_sem], by simp [go_sem], by simp [go_sem], by simp [go_sem]⟩, ((World.rowIs_made w1 _ len _).alloc _).drew, by omega, by omega, by omega, (((Below.refl _ _).alloc (Nat.le_refl _) _).alloc (by simp) _).drew⟩
    · go_wp2_with fail
      go_meet
      have hr := World.rowIs_made (w1.alloc (.cells #[.int .i64 x, .int .i64 y, .int .i64 v, .int .i64 h, .slice (some ⟨w1.heap.size + 1, 0, none⟩) len len] 26)) (.float .f32 0) len 27
      simp only [World.size_alloc] at hr
      exact ⟨_, w1.heap.size + 1, rfl, ⟨by simp [go_sem], by simp [go_sem], by simp [go_sem], by simp [go_sem], by simp [go_sem]⟩, hr.drew, by omega, by omega, by omega, (((Below.refl _ _).alloc (Nat.le_refl _) _).alloc (by simp) _).drew⟩
  case rest =>
    obtain ⟨nf, g, rfl, hF, hrow, hne2, hn1, hg1, hbx⟩ := hcut
    have hbw : b < w.heap.size := cell_lt (hcell 0 hlen0)
    have hcw : ∀ i, i < len → wc.cell? ⟨b, off + i, none⟩ = some (.int .i64 (zs.getD i 0)) := fun i hi => by
      rw [hbx.cell (p := ⟨b, off + i, none⟩) (by simp; omega), hb1.cell (p := ⟨b, off + i, none⟩) (by simp; omega), ← hcell i hi]
      exact World.cell?_of_block (w := w) (by rw [Below.heap_alloc _ _ _ (by simp; omega), Below.heap_alloc _ _ _ (by omega)])
    have hqx := hbx.size
    have hgl := hrow.lt
    have hnl : nf < wc.heap.size := cell_lt hF.c0
    clear hcell hc1 hf1
    go_wp2_with fail
    go_loopw [39] (fun i wr => ∃ k : Nat, k ≤ N ∧ i = .int .i64 k ∧ wr.rowIs g 27 len (fun j => if j < k then .float .f32 (valueF (zs.getD j 0) d) else .float .f32 0) ∧ wc.grownBy wr (some g)) (fun i _ => N - (intOf i).toNat)
    case atStart => exact ⟨0, Nat.zero_le _, rfl, by simpa using hrow, World.grownBy.refl _ _⟩
    case round =>
      obtain ⟨k, hk, rfl, hrw, hgr⟩ := hrel
      by_cases hlN : k < N
      · have hlt : k < len := by omega
        have hzc : wr.cell? ⟨b, off + k, none⟩ = some (.int .i64 (zs.getD k 0)) := by rw [World.cell?_of_block (hgr.block b (by omega) (by simp; omega))]; exact hcw k hlt
        have hF4 : wr.cell? ⟨nf, 4, none⟩ = some (.slice (some ⟨g, 0, none⟩) len len) := by rw [World.cell?_of_block (hgr.block nf (by omega) (by simp; omega))]; exact hF.c4
        have hzb := hz k hlN
        obtain ⟨z, hzz⟩ : ∃ z, z = zs.getD k 0 := ⟨_, rfl⟩
        rw [← hzz] at hzc hzb
        have HZ := Lib.hid hzz; clear hzz hcw hz
        obtain ⟨z1, z2⟩ := hzb
        have hgw : g < wr.heap.size := hrw.lt
        have hnw : nf < wr.heap.size := cell_lt hF4
        have hqr := hgr.size
        go_wp2_with fail
        refine wp_region_loose 7 (fun f args u => f = 125 ∧ args = #[.int .i64 z, .int .i64 d] ∧ u = .float .f32 (valueF z d)) (by kernel_rfl) (by kernel_rfl) ?_
        simp only [List.take_succ_cons, List.take_zero, List.drop_succ_cons, List.drop_zero]
        repeat (refine loose_wanted rfl (fun K hK => ?_); go_simp; refine hK _ ?_; clear hK K)
        refine loose_step rfl (fun K hK => ?_)
        go_simp
        refine ⟨fun p => (value_any _ _ _ ⟨by omega, by omega⟩ (by omega)).mono ?_, ?_⟩
        · rintro e w' ⟨m, rfl, rfl⟩
          exact ⟨_, rfl, rfl, below_drewN p.h m⟩
        refine hK _ ?_
        clear hK K
        repeat (refine loose_wanted rfl (fun K hK => ?_); go_simp; refine hK _ ?_; clear hK K)
        refine loose_nil (fun w2 hb2 => ?_)
        have hr2 : w2.rowIs g 27 len _ := hrw.of_block (hb2.block g hgw)
        have hx2 : w2.cell? ⟨g, k, none⟩ = some (.float .f32 0) := by have := hr2.cell hlt; rw [this]; simp
        have hf2 : w2.frozen? ⟨g, k, none⟩ = false := hr2.frozen k
        go_wp2_with fail
        go_roundw
        case rel =>
          refine ⟨k + 1, by omega, by go_num, (hr2.set k _).congr (fun j hj => ?_), ?_⟩
          · by_cases hjk : j = k
            · subst hjk; simp [HZ.out]
            · simp only [hjk, if_false]
              by_cases h : j < k
              · rw [if_pos h, if_pos (by omega)]
              · rw [if_neg h, if_neg (by omega)]
          · exact grown_step hgr hb2 _
        case measure => simp [intOf]; omega
      · have hke : k = N := by omega
        subst hke
        clear hz
        have hblk : wr.heap[w.heap.size + 1]? = some (.cells #[.int .i64 0, .int .i64 0, .int .i64 0, .int .i64 0, .slice none 0 0] 26 (0, 0)) := by
          rw [hgr.block _ (by omega) (by simp; omega), hbx.block _ (by omega), hb1.block _ (by simp)]
          have hh := heap_alloc_new (w.alloc (.cells #[.int .i64 x, .int .i64 y, .int .i64 v, .int .i64 h] 23)) (.cells #[.int .i64 0, .int .i64 0, .int .i64 0, .int .i64 0, .slice none 0 0] 26)
          rw [World.size_alloc] at hh
          exact hh
        have q0 : wr.cell? ⟨w.heap.size + 1, 0, none⟩ = some (.int .i64 0) := by simp [World.cell?, hblk]
        have q1 : wr.cell? ⟨w.heap.size + 1, 1, none⟩ = some (.int .i64 0) := by simp [World.cell?, hblk]
        have q2 : wr.cell? ⟨w.heap.size + 1, 2, none⟩ = some (.int .i64 0) := by simp [World.cell?, hblk]
        have q3 : wr.cell? ⟨w.heap.size + 1, 3, none⟩ = some (.int .i64 0) := by simp [World.cell?, hblk]
        have q4 : wr.cell? ⟨w.heap.size + 1, 4, none⟩ = some (.slice none 0 0) := by simp [World.cell?, hblk]
        have qf : ∀ o, wr.frozen? ⟨w.heap.size + 1, o, none⟩ = false := by intro o; simp [World.frozen?, hblk]
        have hnb := hgr.block nf (by omega) (by simp; omega)
        have f0 : wr.cell? ⟨nf, 0, none⟩ = some (.int .i64 x) := by rw [World.cell?_of_block hnb]; exact hF.c0
        have f1 : wr.cell? ⟨nf, 1, none⟩ = some (.int .i64 y) := by rw [World.cell?_of_block hnb]; exact hF.c1
        have f2 : wr.cell? ⟨nf, 2, none⟩ = some (.int .i64 v) := by rw [World.cell?_of_block hnb]; exact hF.c2
        have f3 : wr.cell? ⟨nf, 3, none⟩ = some (.int .i64 h) := by rw [World.cell?_of_block hnb]; exact hF.c3
        have f4 : wr.cell? ⟨nf, 4, none⟩ = some (.slice (some ⟨g, 0, none⟩) len len) := by rw [World.cell?_of_block hnb]; exact hF.c4
        have hqr := hgr.size
        clear hmk
        have e0 : Below w.heap.size w wr := (((((Below.refl _ _).alloc (Nat.le_refl _) _).alloc (by simp) _).trans (hb1.mono (by simp; omega))).trans (hbx.mono (by omega))).grown hgr (by omega) (by intro j hj; cases hj; omega)
        by_cases hkl : k = len
        · subst hkl
          clear hcw hbad
          go_wp2_with fail
          refine bodyPost_ret (v := .tuple #[.agg #[.int .i64 x, .int .i64 y, .int .i64 v, .int .i64 h, .slice (some ⟨g, 0, none⟩) k k], .int .i64 0]) (by simp [results, Try.results40, go_sem, q0, q1, q2, q3, q4]) rfl (.inl ⟨rfl, g, rfl, by omega, fun i hi => ?_, ?_⟩)
          · have hr := hrw.cell hi
            simp only [hi, if_true] at hr
            rw [← hr]
            simp [go_sem]
          · exact ((((e0.setCell (by simp) _).setCell (by simp) _).setCell (by simp) _).setCell (by simp) _).setCell (by simp) _
        · have hlt : k < len := by omega
          have hzc : wr.cell? ⟨b, off + k, none⟩ = some (.int .i64 (zs.getD k 0)) := by rw [World.cell?_of_block (hgr.block b (by omega) (by simp; omega))]; exact hcw k hlt
          have hzb := hbad hlt
          generalize zs.getD k 0 = z at hzc hzb
          clear hcw hbad
          rcases hzb with hzb | hzb
          · go_wp2_with fail
            exact bodyPost_ret (v := .tuple #[.agg #[.int .i64 0, .int .i64 0, .int .i64 0, .int .i64 0, .slice none 0 0], .int .i64 3]) (by simp [results, Try.results40, go_sem, q0, q1, q2, q3, q4]) rfl (.inr ⟨hlt, rfl, ((((e0.setCell (by simp) _).setCell (by simp) _).setCell (by simp) _).setCell (by simp) _).setCell (by simp) _⟩)
          · by_cases hz0 : z < 0
            · omega
            · go_wp2_with fail
              exact bodyPost_ret (v := .tuple #[.agg #[.int .i64 0, .int .i64 0, .int .i64 0, .int .i64 0, .slice none 0 0], .int .i64 3]) (by simp [results, Try.results40, go_sem, q0, q1, q2, q3, q4]) rfl (.inr ⟨hlt, rfl, ((((e0.setCell (by simp) _).setCell (by simp) _).setCell (by simp) _).setCell (by simp) _).setCell (by simp) _⟩)
end Go.Proofs.Ytalgepfammpmbaa
