/- Smoothing a cube, in the document: dyeref2.SmoothedOf; wrong smoothings: cube.Smoothed. Conditions: where the cube is right, its singles are known. -/
import Derived.Test.YtalgepfammpmbaaCuG
import Derived.Test.YtalgepfammpmbaaCuH
import Derived.Test.YtalgepfammpmbaaCuD
namespace Go.Proofs.Ytalgepfammpmbaa
open Go.RowKit
theorem cub_ok_nat {S : Nat} {lo hi n : Nat} (he : cubErr S lo hi n = 0) : S ≤ 17 ∧ 2 ≤ S ∧ n = 3 * (S * S * S) ∧ 8 ≤ S * S * S ∧ n ≤ 14739 := by
  obtain ⟨⟨s1, s2⟩, hn', -⟩ := cubErr_ok he
  have hS : S ≤ 17 := by omega
  have hn : n = 3 * (S * S * S) := by
    have := (cub_bd (size := (S : Int)) ⟨by omega, by omega⟩).2.2.1
    rw [this] at hn'; simp only [← Int.natCast_mul] at hn'; omega
  have hpos : 8 ≤ S * S * S := by
    have := (cub_bd (size := (S : Int)) ⟨by omega, by omega⟩).1
    simp only [← Int.natCast_mul] at this; omega
  have := (cub_nat hS).2
  exact ⟨hS, by omega, hn, hpos, by omega⟩
set_option maxRecDepth 100000 in
set_option maxHeartbeats 1600000 in
theorem SmoothedOf_yes (S : Nat) (lo hi b off n cap : Nat) (fs : Nat → Nat) (w : World) (hS : S ≤ 17) (hS0 : 2 ≤ S) (hn : n = 3 * (S * S * S)) (hc : Row w b off n fs) :
    Calls Try.prog 69 #[.agg #[.int .i64 S, .float .f32 lo, .float .f32 hi, .slice (some ⟨b, off, none⟩) n cap]] w fun e w' =>
      ∃ g cap', e = .returned (.agg #[.int .i64 S, .float .f32 lo, .float .f32 hi, .slice (some ⟨g, 0, none⟩) n cap']) ∧ w.heap.size ≤ g ∧ g < w'.heap.size ∧ Row w' g 0 n (fun x => softG S fs (x / 3) (x % 3)) ∧ Below w.heap.size w w' := by
  have hpos : 0 < n := by have := Nat.mul_pos (Nat.mul_pos (show 0 < S by omega) (show 0 < S by omega)) (show 0 < S by omega); omega
  have hbw := hc.lt hpos
  have HC := Lib.hid (And.intro hc hn)
  clear hc hn
  go_enter Try.func69, Try.ntmps69
  go_wp2_with fail
  refine calls_world (fun W hW => ?_)
  have BW : Below w.heap.size w W := by rw [hW]; (repeat (first | exact Below.refl _ _ | assumption | (refine Below.setCell ?_ (by first | (simp; done) | (simp; omega) | omega) _) | (refine Below.drew ?_) | (refine below_drewN ?_ _) | (refine Below.alloc ?_ (by first | (simp; done) | (simp; omega) | omega) _) | (refine Below.trans ?_ (Below.mono (by assumption) (by first | (simp; done) | (simp; omega) | omega)))))
  have CB : Blk W w.heap.size (cubL S lo hi (.slice (some ⟨b, off, none⟩) n cap)) := by rw [hW]; exact (Blk.new _ _ _ _ rfl).alloc _
  have ZB : Blk W (w.heap.size + 1) [.int .i64 0, .float .f32 0, .float .f32 0, .slice none 0 0] := by rw [hW]; exact Blk.new _ _ _ _ (by simp)
  have HW := Lib.hid (And.intro CB (And.intro ZB BW))
  clear hW BW CB ZB
  refine (MadeOf_any 155 #[.pointer (some ⟨w.heap.size, 0, none⟩)] S lo hi (softG S fs) W hS (by omega) (body_enters Try.func155 (by kernel_rfl) rfl) (fun i j k w' hi hj hk hb => (sof_any S i j k lo _ b off n cap w.heap.size fs w' hS hi hj hk HC.out.2 (HC.out.1.below (HW.out.2.2.trans (hb.mono HW.out.2.2.size)) hbw) (HW.out.1.past hb)).mono ?_)).mono ?_
  · rintro e w'' ⟨⟨q, rfl, hq⟩, hb⟩
    exact ⟨⟨q, rfl, fun c hc => by
      obtain ⟨d1, d2, d3⟩ := enI_dec (k := k) hi hj
      unfold softG; rw [d1, d2, d3]; exact hq c hc⟩, hb⟩
  rintro e w3 ⟨g, cap3, rfl, hg1, hg2, hg3, hg4, hrow, hb3⟩
  rw [← HC.out.2] at hrow ⊢
  have Z3 := HW.out.2.1.past hb3
  have B3 := HW.out.2.2.trans (hb3.mono HW.out.2.2.size)
  have HR := Lib.hid (And.intro hrow hg2)
  have lsz := HW.out.2.2.size
  have lz := HW.out.2.1.lt
  clear hb3 hrow hg3 hg4
  have z0 := Z3.c 0 _ rfl; have z1 := Z3.c 1 _ rfl; have z2 := Z3.c 2 _ rfl; have z3 := Z3.c 3 _ rfl; have zf := Z3.f; have zl := Z3.lt
  clear Z3
  go_wp2_with fail
  refine bodyPost_ret (v := .agg #[.int .i64 S, .float .f32 lo, .float .f32 hi, .slice (some ⟨g, 0, none⟩) n cap3]) (by simp [results, Try.results69, go_sem, z0, z1, z2, z3]) rfl ⟨g, cap3, rfl, by omega, by have := HR.out.2; simpa [World.setCell] using this, ?_, ?_⟩
  · exact (((HR.out.1.far _ _ (by simp; omega)).far _ _ (by simp; omega)).far _ _ (by simp; omega)).far _ _ (by simp; omega)
  · exact (((B3.setCell (by first | (simp; done) | (simp; omega) | omega) _).setCell (by first | (simp; done) | (simp; omega) | omega) _).setCell (by first | (simp; done) | (simp; omega) | omega) _).setCell (by first | (simp; done) | (simp; omega) | omega) _
/-- What is wrong with a smoothing. -/
def smoE (size : Int) (lo hi n : Nat) (T : Int) : Int := firstE (cubErr size lo hi n) (whenE (!inB T 0 8) 3)
set_option maxRecDepth 100000 in
set_option maxHeartbeats 1600000 in
theorem Smoothed_no (size : Int) (lo hi : Nat) (a : Option Addr) (n cap : Nat) (T : Int) (w : World) (hE : smoE size lo hi n T ≠ 0) :
    Calls Try.prog 62 #[.agg #[.int .i64 size, .float .f32 lo, .float .f32 hi, .slice a n cap], .int .i64 T] w fun e w' =>
      e = .returned (.tuple #[.agg #[.int .i64 0, .float .f32 0, .float .f32 0, .slice none 0 0], .int .i64 (smoE size lo hi n T)]) ∧ Below w.heap.size w w' := by
  by_cases he : cubErr size lo hi n = 0
  · have hT : inB T 0 8 = false := by
      unfold smoE at hE; rw [he] at hE
      cases h : inB T 0 8
      · rfl
      · rw [h] at hE; exact absurd rfl hE
    have e3 : smoE size lo hi n T = 3 := by unfold smoE; rw [he, hT]; rfl
    rw [e3]
    clear hE e3
    have hT2 : T < 0 ∨ 8 < T := by
      by_cases h : 0 ≤ T ∧ T ≤ 8
      · rw [inB_t h] at hT; cases hT
      · omega
    clear hT
    rcases hT2 with hT2 | hT2
    · go_enter Try.func62, Try.ntmps62
      go_wp2_with (first | ((go_at_call 82; refine (CuCheck_any _ _ _ _ _ _ _).mono ?_; rintro e w1 ⟨rfl, hb1⟩; have hs1 := hb1.size; simp at hs1; have B1 : Below w.heap.size w w1 := (by (repeat (first | exact Below.refl _ _ | assumption | (refine Below.setCell ?_ (by first | (simp; done) | (simp; omega) | omega) _) | (refine Below.drew ?_) | (refine below_drewN ?_ _) | (refine Below.alloc ?_ (by first | (simp; done) | (simp; omega) | omega) _) | (refine Below.trans ?_ (Below.mono (by assumption) (by first | (simp; done) | (simp; omega) | omega)))))); have ZB : Blk w1 (w.heap.size + 1) [.int .i64 0, .float .f32 0, .float .f32 0, .slice none 0 0] := (Blk.new _ _ _ _ (by first | (simp; done) | (simp; omega) | omega)).past hb1; clear hb1; have z0 := ZB.c 0 _ rfl; have z1 := ZB.c 1 _ rfl; have z2 := ZB.c 2 _ rfl; have z3 := ZB.c 3 _ rfl; have zf := ZB.f; have zl := ZB.lt; clear ZB); rw [he]))
      refine bodyPost_ret (v := .tuple #[.agg #[.int .i64 0, .float .f32 0, .float .f32 0, .slice none 0 0], .int .i64 3]) (by simp [results, Try.results62, go_sem, z0, z1, z2, z3]) rfl ⟨rfl, ?_⟩
      exact (((B1.setCell (by first | (simp; done) | (simp; omega) | omega) _).setCell (by first | (simp; done) | (simp; omega) | omega) _).setCell (by first | (simp; done) | (simp; omega) | omega) _).setCell (by first | (simp; done) | (simp; omega) | omega) _
    · have hT3 : ¬ T < 0 := by omega
      go_enter Try.func62, Try.ntmps62
      go_wp2_with (first | ((go_at_call 82; refine (CuCheck_any _ _ _ _ _ _ _).mono ?_; rintro e w1 ⟨rfl, hb1⟩; have hs1 := hb1.size; simp at hs1; have B1 : Below w.heap.size w w1 := (by (repeat (first | exact Below.refl _ _ | assumption | (refine Below.setCell ?_ (by first | (simp; done) | (simp; omega) | omega) _) | (refine Below.drew ?_) | (refine below_drewN ?_ _) | (refine Below.alloc ?_ (by first | (simp; done) | (simp; omega) | omega) _) | (refine Below.trans ?_ (Below.mono (by assumption) (by first | (simp; done) | (simp; omega) | omega)))))); have ZB : Blk w1 (w.heap.size + 1) [.int .i64 0, .float .f32 0, .float .f32 0, .slice none 0 0] := (Blk.new _ _ _ _ (by first | (simp; done) | (simp; omega) | omega)).past hb1; clear hb1; have z0 := ZB.c 0 _ rfl; have z1 := ZB.c 1 _ rfl; have z2 := ZB.c 2 _ rfl; have z3 := ZB.c 3 _ rfl; have zf := ZB.f; have zl := ZB.lt; clear ZB); rw [he]))
      refine bodyPost_ret (v := .tuple #[.agg #[.int .i64 0, .float .f32 0, .float .f32 0, .slice none 0 0], .int .i64 3]) (by simp [results, Try.results62, go_sem, z0, z1, z2, z3]) rfl ⟨rfl, ?_⟩
      exact (((B1.setCell (by first | (simp; done) | (simp; omega) | omega) _).setCell (by first | (simp; done) | (simp; omega) | omega) _).setCell (by first | (simp; done) | (simp; omega) | omega) _).setCell (by first | (simp; done) | (simp; omega) | omega) _
  · have e3 : smoE size lo hi n T = cubErr size lo hi n := by unfold smoE; rw [firstE_of _ he]
    rw [e3]
    have hc : (cubErr size lo hi n != 0) = true := by simpa using he
    clear hE e3 he
    go_enter Try.func62, Try.ntmps62
    go_wp2_with (first | (go_at_call 82; refine (CuCheck_any _ _ _ _ _ _ _).mono ?_; rintro e w1 ⟨rfl, hb1⟩; have hs1 := hb1.size; simp at hs1; have B1 : Below w.heap.size w w1 := (by (repeat (first | exact Below.refl _ _ | assumption | (refine Below.setCell ?_ (by first | (simp; done) | (simp; omega) | omega) _) | (refine Below.drew ?_) | (refine below_drewN ?_ _) | (refine Below.alloc ?_ (by first | (simp; done) | (simp; omega) | omega) _) | (refine Below.trans ?_ (Below.mono (by assumption) (by first | (simp; done) | (simp; omega) | omega)))))); have ZB : Blk w1 (w.heap.size + 1) [.int .i64 0, .float .f32 0, .float .f32 0, .slice none 0 0] := (Blk.new _ _ _ _ (by first | (simp; done) | (simp; omega) | omega)).past hb1; clear hb1; have z0 := ZB.c 0 _ rfl; have z1 := ZB.c 1 _ rfl; have z2 := ZB.c 2 _ rfl; have z3 := ZB.c 3 _ rfl; have zf := ZB.f; have zl := ZB.lt; clear ZB))
    refine bodyPost_ret (v := .tuple #[.agg #[.int .i64 0, .float .f32 0, .float .f32 0, .slice none 0 0], .int .i64 (cubErr size lo hi n)]) (by simp [results, Try.results62, go_sem, z0, z1, z2, z3]) rfl ⟨rfl, ?_⟩
    exact (((B1.setCell (by first | (simp; done) | (simp; omega) | omega) _).setCell (by first | (simp; done) | (simp; omega) | omega) _).setCell (by first | (simp; done) | (simp; omega) | omega) _).setCell (by first | (simp; done) | (simp; omega) | omega) _
end Go.Proofs.Ytalgepfammpmbaa
