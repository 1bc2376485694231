/- LevelsAsFrames: the walk of the statement. No condition. -/
import Derived.Test.YtmnmcmmhnbnndaaLevD
namespace Go.Proofs.Ytmnmcmmhnbnndaa
open Go.RowKit

set_option maxRecDepth 100000 in
set_option maxHeartbeats 800000 in
theorem laf_a (x y v h d : Int) (a : Option Addr) (len cap : Nat) (w : World) (hx : -9223372036854775808 ≤ x ∧ x ≤ 9223372036854775807) (hy : -9223372036854775808 ≤ y ∧ y ≤ 9223372036854775807) (hE : regErr x y v h ≠ 0) :
    Calls Try.prog 3 #[.agg #[.int .i64 x, .int .i64 y, .int .i64 v, .int .i64 h], .slice a len cap, .int .i64 d] w fun e w' => e = .returned (.bool true) ∧ Below w.heap.size w w' := by
  have hf : frameErr x y v h d = regErr x y v h := by unfold frameErr; rw [if_pos hE]
  have hfc : ∀ b, firstE (regErr x y v h) b = regErr x y v h := fun b => firstE_of b hE
  have hc0 : (regErr x y v h == 0) = false := by simpa using hE
  have hc1 : (regErr x y v h != 0) = true := by simpa using hE
  replace hE : regErr x y v h ≠ 0 ∨ inB d 1 16 = false ∨ (len : Int) ≠ 4 * v * h := .inl hE
  have hE' := Lib.hid hE; clear hE
  have hx' := Lib.hid hx; clear hx
  have hy' := Lib.hid hy; clear hy
  go_enter Try.func3, Try.ntmps3
  go_wp2_with (first | (go_at_call 17; refine (Frame_err _ _ _ _ _ _ _ _ _ hE'.out).mono ?_; rintro e w1 ⟨rfl, hb1⟩; obtain ⟨hc1, hf1, hs1⟩ := bcell hb1; simp at hs1; have hq0 : w.heap.size < w1.heap.size := (by omega)) | (go_at_call 19; refine (RegionError_any _ _ _ _ _ hx'.out hy'.out).mono ?_; rintro e w2 ⟨rfl, hb2⟩; obtain ⟨hc2, hf2, hs2⟩ := bcell hb2; simp at hs2; have hr0 : w.heap.size < w2.heap.size := (by omega); have hr1 : w1.heap.size < w2.heap.size := (by omega)) | (go_at_call 21; refine (In_any _ _ _ _).mono ?_; rintro e w' ⟨rfl, rfl⟩) | (go_at_call 20; refine (When_any _ _ _).mono ?_; rintro e w' ⟨rfl, rfl⟩) | (go_at_call 18; refine (First2_new _ _ _ _ _ (heap_new _ _ _ (by simp))).mono ?_; rintro e w' ⟨rfl, rfl⟩) | (go_at_call 22; refine (finishes_any _).mono ?_; rintro e w' ⟨n, rfl, rfl⟩) | (go_at_call 23; refine (none_any _ _ _ _ _ _ _ _).mono ?_; rintro e w3 ⟨rfl, hb3⟩; have hs3 := hb3.size; simp at hs3))
  go_ret
  refine ⟨rfl, ?_⟩
  (repeat (first | exact Below.refl _ _ | assumption | (refine Below.setCell ?_ (by first | (simp; done) | (simp; omega) | omega) _) | (refine Below.drew ?_) | (refine below_drewN ?_ _) | (refine Below.alloc ?_ (by first | (simp; done) | (simp; omega) | omega) _) | (refine Below.trans ?_ (Below.mono (by assumption) (by first | (simp; done) | (simp; omega) | omega)))))
set_option maxRecDepth 100000 in
set_option maxHeartbeats 800000 in
theorem laf_b (x y v h d : Int) (a : Option Addr) (len cap : Nat) (w : World) (hx : -9223372036854775808 ≤ x ∧ x ≤ 9223372036854775807) (hy : -9223372036854775808 ≤ y ∧ y ≤ 9223372036854775807) (hr : regErr x y v h = 0) (hd : inB d 1 16 = false) :
    Calls Try.prog 3 #[.agg #[.int .i64 x, .int .i64 y, .int .i64 v, .int .i64 h], .slice a len cap, .int .i64 d] w fun e w' => e = .returned (.bool true) ∧ Below w.heap.size w w' := by
  have hf : frameErr x y v h d = 3 := by unfold frameErr; rw [if_neg (by simpa using hr), if_pos hd]
  have hE : regErr x y v h ≠ 0 ∨ inB d 1 16 = false ∨ (len : Int) ≠ 4 * v * h := .inr (.inl hd)
  have hE' := Lib.hid hE; clear hE
  have hx' := Lib.hid hx; clear hx
  have hy' := Lib.hid hy; clear hy
  go_enter Try.func3, Try.ntmps3
  go_wp2_with (first | (go_at_call 17; refine (Frame_err _ _ _ _ _ _ _ _ _ hE'.out).mono ?_; rintro e w1 ⟨rfl, hb1⟩; obtain ⟨hc1, hf1, hs1⟩ := bcell hb1; simp at hs1; have hq0 : w.heap.size < w1.heap.size := (by omega)) | (go_at_call 19; refine (RegionError_any _ _ _ _ _ hx'.out hy'.out).mono ?_; rintro e w2 ⟨rfl, hb2⟩; obtain ⟨hc2, hf2, hs2⟩ := bcell hb2; simp at hs2; have hr0 : w.heap.size < w2.heap.size := (by omega); have hr1 : w1.heap.size < w2.heap.size := (by omega)) | (go_at_call 21; refine (In_any _ _ _ _).mono ?_; rintro e w' ⟨rfl, rfl⟩) | (go_at_call 20; refine (When_any _ _ _).mono ?_; rintro e w' ⟨rfl, rfl⟩) | (go_at_call 18; refine (First2_new _ _ _ _ _ (heap_new _ _ _ (by simp))).mono ?_; rintro e w' ⟨rfl, rfl⟩) | (go_at_call 22; refine (finishes_any _).mono ?_; rintro e w' ⟨n, rfl, rfl⟩) | (go_at_call 23; refine (none_any _ _ _ _ _ _ _ _).mono ?_; rintro e w3 ⟨rfl, hb3⟩; have hs3 := hb3.size; simp at hs3))
  go_ret
  refine ⟨rfl, ?_⟩
  (repeat (first | exact Below.refl _ _ | assumption | (refine Below.setCell ?_ (by first | (simp; done) | (simp; omega) | omega) _) | (refine Below.drew ?_) | (refine below_drewN ?_ _) | (refine Below.alloc ?_ (by first | (simp; done) | (simp; omega) | omega) _) | (refine Below.trans ?_ (Below.mono (by assumption) (by first | (simp; done) | (simp; omega) | omega)))))
set_option maxRecDepth 100000 in
set_option maxHeartbeats 800000 in
theorem laf_c (x y v h d : Int) (a : Option Addr) (len cap : Nat) (w : World) (hx : -9223372036854775808 ≤ x ∧ x ≤ 9223372036854775807) (hy : -9223372036854775808 ≤ y ∧ y ≤ 9223372036854775807) (hr : regErr x y v h = 0) (hd : inB d 1 16 = true) (hl : (len : Int) ≠ 4 * v * h) :
    Calls Try.prog 3 #[.agg #[.int .i64 x, .int .i64 y, .int .i64 v, .int .i64 h], .slice a len cap, .int .i64 d] w fun e w' => e = .returned (.bool true) ∧ Below w.heap.size w w' := by
  have hf : frameErr x y v h d = 2 := by unfold frameErr; rw [if_neg (by simpa using hr), if_neg (by simp [hd])]
  have hE : regErr x y v h ≠ 0 ∨ inB d 1 16 = false ∨ (len : Int) ≠ 4 * v * h := .inr (.inr hl)
  have hE' := Lib.hid hE; clear hE
  obtain ⟨r1, r2, r3, r4, r5, r6, -⟩ := regErr_ok hr
  have hlt : 4 * v * h ≤ 65536 := by rw [Int.mul_assoc]; omega
  have hlt0 : 0 ≤ 4 * v * h := by rw [Int.mul_assoc]; omega
  have hne : ((len : Int) != 4 * v * h) = true := by simpa using hl
  clear hl r5 r6
  have hx' := Lib.hid hx; clear hx
  have hy' := Lib.hid hy; clear hy
  go_enter Try.func3, Try.ntmps3
  go_wp2_with (first | (go_at_call 17; refine (Frame_err _ _ _ _ _ _ _ _ _ hE'.out).mono ?_; rintro e w1 ⟨rfl, hb1⟩; obtain ⟨hc1, hf1, hs1⟩ := bcell hb1; simp at hs1; have hq0 : w.heap.size < w1.heap.size := (by omega)) | (go_at_call 19; refine (RegionError_any _ _ _ _ _ hx'.out hy'.out).mono ?_; rintro e w2 ⟨rfl, hb2⟩; obtain ⟨hc2, hf2, hs2⟩ := bcell hb2; simp at hs2; have hr0 : w.heap.size < w2.heap.size := (by omega); have hr1 : w1.heap.size < w2.heap.size := (by omega)) | (go_at_call 21; refine (In_any _ _ _ _).mono ?_; rintro e w' ⟨rfl, rfl⟩) | (go_at_call 20; refine (When_any _ _ _).mono ?_; rintro e w' ⟨rfl, rfl⟩) | (go_at_call 18; refine (First2_new _ _ _ _ _ (heap_new _ _ _ (by simp))).mono ?_; rintro e w' ⟨rfl, rfl⟩) | (go_at_call 22; refine (finishes_any _).mono ?_; rintro e w' ⟨n, rfl, rfl⟩) | (go_at_call 23; refine (none_any _ _ _ _ _ _ _ _).mono ?_; rintro e w3 ⟨rfl, hb3⟩; have hs3 := hb3.size; simp at hs3))
  go_ret
  refine ⟨rfl, ?_⟩
  (repeat (first | exact Below.refl _ _ | assumption | (refine Below.setCell ?_ (by first | (simp; done) | (simp; omega) | omega) _) | (refine Below.drew ?_) | (refine below_drewN ?_ _) | (refine Below.alloc ?_ (by first | (simp; done) | (simp; omega) | omega) _) | (refine Below.trans ?_ (Below.mono (by assumption) (by first | (simp; done) | (simp; omega) | omega)))))
end Go.Proofs.Ytmnmcmmhnbnndaa
