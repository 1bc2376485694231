/- What is wrong with a frame: frame.Check, dyeref2.FrameError. No condition. -/
import Derived.Test.YtalgepfammpmbaaGmA
namespace Go.Proofs.Ytalgepfammpmbaa
open Go.RowKit
/-- The error of a frame. -/
def fraErr (x y v h : Int) (len : Nat) : Int := if regErr x y v h = 0 then (if (len : Int) = 4 * v * h then 0 else 2) else regErr x y v h
theorem fraErr_ok {x y v h : Int} {len : Nat} (he : fraErr x y v h len = 0) : regErr x y v h = 0 ∧ (len : Int) = 4 * v * h := by
  unfold fraErr at he
  by_cases h1 : regErr x y v h = 0
  · rw [if_pos h1] at he
    by_cases h2 : (len : Int) = 4 * v * h
    · exact ⟨h1, h2⟩
    · rw [if_neg h2] at he; cases he
  · rw [if_neg h1] at he; exact absurd he h1
set_option maxRecDepth 100000 in
set_option maxHeartbeats 1600000 in
theorem FCheck_any (x y v h : Int) (a : Option Addr) (len cap : Nat) (w : World) : Calls Try.prog 113 #[.agg #[.int .i64 x, .int .i64 y, .int .i64 v, .int .i64 h, .slice a len cap]] w fun e w' => e = .returned (.int .i64 (fraErr x y v h len)) ∧ Below w.heap.size w w' := by
  unfold fraErr
  by_cases he : regErr x y v h = 0
  · rw [if_pos he]
    obtain ⟨r1, r2, r3, r4, r5, r6, -⟩ := regErr_ok he
    have hlt : 4 * v * h ≤ 65536 := by rw [Int.mul_assoc]; omega
    have hlt0 : 0 ≤ 4 * v * h := by rw [Int.mul_assoc]; omega
    clear r5 r6
    by_cases hl : (len : Int) = 4 * v * h
    · rw [if_pos hl]
      have hne : ((len : Int) != 4 * v * h) = false := by simpa using hl
      have hl' := Lib.hid hl; clear hl
      go_enter Try.func113, Try.ntmps113
      go_wp2_with (first | (go_at_call 131; refine (CheckRegion_any _ _ _ _ _).mono ?_; rintro e w1 ⟨rfl, hb1⟩; obtain ⟨hc1, hf1, hs1⟩ := bcell hb1; simp at hs1; have hq0 : w.heap.size < w1.heap.size := (by omega); rw [he]))
      go_ret
      refine ⟨rfl, ?_⟩
      (repeat (first | exact Below.refl _ _ | assumption | (refine Below.setCell ?_ (by first | (simp; done) | (simp; omega) | omega) _) | (refine Below.drew ?_) | (refine below_drewN ?_ _) | (refine Below.alloc ?_ (by first | (simp; done) | (simp; omega) | omega) _) | (refine Below.trans ?_ (Below.mono (by assumption) (by first | (simp; done) | (simp; omega) | omega)))))
    · rw [if_neg hl]
      have hne : ((len : Int) != 4 * v * h) = true := by simpa using hl
      have hl' := Lib.hid hl; clear hl
      go_enter Try.func113, Try.ntmps113
      go_wp2_with (first | (go_at_call 131; refine (CheckRegion_any _ _ _ _ _).mono ?_; rintro e w1 ⟨rfl, hb1⟩; obtain ⟨hc1, hf1, hs1⟩ := bcell hb1; simp at hs1; have hq0 : w.heap.size < w1.heap.size := (by omega); rw [he]))
      go_ret
      refine ⟨rfl, ?_⟩
      (repeat (first | exact Below.refl _ _ | assumption | (refine Below.setCell ?_ (by first | (simp; done) | (simp; omega) | omega) _) | (refine Below.drew ?_) | (refine below_drewN ?_ _) | (refine Below.alloc ?_ (by first | (simp; done) | (simp; omega) | omega) _) | (refine Below.trans ?_ (Below.mono (by assumption) (by first | (simp; done) | (simp; omega) | omega)))))
  · rw [if_neg he]
    have hc : (regErr x y v h != 0) = true := by simpa using he
    have he' := Lib.hid he; clear he
    go_enter Try.func113, Try.ntmps113
    go_wp2_with (first | (go_at_call 131; refine (CheckRegion_any _ _ _ _ _).mono ?_; rintro e w1 ⟨rfl, hb1⟩))
    go_ret
    refine ⟨rfl, ?_⟩
    (repeat (first | exact Below.refl _ _ | assumption | (refine Below.setCell ?_ (by first | (simp; done) | (simp; omega) | omega) _) | (refine Below.drew ?_) | (refine below_drewN ?_ _) | (refine Below.alloc ?_ (by first | (simp; done) | (simp; omega) | omega) _) | (refine Below.trans ?_ (Below.mono (by assumption) (by first | (simp; done) | (simp; omega) | omega)))))
end Go.Proofs.Ytalgepfammpmbaa
