/- A frame of levels (finish.Frame): the errors ahead of the levels; the statement's own walk. No condition. -/
import Derived.Test.YtmnmcmmhnbnndaaLevC
namespace Go.Proofs.Ytmnmcmmhnbnndaa
open Go.RowKit

/-- The errors of Frame ahead of the levels. -/
def frameErr (x y v h d : Int) : Int := if regErr x y v h ≠ 0 then regErr x y v h else if inB d 1 16 = false then 3 else 2
set_option maxHeartbeats 800000 in
theorem Frame_err (x y v h d : Int) (a : Option Addr) (len cap : Nat) (w : World) (hE : regErr x y v h ≠ 0 ∨ inB d 1 16 = false ∨ (len : Int) ≠ 4 * v * h) :
    Calls Try.prog 17 #[.agg #[.int .i64 x, .int .i64 y, .int .i64 v, .int .i64 h], .slice a len cap, .int .i64 d] w fun e w' =>
      e = .returned (.tuple #[.agg #[.int .i64 0, .int .i64 0, .int .i64 0, .int .i64 0, .slice none 0 0], .int .i64 (frameErr x y v h d)]) ∧ Below w.heap.size w w' := by
  by_cases h1 : regErr x y v h = 0
  · by_cases h2 : inB d 1 16 = false
    · have hf : frameErr x y v h d = 3 := by unfold frameErr; rw [if_neg (by simpa using h1), if_pos h2]
      rw [hf]
      clear hE hf
      go_enter Try.func17, Try.ntmps17
      go_wp2_with (first | (go_at_call 111; refine (CheckRegion_any _ _ _ _ _).mono ?_; rintro e w1 ⟨rfl, hb1⟩; obtain ⟨hc1, hf1, hs1⟩ := bcell hb1; simp at hs1; have hq0 : w.heap.size < w1.heap.size := (by omega); have hq1 : w.heap.size + 1 < w1.heap.size := (by omega)) | (go_at_call 112; refine (deep_any _ _).mono ?_; rintro e w' ⟨rfl, rfl⟩))
      refine bodyPost_ret (v := .tuple #[.agg #[.int .i64 0, .int .i64 0, .int .i64 0, .int .i64 0, .slice none 0 0], .int .i64 3]) (by simp [results, Try.results17, go_sem, *]) rfl ⟨rfl, ?_⟩
      (repeat (first | exact Below.refl _ _ | assumption | (refine Below.setCell ?_ (by first | (simp; done) | (simp; omega) | omega) _) | (refine Below.drew ?_) | (refine below_drewN ?_ _) | (refine Below.alloc ?_ (by first | (simp; done) | (simp; omega) | omega) _) | (refine Below.trans ?_ (Below.mono (by assumption) (by first | (simp; done) | (simp; omega) | omega)))))
    · have hf : frameErr x y v h d = 2 := by unfold frameErr; rw [if_neg (by simpa using h1), if_neg h2]
      rw [hf]
      have h3 : (len : Int) ≠ 4 * v * h := by
        rcases hE with hE | hE | hE
        · exact absurd h1 hE
        · exact absurd hE h2
        · exact hE
      have h2' : inB d 1 16 = true := by simpa using h2
      obtain ⟨r1, r2, r3, r4, r5, r6, -⟩ := regErr_ok h1
      have hlt : 4 * v * h ≤ 65536 := by rw [Int.mul_assoc]; omega
      have hlt0 : 0 ≤ 4 * v * h := by rw [Int.mul_assoc]; omega
      have hne : ((len : Int) != 4 * v * h) = true := by simpa using h3
      clear hE hf h3
      go_enter Try.func17, Try.ntmps17
      go_wp2_with (first | (go_at_call 111; refine (CheckRegion_any _ _ _ _ _).mono ?_; rintro e w1 ⟨rfl, hb1⟩; obtain ⟨hc1, hf1, hs1⟩ := bcell hb1; simp at hs1; have hq0 : w.heap.size < w1.heap.size := (by omega); have hq1 : w.heap.size + 1 < w1.heap.size := (by omega)) | (go_at_call 112; refine (deep_any _ _).mono ?_; rintro e w' ⟨rfl, rfl⟩))
      refine bodyPost_ret (v := .tuple #[.agg #[.int .i64 0, .int .i64 0, .int .i64 0, .int .i64 0, .slice none 0 0], .int .i64 2]) (by simp [results, Try.results17, go_sem, *]) rfl ⟨rfl, ?_⟩
      (repeat (first | exact Below.refl _ _ | assumption | (refine Below.setCell ?_ (by first | (simp; done) | (simp; omega) | omega) _) | (refine Below.drew ?_) | (refine below_drewN ?_ _) | (refine Below.alloc ?_ (by first | (simp; done) | (simp; omega) | omega) _) | (refine Below.trans ?_ (Below.mono (by assumption) (by first | (simp; done) | (simp; omega) | omega)))))
  · have hf : frameErr x y v h d = regErr x y v h := by unfold frameErr; rw [if_pos h1]
    rw [hf]
    have hne : (regErr x y v h != 0) = true := by simpa using h1
    clear hE hf h1
    go_enter Try.func17, Try.ntmps17
    go_wp2_with (first | (go_at_call 111; refine (CheckRegion_any _ _ _ _ _).mono ?_; rintro e w1 ⟨rfl, hb1⟩; obtain ⟨hc1, hf1, hs1⟩ := bcell hb1; simp at hs1; have hq0 : w.heap.size < w1.heap.size := (by omega); have hq1 : w.heap.size + 1 < w1.heap.size := (by omega)) | (go_at_call 112; refine (deep_any _ _).mono ?_; rintro e w' ⟨rfl, rfl⟩))
    refine bodyPost_ret (v := .tuple #[.agg #[.int .i64 0, .int .i64 0, .int .i64 0, .int .i64 0, .slice none 0 0], .int .i64 (regErr x y v h)]) (by simp [results, Try.results17, go_sem, *]) rfl ⟨rfl, ?_⟩
    (repeat (first | exact Below.refl _ _ | assumption | (refine Below.setCell ?_ (by first | (simp; done) | (simp; omega) | omega) _) | (refine Below.drew ?_) | (refine below_drewN ?_ _) | (refine Below.alloc ?_ (by first | (simp; done) | (simp; omega) | omega) _) | (refine Below.trans ?_ (Below.mono (by assumption) (by first | (simp; done) | (simp; omega) | omega)))))
end Go.Proofs.Ytmnmcmmhnbnndaa
