/- finish.Clip and the errors of finish.Compress, by their contracts. No condition. -/
import Derived.Test.YtalgepfammpmbaaClip
namespace Go.Proofs.Ytalgepfammpmbaa
open Go.RowKit
set_option maxRecDepth 100000 in
set_option maxHeartbeats 1600000 in
theorem Compress_form (p0 p1 p2 p3 f : Nat) (w : World) (hn : isNum .f32 f = false) :
    Calls Try.prog 43 #[.agg #[.float .f32 p0, .float .f32 p1, .float .f32 p2, .float .f32 p3], .float .f32 f] w fun e w' =>
      e = .returned (.tuple #[.agg #[.float .f32 0, .float .f32 0, .float .f32 0, .float .f32 0], .int .i64 2]) ∧ Below w.heap.size w w' := by
  go_enter Try.func43, Try.ntmps43
  go_wp2_with (first | (go_at_call 132; refine (IsNumber_any _ _).mono ?_; rintro e w' ⟨rfl, rfl⟩))
  refine bodyPost_ret (v := .tuple #[.agg #[.float .f32 0, .float .f32 0, .float .f32 0, .float .f32 0], .int .i64 2]) (by simp [results, Try.results43, go_sem, *]) rfl ⟨rfl, ?_⟩
  (repeat (first | exact Below.refl _ _ | assumption | (refine Below.setCell ?_ (by first | (simp; done) | (simp; omega) | omega) _) | (refine Below.drew ?_) | (refine below_drewN ?_ _) | (refine Below.alloc ?_ (by first | (simp; done) | (simp; omega) | omega) _) | (refine Below.trans ?_ (Below.mono (by assumption) (by first | (simp; done) | (simp; omega) | omega)))))
set_option maxRecDepth 100000 in
set_option maxHeartbeats 1600000 in
theorem Compress_range (p0 p1 p2 p3 f : Nat) (w : World) (hn : isNum .f32 f = true) (hr : (FloatKind.f32.format.order f 0 == some .lt) = true ∨ (FloatKind.f32.format.order f 0 == some .lt) = false ∧ ((FloatKind.f32.format.order f 1065353216 == some .gt) || (FloatKind.f32.format.order f 1065353216 == some .eq)) = true) :
    Calls Try.prog 43 #[.agg #[.float .f32 p0, .float .f32 p1, .float .f32 p2, .float .f32 p3], .float .f32 f] w fun e w' =>
      e = .returned (.tuple #[.agg #[.float .f32 0, .float .f32 0, .float .f32 0, .float .f32 0], .int .i64 3]) ∧ Below w.heap.size w w' := by
  rcases hr with hr | ⟨hr, hq⟩
  · go_enter Try.func43, Try.ntmps43
    go_wp2_with (first | (go_at_call 132; refine (IsNumber_any _ _).mono ?_; rintro e w' ⟨rfl, rfl⟩))
    refine bodyPost_ret (v := .tuple #[.agg #[.float .f32 0, .float .f32 0, .float .f32 0, .float .f32 0], .int .i64 3]) (by simp [results, Try.results43, go_sem, *]) rfl ⟨rfl, ?_⟩
    (repeat (first | exact Below.refl _ _ | assumption | (refine Below.setCell ?_ (by first | (simp; done) | (simp; omega) | omega) _) | (refine Below.drew ?_) | (refine below_drewN ?_ _) | (refine Below.alloc ?_ (by first | (simp; done) | (simp; omega) | omega) _) | (refine Below.trans ?_ (Below.mono (by assumption) (by first | (simp; done) | (simp; omega) | omega)))))
  · rcases (Bool.or_eq_true_iff.1 hq) with hq | hq
    all_goals
      go_enter Try.func43, Try.ntmps43
      go_wp2_with (first | (go_at_call 132; refine (IsNumber_any _ _).mono ?_; rintro e w' ⟨rfl, rfl⟩))
      refine bodyPost_ret (v := .tuple #[.agg #[.float .f32 0, .float .f32 0, .float .f32 0, .float .f32 0], .int .i64 3]) (by simp [results, Try.results43, go_sem, *]) rfl ⟨rfl, ?_⟩
      (repeat (first | exact Below.refl _ _ | assumption | (refine Below.setCell ?_ (by first | (simp; done) | (simp; omega) | omega) _) | (refine Below.drew ?_) | (refine below_drewN ?_ _) | (refine Below.alloc ?_ (by first | (simp; done) | (simp; omega) | omega) _) | (refine Below.trans ?_ (Below.mono (by assumption) (by first | (simp; done) | (simp; omega) | omega)))))
/-- The error of bounds. -/
def clipE (lo hi : Nat) : Int := if allNum [lo, hi] then (if FloatKind.f32.format.order hi lo == some .lt then 8 else 0) else 2
set_option maxRecDepth 100000 in
set_option maxHeartbeats 1600000 in
theorem Clip_err (p0 p1 p2 p3 lo hi : Nat) (w : World) (hE : clipE lo hi ≠ 0) :
    Calls Try.prog 47 #[.agg #[.float .f32 p0, .float .f32 p1, .float .f32 p2, .float .f32 p3], .float .f32 lo, .float .f32 hi] w fun e w' =>
      e = .returned (.tuple #[.agg #[.float .f32 0, .float .f32 0, .float .f32 0, .float .f32 0], .int .i64 0, .int .i64 (clipE lo hi)]) ∧ Below w.heap.size w w' := by
  unfold clipE at hE ⊢
  cases ha : allNum [lo, hi] with
  | false =>
    simp only [Bool.false_eq_true, if_false]
    go_enter Try.func47, Try.ntmps47
    go_wp2_with (first | (go_at_call 114; refine (All2_any _ _ _ lo hi _ (by simp [go_sem]) (by simp [go_sem])).mono ?_; rintro e w' ⟨rfl, rfl⟩))
    refine bodyPost_ret (v := .tuple #[.agg #[.float .f32 0, .float .f32 0, .float .f32 0, .float .f32 0], .int .i64 0, .int .i64 2]) (by simp [results, Try.results47, go_sem, *]) rfl ⟨rfl, ?_⟩
    (repeat (first | exact Below.refl _ _ | assumption | (refine Below.setCell ?_ (by first | (simp; done) | (simp; omega) | omega) _) | (refine Below.drew ?_) | (refine below_drewN ?_ _) | (refine Below.alloc ?_ (by first | (simp; done) | (simp; omega) | omega) _) | (refine Below.trans ?_ (Below.mono (by assumption) (by first | (simp; done) | (simp; omega) | omega)))))
  | true =>
    cases ho : (FloatKind.f32.format.order hi lo == some .lt) with
    | false => exfalso; apply hE; rw [ha, ho]; rfl
    | true =>
      simp only [if_true]
      clear hE
      go_enter Try.func47, Try.ntmps47
      go_wp2_with (first | (go_at_call 114; refine (All2_any _ _ _ lo hi _ (by simp [go_sem]) (by simp [go_sem])).mono ?_; rintro e w' ⟨rfl, rfl⟩))
      refine bodyPost_ret (v := .tuple #[.agg #[.float .f32 0, .float .f32 0, .float .f32 0, .float .f32 0], .int .i64 0, .int .i64 8]) (by simp [results, Try.results47, go_sem, *]) rfl ⟨rfl, ?_⟩
      (repeat (first | exact Below.refl _ _ | assumption | (refine Below.setCell ?_ (by first | (simp; done) | (simp; omega) | omega) _) | (refine Below.drew ?_) | (refine below_drewN ?_ _) | (refine Below.alloc ?_ (by first | (simp; done) | (simp; omega) | omega) _) | (refine Below.trans ?_ (Below.mono (by assumption) (by first | (simp; done) | (simp; omega) | omega)))))
set_option maxRecDepth 100000 in
set_option maxHeartbeats 1600000 in
theorem Clip_yes (p0 p1 p2 p3 lo hi : Nat) (w : World) (hE : clipE lo hi = 0) :
    Calls Try.prog 47 #[.agg #[.float .f32 p0, .float .f32 p1, .float .f32 p2, .float .f32 p3], .float .f32 lo, .float .f32 hi] w fun e w' =>
      e = .returned (.tuple #[.agg #[.float .f32 (limF p0 lo hi), .float .f32 (limF p1 lo hi), .float .f32 (limF p2 lo hi), .float .f32 (cn .f32 p3)], .int .i64 (dltZ p0 lo hi + dltZ p1 lo hi + dltZ p2 lo hi), .int .i64 0]) ∧ Below w.heap.size w w' := by
  have ha : allNum [lo, hi] = true := by
    unfold clipE at hE
    cases h : allNum [lo, hi] with
    | true => rfl
    | false => rw [h] at hE; simp at hE
  have ho : (FloatKind.f32.format.order hi lo == some .lt) = false := by
    unfold clipE at hE
    cases h : (FloatKind.f32.format.order hi lo == some .lt) with
    | false => rfl
    | true => rw [ha, h] at hE; simp at hE
  clear hE
  go_enter Try.func47, Try.ntmps47
  go_wp2_with (first | (go_at_call 114; refine (All2_any _ _ _ lo hi _ (by simp [go_sem]) (by simp [go_sem])).mono ?_; rintro e w' ⟨rfl, rfl⟩))
  refine (three_clip lo hi _ _ _ p0 p1 p2 p3 _ ⟨by simp [go_sem], by simp [go_sem]⟩ ⟨by simp [go_sem], by simp [go_sem]⟩ ⟨by simp [go_sem], by simp [go_sem]⟩ (by first | (simp; done) | (simp; omega)) (by first | (simp; done) | (simp; omega)) (by simp) (by omega) (by omega)).mono ?_
  rintro e w1 ⟨rfl, hb1, hM1, hs1⟩
  simp at hs1
  have R1 : Pix4 w1 (w.heap.size + 1 + 1 + 1) 0 0 0 0 := Pix4.below (n := w.heap.size + 1 + 1 + 1 + 1 + 1) ⟨by simp [go_sem], by simp [go_sem], by simp [go_sem], by simp [go_sem], fun o => by simp [go_sem]⟩ hb1 (by omega)
  have B1 : Below w.heap.size w w1 := by (repeat (first | exact Below.refl _ _ | assumption | (refine Below.setCell ?_ (by first | (simp; done) | (simp; omega) | omega) _) | (refine Below.drew ?_) | (refine below_drewN ?_ _) | (refine Below.alloc ?_ (by first | (simp; done) | (simp; omega) | omega) _) | (refine Below.trans ?_ (Below.mono (by assumption) (by first | (simp; done) | (simp; omega) | omega)))))
  obtain ⟨m0, mf⟩ := hM1
  obtain ⟨g0, g1, g2, g3, gf⟩ := R1
  clear hb1
  have q0 : w.heap.size + 1 + 1 + 1 < w1.heap.size := by omega
  have q1 : w.heap.size + 1 + 1 + 1 + 1 + 1 < w1.heap.size := by omega
  clear hs1
  go_wp2
  go_region
  all_goals (try go_wp2)
  all_goals
    refine bodyPost_ret (v := .tuple #[.agg #[.float .f32 (limF p0 lo hi), .float .f32 (limF p1 lo hi), .float .f32 (limF p2 lo hi), .float .f32 (cn .f32 p3)], .int .i64 (dltZ p0 lo hi + dltZ p1 lo hi + dltZ p2 lo hi), .int .i64 0]) (by simp [results, Try.results47, go_sem, *]) rfl ⟨rfl, ?_⟩
    (repeat (first | exact Below.refl _ _ | assumption | (refine Below.setCell ?_ (by first | (simp; done) | (simp; omega) | omega) _) | (refine Below.drew ?_) | (refine below_drewN ?_ _) | (refine Below.alloc ?_ (by first | (simp; done) | (simp; omega) | omega) _) | (refine Below.trans ?_ (Below.mono (by assumption) (by first | (simp; done) | (simp; omega) | omega)))))
end Go.Proofs.Ytalgepfammpmbaa
