/- dyeref2.CompressedOf, by its contract. No condition. -/
import Derived.Test.YtalgepfammpmbaaEach
namespace Go.Proofs.Ytalgepfammpmbaa
open Go.RowKit
/-- The document's channel, whether the pixel stays or not. -/
def docF (a : Nat) (st : Bool) (f v : Nat) : Nat := if st then cn .f32 v else compG a f v
set_option maxRecDepth 100000 in
set_option maxHeartbeats 1600000 in
theorem CompressedOf_any (p0 p1 p2 p3 f : Nat) (w : World) :
    Calls Try.prog 46 #[.agg #[.float .f32 p0, .float .f32 p1, .float .f32 p2, .float .f32 p3], .float .f32 f] w fun e w' =>
      e = .returned (.agg #[.float .f32 (docF (maxF p0 p1 p2) (staysF p0 p1 p2) f p0), .float .f32 (docF (maxF p0 p1 p2) (staysF p0 p1 p2) f p1), .float .f32 (docF (maxF p0 p1 p2) (staysF p0 p1 p2) f p2), .float .f32 (cn .f32 p3)]) ∧ Below w.heap.size w w' := by
  go_enter Try.func46, Try.ntmps46
  go_wp2
  go_loopw [12] (fun i wr => ∃ k : Nat, k ≤ 2 ∧ i = .int .i64 k ∧ One wr (w.heap.size + 1 + 1 + 1) (.float .f32 (pkF p0 p1 p2 k)) ∧ Pix4 wr w.heap.size p0 p1 p2 p3 ∧ One wr (w.heap.size + 1) (.float .f32 f) ∧ Pix4 wr (w.heap.size + 1 + 1) 0 0 0 0 ∧ wr.heap.size = w.heap.size + 1 + 1 + 1 + 1 ∧ Below w.heap.size w wr)
    (fun i _ => 2 - (intOf i).toNat)
  case atStart =>
    refine ⟨0, by decide, rfl, ⟨by simp [go_sem, pkF], by simp [go_sem]⟩, ⟨by simp [go_sem], by simp [go_sem], by simp [go_sem], by simp [go_sem], fun o => by simp [go_sem]⟩, ⟨by simp [go_sem], by simp [go_sem]⟩, ⟨by simp [go_sem], by simp [go_sem], by simp [go_sem], by simp [go_sem], fun o => by simp [go_sem]⟩, by simp, by (repeat (first | exact Below.refl _ _ | assumption | (refine Below.setCell ?_ (by first | (simp; done) | (simp; omega) | omega) _) | (refine Below.drew ?_) | (refine below_drewN ?_ _) | (refine Below.alloc ?_ (by first | (simp; done) | (simp; omega) | omega) _) | (refine Below.trans ?_ (Below.mono (by assumption) (by first | (simp; done) | (simp; omega) | omega)))))⟩
  case round =>
    obtain ⟨k, hk, rfl, ho, hp, hf, hr, hs, hb⟩ := hrel
    obtain ⟨oc, of⟩ := id ho
    obtain ⟨c0, c1, c2, c3, cf⟩ := id hp
    obtain ⟨fc, ff⟩ := id hf
    obtain ⟨d0, d1, d2, d3, df⟩ := id hr
    have ho' := Lib.hid ho; have hp' := Lib.hid hp; have hf' := Lib.hid hf; have hr' := Lib.hid hr
    clear ho hp hf hr
    rcases (show k = 0 ∨ k = 1 ∨ k = 2 by omega) with rfl | rfl | rfl
    · simp only [pkF] at oc
      go_wp2
      · rename_i h
        go_roundw
        case rel => exact ⟨1, by omega, rfl, by have := ho'.out.set (.float .f32 p1); simp only [pkF] at this ⊢; rw [pick_t h]; exact this, hp'.out.far _ _ (by first | (simp; done) | (simp; omega)), hf'.out.far _ _ (by first | (simp; done) | (simp; omega)), hr'.out.far _ _ (by first | (simp; done) | (simp; omega)), by simpa using hs, by (repeat (first | exact Below.refl _ _ | assumption | (refine Below.setCell ?_ (by first | (simp; done) | (simp; omega) | omega) _) | (refine Below.drew ?_) | (refine below_drewN ?_ _) | (refine Below.alloc ?_ (by first | (simp; done) | (simp; omega) | omega) _) | (refine Below.trans ?_ (Below.mono (by assumption) (by first | (simp; done) | (simp; omega) | omega)))))⟩
        case measure => simp [intOf]
      · rename_i h
        go_roundw
        case rel => exact ⟨1, by omega, rfl, by have := ho'.out; simp only [pkF] at this ⊢; rw [pick_f h]; exact this, hp'.out, hf'.out, hr'.out, hs, hb⟩
        case measure => simp [intOf]
    · simp only [pkF] at oc
      go_wp2
      · rename_i h
        go_roundw
        case rel => exact ⟨2, by omega, rfl, by have := ho'.out.set (.float .f32 p2); simp only [pkF, maxF] at this ⊢; rw [pick_t h]; exact this, hp'.out.far _ _ (by first | (simp; done) | (simp; omega)), hf'.out.far _ _ (by first | (simp; done) | (simp; omega)), hr'.out.far _ _ (by first | (simp; done) | (simp; omega)), by simpa using hs, by (repeat (first | exact Below.refl _ _ | assumption | (refine Below.setCell ?_ (by first | (simp; done) | (simp; omega) | omega) _) | (refine Below.drew ?_) | (refine below_drewN ?_ _) | (refine Below.alloc ?_ (by first | (simp; done) | (simp; omega) | omega) _) | (refine Below.trans ?_ (Below.mono (by assumption) (by first | (simp; done) | (simp; omega) | omega)))))⟩
        case measure => simp [intOf]
      · rename_i h
        go_roundw
        case rel => exact ⟨2, by omega, rfl, by have := ho'.out; simp only [pkF, maxF] at this ⊢; rw [pick_f h]; exact this, hp'.out, hf'.out, hr'.out, hs, hb⟩
        case measure => simp [intOf]
    · simp only [pkF] at oc
      generalize hA : maxF p0 p1 p2 = A at *
      go_wp2_with (first | (go_at_call 44; refine (IsNumberR_any _ _).mono ?_; rintro e w' ⟨rfl, m, rfl⟩))
      · have hS : staysF p0 p1 p2 = true := by unfold staysF; rw [hA]; simp [allNum, *]
        refine (each_any _ _ (fun v => cn .f32 v) p0 p1 p2 p3 _ (fun _ _ => rfl) (body_enters Try.func48 (by kernel_rfl) rfl) (fun v w' _ hb => ?_)).mono ?_
        · refine (Fix_any v w').mono ?_
          rintro e w'' ⟨rfl, rfl⟩
          exact ⟨rfl, Below.refl _ _⟩
        · rintro e w1 ⟨rfl, hb1⟩
          have oR1 : Pix4 w1 (w.heap.size + 1 + 1) 0 0 0 0 := hr'.out.below (n := wr.heap.size) (w := w1) (by (repeat (first | exact Below.refl _ _ | assumption | (refine Below.setCell ?_ (by first | (simp; done) | (simp; omega) | omega) _) | (refine Below.drew ?_) | (refine below_drewN ?_ _) | (refine Below.alloc ?_ (by first | (simp; done) | (simp; omega) | omega) _) | (refine Below.trans ?_ (Below.mono (by assumption) (by first | (simp; done) | (simp; omega) | omega)))))) (by omega)
          have B1 : Below w.heap.size w w1 := by (repeat (first | exact Below.refl _ _ | assumption | (refine Below.setCell ?_ (by first | (simp; done) | (simp; omega) | omega) _) | (refine Below.drew ?_) | (refine below_drewN ?_ _) | (refine Below.alloc ?_ (by first | (simp; done) | (simp; omega) | omega) _) | (refine Below.trans ?_ (Below.mono (by assumption) (by first | (simp; done) | (simp; omega) | omega)))))
          obtain ⟨g0, g1, g2, g3, gf⟩ := oR1
          clear c0 c1 c2 c3 cf d0 d1 d2 d3 df oc of fc ff hb1
          go_wp2
          refine bodyPost_ret (v := .agg #[.float .f32 (cn .f32 p0), .float .f32 (cn .f32 p1), .float .f32 (cn .f32 p2), .float .f32 (cn .f32 p3)]) (by simp [results, Try.results46, go_sem, *]) rfl ⟨by rw [hA, hS]; rfl, ?_⟩
          exact (((B1.setCell (by simp; omega) _).setCell (by simp; omega) _).setCell (by simp; omega) _).setCell (by simp; omega) _
      · have hS : staysF p0 p1 p2 = false := by unfold staysF; rw [hA]; simp [allNum, *]
        have hN : isNum .f32 p0 = true ∧ isNum .f32 p1 = true ∧ isNum .f32 p2 = true := by
          refine ⟨by assumption, by assumption, ?_⟩
          cases h : isNum .f32 p2 <;> simp_all
        have hN' := Lib.hid hN; clear hN
        refine (each_any _ _ (fun v => compG A f v) p0 p1 p2 p3 _ (fun h => by cases h) (body_enters Try.func135 (by kernel_rfl) rfl) (fun v w' hv hb => ?_)).mono ?_
        · have oA := ho'.out.below (n := wr.heap.size) (w := w') (by (repeat (first | exact Below.refl _ _ | assumption | (refine Below.setCell ?_ (by first | (simp; done) | (simp; omega) | omega) _) | (refine Below.drew ?_) | (refine below_drewN ?_ _) | (refine Below.alloc ?_ (by first | (simp; done) | (simp; omega) | omega) _) | (refine Below.trans ?_ (Below.mono (by assumption) (by first | (simp; done) | (simp; omega) | omega)))))) (by omega)
          have oF := hf'.out.below (n := wr.heap.size) (w := w') (by (repeat (first | exact Below.refl _ _ | assumption | (refine Below.setCell ?_ (by first | (simp; done) | (simp; omega) | omega) _) | (refine Below.drew ?_) | (refine below_drewN ?_ _) | (refine Below.alloc ?_ (by first | (simp; done) | (simp; omega) | omega) _) | (refine Below.trans ?_ (Below.mono (by assumption) (by first | (simp; done) | (simp; omega) | omega)))))) (by omega)
          simp only [pkF, hA] at oA
          refine (comp_doc A f v _ _ w' (by rcases hv with rfl | rfl | rfl; exact hN'.out.1; exact hN'.out.2.1; exact hN'.out.2.2) oA.c oF.c).mono ?_
          rintro e w'' ⟨m, rfl, rfl⟩
          exact ⟨rfl, below_drewN (Below.refl _ _) m⟩
        · rintro e w1 ⟨rfl, hb1⟩
          have oR1 : Pix4 w1 (w.heap.size + 1 + 1) 0 0 0 0 := hr'.out.below (n := wr.heap.size) (w := w1) (by (repeat (first | exact Below.refl _ _ | assumption | (refine Below.setCell ?_ (by first | (simp; done) | (simp; omega) | omega) _) | (refine Below.drew ?_) | (refine below_drewN ?_ _) | (refine Below.alloc ?_ (by first | (simp; done) | (simp; omega) | omega) _) | (refine Below.trans ?_ (Below.mono (by assumption) (by first | (simp; done) | (simp; omega) | omega)))))) (by omega)
          have B1 : Below w.heap.size w w1 := by (repeat (first | exact Below.refl _ _ | assumption | (refine Below.setCell ?_ (by first | (simp; done) | (simp; omega) | omega) _) | (refine Below.drew ?_) | (refine below_drewN ?_ _) | (refine Below.alloc ?_ (by first | (simp; done) | (simp; omega) | omega) _) | (refine Below.trans ?_ (Below.mono (by assumption) (by first | (simp; done) | (simp; omega) | omega)))))
          obtain ⟨g0, g1, g2, g3, gf⟩ := oR1
          clear c0 c1 c2 c3 cf d0 d1 d2 d3 df oc of fc ff hb1
          go_wp2
          refine bodyPost_ret (v := .agg #[.float .f32 (compG A f p0), .float .f32 (compG A f p1), .float .f32 (compG A f p2), .float .f32 (cn .f32 p3)]) (by simp [results, Try.results46, go_sem, *]) rfl ⟨by rw [hA, hS]; rfl, ?_⟩
          exact (((B1.setCell (by simp; omega) _).setCell (by simp; omega) _).setCell (by simp; omega) _).setCell (by simp; omega) _
      · have hS : staysF p0 p1 p2 = true := by unfold staysF; rw [hA]; simp [allNum, *]
        refine (each_any _ _ (fun v => cn .f32 v) p0 p1 p2 p3 _ (fun _ _ => rfl) (body_enters Try.func48 (by kernel_rfl) rfl) (fun v w' _ hb => ?_)).mono ?_
        · refine (Fix_any v w').mono ?_
          rintro e w'' ⟨rfl, rfl⟩
          exact ⟨rfl, Below.refl _ _⟩
        · rintro e w1 ⟨rfl, hb1⟩
          have oR1 : Pix4 w1 (w.heap.size + 1 + 1) 0 0 0 0 := hr'.out.below (n := wr.heap.size) (w := w1) (by (repeat (first | exact Below.refl _ _ | assumption | (refine Below.setCell ?_ (by first | (simp; done) | (simp; omega) | omega) _) | (refine Below.drew ?_) | (refine below_drewN ?_ _) | (refine Below.alloc ?_ (by first | (simp; done) | (simp; omega) | omega) _) | (refine Below.trans ?_ (Below.mono (by assumption) (by first | (simp; done) | (simp; omega) | omega)))))) (by omega)
          have B1 : Below w.heap.size w w1 := by (repeat (first | exact Below.refl _ _ | assumption | (refine Below.setCell ?_ (by first | (simp; done) | (simp; omega) | omega) _) | (refine Below.drew ?_) | (refine below_drewN ?_ _) | (refine Below.alloc ?_ (by first | (simp; done) | (simp; omega) | omega) _) | (refine Below.trans ?_ (Below.mono (by assumption) (by first | (simp; done) | (simp; omega) | omega)))))
          obtain ⟨g0, g1, g2, g3, gf⟩ := oR1
          clear c0 c1 c2 c3 cf d0 d1 d2 d3 df oc of fc ff hb1
          go_wp2
          refine bodyPost_ret (v := .agg #[.float .f32 (cn .f32 p0), .float .f32 (cn .f32 p1), .float .f32 (cn .f32 p2), .float .f32 (cn .f32 p3)]) (by simp [results, Try.results46, go_sem, *]) rfl ⟨by rw [hA, hS]; rfl, ?_⟩
          exact (((B1.setCell (by simp; omega) _).setCell (by simp; omega) _).setCell (by simp; omega) _).setCell (by simp; omega) _
      · have hS : staysF p0 p1 p2 = true := by unfold staysF; rw [hA]; simp [allNum, *]
        refine (each_any _ _ (fun v => cn .f32 v) p0 p1 p2 p3 _ (fun _ _ => rfl) (body_enters Try.func48 (by kernel_rfl) rfl) (fun v w' _ hb => ?_)).mono ?_
        · refine (Fix_any v w').mono ?_
          rintro e w'' ⟨rfl, rfl⟩
          exact ⟨rfl, Below.refl _ _⟩
        · rintro e w1 ⟨rfl, hb1⟩
          have oR1 : Pix4 w1 (w.heap.size + 1 + 1) 0 0 0 0 := hr'.out.below (n := wr.heap.size) (w := w1) (by (repeat (first | exact Below.refl _ _ | assumption | (refine Below.setCell ?_ (by first | (simp; done) | (simp; omega) | omega) _) | (refine Below.drew ?_) | (refine below_drewN ?_ _) | (refine Below.alloc ?_ (by first | (simp; done) | (simp; omega) | omega) _) | (refine Below.trans ?_ (Below.mono (by assumption) (by first | (simp; done) | (simp; omega) | omega)))))) (by omega)
          have B1 : Below w.heap.size w w1 := by (repeat (first | exact Below.refl _ _ | assumption | (refine Below.setCell ?_ (by first | (simp; done) | (simp; omega) | omega) _) | (refine Below.drew ?_) | (refine below_drewN ?_ _) | (refine Below.alloc ?_ (by first | (simp; done) | (simp; omega) | omega) _) | (refine Below.trans ?_ (Below.mono (by assumption) (by first | (simp; done) | (simp; omega) | omega)))))
          obtain ⟨g0, g1, g2, g3, gf⟩ := oR1
          clear c0 c1 c2 c3 cf d0 d1 d2 d3 df oc of fc ff hb1
          go_wp2
          refine bodyPost_ret (v := .agg #[.float .f32 (cn .f32 p0), .float .f32 (cn .f32 p1), .float .f32 (cn .f32 p2), .float .f32 (cn .f32 p3)]) (by simp [results, Try.results46, go_sem, *]) rfl ⟨by rw [hA, hS]; rfl, ?_⟩
          exact (((B1.setCell (by simp; omega) _).setCell (by simp; omega) _).setCell (by simp; omega) _).setCell (by simp; omega) _
      · have hS : staysF p0 p1 p2 = true := by unfold staysF; rw [hA]; simp [allNum, *]
        refine (each_any _ _ (fun v => cn .f32 v) p0 p1 p2 p3 _ (fun _ _ => rfl) (body_enters Try.func48 (by kernel_rfl) rfl) (fun v w' _ hb => ?_)).mono ?_
        · refine (Fix_any v w').mono ?_
          rintro e w'' ⟨rfl, rfl⟩
          exact ⟨rfl, Below.refl _ _⟩
        · rintro e w1 ⟨rfl, hb1⟩
          have oR1 : Pix4 w1 (w.heap.size + 1 + 1) 0 0 0 0 := hr'.out.below (n := wr.heap.size) (w := w1) (by (repeat (first | exact Below.refl _ _ | assumption | (refine Below.setCell ?_ (by first | (simp; done) | (simp; omega) | omega) _) | (refine Below.drew ?_) | (refine below_drewN ?_ _) | (refine Below.alloc ?_ (by first | (simp; done) | (simp; omega) | omega) _) | (refine Below.trans ?_ (Below.mono (by assumption) (by first | (simp; done) | (simp; omega) | omega)))))) (by omega)
          have B1 : Below w.heap.size w w1 := by (repeat (first | exact Below.refl _ _ | assumption | (refine Below.setCell ?_ (by first | (simp; done) | (simp; omega) | omega) _) | (refine Below.drew ?_) | (refine below_drewN ?_ _) | (refine Below.alloc ?_ (by first | (simp; done) | (simp; omega) | omega) _) | (refine Below.trans ?_ (Below.mono (by assumption) (by first | (simp; done) | (simp; omega) | omega)))))
          obtain ⟨g0, g1, g2, g3, gf⟩ := oR1
          clear c0 c1 c2 c3 cf d0 d1 d2 d3 df oc of fc ff hb1
          go_wp2
          refine bodyPost_ret (v := .agg #[.float .f32 (cn .f32 p0), .float .f32 (cn .f32 p1), .float .f32 (cn .f32 p2), .float .f32 (cn .f32 p3)]) (by simp [results, Try.results46, go_sem, *]) rfl ⟨by rw [hA, hS]; rfl, ?_⟩
          exact (((B1.setCell (by simp; omega) _).setCell (by simp; omega) _).setCell (by simp; omega) _).setCell (by simp; omega) _
end Go.Proofs.Ytalgepfammpmbaa
