/- A pixel of any hue; turning a hue. No condition. -/
import Derived.Test.YtmnmcmmhnbnndaaHueI
namespace Go.Proofs.Ytmnmcmmhnbnndaa
open Go.RowKit
def pixV (h s v al : Nat) : Value := .agg #[.float .f32 (pixF h s v).1, .float .f32 (pixF h s v).2.1, .float .f32 (pixF h s v).2.2, .float .f32 (cn .f32 al)]
theorem allNum3 (h s v : Nat) : allNum [h, s, v] = (isNum .f32 h && (isNum .f32 s && isNum .f32 v)) := by simp [allNum]
theorem pixF_cn (h s v : Nat) : pixF (cn .f32 h) s v = pixF h s v := by
  by_cases hn : isN .f32 h = true
  · have e : isNum .f32 h = false := by
      cases hh : isNum .f32 h with
      | false => rfl
      | true => rw [isNum_not_nan hh] at hn; cases hn
    have e2 : isNum .f32 (cn .f32 h) = false := by
      rw [cn_of_nan hn]; decide +kernel
    unfold pixF; rw [allNum3, allNum3, e, e2]; rfl
  · rw [cn_of_not (by simpa using hn)]
set_option maxRecDepth 100000 in
set_option maxHeartbeats 1600000 in
theorem FromHSV_any (h s v al : Nat) (w : World) (hw : h < 2 ^ FloatKind.f32.format.width) : Calls Try.prog 89 #[.float .f32 h, .float .f32 s, .float .f32 v, .float .f32 al] w fun e w' => e = .returned (pixV h s v al) ∧ Below w.heap.size w w' := by
  unfold pixV pixF
  cases hall : allNum [h, s, v] with
  | true => exact FromHSV_num h s v al w hw hall
  | false =>
    have c : cn .f32 2143289344 = 2143289344 := by decide +kernel
    simp only [Bool.false_eq_true, if_false]
    go_enter Try.func89, Try.ntmps89
    go_wp2_with (first | (go_at_call 144; refine (All3_any _ _ _ h s v _ (by simp [go_sem]) (by simp [go_sem]) (by simp [go_sem])).mono ?_; rintro e w' ⟨rfl, rfl⟩) | (go_at_call 173; refine (noneC_any _).mono ?_; rintro e w' ⟨rfl, rfl⟩) | (go_at_call 131; refine (cleaned_any _ _ _ _ _).mono ?_; rintro e w2 ⟨rfl, hb2⟩; rw [c]; have R2 : Pix4 w2 w.heap.size 0 0 0 0 := Pix4.below ⟨by simp [go_sem], by simp [go_sem], by simp [go_sem], by simp [go_sem], fun o => by simp [go_sem]⟩ hb2 (by first | (simp; done) | (simp; omega)); have B2 : Below w.heap.size w w2 := (by (repeat (first | exact Below.refl _ _ | assumption | (refine Below.setCell ?_ (by first | (simp; done) | (simp; omega) | omega) _) | (refine Below.drew ?_) | (refine below_drewN ?_ _) | (refine Below.alloc ?_ (by first | (simp; done) | (simp; omega) | omega) _) | (refine Below.trans ?_ (Below.mono (by assumption) (by first | (simp; done) | (simp; omega) | omega)))))); have zz := hb2.size; simp at zz; have q2 : w.heap.size < w2.heap.size := (by omega); clear hb2 zz; obtain ⟨d0, d1, d2, d3, df⟩ := R2))
    refine bodyPost_ret (v := .agg #[.float .f32 2143289344, .float .f32 2143289344, .float .f32 2143289344, .float .f32 (cn .f32 al)]) (by simp [results, Try.results89, go_sem, d0, d1, d2, d3]) rfl ⟨rfl, ?_⟩
    exact (((B2.setCell (by simp) _).setCell (by simp) _).setCell (by simp) _).setCell (by simp) _
set_option maxRecDepth 100000 in
set_option maxHeartbeats 1600000 in
theorem PixelOf_any (h s v al : Nat) (w : World) (hw : h < 2 ^ FloatKind.f32.format.width) : Calls Try.prog 90 #[.float .f32 h, .float .f32 s, .float .f32 v, .float .f32 al] w fun e w' => e = .returned (pixV h s v al) ∧ Below w.heap.size w w' := by
  unfold pixV pixF
  have ha := allNum3 h s v
  cases hall : allNum [h, s, v] with
  | true => exact PixelOf_num h s v al w hw hall
  | false =>
    rw [hall] at ha
    clear hall
    simp only [Bool.false_eq_true, if_false]
    cases hh : isNum .f32 h <;> cases hs : isNum .f32 s <;> cases hv : isNum .f32 v <;> rw [hh, hs, hv] at ha
    case true.true.true => cases ha
    all_goals
      clear ha
      go_enter Try.func90, Try.ntmps90
      go_wp2_with (first | (go_at_call 52; refine (IsNumberR_any _ _).mono ?_; rintro e w' ⟨rfl, m, rfl⟩) | (go_at_call 152; refine (TheNaN_any _).mono ?_; rintro e w' ⟨rfl, rfl⟩) | (go_at_call 55; refine (Fix_any _ _).mono ?_; rintro e w' ⟨rfl, rfl⟩))
      refine bodyPost_ret (v := .agg #[.float .f32 2143289344, .float .f32 2143289344, .float .f32 2143289344, .float .f32 (cn .f32 al)]) (by simp [results, Try.results90, go_sem]) rfl ⟨rfl, ?_⟩
      (repeat (first | exact Below.refl _ _ | assumption | (refine Below.setCell ?_ (by first | (simp; done) | (simp; omega) | omega) _) | (refine Below.drew ?_) | (refine below_drewN ?_ _) | (refine Below.alloc ?_ (by first | (simp; done) | (simp; omega) | omega) _) | (refine Below.trans ?_ (Below.mono (by assumption) (by first | (simp; done) | (simp; omega) | omega)))))
def turnV (p0 p1 p2 p3 b : Nat) : Value := pixV (fop .add .f32 (cn .f32 (hsvF p0 p1 p2).1) (cn .f32 b)) (hsvF p0 p1 p2).2.1 (hsvF p0 p1 p2).2.2 p3
theorem pixV_cn (h s v al : Nat) : pixV (cn .f32 h) s v al = pixV h s v al := by unfold pixV; rw [pixF_cn]
set_option maxRecDepth 100000 in
set_option maxHeartbeats 1600000 in
theorem Turn_any (p0 p1 p2 p3 b : Nat) (w : World) : Calls Try.prog 93 #[.agg #[.float .f32 p0, .float .f32 p1, .float .f32 p2, .float .f32 p3], .float .f32 b] w fun e w' => e = .returned (turnV p0 p1 p2 p3 b) ∧ Below w.heap.size w w' := by
  go_enter Try.func93, Try.ntmps93
  go_wp2_with (first | (go_at_call 87; refine (ToHSV_any _ _ _ _ _).mono ?_; rintro e w1 ⟨rfl, hb1⟩; have P1 : Pix4 w1 w.heap.size p0 p1 p2 p3 := Pix4.below ⟨by simp [go_sem], by simp [go_sem], by simp [go_sem], by simp [go_sem], fun o => by simp [go_sem]⟩ hb1 (by first | (simp; done) | (simp; omega)); have R1 : Pix4 w1 (w.heap.size + 1) 0 0 0 0 := Pix4.below ⟨by simp [go_sem], by simp [go_sem], by simp [go_sem], by simp [go_sem], fun o => by simp [go_sem]⟩ hb1 (by first | (simp; done) | (simp; omega)); have B1 : Below w.heap.size w w1 := (by (repeat (first | exact Below.refl _ _ | assumption | (refine Below.setCell ?_ (by first | (simp; done) | (simp; omega) | omega) _) | (refine Below.drew ?_) | (refine below_drewN ?_ _) | (refine Below.alloc ?_ (by first | (simp; done) | (simp; omega) | omega) _) | (refine Below.trans ?_ (Below.mono (by assumption) (by first | (simp; done) | (simp; omega) | omega)))))); have zz := hb1.size; simp at zz; have q1 : w.heap.size + 1 < w1.heap.size := (by omega); have q0 : w.heap.size < w1.heap.size := (by omega); clear hb1 zz; have R1' := Lib.hid R1; clear R1; obtain ⟨c0, c1, c2, c3, cf⟩ := P1) | ((with_reducible apply wpList_farith); rfl; rfl; rfl; intro r n hr))
  refine (FromHSV_any _ _ _ _ _ hr.lt).mono ?_
  rintro e w2 ⟨rfl, hb2⟩
  have zz := hb2.size
  simp at zz
  have q2 : w.heap.size + 1 < w2.heap.size := by omega
  have R2 : Pix4 w2 (w.heap.size + 1) 0 0 0 0 := R1'.out.below (n := w1.heap.size) (by (repeat (first | exact Below.refl _ _ | assumption | (refine Below.setCell ?_ (by first | (simp; done) | (simp; omega) | omega) _) | (refine Below.drew ?_) | (refine below_drewN ?_ _) | (refine Below.alloc ?_ (by first | (simp; done) | (simp; omega) | omega) _) | (refine Below.trans ?_ (Below.mono (by assumption) (by first | (simp; done) | (simp; omega) | omega)))))) q1
  have B2 : Below w.heap.size w w2 := by (repeat (first | exact Below.refl _ _ | assumption | (refine Below.setCell ?_ (by first | (simp; done) | (simp; omega) | omega) _) | (refine Below.drew ?_) | (refine below_drewN ?_ _) | (refine Below.alloc ?_ (by first | (simp; done) | (simp; omega) | omega) _) | (refine Below.trans ?_ (Below.mono (by assumption) (by first | (simp; done) | (simp; omega) | omega)))))
  clear hb2 zz c0 c1 c2 c3 cf
  obtain ⟨d0, d1, d2, d3, df⟩ := R2
  have e3 : pixV r (hsvF p0 p1 p2).2.1 (hsvF p0 p1 p2).2.2 p3 = turnV p0 p1 p2 p3 b := by rw [← pixV_cn, hr.eq]; rfl
  rw [e3]
  unfold turnV pixV
  go_wp2
  refine bodyPost_ret (v := turnV p0 p1 p2 p3 b) (by simp [results, turnV, pixV, Try.results93, go_sem, d0, d1, d2, d3]) rfl ⟨rfl, ?_⟩
  exact (((B2.setCell (by simp) _).setCell (by simp) _).setCell (by simp) _).setCell (by simp) _
end Go.Proofs.Ytmnmcmmhnbnndaa
