/- Vignettes of a frame: finish.Vignette, dyeref2.VignetteError. Conditions: where the frame is right, its singles are known. -/
import Derived.Test.YtalgepfammpmbaaVgC
import Derived.Test.YtalgepfammpmbaaKit
namespace Go.Proofs.Ytalgepfammpmbaa
open Go.RowKit
theorem tri_lowV {u v : Nat} (hu : isNum .f32 u = true) (hv : isNum .f32 v = true) : (FloatKind.f32.format.order u v == some .lt) = (!(FloatKind.f32.format.order u v == some .gt) && !(FloatKind.f32.format.order u v == some .eq)) := by
  obtain ⟨o, h1, h2, h3⟩ := ord_some hu hv
  rw [h1, h2, h3]; cases o <;> rfl
theorem tri_highV {u v : Nat} (hu : isNum .f32 u = true) (hv : isNum .f32 v = true) : (FloatKind.f32.format.order u v == some .gt) = (!(FloatKind.f32.format.order u v == some .lt) && !(FloatKind.f32.format.order u v == some .eq)) := by
  obtain ⟨o, h1, h2, h3⟩ := ord_some hu hv
  rw [h1, h2, h3]; cases o <;> rfl
/-- What is wrong with a vignette. -/
def vigBad (vd : Nat) : Bool := (FloatKind.f32.format.order vd 0 == some .lt) || (FloatKind.f32.format.order vd 1065353216 == some .gt)
def vigE (vx vy vi vo vd : Nat) : Int := if allNum [vx, vy, vi, vo, vd] then (if FloatKind.f32.format.order vo vi == some .gt then (if vigBad vd then 3 else 0) else 8) else 2
theorem vigE_ok {vx vy vi vo vd : Nat} (h : vigE vx vy vi vo vd = 0) : allNum [vx, vy, vi, vo, vd] = true ∧ (FloatKind.f32.format.order vo vi == some .gt) = true ∧ (FloatKind.f32.format.order vd 0 == some .lt) = false ∧ (FloatKind.f32.format.order vd 1065353216 == some .gt) = false := by
  unfold vigE at h
  cases h1 : allNum [vx, vy, vi, vo, vd]
  · rw [h1] at h; cases h
  · rw [h1, if_pos rfl] at h
    cases h2 : (FloatKind.f32.format.order vo vi == some .gt)
    · rw [h2] at h; cases h
    · rw [h2, if_pos rfl] at h
      cases h3 : vigBad vd
      · unfold vigBad at h3
        simp only [Bool.or_eq_false_iff] at h3
        exact ⟨rfl, rfl, h3.1, h3.2⟩
      · rw [h3, if_pos rfl] at h; cases h
/-- A darkened frame, pixel by pixel. -/
def vgG (x y v : Int) (fs : Nat → Nat) (vx vy vi vo vd : Nat) (k : Nat) : Nat → Nat := fun c => if c < 3 then fop .mul .f32 (fs (4 * k + c)) (darkM vx vy vi vo vd (x + (k : Int) % v) (y + (k : Int) / v)) else cn .f32 (fs (4 * k + c))
theorem vgG_cn {x y v : Int} {fs : Nat → Nat} {vx vy vi vo vd k c : Nat} : cn .f32 (vgG x y v fs vx vy vi vo vd k c) = vgG x y v fs vx vy vi vo vd k c := by
  unfold vgG; split
  · exact cn_fop _ _ _ _
  · exact cn_cn _ _
def vigL (vx vy vi vo vd : Nat) : List Value := [.float .f32 vx, .float .f32 vy, .float .f32 vi, .float .f32 vo, .float .f32 vd]
theorem All5_any (b off cap v0 v1 v2 v3 v4 : Nat) (w : World) (c0 : w.cell? ⟨b, off, none⟩ = some (.float .f32 v0)) (c1 : w.cell? ⟨b, off + 1, none⟩ = some (.float .f32 v1)) (c2 : w.cell? ⟨b, off + 2, none⟩ = some (.float .f32 v2)) (c3 : w.cell? ⟨b, off + 3, none⟩ = some (.float .f32 v3)) (c4 : w.cell? ⟨b, off + 4, none⟩ = some (.float .f32 v4)) :
    Calls Try.prog 114 #[.slice (some ⟨b, off, none⟩) 5 cap] w fun e w' => e = .returned (.bool (allNum [v0, v1, v2, v3, v4])) ∧ w = w' :=
  AllNumbers_any b off 5 cap [v0, v1, v2, v3, v4] w rfl (by decide) (fun i hi => by
    match i, hi with
    | 0, _ => simpa using c0
    | 1, _ => simpa using c1
    | 2, _ => simpa using c2
    | 3, _ => simpa using c3
    | 4, _ => simpa using c4)
set_option maxRecDepth 100000 in
set_option maxHeartbeats 1600000 in
theorem VigClosure (vx vy vi vo vd : Nat) (X Y : Int) (p : Nat → Nat) (pv : Nat) (w : World) (hp : ∀ c, c < 4 → p c < 2 ^ FloatKind.f32.format.width) (hv : Blk w pv (vigL vx vy vi vo vd)) :
    Calls Try.prog 116 #[.int .i64 X, .int .i64 Y, .agg #[.float .f32 (p 0), .float .f32 (p 1), .float .f32 (p 2), .float .f32 (p 3)], .pointer (some ⟨pv, 0, none⟩)] w fun e w' =>
      (∃ q : Nat → Nat, e = .returned (.agg #[.float .f32 (q 0), .float .f32 (q 1), .float .f32 (q 2), .float .f32 (q 3)]) ∧ q = fun c => if c < 3 then fop .mul .f32 (p c) (darkM vx vy vi vo vd X Y) else cn .f32 (p c)) ∧ Below w.heap.size w w' := by
  have g0 := hv.c 0 _ rfl; have g1 := hv.c 1 _ rfl; have g2 := hv.c 2 _ rfl; have g3 := hv.c 3 _ rfl; have g4 := hv.c 4 _ rfl
  have lv := hv.lt
  clear hv
  go_enter Try.func116, Try.ntmps116
  go_wp2_with (first | (go_at_call 117; refine (Vignetted_any vx vy vi vo vd X Y p _ hp).mono ?_; rintro e w2 ⟨⟨q, rfl, hq⟩, hb2⟩; have HQ := Lib.hid hq; clear hq; have B2 : Below w.heap.size w w2 := (by (repeat (first | exact Below.refl _ _ | assumption | (refine Below.setCell ?_ (by first | (simp; done) | (simp; omega) | omega) _) | (refine Below.drew ?_) | (refine below_drewN ?_ _) | (refine Below.alloc ?_ (by first | (simp; done) | (simp; omega) | omega) _) | (refine Below.trans ?_ (Below.mono (by assumption) (by first | (simp; done) | (simp; omega) | omega)))))); have sz := hb2.size; simp at sz; have R2 : Pix4 w2 (w.heap.size + 1) 0 0 0 0 := (by exact ⟨by simp [go_sem], by simp [go_sem], by simp [go_sem], by simp [go_sem], fun o => by simp [go_sem]⟩ : Pix4 ((w.alloc (.cells #[.float .f32 (p 0), .float .f32 (p 1), .float .f32 (p 2), .float .f32 (p 3)] 41)).alloc (.cells #[.float .f32 0, .float .f32 0, .float .f32 0, .float .f32 0] 41)) (w.heap.size + 1) 0 0 0 0).below hb2 (by simp); clear hb2 g0 g1 g2 g3 g4; obtain ⟨d0, d1, d2, d3, df⟩ := R2))
  refine bodyPost_ret (v := .agg #[.float .f32 (q 0), .float .f32 (q 1), .float .f32 (q 2), .float .f32 (q 3)]) (by simp [results, Try.results116, go_sem, d0, d1, d2, d3]) rfl ⟨⟨q, rfl, HQ.out⟩, ?_⟩
  exact (((B2.setCell (by first | (simp; done) | (simp; omega) | omega) _).setCell (by first | (simp; done) | (simp; omega) | omega) _).setCell (by first | (simp; done) | (simp; omega) | omega) _).setCell (by first | (simp; done) | (simp; omega) | omega) _
end Go.Proofs.Ytalgepfammpmbaa
