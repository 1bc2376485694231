/- Saturation: colour.Saturate, dyeref2.SaturatedOf. No condition. -/
import Derived.Test.YtmnmcmmhnbnndaaHueD
namespace Go.Proofs.Ytmnmcmmhnbnndaa
open Go.RowKit
def satOne (l am v : Nat) : Nat := fop .add .f32 (cn .f32 l) (fop .mul .f32 (fop .sub .f32 (cn .f32 v) (cn .f32 l)) (cn .f32 am))
theorem sat_FR {l am v r1 r2 r3 : Nat} (h1 : FR .f32 r1 (fop .sub .f32 (cn .f32 v) (cn .f32 l))) (h2 : FR .f32 r2 (fop .mul .f32 (cn .f32 r1) (cn .f32 am))) (h3 : FR .f32 r3 (fop .add .f32 (cn .f32 l) (cn .f32 r2))) : FR .f32 r3 (satOne l am v) := by
  unfold satOne; rw [← h1.eq, ← h2.eq]; exact h3
set_option maxHeartbeats 800000 in
theorem sat_one (l am v bl ba : Nat) (w : World) (hl : w.cell? ⟨bl, 0, none⟩ = some (.float .f32 l)) (ha : w.cell? ⟨ba, 0, none⟩ = some (.float .f32 am)) :
    Calls Try.prog 179 #[.float .f32 v, .pointer (some ⟨bl, 0, none⟩), .pointer (some ⟨ba, 0, none⟩)] w fun e w' => (∃ r, e = .returned (.float .f32 r) ∧ FR .f32 r (satOne l am v)) ∧ Below w.heap.size w w' := by
  go_enter Try.func179, Try.ntmps179
  go_wp2_with (first | ((with_reducible apply wpList_farith); rfl; rfl; rfl; intro _ _ _) | ((with_reducible apply wpList_up); rfl; exact Try.underlying38; exact Try.underlying51; intro _ _ _))
  rename_i a1 _ _ a2 _ _ a3
  go_ret
  exact ⟨⟨_, rfl, sat_FR a1 a2 a3⟩, by (repeat (first | exact Below.refl _ _ | assumption | (refine Below.setCell ?_ (by first | (simp; done) | (simp; omega) | omega) _) | (refine Below.drew ?_) | (refine below_drewN ?_ _) | (refine Below.alloc ?_ (by first | (simp; done) | (simp; omega) | omega) _) | (refine Below.trans ?_ (Below.mono (by assumption) (by first | (simp; done) | (simp; omega) | omega)))))⟩
set_option maxHeartbeats 800000 in
theorem satOf_one (l am v bl ba : Nat) (w : World) (hl : w.cell? ⟨bl, 0, none⟩ = some (.float .f32 l)) (ha : w.cell? ⟨ba, 0, none⟩ = some (.float .f32 am)) :
    Calls Try.prog 180 #[.float .f32 v, .pointer (some ⟨bl, 0, none⟩), .pointer (some ⟨ba, 0, none⟩)] w fun e w' => e = .returned (.float .f32 (satOne l am v)) ∧ Below w.heap.size w w' := by
  go_enter Try.func180, Try.ntmps180
  go_wp2_with (first | ((with_reducible apply wpList_farith); rfl; rfl; rfl; intro _ _ _) | ((with_reducible apply wpList_up); rfl; exact Try.underlying38; exact Try.underlying51; intro _ _ _) | (go_at_call 55; refine (Fix_any _ _).mono ?_; rintro e w' ⟨rfl, rfl⟩))
  rename_i a1 _ _ a2 _ _ a3
  go_ret
  exact ⟨ret_f (sat_FR a1 a2 a3).eq, by (repeat (first | exact Below.refl _ _ | assumption | (refine Below.setCell ?_ (by first | (simp; done) | (simp; omega) | omega) _) | (refine Below.drew ?_) | (refine below_drewN ?_ _) | (refine Below.alloc ?_ (by first | (simp; done) | (simp; omega) | omega) _) | (refine Below.trans ?_ (Below.mono (by assumption) (by first | (simp; done) | (simp; omega) | omega)))))⟩
def satPix (l am p0 p1 p2 p3 : Nat) : Value := .agg #[.float .f32 (satOne l am p0), .float .f32 (satOne l am p1), .float .f32 (satOne l am p2), .float .f32 (cn .f32 p3)]
set_option maxRecDepth 100000 in
set_option maxHeartbeats 1600000 in
theorem Saturate_any (u0 u1 u2 p0 p1 p2 p3 am : Nat) (w : World) : Calls Try.prog 96 #[.agg #[.float .f32 u0, .float .f32 u1, .float .f32 u2], .agg #[.float .f32 p0, .float .f32 p1, .float .f32 p2, .float .f32 p3], .float .f32 am] w fun e w' =>
    e = .returned (satPix (lumaF u0 u1 u2 p0 p1 p2) am p0 p1 p2 p3) ∧ Below w.heap.size w w' := by
  go_enter Try.func96, Try.ntmps96
  go_upto_region 1 with fail
  go_wp2_with (first | (go_at_call 94; refine (Luma_any _ _ _ _ _ _ _ _).mono ?_; rintro e w1 ⟨rfl, hb1⟩; have P1 : Pix4 w1 (w.heap.size + 1) p0 p1 p2 p3 := Pix4.below ⟨by simp [go_sem], by simp [go_sem], by simp [go_sem], by simp [go_sem], fun o => by simp [go_sem]⟩ hb1 (by simp); have R1 : Pix4 w1 (w.heap.size + 1 + 1 + 1) 0 0 0 0 := Pix4.below ⟨by simp [go_sem], by simp [go_sem], by simp [go_sem], by simp [go_sem], fun o => by simp [go_sem]⟩ hb1 (by simp); have A1 : w1.cell? ⟨w.heap.size + 1 + 1, 0, none⟩ = some (.float .f32 am) := (by rw [hb1.cell (p := ⟨w.heap.size + 1 + 1, 0, none⟩) (by simp)]; simp [go_sem]); have B1 : Below w.heap.size w w1 := (by (repeat (first | exact Below.refl _ _ | assumption | (refine Below.setCell ?_ (by first | (simp; done) | (simp; omega) | omega) _) | (refine Below.drew ?_) | (refine below_drewN ?_ _) | (refine Below.alloc ?_ (by first | (simp; done) | (simp; omega) | omega) _) | (refine Below.trans ?_ (Below.mono (by assumption) (by first | (simp; done) | (simp; omega) | omega)))))); have z1 := hb1.size; simp at z1; clear hb1; have q1 : w.heap.size + 1 < w1.heap.size := (by omega); have q2 : w.heap.size + 1 + 1 < w1.heap.size := (by omega); have q3 : w.heap.size + 1 + 1 + 1 < w1.heap.size := (by omega); clear z1; have R1' := Lib.hid R1; clear R1; obtain ⟨c0, c1, c2, c3, cf⟩ := P1))
  refine (colours3_any 179 _ (satOne (lumaF u0 u1 u2 p0 p1 p2) am) p0 p1 p2 p3 _ (by decide) (body_enters Try.func179 (by kernel_rfl) rfl) (fun v w' hb => ?_)).mono ?_
  · refine sat_one (lumaF u0 u1 u2 p0 p1 p2) am v _ _ w' ?_ ?_
    · rw [hb.cell (p := ⟨w1.heap.size, 0, none⟩) (by simp)]; simp [go_sem]
    · rw [hb.cell (p := ⟨w.heap.size + 1 + 1, 0, none⟩) (by simp; omega), World.cell?_alloc_past _ _ _ q2]; exact A1
  · rintro e w2 ⟨rfl, hb2⟩
    have hs2 := hb2.size
    have R2 : Pix4 w2 (w.heap.size + 1 + 1 + 1) 0 0 0 0 := R1'.out.below (n := w1.heap.size) (by (repeat (first | exact Below.refl _ _ | assumption | (refine Below.setCell ?_ (by first | (simp; done) | (simp; omega) | omega) _) | (refine Below.drew ?_) | (refine below_drewN ?_ _) | (refine Below.alloc ?_ (by first | (simp; done) | (simp; omega) | omega) _) | (refine Below.trans ?_ (Below.mono (by assumption) (by first | (simp; done) | (simp; omega) | omega)))))) q3
    obtain ⟨d0, d1, d2, d3, df⟩ := R2
    have B2 : Below w.heap.size w w2 := by (repeat (first | exact Below.refl _ _ | assumption | (refine Below.setCell ?_ (by first | (simp; done) | (simp; omega) | omega) _) | (refine Below.drew ?_) | (refine below_drewN ?_ _) | (refine Below.alloc ?_ (by first | (simp; done) | (simp; omega) | omega) _) | (refine Below.trans ?_ (Below.mono (by assumption) (by first | (simp; done) | (simp; omega) | omega)))))
    clear c0 c1 c2 c3 cf A1 hb2
    go_wp2
    refine bodyPost_ret (v := satPix (lumaF u0 u1 u2 p0 p1 p2) am p0 p1 p2 p3) (by simp [results, satPix, Try.results96, go_sem, *]) rfl ⟨rfl, ?_⟩
    exact (((B2.setCell (by simp; omega) _).setCell (by simp; omega) _).setCell (by simp; omega) _).setCell (by simp; omega) _
set_option maxRecDepth 100000 in
set_option maxHeartbeats 1600000 in
theorem SaturatedOf_any (u0 u1 u2 p0 p1 p2 p3 am : Nat) (w : World) : Calls Try.prog 97 #[.agg #[.float .f32 u0, .float .f32 u1, .float .f32 u2], .agg #[.float .f32 p0, .float .f32 p1, .float .f32 p2, .float .f32 p3], .float .f32 am] w fun e w' =>
    e = .returned (satPix (lumaF u0 u1 u2 p0 p1 p2) am p0 p1 p2 p3) ∧ Below w.heap.size w w' := by
  go_enter Try.func97, Try.ntmps97
  go_upto_region 1 with fail
  go_wp2_with (first | (go_at_call 95; refine (LumaOf_any _ _ _ _ _ _ _ _).mono ?_; rintro e w1 ⟨rfl, hb1⟩; have P1 : Pix4 w1 (w.heap.size + 1) p0 p1 p2 p3 := Pix4.below ⟨by simp [go_sem], by simp [go_sem], by simp [go_sem], by simp [go_sem], fun o => by simp [go_sem]⟩ hb1 (by simp); have R1 : Pix4 w1 (w.heap.size + 1 + 1 + 1) 0 0 0 0 := Pix4.below ⟨by simp [go_sem], by simp [go_sem], by simp [go_sem], by simp [go_sem], fun o => by simp [go_sem]⟩ hb1 (by simp); have A1 : w1.cell? ⟨w.heap.size + 1 + 1, 0, none⟩ = some (.float .f32 am) := (by rw [hb1.cell (p := ⟨w.heap.size + 1 + 1, 0, none⟩) (by simp)]; simp [go_sem]); have B1 : Below w.heap.size w w1 := (by (repeat (first | exact Below.refl _ _ | assumption | (refine Below.setCell ?_ (by first | (simp; done) | (simp; omega) | omega) _) | (refine Below.drew ?_) | (refine below_drewN ?_ _) | (refine Below.alloc ?_ (by first | (simp; done) | (simp; omega) | omega) _) | (refine Below.trans ?_ (Below.mono (by assumption) (by first | (simp; done) | (simp; omega) | omega)))))); have z1 := hb1.size; simp at z1; clear hb1; have q1 : w.heap.size + 1 < w1.heap.size := (by omega); have q2 : w.heap.size + 1 + 1 < w1.heap.size := (by omega); have q3 : w.heap.size + 1 + 1 + 1 < w1.heap.size := (by omega); clear z1; have R1' := Lib.hid R1; clear R1; obtain ⟨c0, c1, c2, c3, cf⟩ := P1))
  refine (each_any 180 _ (satOne (lumaF u0 u1 u2 p0 p1 p2) am) p0 p1 p2 p3 _ (fun h => by cases h) (body_enters Try.func180 (by kernel_rfl) rfl) (fun v w' _ hb => ?_)).mono ?_
  · refine satOf_one (lumaF u0 u1 u2 p0 p1 p2) am v _ _ w' ?_ ?_
    · rw [hb.cell (p := ⟨w1.heap.size, 0, none⟩) (by simp)]; simp [go_sem]
    · rw [hb.cell (p := ⟨w.heap.size + 1 + 1, 0, none⟩) (by simp; omega), World.cell?_alloc_past _ _ _ q2]; exact A1
  · rintro e w2 ⟨rfl, hb2⟩
    have hs2 := hb2.size
    have R2 : Pix4 w2 (w.heap.size + 1 + 1 + 1) 0 0 0 0 := R1'.out.below (n := w1.heap.size) (by (repeat (first | exact Below.refl _ _ | assumption | (refine Below.setCell ?_ (by first | (simp; done) | (simp; omega) | omega) _) | (refine Below.drew ?_) | (refine below_drewN ?_ _) | (refine Below.alloc ?_ (by first | (simp; done) | (simp; omega) | omega) _) | (refine Below.trans ?_ (Below.mono (by assumption) (by first | (simp; done) | (simp; omega) | omega)))))) q3
    obtain ⟨d0, d1, d2, d3, df⟩ := R2
    have B2 : Below w.heap.size w w2 := by (repeat (first | exact Below.refl _ _ | assumption | (refine Below.setCell ?_ (by first | (simp; done) | (simp; omega) | omega) _) | (refine Below.drew ?_) | (refine below_drewN ?_ _) | (refine Below.alloc ?_ (by first | (simp; done) | (simp; omega) | omega) _) | (refine Below.trans ?_ (Below.mono (by assumption) (by first | (simp; done) | (simp; omega) | omega)))))
    clear c0 c1 c2 c3 cf A1 hb2
    go_wp2
    refine bodyPost_ret (v := satPix (lumaF u0 u1 u2 p0 p1 p2) am p0 p1 p2 p3) (by simp [results, satPix, Try.results97, go_sem, *]) rfl ⟨rfl, ?_⟩
    exact (((B2.setCell (by simp; omega) _).setCell (by simp; omega) _).setCell (by simp; omega) _).setCell (by simp; omega) _
end Go.Proofs.Ytmnmcmmhnbnndaa
