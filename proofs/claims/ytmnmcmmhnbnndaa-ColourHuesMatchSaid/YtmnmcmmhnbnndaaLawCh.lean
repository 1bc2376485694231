/- ColourHuesMatch: the walk of the statement. No condition. -/
import Derived.Test.YtmnmcmmhnbnndaaHueJ
import Derived.Test.YtmnmcmmhnbnndaaOpen
namespace Go.Proofs.Ytmnmcmmhnbnndaa
open Go.RowKit
structure Tri3 (w : World) (b v0 v1 v2 : Nat) : Prop where
  c0 : w.cell? ⟨b, 0, none⟩ = some (.float .f32 v0)
  c1 : w.cell? ⟨b, 1, none⟩ = some (.float .f32 v1)
  c2 : w.cell? ⟨b, 2, none⟩ = some (.float .f32 v2)
theorem Tri3.below {W w : World} {n b v0 v1 v2 : Nat} (h : Tri3 W b v0 v1 v2) (hb : Below n W w) (hn : b < n) : Tri3 w b v0 v1 v2 :=
  ⟨(hb.cell (p := ⟨b, 0, none⟩) hn).trans h.c0, (hb.cell (p := ⟨b, 1, none⟩) hn).trans h.c1, (hb.cell (p := ⟨b, 2, none⟩) hn).trans h.c2⟩
set_option maxRecDepth 100000 in
set_option maxHeartbeats 8000000 in
theorem ch_walk (p0 p1 p2 p3 u0 u1 u2 h s v b : Nat) (w : World) (hh : h < 2 ^ FloatKind.f32.format.width) :
    Calls Try.prog 14 #[.agg #[.float .f32 p0, .float .f32 p1, .float .f32 p2, .float .f32 p3], .agg #[.float .f32 u0, .float .f32 u1, .float .f32 u2], .float .f32 h, .float .f32 s, .float .f32 v, .float .f32 b] w fun e w' => e = .returned (.bool true) ∧ Below w.heap.size w w' := by
  have hh' := Lib.hid hh; clear hh
  go_enter Try.func14, Try.ntmps14
  go_upto_region 2 with (first | (go_at_call 87; refine (ToHSV_any _ _ _ _ _).mono ?_; rintro e w1 ⟨rfl, hb1⟩; have P1 : Pix4 w1 w.heap.size p0 p1 p2 p3 := Pix4.below ⟨by simp [go_sem], by simp [go_sem], by simp [go_sem], by simp [go_sem], fun o => by simp [go_sem]⟩ hb1 (by first | (simp; done) | (simp; omega)); have T1 : Tri3 w1 (w.heap.size + 1) u0 u1 u2 := Tri3.below ⟨by simp [go_sem], by simp [go_sem], by simp [go_sem]⟩ hb1 (by first | (simp; done) | (simp; omega)); have B1 : Below w.heap.size w w1 := (by (repeat (first | exact Below.refl _ _ | assumption | (refine Below.setCell ?_ (by first | (simp; done) | (simp; omega) | omega) _) | (refine Below.drew ?_) | (refine below_drewN ?_ _) | (refine Below.alloc ?_ (by first | (simp; done) | (simp; omega) | omega) _) | (refine Below.trans ?_ (Below.mono (by assumption) (by first | (simp; done) | (simp; omega) | omega)))))); have zz := hb1.size; simp at zz; have q1 : w.heap.size + 1 < w1.heap.size := (by omega); have q0 : w.heap.size < w1.heap.size := (by omega); clear hb1 zz; have P1' := Lib.hid P1; have T1' := Lib.hid T1; clear T1; obtain ⟨c0, c1, c2, c3, cf⟩ := P1))
  go_upto_region 3 with (first | (go_at_call 88; refine (HSVOf_any _ _ _ _ _).mono ?_; rintro e w2 ⟨rfl, hb2⟩; have P2 := P1'.out.below hb2 q0; have T2 := T1'.out.below hb2 q1; have B2 : Below w.heap.size w w2 := B1.trans (hb2.mono (by omega)); have zz := hb2.size; have q2 : w.heap.size + 1 < w2.heap.size := (by omega); have q3 : w.heap.size < w2.heap.size := (by omega); clear hb2 zz c0 c1 c2 c3 cf P1' T1' q0 q1 B1; have P2' := Lib.hid P2; have T2' := Lib.hid T2; clear T2; obtain ⟨c0, c1, c2, c3, cf⟩ := P2))
  refine wp_region_loose 35 (fun f' args u => (f' = 35 ∧ u = .bool true) ∨ (f' = 24 ∧ u = .bool true) ∨ (f' = 89 ∧ u = pixV h s v p3) ∨ (f' = 90 ∧ u = pixV h s v p3) ∨ (f' = 39 ∧ u = .bool true)) (by kernel_rfl) (by kernel_rfl) ?_
  simp only [List.take_succ_cons, List.take_zero, List.drop_succ_cons, List.drop_zero]
  refine loose_wanted rfl (fun K hK => ?_)
  go_simp
  refine ⟨fun p => (colours_any p.w).mono ?_, ?_⟩
  · rintro e w' ⟨rfl, hb⟩
    exact ⟨_, rfl, rfl, p.h.trans (hb.mono p.h.size)⟩
  refine hK _ ?_
  clear hK K
  iterate 4 (refine loose_wanted rfl (fun K hK => ?_); go_simp; refine hK _ ?_; clear hK K)
  refine loose_wanted rfl (fun K hK => ?_)
  go_simp
  refine ⟨fun p => (same_any _ _ p.w).mono ?_, ?_⟩
  · rintro e w' ⟨rfl, rfl⟩
    exact ⟨_, rfl, by simp, p.h⟩
  refine hK _ ?_
  clear hK K
  iterate 5 (refine loose_wanted rfl (fun K hK => ?_); go_simp; refine hK _ ?_; clear hK K)
  refine loose_wanted rfl (fun K hK => ?_)
  go_simp
  refine ⟨fun p => (same_any _ _ p.w).mono ?_, ?_⟩
  · rintro e w' ⟨rfl, rfl⟩
    exact ⟨_, rfl, by simp, p.h⟩
  refine hK _ ?_
  clear hK K
  iterate 5 (refine loose_wanted rfl (fun K hK => ?_); go_simp; refine hK _ ?_; clear hK K)
  refine loose_wanted rfl (fun K hK => ?_)
  go_simp
  refine ⟨fun p => (same_any _ _ p.w).mono ?_, ?_⟩
  · rintro e w' ⟨rfl, rfl⟩
    exact ⟨_, rfl, by simp, p.h⟩
  refine hK _ ?_
  clear hK K
  iterate 8 (refine loose_wanted rfl (fun K hK => ?_); go_simp; refine hK _ ?_; clear hK K)
  refine loose_wanted rfl (fun K hK => ?_)
  go_simp
  refine ⟨fun p => (FromHSV_any _ _ _ _ p.w hh'.out).mono ?_, ?_⟩
  · rintro e w' ⟨rfl, hb⟩
    exact ⟨_, rfl, rfl, p.h.trans (hb.mono p.h.size)⟩
  refine hK _ ?_
  clear hK K
  iterate 5 (refine loose_wanted rfl (fun K hK => ?_); go_simp; refine hK _ ?_; clear hK K)
  refine loose_wanted rfl (fun K hK => ?_)
  go_simp
  refine ⟨fun p => (PixelOf_any _ _ _ _ p.w hh'.out).mono ?_, ?_⟩
  · rintro e w' ⟨rfl, hb⟩
    exact ⟨_, rfl, rfl, p.h.trans (hb.mono p.h.size)⟩
  refine hK _ ?_
  clear hK K
  refine loose_wanted rfl (fun K hK => ?_)
  go_simp
  refine ⟨fun p => (samePixel_any _ _ _ _ _ _ _ _ p.w).mono ?_, ?_⟩
  · rintro e w' ⟨rfl, hb⟩
    exact ⟨_, rfl, by simp, p.h.trans (hb.mono p.h.size)⟩
  refine hK _ ?_
  clear hK K
  iterate 1 (refine loose_wanted rfl (fun K hK => ?_); go_simp; refine hK _ ?_; clear hK K)
  refine loose_nil (fun w5 hb5 => ?_)
  have P5 := P2'.out.below hb5 q3
  have T5 := T2'.out.below hb5 q2
  have B5 : Below w.heap.size w w5 := B2.trans (hb5.mono (by omega))
  have zz := hb5.size
  have q5 : w.heap.size + 1 < w5.heap.size := by omega
  have q6 : w.heap.size < w5.heap.size := by omega
  clear hb5 zz c0 c1 c2 c3 cf P2' T2' q2 q3 B2
  obtain ⟨c0, c1, c2, c3, cf⟩ := P5
  obtain ⟨d0, d1, d2⟩ := T5
  go_wp2_with fail
  refine wp_region_loose 41 (fun f' args u => (f' = 91 ∧ u = .float .f32 (if allNum [h, b] then apF h b else 2143289344)) ∨ (f' = 92 ∧ u = .float .f32 (if allNum [h, b] then apF h b else 2143289344)) ∨ (f' = 24 ∧ u = .bool true) ∨ (f' = 93 ∧ u = turnV p0 p1 p2 p3 b) ∨ (f' = 90 ∧ u = turnV p0 p1 p2 p3 b) ∨ (f' = 39 ∧ u = .bool true) ∨ (f' = 94 ∧ u = .float .f32 (lumaF u0 u1 u2 p0 p1 p2)) ∨ (f' = 95 ∧ u = .float .f32 (lumaF u0 u1 u2 p0 p1 p2)) ∨ (f' = 96 ∧ u = satPix (lumaF u0 u1 u2 p0 p1 p2) b p0 p1 p2 p3) ∨ (f' = 97 ∧ u = satPix (lumaF u0 u1 u2 p0 p1 p2) b p0 p1 p2 p3)) (by kernel_rfl) (by kernel_rfl) ?_
  simp only [List.take_succ_cons, List.take_zero, List.drop_succ_cons, List.drop_zero]
  iterate 2 (refine loose_wanted rfl (fun K hK => ?_); go_simp; refine hK _ ?_; clear hK K)
  refine loose_wanted rfl (fun K hK => ?_)
  go_simp
  refine ⟨fun p => (HueApart_any _ _ p.w).mono ?_, ?_⟩
  · rintro e w' ⟨rfl, hb⟩
    exact ⟨_, rfl, rfl, p.h.trans (hb.mono p.h.size)⟩
  refine hK _ ?_
  clear hK K
  iterate 2 (refine loose_wanted rfl (fun K hK => ?_); go_simp; refine hK _ ?_; clear hK K)
  refine loose_wanted rfl (fun K hK => ?_)
  go_simp
  refine ⟨fun p => (HuesApart_any _ _ p.w).mono ?_, ?_⟩
  · rintro e w' ⟨rfl, hb⟩
    exact ⟨_, rfl, rfl, p.h.trans (hb.mono p.h.size)⟩
  refine hK _ ?_
  clear hK K
  refine loose_wanted rfl (fun K hK => ?_)
  go_simp
  refine ⟨fun p => (same_any _ _ p.w).mono ?_, ?_⟩
  · rintro e w' ⟨rfl, rfl⟩
    exact ⟨_, rfl, by simp, p.h⟩
  refine hK _ ?_
  clear hK K
  iterate 3 (refine loose_wanted rfl (fun K hK => ?_); go_simp; refine hK _ ?_; clear hK K)
  refine loose_wanted rfl (fun K hK => ?_)
  go_simp
  refine ⟨fun p => (Turn_any _ _ _ _ _ p.w).mono ?_, ?_⟩
  · rintro e w' ⟨rfl, hb⟩
    exact ⟨_, rfl, rfl, p.h.trans (hb.mono p.h.size)⟩
  refine hK _ ?_
  clear hK K
  iterate 2 (refine loose_wanted rfl (fun K hK => ?_); go_simp; refine hK _ ?_; clear hK K)
  refine loose_farith rfl rfl rfl rfl ?_
  intro r hr
  iterate 4 (refine loose_wanted rfl (fun K hK => ?_); go_simp; refine hK _ ?_; clear hK K)
  refine loose_wanted rfl (fun K hK => ?_)
  go_simp
  refine ⟨fun p => (PixelOf_any _ _ _ _ p.w hr.lt).mono ?_, ?_⟩
  · rintro e w' ⟨rfl, hb⟩
    exact ⟨_, rfl, (by rw [← pixV_cn, hr.eq]; rfl), p.h.trans (hb.mono p.h.size)⟩
  refine hK _ ?_
  clear hK K
  refine loose_wanted rfl (fun K hK => ?_)
  go_simp
  refine ⟨fun p => (samePixel_any _ _ _ _ _ _ _ _ p.w).mono ?_, ?_⟩
  · rintro e w' ⟨rfl, hb⟩
    exact ⟨_, rfl, by simp, p.h.trans (hb.mono p.h.size)⟩
  refine hK _ ?_
  clear hK K
  iterate 4 (refine loose_wanted rfl (fun K hK => ?_); go_simp; refine hK _ ?_; clear hK K)
  refine loose_wanted rfl (fun K hK => ?_)
  go_simp
  refine ⟨fun p => (Luma_any _ _ _ _ _ _ _ p.w).mono ?_, ?_⟩
  · rintro e w' ⟨rfl, hb⟩
    exact ⟨_, rfl, rfl, p.h.trans (hb.mono p.h.size)⟩
  refine hK _ ?_
  clear hK K
  iterate 2 (refine loose_wanted rfl (fun K hK => ?_); go_simp; refine hK _ ?_; clear hK K)
  refine loose_wanted rfl (fun K hK => ?_)
  go_simp
  refine ⟨fun p => (LumaOf_any _ _ _ _ _ _ _ p.w).mono ?_, ?_⟩
  · rintro e w' ⟨rfl, hb⟩
    exact ⟨_, rfl, rfl, p.h.trans (hb.mono p.h.size)⟩
  refine hK _ ?_
  clear hK K
  refine loose_wanted rfl (fun K hK => ?_)
  go_simp
  refine ⟨fun p => (same_any _ _ p.w).mono ?_, ?_⟩
  · rintro e w' ⟨rfl, rfl⟩
    exact ⟨_, rfl, by simp, p.h⟩
  refine hK _ ?_
  clear hK K
  iterate 5 (refine loose_wanted rfl (fun K hK => ?_); go_simp; refine hK _ ?_; clear hK K)
  refine loose_wanted rfl (fun K hK => ?_)
  go_simp
  refine ⟨fun p => (Saturate_any _ _ _ _ _ _ _ _ p.w).mono ?_, ?_⟩
  · rintro e w' ⟨rfl, hb⟩
    exact ⟨_, rfl, rfl, p.h.trans (hb.mono p.h.size)⟩
  refine hK _ ?_
  clear hK K
  iterate 3 (refine loose_wanted rfl (fun K hK => ?_); go_simp; refine hK _ ?_; clear hK K)
  refine loose_wanted rfl (fun K hK => ?_)
  go_simp
  refine ⟨fun p => (SaturatedOf_any _ _ _ _ _ _ _ _ p.w).mono ?_, ?_⟩
  · rintro e w' ⟨rfl, hb⟩
    exact ⟨_, rfl, rfl, p.h.trans (hb.mono p.h.size)⟩
  refine hK _ ?_
  clear hK K
  refine loose_wanted rfl (fun K hK => ?_)
  go_simp
  refine ⟨fun p => (samePixel_any _ _ _ _ _ _ _ _ p.w).mono ?_, ?_⟩
  · rintro e w' ⟨rfl, hb⟩
    exact ⟨_, rfl, by simp, p.h.trans (hb.mono p.h.size)⟩
  refine hK _ ?_
  clear hK K
  iterate 1 (refine loose_wanted rfl (fun K hK => ?_); go_simp; refine hK _ ?_; clear hK K)
  refine loose_nil (fun w6 hb6 => ?_)
  have B6 : Below w.heap.size w w6 := B5.trans (hb6.mono (by omega))
  clear c0 c1 c2 c3 cf d0 d1 d2
  go_wp2_with fail
  all_goals
    go_ret
    exact ⟨rfl, B6⟩
end Go.Proofs.Ytmnmcmmhnbnndaa
