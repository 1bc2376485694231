/- Vignettes of a pixel: finish.Vignetted. No condition. -/
import Derived.Test.YtalgepfammpmbaaVgA
import Derived.Test.YtalgepfammpmbaaFrF
namespace Go.Proofs.Ytalgepfammpmbaa
open Go.RowKit
theorem wp_here {P : Program} {c : Code} {Q : Exit → Act → World → Prop} {a : Act} {w : World} (h : ∀ W, W = w → c.wp P Q a W) : c.wp P Q a w := h w rfl
/-- How much a place is darkened. -/
def darkR (vx vy : Nat) (X Y : Int) : Nat :=
  rootF (fop .add .f32 (fop .mul .f32 (fop .sub .f32 (floatOfInt .f32 X) vx) (fop .sub .f32 (floatOfInt .f32 X) vx)) (fop .mul .f32 (fop .sub .f32 (floatOfInt .f32 Y) vy) (fop .sub .f32 (floatOfInt .f32 Y) vy)))
def darkM (vx vy vi vo vd : Nat) (X Y : Int) : Nat := lerpF 1065353216 vd (smoothF (fop .quo .f32 (fop .sub .f32 (darkR vx vy X Y) vi) (fop .sub .f32 vo vi)))
/-- What the calls of one value hand back. -/
def VgPsi (vd : Nat) (f : FuncId) (args : Array Value) (u : Value) : Prop :=
  (f = 182 ∧ ∃ t, args = #[.float .f32 t] ∧ u = .float .f32 (smoothF t)) ∨ (f = 172 ∧ ∃ t, args = #[.float .f32 1065353216, .float .f32 vd, .float .f32 t] ∧ u = .float .f32 (lerpF 1065353216 vd t))
theorem vg_sm {vd t : Nat} {u : Value} (h : VgPsi vd 182 #[.float .f32 t] u) : u = .float .f32 (smoothF t) := by
  rcases h with ⟨-, t', h1, rfl⟩ | ⟨h, -⟩
  · simp at h1; rw [h1]
  · exact absurd h (by decide)
theorem vg_le {vd t : Nat} {u : Value} (h : VgPsi vd 172 #[.float .f32 1065353216, .float .f32 vd, .float .f32 t] u) : u = .float .f32 (lerpF 1065353216 vd t) := by
  rcases h with ⟨h, -⟩ | ⟨-, t', h1, rfl⟩
  · exact absurd h (by decide)
  · simp at h1; rw [h1]
theorem ord_FR' {k : FloatKind} {r s : Nat} (h : FR k r s) (y : Nat) : k.format.order r y = k.format.order s y := by
  have := h.eq
  by_cases hn : isN k r = true
  · have h2 : isN k s = true := by rw [← this, isN_cn]; exact hn
    rw [ord_nan_l _ hn, ord_nan_l _ h2]
  · rw [cn_of_not (by simpa using hn)] at this; rw [this]
theorem smooth_FR2 {r s : Nat} (h : FR .f32 r s) : smoothF r = smoothF s := by
  have e : cn .f32 s = cn .f32 r := by rw [← h.eq, cn_cn]
  have l : limF r 0 1065353216 = limF s 0 1065353216 := by unfold limF; rw [ord_FR' h, ord_FR' h, e]
  unfold smoothF; rw [l]
set_option maxHeartbeats 400000 in
theorem Vig1_any (c : Int) (v m pm : Nat) (w : World) (hm : w.cell? ⟨pm, 0, none⟩ = some (.float .f32 m)) :
    Calls Try.prog 183 #[.int .i64 c, .float .f32 v, .pointer (some ⟨pm, 0, none⟩)] w fun e w' => ∃ r, e = .returned (.float .f32 r) ∧ FR .f32 r (fop .mul .f32 v m) ∧ Below w.heap.size w w' := by
  go_enter Try.func183, Try.ntmps183
  go_wp2_with (first | ((with_reducible apply wpList_farith); rfl; rfl; rfl; intro _ _ _) | ((with_reducible apply wpList_up); rfl; exact Try.underlying27; exact Try.underlying151; intro _ _ _))
  rename_i r n hr
  go_ret
  exact ⟨_, rfl, by simpa only [fop_cn_left, fop_cn_right] using hr, by (repeat (first | exact Below.refl _ _ | assumption | (refine Below.setCell ?_ (by first | (simp; done) | (simp; omega) | omega) _) | (refine Below.drew ?_) | (refine below_drewN ?_ _) | (refine Below.alloc ?_ (by first | (simp; done) | (simp; omega) | omega) _) | (refine Below.trans ?_ (Below.mono (by assumption) (by first | (simp; done) | (simp; omega) | omega)))))⟩
theorem cell_lt' {w : World} {a : Addr} {v : Value} (h : w.cell? a = some v) : a.block < w.heap.size := by
  rcases Nat.lt_or_ge a.block w.heap.size with k | k
  · exact k
  · simp [World.cell?, Array.getElem?_eq_none k] at h
theorem calls_here {P : Program} {f : FuncId} {args : Array Value} {w : World} {Q : Ending → World → Prop} (h : ∀ W, W = w → Calls P f args W Q) : Calls P f args w Q := h w rfl
set_option maxRecDepth 100000 in
set_option maxHeartbeats 1600000 in
theorem Vignetted_any (vx vy vi vo vd : Nat) (X Y : Int) (p : Nat → Nat) (w : World) (hp : ∀ c, c < 4 → p c < 2 ^ FloatKind.f32.format.width) :
    Calls Try.prog 117 #[.agg #[.float .f32 (p 0), .float .f32 (p 1), .float .f32 (p 2), .float .f32 (p 3)], .agg #[.float .f32 vx, .float .f32 vy, .float .f32 vi, .float .f32 vo, .float .f32 vd], .int .i64 X, .int .i64 Y] w fun e w' =>
      (∃ q : Nat → Nat, e = .returned (.agg #[.float .f32 (q 0), .float .f32 (q 1), .float .f32 (q 2), .float .f32 (q 3)]) ∧ q = fun c => if c < 3 then fop .mul .f32 (p c) (darkM vx vy vi vo vd X Y) else cn .f32 (p c)) ∧ Below w.heap.size w w' := by
  have h0 := hp 0 (by omega); have h1 := hp 1 (by omega); have h2 := hp 2 (by omega)
  have HP := Lib.hid (And.intro h0 (And.intro h1 h2))
  clear hp h0 h1 h2
  go_enter Try.func117, Try.ntmps117
  go_wp2_with fail
  obtain ⟨W, hW⟩ : ∃ W, W = ((w.alloc (.cells #[.float .f32 (p 0), .float .f32 (p 1), .float .f32 (p 2), .float .f32 (p 3)] 41)).alloc (.cells #[.float .f32 vx, .float .f32 vy, .float .f32 vi, .float .f32 vo, .float .f32 vd] 29)).alloc (.cells #[.float .f32 0, .float .f32 0, .float .f32 0, .float .f32 0] 41) := ⟨_, rfl⟩
  have c0 : W.cell? ⟨w.heap.size + 1, 0, none⟩ = some (.float .f32 vx) := by rw [hW]; simp [go_sem]
  have c1 : W.cell? ⟨w.heap.size + 1, 1, none⟩ = some (.float .f32 vy) := by rw [hW]; simp [go_sem]
  have c2 : W.cell? ⟨w.heap.size + 1, 2, none⟩ = some (.float .f32 vi) := by rw [hW]; simp [go_sem]
  have c3 : W.cell? ⟨w.heap.size + 1, 3, none⟩ = some (.float .f32 vo) := by rw [hW]; simp [go_sem]
  have c4 : W.cell? ⟨w.heap.size + 1, 4, none⟩ = some (.float .f32 vd) := by rw [hW]; simp [go_sem]
  have B0 : Below w.heap.size w W := by rw [hW]; (repeat (first | exact Below.refl _ _ | assumption | (refine Below.setCell ?_ (by first | (simp; done) | (simp; omega) | omega) _) | (refine Below.drew ?_) | (refine below_drewN ?_ _) | (refine Below.alloc ?_ (by first | (simp; done) | (simp; omega) | omega) _) | (refine Below.trans ?_ (Below.mono (by assumption) (by first | (simp; done) | (simp; omega) | omega)))))
  have PP : Hid (Pix4 W w.heap.size (p 0) (p 1) (p 2) (p 3)) := by rw [hW]; exact ⟨by simp [go_sem], by simp [go_sem], by simp [go_sem], by simp [go_sem], fun o => by simp [go_sem]⟩
  have RR : Hid (Pix4 W (w.heap.size + 1 + 1) 0 0 0 0) := by rw [hW]; exact ⟨by simp [go_sem], by simp [go_sem], by simp [go_sem], by simp [go_sem], fun o => by simp [go_sem]⟩
  have sW : W.heap.size = w.heap.size + 1 + 1 + 1 := by rw [hW]; simp
  rw [← hW]
  have CC := Lib.hid (And.intro c2 (And.intro c3 c4))
  have l1 : w.heap.size + 1 < W.heap.size := by omega
  clear hW c2 c3 c4
  refine wp_region_loose 11 (fun _ _ _ => False) (by kernel_rfl) (by kernel_rfl) ?_
  simp only [List.take_succ_cons, List.take_zero, List.drop_succ_cons, List.drop_zero]
  iterate 4 (refine loose_wanted rfl (fun K hK => ?_); go_simp; refine hK _ ?_; clear hK K)
  (first | ((with_reducible apply loose_farith); rfl; rfl; rfl; rfl; intro _ _) | ((with_reducible apply loose_up); rfl; rfl; exact Try.underlying27; exact Try.underlying151; intro _ _))
  iterate 4 (refine loose_wanted rfl (fun K hK => ?_); go_simp; refine hK _ ?_; clear hK K)
  (first | ((with_reducible apply loose_farith); rfl; rfl; rfl; rfl; intro _ _) | ((with_reducible apply loose_up); rfl; rfl; exact Try.underlying27; exact Try.underlying151; intro _ _))
  rename_i x1 a1 x2 a2
  iterate 1 (refine loose_wanted rfl (fun K hK => ?_); go_simp; refine hK _ ?_; clear hK K)
  refine loose_nil (fun w5 hb5 => ?_)
  go_wp2_with (first | ((with_reducible apply wpList_farith); rfl; rfl; rfl; intro _ _ _) | ((with_reducible apply wpList_up); rfl; exact Try.underlying27; exact Try.underlying151; intro _ _ _) | (go_at_call 181; refine (Root_any _ _).mono ?_; rintro e w6 ⟨rfl, m6, rfl⟩))
  rename_i r1 n1 b1 r2 n2 b2 r3 n3 b3 _ _
  refine wp_here (fun w6 hw6 => ?_)
  have B5 := B0.trans (hb5.mono B0.size)
  have B6 : Below w.heap.size w w6 := by rw [hw6]; (repeat (first | exact Below.refl _ _ | assumption | (refine Below.setCell ?_ (by first | (simp; done) | (simp; omega) | omega) _) | (refine Below.drew ?_) | (refine below_drewN ?_ _) | (refine Below.alloc ?_ (by first | (simp; done) | (simp; omega) | omega) _) | (refine Below.trans ?_ (Below.mono (by assumption) (by first | (simp; done) | (simp; omega) | omega)))))
  have B7 : Below W.heap.size W w6 := by rw [hw6]; (repeat (first | exact Below.refl _ _ | assumption | (refine Below.setCell ?_ (by first | (simp; done) | (simp; omega) | omega) _) | (refine Below.drew ?_) | (refine below_drewN ?_ _) | (refine Below.alloc ?_ (by first | (simp; done) | (simp; omega) | omega) _) | (refine Below.trans ?_ (Below.mono (by assumption) (by first | (simp; done) | (simp; omega) | omega)))))
  have hR : rootF r3 = darkR vx vy X Y := by
    unfold darkR
    have e := b3.eq
    rw [b1.eq, b2.eq, a1.eq, a2.eq] at e
    simp only [fop_cn_left, fop_cn_right] at e
    rw [← e]; unfold rootF; rw [fcv_cn]
  rw [hR]
  obtain ⟨c2, c3, c4⟩ := CC.out
  have d2 := (B7.cell (p := ⟨w.heap.size + 1, 2, none⟩) l1).trans c2
  have d3 := (B7.cell (p := ⟨w.heap.size + 1, 3, none⟩) l1).trans c3
  have d4 := (B7.cell (p := ⟨w.heap.size + 1, 4, none⟩) l1).trans c4
  have l2 : w.heap.size + 1 < w6.heap.size := by have := B7.size; omega
  have P6 := Lib.hid (PP.out.below B7 (by omega)); have R6 := Lib.hid (RR.out.below B7 (by omega))
  have s6 : w.heap.size + 1 + 1 + 1 ≤ w6.heap.size := by have := B7.size; omega
  have HB6 := Lib.hid B6
  clear hb5 hw6 c0 c1 c2 c3 c4 B0 B5 B6 B7 b1 b2 b3 a1 a2 hR
  refine wp_region_looseM 15 (fun f args u => VgPsi vd f args u) [(14, 12, .cells #[.float .f32 0] 27)] (by kernel_rfl) (by kernel_rfl) (by kernel_rfl) (by intro m hm; simp at hm; rcases hm with rfl; exact ⟨_, rfl, ⟨rfl, rfl, fun ev w => by kernel_rfl⟩⟩) (by intro m hm; simp at hm; rcases hm with rfl; exact of_decide_eq_true (by kernel_rfl)) ?_
  simp only [List.take_succ_cons, List.take_zero, List.drop_succ_cons, List.drop_zero]
  iterate 5 (refine looseM_wanted rfl (fun K hK => ?_); go_simp; refine hK _ ?_; clear hK K)
  (first | ((with_reducible apply looseM_farith); rfl; rfl; rfl; rfl; intro _ _))
  iterate 4 (refine looseM_wanted rfl (fun K hK => ?_); go_simp; refine hK _ ?_; clear hK K)
  (first | ((with_reducible apply looseM_farith); rfl; rfl; rfl; rfl; intro _ _))
  (first | ((with_reducible apply looseM_farith); rfl; rfl; rfl; rfl; intro _ _))
  rename_i s1 a1 s2 a2 s3 a3
  refine looseM_wanted rfl (fun K1 hK => ?_)
  go_simp
  refine ⟨fun p => (Smooth_any _ p.w).mono ?_, ?_⟩
  · rintro e w' ⟨rfl, m, rfl⟩
    exact ⟨_, rfl, .inl ⟨rfl, _, rfl, rfl⟩, below_drewN (Below.refl _ _) m⟩
  intro u hu
  obtain rfl := vg_sm hu
  refine hK _ ?_
  clear hK K1 hu
  refine looseM_wanted rfl (fun K1 hK => ?_)
  go_simp
  refine ⟨fun p => (Lerp_any _ _ _ p.w).mono ?_, ?_⟩
  · rintro e w' ⟨rfl, m, rfl⟩
    exact ⟨_, rfl, .inr ⟨rfl, _, rfl, rfl⟩, below_drewN (Below.refl _ _) m⟩
  intro u hu
  obtain rfl := vg_le hu
  refine hK _ ?_
  clear hK K1 hu
  refine looseM_lays (d := 12) (blk := .cells #[.float .f32 0] 27) ⟨rfl, rfl, fun ev w => by kernel_rfl⟩ (fun ga hga => ?_)
  refine looseM_nil (fun w2 hb2 hg2 hne2 => ?_)
  obtain ⟨ga', e1, hA⟩ := hg2 _ (List.Mem.head _)
  obtain rfl : ga = ga' := by cases e1; rfl
  clear hg2 hne2 e1
  have A0 : w2.cell? ⟨ga, 0, none⟩ = some (.float .f32 0) := by simp [World.cell?, hA]
  have A1 : w2.frozen? ⟨ga, 0, none⟩ = false := by simp [World.frozen?, hA]
  have hM : lerpF 1065353216 vd (smoothF s3) = darkM vx vy vi vo vd X Y := by
    unfold darkM
    rw [smooth_FR2 a3, a1.eq, a2.eq]
    simp only [fop_cn_left, fop_cn_right]
  rw [hM]
  obtain ⟨M, hMe⟩ : ∃ M, M = darkM vx vy vi vo vd X Y := ⟨_, rfl⟩
  rw [← hMe]
  have HM := Lib.hid hMe; clear hMe
  have P2 := P6.out.below hb2 (by omega)
  have R2 := Lib.hid (R6.out.below hb2 (by omega))
  have B2 := Lib.hid (HB6.out.trans (hb2.mono HB6.out.size))
  have hs2 := hb2.size
  have lga := cell_lt' A0
  simp only at lga
  have p0' := P2.c0; have p1' := P2.c1; have p2' := P2.c2; have p3' := P2.c3
  clear hb2 d2 d3 d4 a1 a2 a3 hM P2 hA
  go_wp2_with fail
  refine calls_here (fun W3 hW3 => ?_)
  have m3 : W3.cell? ⟨ga, 0, none⟩ = some (.float .f32 M) := by rw [hW3]; exact World.cell?_setCell_same _ _ _ A0
  have s3' : W3.heap.size = w2.heap.size := by rw [hW3]; simp
  have R3 : Pix4 W3 (w.heap.size + 1 + 1) 0 0 0 0 := by rw [hW3]; exact R2.out.far _ _ (by first | (simp; done) | (simp; omega) | omega)
  have B3 : Below w.heap.size w W3 := by rw [hW3]; exact B2.out.setCell (by first | (simp; done) | (simp; omega) | omega) _
  have lg3 : ga < W3.heap.size := by omega
  clear hW3 A0 A1 p0' p1' p2' p3' R2 B2
  refine (three_any _ _ (fun _ u => fop .mul .f32 u M) (p 0) (p 1) (p 2) (p 3) W3 HP.out.1 HP.out.2.1 HP.out.2.2 (body_enters Try.func183 (by kernel_rfl) rfl) (fun c u w' hb' hu => ?_)).mono ?_
  · exact Vig1_any c u M ga w' ((hb'.cell (p := ⟨ga, 0, none⟩) lg3).trans m3)
  rintro e w4 ⟨he, hb4⟩
  obtain ⟨q, hq⟩ : ∃ q : Nat → Nat, q = fun c => if c < 3 then fop .mul .f32 (p c) M else cn .f32 (p c) := ⟨_, rfl⟩
  have he2 : e = .returned (.agg #[.float .f32 (q 0), .float .f32 (q 1), .float .f32 (q 2), .float .f32 (q 3)]) := by rw [he, hq]; rfl
  clear he
  subst he2
  have HQ := Lib.hid hq; clear hq
  have R4 := R3.below hb4 (by omega)
  have B4 := B3.trans (hb4.mono (by omega))
  clear R3 B3 hb4 m3
  obtain ⟨d0, d1, d2, d3, df⟩ := R4
  go_wp2_with fail
  refine bodyPost_ret (v := .agg #[.float .f32 (q 0), .float .f32 (q 1), .float .f32 (q 2), .float .f32 (q 3)]) (by simp [results, Try.results117, go_sem, d0, d1, d2, d3]) rfl ⟨⟨q, rfl, by rw [HQ.out, HM.out]⟩, ?_⟩
  exact (((B4.setCell (by first | (simp; done) | (simp; omega) | omega) _).setCell (by first | (simp; done) | (simp; omega) | omega) _).setCell (by first | (simp; done) | (simp; omega) | omega) _).setCell (by first | (simp; done) | (simp; omega) | omega) _
end Go.Proofs.Ytalgepfammpmbaa
