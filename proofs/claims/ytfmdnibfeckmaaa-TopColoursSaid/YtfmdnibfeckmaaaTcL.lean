/- colour.Apply at white. Conditions: the matrix' sums, made singles, do not overflow. -/
import Derived.Test.YtfmdnibfeckmaaaTcJ
import Derived.Test.YtfmdnibfeckmaaaHlN
namespace Go.Proofs.Ytfmdnibfeckmaaa
open Go Go.RowKit
def onesF : Nat → Nat := fun _ => 4607182418800017408
set_option maxRecDepth 100000 in
set_option maxHeartbeats 6400000 in
theorem Apply_one (m F T : Nat → Nat) (w : World) (hF : ∀ i, i < 9 → cn .f64 (m i) = F i) (hT : ∀ i, i < 3 → tmF F onesF i = T i ∧ isN .f64 (T i) = false ∧ ovf .f64 .f32 (T i) = false) :
    Calls Try.prog 15 #[m9 m, .agg #[.float .f32 1065353216, .float .f32 1065353216, .float .f32 1065353216, .float .f32 1065353216]] w fun e w' =>
    e = .returned (.agg #[.float .f32 (fcv .f64 .f32 (T 0)), .float .f32 (fcv .f64 .f32 (T 1)), .float .f32 (fcv .f64 .f32 (T 2)), .float .f32 1065353216]) ∧ Below w.heap.size w w' := by
  have HF := Lib.hid hF; have HT := Lib.hid hT
  have e1 : fcv .f32 .f64 (cn .f32 1065353216) = 4607182418800017408 := by decide +kernel
  have n1 : cn .f32 1065353216 = 1065353216 := by decide +kernel
  obtain ⟨o, ho⟩ : ∃ o, o = 1065353216 := ⟨_, rfl⟩
  rw [← ho] at e1 n1 ⊢
  have HE := Lib.hid (And.intro e1 n1)
  clear hF hT e1 n1 ho
  go_enter Try.func15, Try.ntmps15
  go_upto_region 1 with fail
  refine wp_world (fun W hW => ?_)
  have M0 : VecD W w.heap.size 9 m := by rw [hW]; exact VecD.of9 (((Blk.new _ _ _ _ rfl).alloc _).alloc _)
  have P0 : Blk W (w.heap.size + 1) [.float .f32 o, .float .f32 o, .float .f32 o, .float .f32 o] := by rw [hW]; exact (Blk.new _ _ _ _ (by simp)).alloc _
  have Z0 : Blk W (w.heap.size + 2) [.float .f32 0, .float .f32 0, .float .f32 0, .float .f32 0] := by rw [hW]; exact Blk.new _ _ _ _ (by simp)
  have B0 : Below w.heap.size w W := by rw [hW]; (repeat (first | exact Below.refl _ _ | assumption | (refine Below.setCell ?_ (by first | (simp; done) | (simp; omega) | omega) _) | (refine Below.drew ?_) | (refine below_drewN ?_ _) | (refine Below.alloc ?_ (by first | (simp; done) | (simp; omega) | omega) _) | (refine Below.trans ?_ (Below.mono (by assumption) (by first | (simp; done) | (simp; omega) | omega)))))
  have H0 := Lib.hid (And.intro M0 (And.intro P0 (And.intro Z0 B0)))
  have p0 := P0.c 0 _ rfl; have p1 := P0.c 1 _ rfl; have p2 := P0.c 2 _ rfl; have pl := P0.lt
  clear hW M0 P0 Z0 B0
  go_wp2_with (first | ((with_reducible apply wpList_ld9 (H0.out.1)); rfl; rfl; rfl) | ((with_reducible apply wpList_farith); rfl; rfl; rfl; intro _ _ _) | ((with_reducible apply wpList_up); rfl; exact Try.underlying22; exact Try.underlying30; intro _ _ _))
  rename_i r0 _ h0 r1 _ h1 r2 _ h2 _ _
  have hv : ∀ j, j < 3 → cn .f64 (pk3 r0 r1 r2 j) = onesF j := fun j hj => by
    rcases (show j = 0 ∨ j = 1 ∨ j = 2 by omega) with rfl | rfl | rfl
    · exact h0.eq.trans HE.out.1
    · exact h1.eq.trans HE.out.1
    · exact h2.eq.trans HE.out.1
  have HV := Lib.hid hv
  clear h0 h1 h2 hv
  refine (times_any m (pk3 r0 r1 r2) _).mono ?_
  rintro e w1 ⟨⟨t, rfl, ht⟩, hb1⟩
  have ht' : ∀ i, i < 3 → t i = T i := fun i hi => by
    have h1 := (ht i hi).trans (tm_congr HF.out HV.out hi)
    rw [(HT.out i hi).1] at h1
    have h2 : isN .f64 (t i) = false := by rw [← isN_cn, h1]; exact (HT.out i hi).2.1
    rw [cn_of_not h2] at h1; exact h1
  have HTT := Lib.hid ht'
  have hbz : Below W.heap.size W w1 := Below.trans (by (repeat (first | exact Below.refl _ _ | assumption | (refine Below.setCell ?_ (by first | (simp; done) | (simp; omega) | omega) _) | (refine Below.drew ?_) | (refine below_drewN ?_ _) | (refine Below.alloc ?_ (by first | (simp; done) | (simp; omega) | omega) _) | (refine Below.trans ?_ (Below.mono (by assumption) (by first | (simp; done) | (simp; omega) | omega)))))) (hb1.mono (by simp))
  have H1 := Lib.hid (And.intro (H0.out.2.1.past hbz) (And.intro (H0.out.2.2.1.past hbz) (H0.out.2.2.2.trans (hbz.mono H0.out.2.2.2.size))))
  clear ht ht' hb1 hbz p0 p1 p2 pl H0
  go_upto_region 2 with fail
  refine wp_world (fun U hU => ?_)
  have HU : Hid (Blk U (w.heap.size + 1) [.float .f32 o, .float .f32 o, .float .f32 o, .float .f32 o] ∧ Blk U (w.heap.size + 2) [.float .f32 0, .float .f32 0, .float .f32 0, .float .f32 0] ∧ VecD U w1.heap.size 3 t ∧ Below w.heap.size w U) := Lib.hid (by
    rw [hU]
    exact ⟨H1.out.1.alloc _, H1.out.2.1.alloc _, VecD.of3 (Blk.new _ _ _ _ rfl), H1.out.2.2.alloc H1.out.2.2.size _⟩)
  clear hU H1
  generalize w1.heap.size = nt at *
  have t0 := HU.out.2.2.1.c 0 (by omega); have t1 := HU.out.2.2.1.c 1 (by omega); have t2 := HU.out.2.2.1.c 2 (by omega); have tl := HU.out.2.2.1.lt
  have p3 := HU.out.1.c 3 _ rfl; have pl := HU.out.1.lt
  rw [HTT.out 0 (by omega)] at t0
  rw [HTT.out 1 (by omega)] at t1
  rw [HTT.out 2 (by omega)] at t2
  obtain ⟨T0, hT0⟩ : ∃ x, x = T 0 := ⟨_, rfl⟩
  obtain ⟨T1, hT1⟩ : ∃ x, x = T 1 := ⟨_, rfl⟩
  obtain ⟨T2, hT2⟩ : ∃ x, x = T 2 := ⟨_, rfl⟩
  rw [← hT0] at t0
  rw [← hT1] at t1
  rw [← hT2] at t2
  have HTV := Lib.hid (And.intro hT0 (And.intro hT1 hT2))
  clear hT0 hT1 hT2
  go_wp2_with ((with_reducible apply wpList_fcv); rfl; exact Try.underlying30; exact Try.underlying22; decide; intro _ _ _ _)
  rename_i s0 _ _ f0 s1 _ _ f1 s2 _ _ f2 _ _
  have g0 : cn .f32 s0 = fcv .f64 .f32 (T 0) := by rw [HTV.out.1] at f0; exact (f0 (HT.out 0 (by omega)).2.2).eq
  have g1 : cn .f32 s1 = fcv .f64 .f32 (T 1) := by rw [HTV.out.2.1] at f1; exact (f1 (HT.out 1 (by omega)).2.2).eq
  have g2 : cn .f32 s2 = fcv .f64 .f32 (T 2) := by rw [HTV.out.2.2] at f2; exact (f2 (HT.out 2 (by omega)).2.2).eq
  obtain ⟨x0, hx0⟩ : ∃ x, x = fcv .f64 .f32 (T 0) := ⟨_, rfl⟩
  obtain ⟨x1, hx1⟩ : ∃ x, x = fcv .f64 .f32 (T 1) := ⟨_, rfl⟩
  obtain ⟨x2, hx2⟩ : ∃ x, x = fcv .f64 .f32 (T 2) := ⟨_, rfl⟩
  rw [← hx0] at g0
  rw [← hx1] at g1
  rw [← hx2] at g2
  have HG := Lib.hid (And.intro g0 (And.intro g1 g2))
  have HX := Lib.hid (And.intro hx0 (And.intro hx1 hx2))
  clear f0 f1 f2 g0 g1 g2 hx0 hx1 hx2
  refine (hcleaned_any s0 s1 s2 o _).mono ?_
  rintro e w2 ⟨rfl, hb2⟩
  rw [HG.out.1, HG.out.2.1, HG.out.2.2, HE.out.2]
  have hbz : Below U.heap.size U w2 := Below.trans (by (repeat (first | exact Below.refl _ _ | assumption | (refine Below.setCell ?_ (by first | (simp; done) | (simp; omega) | omega) _) | (refine Below.drew ?_) | (refine below_drewN ?_ _) | (refine Below.alloc ?_ (by first | (simp; done) | (simp; omega) | omega) _) | (refine Below.trans ?_ (Below.mono (by assumption) (by first | (simp; done) | (simp; omega) | omega)))))) (hb2.mono (by simp))
  have H2 := Lib.hid (And.intro (HU.out.2.1.past hbz) (HU.out.2.2.2.trans (hbz.mono HU.out.2.2.2.size)))
  clear hb2 hbz t0 t1 t2 tl p3 pl HU
  have z0 := H2.out.1.c 0 _ rfl; have z1 := H2.out.1.c 1 _ rfl; have z2 := H2.out.1.c 2 _ rfl; have z3 := H2.out.1.c 3 _ rfl; have zf := H2.out.1.f; have zl := H2.out.1.lt
  have HB := Lib.hid H2.out.2
  clear H2
  go_wp2_with fail
  refine bodyPost_ret (v := .agg #[.float .f32 x0, .float .f32 x1, .float .f32 x2, .float .f32 o]) (by simp [results, Try.results15, go_sem, z0, z1, z2, z3]) rfl ⟨by rw [HX.out.1, HX.out.2.1, HX.out.2.2], ?_⟩
  (repeat (first | (with_reducible exact HB.out) | (refine Below.setCell ?_ (by first | (simp; done) | (simp; omega) | omega) _)))
end Go.Proofs.Ytfmdnibfeckmaaa
