/- grade.CheckGrade by its kind. Conditions: what each theorem names. (with: LbIc) -/
import Derived.Test.YthlomgbchmhjiaaGreatDoorLD
import Derived.Test.YthlomgbchmhjiaaGreatDoorLbHa
import Derived.Test.YthlomgbchmhjiaaGreatDoorLbHb
set_option linter.unusedSimpArgs false
set_option linter.unusedVariables false
namespace Go.Proofs.YthlomgbchmhjiaaGreatDoor
open Go Go.RowKit
set_option maxRecDepth 100000 in
set_option maxHeartbeats 6400000 in
theorem CheckGrade_1 (g : GradeD) (hk : g.k = 1) (w : World) : Calls Tryz.prog 14 #[gradeV g] w fun e w' => e = .returned (.int .i64 (grE g)) ∧ Below w.heap.size w w' := by
  obtain ⟨gl, hgl⟩ : ∃ gl, gl = gradeL g := ⟨_, rfl⟩
  have e0 : gradeV g = .agg gl.toArray := by rw [hgl]; rfl
  have HS : Hid (gl = (gl.drop 0).take 49) := Lib.hid (by rw [hgl]; rfl)
  have HI : Hid ((Tryz.prog.info? 63).map (·.size) = some gl.length) := Lib.hid (by rw [hgl]; exact infoGr)
  have HE : Hid (grE g = if whK g = 0 then (if spB g then 0 else 12) else whK g) := Lib.hid (by unfold grE grK; rw [hk]; rfl)
  have HSP : Hid (∀ w, Calls Tryz.prog 30 #[.agg gl.toArray] w fun e w' => e = .returned (.bool (spB g)) ∧ Below w.heap.size w w') := Lib.hid (fun w => by rw [← e0]; exact spare_1 g hk w)
  have HG0 : Hid (gl[0]? = some (.int .i64 1)) := Lib.hid (by rw [hgl, ← hk]; rfl)
  obtain ⟨x0, hx0⟩ : ∃ x, x = g.f 0 := ⟨_, rfl⟩
  have HC0 : Hid (gl[1]? = some (.float .f32 x0)) := Lib.hid (by rw [hgl, hx0]; rfl)
  obtain ⟨x1, hx1⟩ : ∃ x, x = g.f 1 := ⟨_, rfl⟩
  have HC1 : Hid (gl[2]? = some (.float .f32 x1)) := Lib.hid (by rw [hgl, hx1]; rfl)
  obtain ⟨x2, hx2⟩ : ∃ x, x = g.f 2 := ⟨_, rfl⟩
  have HC2 : Hid (gl[3]? = some (.float .f32 x2)) := Lib.hid (by rw [hgl, hx2]; rfl)
  obtain ⟨x3, hx3⟩ : ∃ x, x = g.f 3 := ⟨_, rfl⟩
  have HC3 : Hid (gl[4]? = some (.float .f32 x3)) := Lib.hid (by rw [hgl, hx3]; rfl)
  obtain ⟨x4, hx4⟩ : ∃ x, x = g.f 4 := ⟨_, rfl⟩
  have HC4 : Hid (gl[5]? = some (.float .f32 x4)) := Lib.hid (by rw [hgl, hx4]; rfl)
  obtain ⟨x5, hx5⟩ : ∃ x, x = g.f 5 := ⟨_, rfl⟩
  have HC5 : Hid (gl[6]? = some (.float .f32 x5)) := Lib.hid (by rw [hgl, hx5]; rfl)
  obtain ⟨x6, hx6⟩ : ∃ x, x = g.f 6 := ⟨_, rfl⟩
  have HC6 : Hid (gl[7]? = some (.float .f32 x6)) := Lib.hid (by rw [hgl, hx6]; rfl)
  obtain ⟨x7, hx7⟩ : ∃ x, x = g.f 7 := ⟨_, rfl⟩
  have HC7 : Hid (gl[8]? = some (.float .f32 x7)) := Lib.hid (by rw [hgl, hx7]; rfl)
  obtain ⟨x8, hx8⟩ : ∃ x, x = g.f 8 := ⟨_, rfl⟩
  have HC8 : Hid (gl[9]? = some (.float .f32 x8)) := Lib.hid (by rw [hgl, hx8]; rfl)
  have HCK : Hid (∀ w, Calls Tryz.prog 24 #[.agg #[.float .f32 x0, .float .f32 x1, .float .f32 x2, .float .f32 x3, .float .f32 x4, .float .f32 x5, .float .f32 x6, .float .f32 x7, .float .f32 x8]] w fun e w' => e = .returned (.int .i64 (whK g)) ∧ Below w.heap.size w w') := Lib.hid (fun w => by rw [hx0, hx1, hx2, hx3, hx4, hx5, hx6, hx7, hx8]; exact CheckWheels_any _ _ _ _ _ _ _ _ _ w)
  obtain ⟨E, hE⟩ : ∃ E, E = whK g := ⟨_, rfl⟩
  rw [← hE] at HE HCK
  obtain ⟨S, hSS⟩ : ∃ S, S = spB g := ⟨_, rfl⟩
  rw [← hSS] at HE HSP
  obtain ⟨R, hR⟩ : ∃ R, R = grE g := ⟨_, rfl⟩
  rw [← hR] at HE
  rw [← hR]
  rw [e0]
  clear e0 hgl hE hSS hR hk hx0 hx1 hx2 hx3 hx4 hx5 hx6 hx7 hx8
  cases hz : (E == 0)
  case false =>
    have HV := Lib.hid (show R = E by rw [HE.out, if_neg (by simpa using hz)])
    clear HE HSP HS HI
    go_enter Tryz.func14, Tryz.ntmps14
    go_upto_region 1 with fail
    refine wp_world (fun W hW => ?_)
    have HWp : Blk W w.heap.size gl ∧ Below w.heap.size w W := by rw [hW]; exact ⟨Blk.new _ _ _ _ rfl, by (repeat (first | exact Below.refl _ _ | assumption | (refine Below.setCell ?_ (by first | (simp; done) | (simp; omega) | omega) _) | (refine Below.drew ?_) | (refine below_drewN ?_ _) | (refine Below.alloc ?_ (by first | (simp; done) | (simp; omega) | omega) _) | (refine Below.trans ?_ (Below.mono (by assumption) (by first | (simp; done) | (simp; omega) | omega)))))⟩
    obtain ⟨pl, hpl⟩ : ∃ pl, pl = w.heap.size := ⟨_, rfl⟩
    have HW : Hid (Blk W pl gl ∧ Below w.heap.size w W) := Lib.hid (by rw [hpl]; exact HWp)
    rw [← hpl]
    clear hW HWp hpl
    have m0 := HW.out.1.c 0 _ HG0.out; have lk := HW.out.1.lt
    have n0 := HW.out.1.c 1 _ HC0.out; have n1 := HW.out.1.c 2 _ HC1.out; have n2 := HW.out.1.c 3 _ HC2.out; have n3 := HW.out.1.c 4 _ HC3.out; have n4 := HW.out.1.c 5 _ HC4.out; have n5 := HW.out.1.c 6 _ HC5.out; have n6 := HW.out.1.c 7 _ HC6.out; have n7 := HW.out.1.c 8 _ HC7.out; have n8 := HW.out.1.c 9 _ HC8.out
    go_wp2_with (go_at_call 24; refine (HCK.out _).mono ?_; rintro e w2 ⟨rfl, hb2⟩)
    go_ret
    rw [HV.out]
    exact ⟨rfl, HW.out.2.trans (hb2.mono HW.out.2.size)⟩
  case true =>
    obtain rfl : E = 0 := by simpa using hz
    clear hz
    cases hS : S
    case false =>
      have HV := Lib.hid (show R = 12 by rw [HE.out, hS]; rfl)
      clear HE
      go_enter Tryz.func14, Tryz.ntmps14
      go_upto_region 1 with fail
      refine wp_world (fun W hW => ?_)
      have HWp : Blk W w.heap.size gl ∧ Below w.heap.size w W := by rw [hW]; exact ⟨Blk.new _ _ _ _ rfl, by (repeat (first | exact Below.refl _ _ | assumption | (refine Below.setCell ?_ (by first | (simp; done) | (simp; omega) | omega) _) | (refine Below.drew ?_) | (refine below_drewN ?_ _) | (refine Below.alloc ?_ (by first | (simp; done) | (simp; omega) | omega) _) | (refine Below.trans ?_ (Below.mono (by assumption) (by first | (simp; done) | (simp; omega) | omega)))))⟩
      obtain ⟨pl, hpl⟩ : ∃ pl, pl = w.heap.size := ⟨_, rfl⟩
      have HW : Hid (Blk W pl gl ∧ Below w.heap.size w W) := Lib.hid (by rw [hpl]; exact HWp)
      rw [← hpl]
      clear hW HWp hpl
      have m0 := HW.out.1.c 0 _ HG0.out; have lk := HW.out.1.lt
      have n0 := HW.out.1.c 1 _ HC0.out; have n1 := HW.out.1.c 2 _ HC1.out; have n2 := HW.out.1.c 3 _ HC2.out; have n3 := HW.out.1.c 4 _ HC3.out; have n4 := HW.out.1.c 5 _ HC4.out; have n5 := HW.out.1.c 6 _ HC5.out; have n6 := HW.out.1.c 7 _ HC6.out; have n7 := HW.out.1.c 8 _ HC7.out; have n8 := HW.out.1.c 9 _ HC8.out
      go_wp2_with (first | (go_at_call 24; refine (HCK.out _).mono ?_; rintro e w2 ⟨rfl, hb2⟩; have HK2 := Lib.hid (HW.out.1.past hb2); have HB2 := Lib.hid (HW.out.2.trans (hb2.mono HW.out.2.size))) | (go_at_call 30; refine (HSP.out _).mono ?_; rintro e w9 ⟨rfl, hb9⟩; rw [hS]) | ((with_reducible apply wpList_ldW gl Tryz.underlying63 rfl HI.out (HK2.out.sub 0 49 HS.out)); (with_reducible rfl); rfl; rfl))
      go_ret
      rw [HV.out]
      exact ⟨rfl, HB2.out.trans (hb9.mono HB2.out.size)⟩
    case true =>
      have HV := Lib.hid (show R = 0 by rw [HE.out, hS]; rfl)
      clear HE
      go_enter Tryz.func14, Tryz.ntmps14
      go_upto_region 1 with fail
      refine wp_world (fun W hW => ?_)
      have HWp : Blk W w.heap.size gl ∧ Below w.heap.size w W := by rw [hW]; exact ⟨Blk.new _ _ _ _ rfl, by (repeat (first | exact Below.refl _ _ | assumption | (refine Below.setCell ?_ (by first | (simp; done) | (simp; omega) | omega) _) | (refine Below.drew ?_) | (refine below_drewN ?_ _) | (refine Below.alloc ?_ (by first | (simp; done) | (simp; omega) | omega) _) | (refine Below.trans ?_ (Below.mono (by assumption) (by first | (simp; done) | (simp; omega) | omega)))))⟩
      obtain ⟨pl, hpl⟩ : ∃ pl, pl = w.heap.size := ⟨_, rfl⟩
      have HW : Hid (Blk W pl gl ∧ Below w.heap.size w W) := Lib.hid (by rw [hpl]; exact HWp)
      rw [← hpl]
      clear hW HWp hpl
      have m0 := HW.out.1.c 0 _ HG0.out; have lk := HW.out.1.lt
      have n0 := HW.out.1.c 1 _ HC0.out; have n1 := HW.out.1.c 2 _ HC1.out; have n2 := HW.out.1.c 3 _ HC2.out; have n3 := HW.out.1.c 4 _ HC3.out; have n4 := HW.out.1.c 5 _ HC4.out; have n5 := HW.out.1.c 6 _ HC5.out; have n6 := HW.out.1.c 7 _ HC6.out; have n7 := HW.out.1.c 8 _ HC7.out; have n8 := HW.out.1.c 9 _ HC8.out
      go_wp2_with (first | (go_at_call 24; refine (HCK.out _).mono ?_; rintro e w2 ⟨rfl, hb2⟩; have HK2 := Lib.hid (HW.out.1.past hb2); have HB2 := Lib.hid (HW.out.2.trans (hb2.mono HW.out.2.size))) | (go_at_call 30; refine (HSP.out _).mono ?_; rintro e w9 ⟨rfl, hb9⟩; rw [hS]) | ((with_reducible apply wpList_ldW gl Tryz.underlying63 rfl HI.out (HK2.out.sub 0 49 HS.out)); (with_reducible rfl); rfl; rfl))
      go_ret
      rw [HV.out]
      exact ⟨rfl, HB2.out.trans (hb9.mono HB2.out.size)⟩
set_option maxRecDepth 100000 in
set_option maxHeartbeats 6400000 in
theorem CheckGrade_2 (g : GradeD) (hk : g.k = 2) (w : World) : Calls Tryz.prog 14 #[gradeV g] w fun e w' => e = .returned (.int .i64 (grE g)) ∧ Below w.heap.size w w' := by
  obtain ⟨gl, hgl⟩ : ∃ gl, gl = gradeL g := ⟨_, rfl⟩
  have e0 : gradeV g = .agg gl.toArray := by rw [hgl]; rfl
  have HS : Hid (gl = (gl.drop 0).take 49) := Lib.hid (by rw [hgl]; rfl)
  have HI : Hid ((Tryz.prog.info? 63).map (·.size) = some gl.length) := Lib.hid (by rw [hgl]; exact infoGr)
  have HE : Hid (grE g = if liK g = 0 then (if spB g then 0 else 12) else liK g) := Lib.hid (by unfold grE grK; rw [hk]; rfl)
  have HSP : Hid (∀ w, Calls Tryz.prog 30 #[.agg gl.toArray] w fun e w' => e = .returned (.bool (spB g)) ∧ Below w.heap.size w w') := Lib.hid (fun w => by rw [← e0]; exact spare_2 g hk w)
  have HG0 : Hid (gl[0]? = some (.int .i64 2)) := Lib.hid (by rw [hgl, ← hk]; rfl)
  obtain ⟨x0, hx0⟩ : ∃ x, x = g.f 9 := ⟨_, rfl⟩
  have HC0 : Hid (gl[10]? = some (.float .f32 x0)) := Lib.hid (by rw [hgl, hx0]; rfl)
  obtain ⟨x1, hx1⟩ : ∃ x, x = g.f 10 := ⟨_, rfl⟩
  have HC1 : Hid (gl[11]? = some (.float .f32 x1)) := Lib.hid (by rw [hgl, hx1]; rfl)
  obtain ⟨x2, hx2⟩ : ∃ x, x = g.f 11 := ⟨_, rfl⟩
  have HC2 : Hid (gl[12]? = some (.float .f32 x2)) := Lib.hid (by rw [hgl, hx2]; rfl)
  obtain ⟨x3, hx3⟩ : ∃ x, x = g.f 12 := ⟨_, rfl⟩
  have HC3 : Hid (gl[13]? = some (.float .f32 x3)) := Lib.hid (by rw [hgl, hx3]; rfl)
  obtain ⟨x4, hx4⟩ : ∃ x, x = g.f 13 := ⟨_, rfl⟩
  have HC4 : Hid (gl[14]? = some (.float .f32 x4)) := Lib.hid (by rw [hgl, hx4]; rfl)
  obtain ⟨x5, hx5⟩ : ∃ x, x = g.f 14 := ⟨_, rfl⟩
  have HC5 : Hid (gl[15]? = some (.float .f32 x5)) := Lib.hid (by rw [hgl, hx5]; rfl)
  obtain ⟨x6, hx6⟩ : ∃ x, x = g.f 15 := ⟨_, rfl⟩
  have HC6 : Hid (gl[16]? = some (.float .f32 x6)) := Lib.hid (by rw [hgl, hx6]; rfl)
  obtain ⟨x7, hx7⟩ : ∃ x, x = g.f 16 := ⟨_, rfl⟩
  have HC7 : Hid (gl[17]? = some (.float .f32 x7)) := Lib.hid (by rw [hgl, hx7]; rfl)
  obtain ⟨x8, hx8⟩ : ∃ x, x = g.f 17 := ⟨_, rfl⟩
  have HC8 : Hid (gl[18]? = some (.float .f32 x8)) := Lib.hid (by rw [hgl, hx8]; rfl)
  obtain ⟨x9, hx9⟩ : ∃ x, x = g.f 18 := ⟨_, rfl⟩
  have HC9 : Hid (gl[19]? = some (.float .f32 x9)) := Lib.hid (by rw [hgl, hx9]; rfl)
  have HCK : Hid (∀ w, Calls Tryz.prog 25 #[.agg #[.float .f32 x0, .float .f32 x1, .float .f32 x2, .float .f32 x3, .float .f32 x4, .float .f32 x5, .float .f32 x6, .float .f32 x7, .float .f32 x8, .float .f32 x9]] w fun e w' => e = .returned (.int .i64 (liK g)) ∧ Below w.heap.size w w') := Lib.hid (fun w => by rw [hx0, hx1, hx2, hx3, hx4, hx5, hx6, hx7, hx8, hx9]; exact CheckList_any _ _ _ _ _ _ _ _ _ _ w)
  obtain ⟨E, hE⟩ : ∃ E, E = liK g := ⟨_, rfl⟩
  rw [← hE] at HE HCK
  obtain ⟨S, hSS⟩ : ∃ S, S = spB g := ⟨_, rfl⟩
  rw [← hSS] at HE HSP
  obtain ⟨R, hR⟩ : ∃ R, R = grE g := ⟨_, rfl⟩
  rw [← hR] at HE
  rw [← hR]
  rw [e0]
  clear e0 hgl hE hSS hR hk hx0 hx1 hx2 hx3 hx4 hx5 hx6 hx7 hx8 hx9
  cases hz : (E == 0)
  case false =>
    have HV := Lib.hid (show R = E by rw [HE.out, if_neg (by simpa using hz)])
    clear HE HSP HS HI
    go_enter Tryz.func14, Tryz.ntmps14
    go_upto_region 1 with fail
    refine wp_world (fun W hW => ?_)
    have HWp : Blk W w.heap.size gl ∧ Below w.heap.size w W := by rw [hW]; exact ⟨Blk.new _ _ _ _ rfl, by (repeat (first | exact Below.refl _ _ | assumption | (refine Below.setCell ?_ (by first | (simp; done) | (simp; omega) | omega) _) | (refine Below.drew ?_) | (refine below_drewN ?_ _) | (refine Below.alloc ?_ (by first | (simp; done) | (simp; omega) | omega) _) | (refine Below.trans ?_ (Below.mono (by assumption) (by first | (simp; done) | (simp; omega) | omega)))))⟩
    obtain ⟨pl, hpl⟩ : ∃ pl, pl = w.heap.size := ⟨_, rfl⟩
    have HW : Hid (Blk W pl gl ∧ Below w.heap.size w W) := Lib.hid (by rw [hpl]; exact HWp)
    rw [← hpl]
    clear hW HWp hpl
    have m0 := HW.out.1.c 0 _ HG0.out; have lk := HW.out.1.lt
    have n0 := HW.out.1.c 10 _ HC0.out; have n1 := HW.out.1.c 11 _ HC1.out; have n2 := HW.out.1.c 12 _ HC2.out; have n3 := HW.out.1.c 13 _ HC3.out; have n4 := HW.out.1.c 14 _ HC4.out; have n5 := HW.out.1.c 15 _ HC5.out; have n6 := HW.out.1.c 16 _ HC6.out; have n7 := HW.out.1.c 17 _ HC7.out; have n8 := HW.out.1.c 18 _ HC8.out; have n9 := HW.out.1.c 19 _ HC9.out
    go_wp2_with (go_at_call 25; refine (HCK.out _).mono ?_; rintro e w2 ⟨rfl, hb2⟩)
    go_ret
    rw [HV.out]
    exact ⟨rfl, HW.out.2.trans (hb2.mono HW.out.2.size)⟩
  case true =>
    obtain rfl : E = 0 := by simpa using hz
    clear hz
    cases hS : S
    case false =>
      have HV := Lib.hid (show R = 12 by rw [HE.out, hS]; rfl)
      clear HE
      go_enter Tryz.func14, Tryz.ntmps14
      go_upto_region 1 with fail
      refine wp_world (fun W hW => ?_)
      have HWp : Blk W w.heap.size gl ∧ Below w.heap.size w W := by rw [hW]; exact ⟨Blk.new _ _ _ _ rfl, by (repeat (first | exact Below.refl _ _ | assumption | (refine Below.setCell ?_ (by first | (simp; done) | (simp; omega) | omega) _) | (refine Below.drew ?_) | (refine below_drewN ?_ _) | (refine Below.alloc ?_ (by first | (simp; done) | (simp; omega) | omega) _) | (refine Below.trans ?_ (Below.mono (by assumption) (by first | (simp; done) | (simp; omega) | omega)))))⟩
      obtain ⟨pl, hpl⟩ : ∃ pl, pl = w.heap.size := ⟨_, rfl⟩
      have HW : Hid (Blk W pl gl ∧ Below w.heap.size w W) := Lib.hid (by rw [hpl]; exact HWp)
      rw [← hpl]
      clear hW HWp hpl
      have m0 := HW.out.1.c 0 _ HG0.out; have lk := HW.out.1.lt
      have n0 := HW.out.1.c 10 _ HC0.out; have n1 := HW.out.1.c 11 _ HC1.out; have n2 := HW.out.1.c 12 _ HC2.out; have n3 := HW.out.1.c 13 _ HC3.out; have n4 := HW.out.1.c 14 _ HC4.out; have n5 := HW.out.1.c 15 _ HC5.out; have n6 := HW.out.1.c 16 _ HC6.out; have n7 := HW.out.1.c 17 _ HC7.out; have n8 := HW.out.1.c 18 _ HC8.out; have n9 := HW.out.1.c 19 _ HC9.out
      go_wp2_with (first | (go_at_call 25; refine (HCK.out _).mono ?_; rintro e w2 ⟨rfl, hb2⟩; have HK2 := Lib.hid (HW.out.1.past hb2); have HB2 := Lib.hid (HW.out.2.trans (hb2.mono HW.out.2.size))) | (go_at_call 30; refine (HSP.out _).mono ?_; rintro e w9 ⟨rfl, hb9⟩; rw [hS]) | ((with_reducible apply wpList_ldW gl Tryz.underlying63 rfl HI.out (HK2.out.sub 0 49 HS.out)); (with_reducible rfl); rfl; rfl))
      go_ret
      rw [HV.out]
      exact ⟨rfl, HB2.out.trans (hb9.mono HB2.out.size)⟩
    case true =>
      have HV := Lib.hid (show R = 0 by rw [HE.out, hS]; rfl)
      clear HE
      go_enter Tryz.func14, Tryz.ntmps14
      go_upto_region 1 with fail
      refine wp_world (fun W hW => ?_)
      have HWp : Blk W w.heap.size gl ∧ Below w.heap.size w W := by rw [hW]; exact ⟨Blk.new _ _ _ _ rfl, by (repeat (first | exact Below.refl _ _ | assumption | (refine Below.setCell ?_ (by first | (simp; done) | (simp; omega) | omega) _) | (refine Below.drew ?_) | (refine below_drewN ?_ _) | (refine Below.alloc ?_ (by first | (simp; done) | (simp; omega) | omega) _) | (refine Below.trans ?_ (Below.mono (by assumption) (by first | (simp; done) | (simp; omega) | omega)))))⟩
      obtain ⟨pl, hpl⟩ : ∃ pl, pl = w.heap.size := ⟨_, rfl⟩
      have HW : Hid (Blk W pl gl ∧ Below w.heap.size w W) := Lib.hid (by rw [hpl]; exact HWp)
      rw [← hpl]
      clear hW HWp hpl
      have m0 := HW.out.1.c 0 _ HG0.out; have lk := HW.out.1.lt
      have n0 := HW.out.1.c 10 _ HC0.out; have n1 := HW.out.1.c 11 _ HC1.out; have n2 := HW.out.1.c 12 _ HC2.out; have n3 := HW.out.1.c 13 _ HC3.out; have n4 := HW.out.1.c 14 _ HC4.out; have n5 := HW.out.1.c 15 _ HC5.out; have n6 := HW.out.1.c 16 _ HC6.out; have n7 := HW.out.1.c 17 _ HC7.out; have n8 := HW.out.1.c 18 _ HC8.out; have n9 := HW.out.1.c 19 _ HC9.out
      go_wp2_with (first | (go_at_call 25; refine (HCK.out _).mono ?_; rintro e w2 ⟨rfl, hb2⟩; have HK2 := Lib.hid (HW.out.1.past hb2); have HB2 := Lib.hid (HW.out.2.trans (hb2.mono HW.out.2.size))) | (go_at_call 30; refine (HSP.out _).mono ?_; rintro e w9 ⟨rfl, hb9⟩; rw [hS]) | ((with_reducible apply wpList_ldW gl Tryz.underlying63 rfl HI.out (HK2.out.sub 0 49 HS.out)); (with_reducible rfl); rfl; rfl))
      go_ret
      rw [HV.out]
      exact ⟨rfl, HB2.out.trans (hb9.mono HB2.out.size)⟩
set_option maxRecDepth 100000 in
set_option maxHeartbeats 6400000 in
theorem CheckGrade_0 (g : GradeD) (k1 : g.k ≠ 1) (k2 : g.k ≠ 2) (k3 : g.k ≠ 3) (k4 : g.k ≠ 4) (k5 : g.k ≠ 5) (k6 : g.k ≠ 6) (w : World) : Calls Tryz.prog 14 #[gradeV g] w fun e w' => e = .returned (.int .i64 (grE g)) ∧ Below w.heap.size w w' := by
  have e1 : grE g = 1 := by unfold grE grK; rw [if_neg k1, if_neg k2, if_neg k3, if_neg k4, if_neg k5, if_neg k6]; rfl
  rw [e1]
  obtain ⟨gl, hgl⟩ : ∃ gl, gl = gradeL g := ⟨_, rfl⟩
  have e0 : gradeV g = .agg gl.toArray := by rw [hgl]; rfl
  obtain ⟨k, hk⟩ : ∃ k, k = g.k := ⟨_, rfl⟩
  have HG0 : Hid (gl[0]? = some (.int .i64 k)) := Lib.hid (by rw [hgl, hk]; rfl)
  rw [← hk] at k1 k2 k3 k4 k5 k6
  have q1 : (k == 1) = false := beq_false_of_ne k1
  have q2 : (k == 2) = false := beq_false_of_ne k2
  have q3 : (k == 3) = false := beq_false_of_ne k3
  have q4 : (k == 4) = false := beq_false_of_ne k4
  have q5 : (k == 5) = false := beq_false_of_ne k5
  have q6 : (k == 6) = false := beq_false_of_ne k6
  rw [e0]
  clear e0 e1 hgl hk k1 k2 k3 k4 k5 k6
  go_enter Tryz.func14, Tryz.ntmps14
  go_upto_region 1 with fail
  refine wp_world (fun W hW => ?_)
  have HWp : Blk W w.heap.size gl ∧ Below w.heap.size w W := by rw [hW]; exact ⟨Blk.new _ _ _ _ rfl, by (repeat (first | exact Below.refl _ _ | assumption | (refine Below.setCell ?_ (by first | (simp; done) | (simp; omega) | omega) _) | (refine Below.drew ?_) | (refine below_drewN ?_ _) | (refine Below.alloc ?_ (by first | (simp; done) | (simp; omega) | omega) _) | (refine Below.trans ?_ (Below.mono (by assumption) (by first | (simp; done) | (simp; omega) | omega)))))⟩
  obtain ⟨pl, hpl⟩ : ∃ pl, pl = w.heap.size := ⟨_, rfl⟩
  have HW : Hid (Blk W pl gl ∧ Below w.heap.size w W) := Lib.hid (by rw [hpl]; exact HWp)
  rw [← hpl]
  clear hW HWp hpl
  have m0 := HW.out.1.c 0 _ HG0.out; have lk := HW.out.1.lt
  go_wp2_with fail
  go_ret
  exact ⟨rfl, HW.out.2⟩
end Go.Proofs.YthlomgbchmhjiaaGreatDoor

set_option linter.unusedSimpArgs false
set_option linter.unusedVariables false
namespace Go.Proofs.YthlomgbchmhjiaaGreatDoor
open Go Go.RowKit
set_option maxRecDepth 100000 in
set_option maxHeartbeats 6400000 in
theorem CheckGrade_3 (g : GradeD) (hk : g.k = 3) (w : World) (hg : GradeAt w g) : Calls Tryz.prog 14 #[gradeV g] w fun e w' => e = .returned (.int .i64 (grE g)) ∧ Below w.heap.size w w' := by
  obtain ⟨gl, hgl⟩ : ∃ gl, gl = gradeL g := ⟨_, rfl⟩
  have e0 : gradeV g = .agg gl.toArray := by rw [hgl]; rfl
  have HS : Hid (gl = (gl.drop 0).take 49) := Lib.hid (by rw [hgl]; rfl)
  have HI : Hid ((Tryz.prog.info? 63).map (·.size) = some gl.length) := Lib.hid (by rw [hgl]; exact infoGr)
  have HSP : Hid (∀ w, Calls Tryz.prog 30 #[.agg gl.toArray] w fun e w' => e = .returned (.bool (spB g)) ∧ Below w.heap.size w w') := Lib.hid (fun w => by rw [← e0]; exact spare_3 g hk w)
  have HG0 : Hid (gl[0]? = some (.int .i64 3)) := Lib.hid (by rw [hgl, ← hk]; rfl)
  obtain ⟨cK, hcK⟩ : ∃ cK : Nat → Int, cK = fun i => cvK (g.c i) := ⟨_, rfl⟩
  have HE : Hid (grE g = if fstN cK 4 = 0 then (if spB g then 0 else 12) else fstN cK 4) := Lib.hid (by unfold grE grK; rw [hk, hcK]; rfl)
  have HCR : Hid (∀ i, cK i = if hpB (g.c i) then cvE (g.c i) else 0) := Lib.hid (fun i => by rw [hcK]; rfl)
  have HGA := Lib.hid hg
  obtain ⟨cl, hcl⟩ : ∃ cl, cl = crvL g := ⟨_, rfl⟩
  have HIX : Hid (∀ i : Nat, i < 4 → ∀ w, (Instr.index 57 (.agg cl.toArray) (.int .i64 (i : Int))).run Tryz.prog w = .ok (curveV (g.c i)) w) := Lib.hid (by rw [hcl]; exact ix_c g)
  have HSUB : Hid (cl = (gl.drop 20).take 12) := Lib.hid (by rw [hgl, hcl]; rfl)
  have HLEN : Hid (cl.length = 12) := Lib.hid (by rw [hcl]; rfl)
  have HIC : Hid ((Tryz.prog.info? 57).map (·.size) = some cl.length) := Lib.hid (by rw [HLEN.out]; exact infoC4)
  obtain ⟨S, hSS⟩ : ∃ S, S = spB g := ⟨_, rfl⟩
  rw [← hSS] at HE HSP
  obtain ⟨R, hR⟩ : ∃ R, R = grE g := ⟨_, rfl⟩
  rw [← hR] at HE
  rw [← hR]
  rw [e0]
  clear e0 hgl hSS hR hk hcl hcK hg
  go_enter Tryz.func14, Tryz.ntmps14
  go_upto_region 1 with fail
  refine wp_world (fun W hW => ?_)
  have HWp : Blk W w.heap.size gl ∧ Below w.heap.size w W := by rw [hW]; exact ⟨Blk.new _ _ _ _ rfl, by (repeat (first | exact Below.refl _ _ | assumption | (refine Below.setCell ?_ (by first | (simp; done) | (simp; omega) | omega) _) | (refine Below.drew ?_) | (refine below_drewN ?_ _) | (refine Below.alloc ?_ (by first | (simp; done) | (simp; omega) | omega) _) | (refine Below.trans ?_ (Below.mono (by assumption) (by first | (simp; done) | (simp; omega) | omega)))))⟩
  obtain ⟨pl, hpl⟩ : ∃ pl, pl = w.heap.size := ⟨_, rfl⟩
  have HW : Hid (Blk W pl gl ∧ Below w.heap.size w W) := Lib.hid (by rw [hpl]; exact HWp)
  rw [← hpl]
  clear hW HWp hpl
  have m0 := HW.out.1.c 0 _ HG0.out; have lk := HW.out.1.lt
  go_wp2_with ((with_reducible apply wpList_ldW cl Tryz.underlying57 rfl HIC.out (HW.out.1.sub 20 12 HSUB.out)); (with_reducible rfl); rfl; rfl)
  clear m0 lk
  go_loopw [3, 22] (fun s3 s22 wr => ∃ i : Nat, i ≤ 4 ∧ s22 = .int .i64 i ∧ s3 = .int .i64 (fstN cK i) ∧ Below W.heap.size W wr) (fun _ s22 _ => 4 - (intOf s22).toNat)
  case atStart => exact ⟨0, by omega, rfl, rfl, Below.refl _ _⟩
  case round =>
    obtain ⟨i, hi, rfl, rfl, hq⟩ := hrel
    have HQ := Lib.hid hq
    have HQB := Lib.hid (HW.out.2.trans (hq.mono HW.out.2.size))
    have HK := Lib.hid (HW.out.1.past hq)
    clear hq
    have lk := HK.out.lt
    by_cases hi4 : i < 4
    · have hi4i : (i : Int) < 4 := by omega
      have ix := HIX.out i hi4
      have HOK := Lib.hid (fun h => fstN_succ h : fstN cK i = 0 → cK i = 0 → fstN cK (i + 1) = 0)
      have HST := Lib.hid (show fstN cK (i + 1) = if fstN cK i = 0 then cK i else fstN cK i from rfl)
      have HCI := Lib.hid (HCR.out i)
      have HHP := Lib.hid (fun w => hasPoints_any (g.c i) w)
      have HCC := Lib.hid (fun w' (hb : Below w.heap.size w w') => CheckCurve_any (g.c i) w' ((HGA.out i hi4).past hb))
      obtain ⟨c, hc⟩ : ∃ c, c = g.c i := ⟨_, rfl⟩
      rw [← hc] at ix HCI HHP HCC
      clear hc
      obtain ⟨hp, hhp⟩ : ∃ hp, hp = hpB c := ⟨_, rfl⟩
      rw [← hhp] at HCI HHP
      clear hhp
      obtain ⟨ce, hce⟩ : ∃ ce, ce = cvE c := ⟨_, rfl⟩
      rw [← hce] at HCI HCC
      clear hce
      obtain ⟨ck, xa, xc, xs, ya, yc, ys⟩ := c
      unfold curveV at ix HHP HCC
      simp only at ix HHP HCC
      obtain ⟨xl, hxl⟩ : ∃ xl, xl = xs.length := ⟨_, rfl⟩
      obtain ⟨yl, hyl⟩ : ∃ yl, yl = ys.length := ⟨_, rfl⟩
      rw [← hxl, ← hyl] at ix HHP HCC
      clear hxl hyl
      obtain ⟨z, hz⟩ : ∃ z, z = fstN cK i := ⟨_, rfl⟩
      obtain ⟨z2, hz2⟩ : ∃ z2, z2 = fstN cK (i + 1) := ⟨_, rfl⟩
      rw [← hz, ← hz2] at HST
      have HZ2 := Lib.hid hz2
      rw [← hz]
      clear hz hz2 HOK
      go_upto_region 12 with fail
      refine wp_world (fun WB hWB => ?_)
      have KBp : Blk WB wr.heap.size [.int .i64 ck, .slice xa xl xc, .slice ya yl yc] ∧ Below wr.heap.size wr WB := by rw [hWB]; exact ⟨Blk.new _ _ _ _ rfl, by (repeat (first | exact Below.refl _ _ | assumption | (refine Below.setCell ?_ (by first | (simp; done) | (simp; omega) | omega) _) | (refine Below.drew ?_) | (refine below_drewN ?_ _) | (refine Below.alloc ?_ (by first | (simp; done) | (simp; omega) | omega) _) | (refine Below.trans ?_ (Below.mono (by assumption) (by first | (simp; done) | (simp; omega) | omega)))))⟩
      obtain ⟨pb, hpb⟩ : ∃ pb, pb = wr.heap.size := ⟨_, rfl⟩
      have KB : Hid (Blk WB pb [.int .i64 ck, .slice xa xl xc, .slice ya yl yc]) := Lib.hid (by rw [hpb]; exact KBp.1)
      have HQ := Lib.hid (HQ.out.trans (KBp.2.mono HQ.out.size))
      have HQB := Lib.hid (HQB.out.trans (KBp.2.mono HQB.out.size))
      rw [← hpb]
      clear lk hWB KBp hpb HK
      have d0 := KB.out.c 0 _ rfl; have d1 := KB.out.c 1 _ rfl; have d2 := KB.out.c 2 _ rfl; have dl := KB.out.lt
      cases hp
      case false =>
        have hz0 : z = 0 ∨ z ≠ 0 := by omega
        have HV := Lib.hid (show z2 = z by rw [HST.out, HCI.out]; rcases hz0 with h | h <;> simp [h])
        go_wp2_with (go_at_call 26; refine (HHP.out _).mono ?_; rintro e w3 ⟨rfl, hb3⟩; clear d0 d1 d2 dl; have KC := KB.out.past hb3; have d0 := KC.c 0 _ rfl; have d1 := KC.c 1 _ rfl; have d2 := KC.c 2 _ rfl; have dl := KC.lt)
        go_roundw
        case rel => exact ⟨i + 1, by omega, by go_num, by rw [← HZ2.out, HV.out], by first | exact (HQ.out.trans (hb3.mono HQ.out.size)).trans (hb4.mono (HQ.out.trans (hb3.mono HQ.out.size)).size) | exact HQ.out.trans (hb3.mono HQ.out.size) | exact HQ.out⟩
        case measure => simp [intOf] <;> omega
      case true =>
        cases hz0 : (z == 0)
        case false =>
          have hz1 : z ≠ 0 := by simpa using hz0
          have HV := Lib.hid (show z2 = z by rw [HST.out, if_neg hz1])
          go_wp2_with (go_at_call 26; refine (HHP.out _).mono ?_; rintro e w3 ⟨rfl, hb3⟩; clear d0 d1 d2 dl; have KC := KB.out.past hb3; have d0 := KC.c 0 _ rfl; have d1 := KC.c 1 _ rfl; have d2 := KC.c 2 _ rfl; have dl := KC.lt)
          go_roundw
          case rel => exact ⟨i + 1, by omega, by go_num, by rw [← HZ2.out, HV.out], by first | exact (HQ.out.trans (hb3.mono HQ.out.size)).trans (hb4.mono (HQ.out.trans (hb3.mono HQ.out.size)).size) | exact HQ.out.trans (hb3.mono HQ.out.size) | exact HQ.out⟩
          case measure => simp [intOf] <;> omega
        case true =>
          obtain rfl : z = 0 := by simpa using hz0
          have HV := Lib.hid (show z2 = ce by rw [HST.out, if_pos rfl, HCI.out, if_pos rfl])
          go_wp2_with (first | (go_at_call 26; refine (HHP.out _).mono ?_; rintro e w3 ⟨rfl, hb3⟩; clear d0 d1 d2 dl; have KC := KB.out.past hb3; have d0 := KC.c 0 _ rfl; have d1 := KC.c 1 _ rfl; have d2 := KC.c 2 _ rfl; have dl := KC.lt) | (go_at_call 27; refine (HCC.out _ (HQB.out.trans (hb3.mono HQB.out.size))).mono ?_; rintro e w4 ⟨rfl, hb4⟩))
          go_roundw
          case rel => exact ⟨i + 1, by omega, by go_num, by rw [← HZ2.out, HV.out], by first | exact (HQ.out.trans (hb3.mono HQ.out.size)).trans (hb4.mono (HQ.out.trans (hb3.mono HQ.out.size)).size) | exact HQ.out.trans (hb3.mono HQ.out.size) | exact HQ.out⟩
          case measure => simp [intOf] <;> omega
    · have hi4i : ¬ (i : Int) < 4 := by omega
      obtain rfl : i = 4 := by omega
      obtain ⟨E, hE⟩ : ∃ E, E = fstN cK 4 := ⟨_, rfl⟩
      rw [← hE] at HE
      rw [← hE]
      clear hE HCR HIX HGA
      cases hz : (E == 0)
      case false =>
        have HV := Lib.hid (show R = E by rw [HE.out, if_neg (by simpa using hz)])
        go_wp2_with fail
        go_ret
        rw [HV.out]
        exact ⟨rfl, HQB.out⟩
      case true =>
        obtain rfl : E = 0 := by simpa using hz
        clear hz
        cases hS : S
        case false =>
          have HV := Lib.hid (show R = 12 by rw [HE.out, hS]; rfl)
          go_wp2_with (first | (go_at_call 30; refine (HSP.out _).mono ?_; rintro e w9 ⟨rfl, hb9⟩; rw [hS]) | ((with_reducible apply wpList_ldW gl Tryz.underlying63 rfl HI.out (HK.out.sub 0 49 HS.out)); (with_reducible rfl); rfl; rfl))
          go_ret
          rw [HV.out]
          exact ⟨rfl, HQB.out.trans (hb9.mono HQB.out.size)⟩
        case true =>
          have HV := Lib.hid (show R = 0 by rw [HE.out, hS]; rfl)
          go_wp2_with (first | (go_at_call 30; refine (HSP.out _).mono ?_; rintro e w9 ⟨rfl, hb9⟩; rw [hS]) | ((with_reducible apply wpList_ldW gl Tryz.underlying63 rfl HI.out (HK.out.sub 0 49 HS.out)); (with_reducible rfl); rfl; rfl))
          go_ret
          rw [HV.out]
          exact ⟨rfl, HQB.out.trans (hb9.mono HQB.out.size)⟩
end Go.Proofs.YthlomgbchmhjiaaGreatDoor
