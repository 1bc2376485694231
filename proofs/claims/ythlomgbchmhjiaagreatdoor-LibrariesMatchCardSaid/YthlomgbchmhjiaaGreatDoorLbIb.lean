/- grade.CheckGrade by its kind. Conditions: what each theorem names. -/
import Derived.Test.YthlomgbchmhjiaaGreatDoorLD
import Derived.Test.YthlomgbchmhjiaaGreatDoorLbHb
import Derived.Test.YthlomgbchmhjiaaGreatDoorLbHc
set_option linter.unusedSimpArgs false
set_option linter.unusedVariables false
namespace Go.Proofs.YthlomgbchmhjiaaGreatDoor
open Go Go.RowKit
set_option maxRecDepth 100000 in
set_option maxHeartbeats 6400000 in
theorem CheckGrade_4 (g : GradeD) (hk : g.k = 4) (w : World) : Calls Tryz.prog 14 #[gradeV g] w fun e w' => e = .returned (.int .i64 (grE g)) ∧ Below w.heap.size w w' := by
  obtain ⟨gl, hgl⟩ : ∃ gl, gl = gradeL g := ⟨_, rfl⟩
  have e0 : gradeV g = .agg gl.toArray := by rw [hgl]; rfl
  have HS : Hid (gl = (gl.drop 0).take 49) := Lib.hid (by rw [hgl]; rfl)
  have HI : Hid ((Tryz.prog.info? 63).map (·.size) = some gl.length) := Lib.hid (by rw [hgl]; exact infoGr)
  have HE : Hid (grE g = if mxK g = 0 then (if spB g then 0 else 12) else mxK g) := Lib.hid (by unfold grE grK; rw [hk]; rfl)
  have HSP : Hid (∀ w, Calls Tryz.prog 30 #[.agg gl.toArray] w fun e w' => e = .returned (.bool (spB g)) ∧ Below w.heap.size w w') := Lib.hid (fun w => by rw [← e0]; exact spare_4 g hk w)
  have HG0 : Hid (gl[0]? = some (.int .i64 4)) := Lib.hid (by rw [hgl, ← hk]; rfl)
  obtain ⟨x0, hx0⟩ : ∃ x, x = g.f 19 := ⟨_, rfl⟩
  have HC0 : Hid (gl[32]? = some (.float .f32 x0)) := Lib.hid (by rw [hgl, hx0]; rfl)
  obtain ⟨x1, hx1⟩ : ∃ x, x = g.f 20 := ⟨_, rfl⟩
  have HC1 : Hid (gl[33]? = some (.float .f32 x1)) := Lib.hid (by rw [hgl, hx1]; rfl)
  obtain ⟨x2, hx2⟩ : ∃ x, x = g.f 21 := ⟨_, rfl⟩
  have HC2 : Hid (gl[34]? = some (.float .f32 x2)) := Lib.hid (by rw [hgl, hx2]; rfl)
  obtain ⟨x3, hx3⟩ : ∃ x, x = g.f 22 := ⟨_, rfl⟩
  have HC3 : Hid (gl[35]? = some (.float .f32 x3)) := Lib.hid (by rw [hgl, hx3]; rfl)
  obtain ⟨x4, hx4⟩ : ∃ x, x = g.f 23 := ⟨_, rfl⟩
  have HC4 : Hid (gl[36]? = some (.float .f32 x4)) := Lib.hid (by rw [hgl, hx4]; rfl)
  obtain ⟨x5, hx5⟩ : ∃ x, x = g.f 24 := ⟨_, rfl⟩
  have HC5 : Hid (gl[37]? = some (.float .f32 x5)) := Lib.hid (by rw [hgl, hx5]; rfl)
  obtain ⟨x6, hx6⟩ : ∃ x, x = g.f 25 := ⟨_, rfl⟩
  have HC6 : Hid (gl[38]? = some (.float .f32 x6)) := Lib.hid (by rw [hgl, hx6]; rfl)
  obtain ⟨x7, hx7⟩ : ∃ x, x = g.f 26 := ⟨_, rfl⟩
  have HC7 : Hid (gl[39]? = some (.float .f32 x7)) := Lib.hid (by rw [hgl, hx7]; rfl)
  obtain ⟨x8, hx8⟩ : ∃ x, x = g.f 27 := ⟨_, rfl⟩
  have HC8 : Hid (gl[40]? = some (.float .f32 x8)) := Lib.hid (by rw [hgl, hx8]; rfl)
  obtain ⟨x9, hx9⟩ : ∃ x, x = g.f 28 := ⟨_, rfl⟩
  have HC9 : Hid (gl[41]? = some (.float .f32 x9)) := Lib.hid (by rw [hgl, hx9]; rfl)
  obtain ⟨x10, hx10⟩ : ∃ x, x = g.f 29 := ⟨_, rfl⟩
  have HC10 : Hid (gl[42]? = some (.float .f32 x10)) := Lib.hid (by rw [hgl, hx10]; rfl)
  obtain ⟨x11, hx11⟩ : ∃ x, x = g.f 30 := ⟨_, rfl⟩
  have HC11 : Hid (gl[43]? = some (.float .f32 x11)) := Lib.hid (by rw [hgl, hx11]; rfl)
  have HCK : Hid (∀ w, Calls Tryz.prog 28 #[.agg #[.float .f32 x0, .float .f32 x1, .float .f32 x2, .float .f32 x3, .float .f32 x4, .float .f32 x5, .float .f32 x6, .float .f32 x7, .float .f32 x8, .float .f32 x9, .float .f32 x10, .float .f32 x11]] w fun e w' => e = .returned (.int .i64 (mxK g)) ∧ Below w.heap.size w w') := Lib.hid (fun w => by rw [hx0, hx1, hx2, hx3, hx4, hx5, hx6, hx7, hx8, hx9, hx10, hx11]; exact CheckMixer_any _ _ _ _ _ _ _ _ _ _ _ _ w)
  obtain ⟨E, hE⟩ : ∃ E, E = mxK g := ⟨_, rfl⟩
  rw [← hE] at HE HCK
  obtain ⟨S, hSS⟩ : ∃ S, S = spB g := ⟨_, rfl⟩
  rw [← hSS] at HE HSP
  obtain ⟨R, hR⟩ : ∃ R, R = grE g := ⟨_, rfl⟩
  rw [← hR] at HE
  rw [← hR]
  rw [e0]
  clear e0 hgl hE hSS hR hk hx0 hx1 hx2 hx3 hx4 hx5 hx6 hx7 hx8 hx9 hx10 hx11
  cases hz : (E == 0)
  case false =>
    have HV := Lib.hid (show R = E by rw [HE.out, if_neg (by simpa using hz)])
    clear HE HSP HS HI
    go_enter Tryz.func14, Tryz.ntmps14
    go_upto_region 1 with fail
    refine wp_world (fun W hW => ?_)
    have HWp : Blk W w.heap.size gl ∧ Below w.heap.size w W := by rw [hW]; exact ⟨Blk.new _ _ _ _ rfl, by (repeat (first | exact Below.refl _ _ | assumption | (refine Below.setCell ?_ (by first | (simp; done) | (simp; omega) | omega) _) | (refine Below.drew ?_) | (refine below_drewN ?_ _) | (refine Below.alloc ?_ (by first | (simp; done) | (simp; omega) | omega) _) | (refine Below.trans ?_ (Below.mono (by assumption) (by first | (simp; done) | (simp; omega) | omega)))))⟩
    obtain ⟨pl, hpl⟩ : ∃ pl, pl = w.heap.size := ⟨_, rfl⟩
    have HW : Hid (Blk W pl gl ∧ Below w.heap.size w W) := Lib.hid (by rw [hpl]; exact HWp)
    rw [← hpl]
    clear hW HWp hpl
    have m0 := HW.out.1.c 0 _ HG0.out; have lk := HW.out.1.lt
    have n0 := HW.out.1.c 32 _ HC0.out; have n1 := HW.out.1.c 33 _ HC1.out; have n2 := HW.out.1.c 34 _ HC2.out; have n3 := HW.out.1.c 35 _ HC3.out; have n4 := HW.out.1.c 36 _ HC4.out; have n5 := HW.out.1.c 37 _ HC5.out; have n6 := HW.out.1.c 38 _ HC6.out; have n7 := HW.out.1.c 39 _ HC7.out; have n8 := HW.out.1.c 40 _ HC8.out; have n9 := HW.out.1.c 41 _ HC9.out; have n10 := HW.out.1.c 42 _ HC10.out; have n11 := HW.out.1.c 43 _ HC11.out
    go_wp2_with (go_at_call 28; refine (HCK.out _).mono ?_; rintro e w2 ⟨rfl, hb2⟩)
    go_ret
    rw [HV.out]
    exact ⟨rfl, HW.out.2.trans (hb2.mono HW.out.2.size)⟩
  case true =>
    obtain rfl : E = 0 := by simpa using hz
    clear hz
    cases hS : S
    case false =>
      have HV := Lib.hid (show R = 12 by rw [HE.out, hS]; rfl)
      clear HE
      go_enter Tryz.func14, Tryz.ntmps14
      go_upto_region 1 with fail
      refine wp_world (fun W hW => ?_)
      have HWp : Blk W w.heap.size gl ∧ Below w.heap.size w W := by rw [hW]; exact ⟨Blk.new _ _ _ _ rfl, by (repeat (first | exact Below.refl _ _ | assumption | (refine Below.setCell ?_ (by first | (simp; done) | (simp; omega) | omega) _) | (refine Below.drew ?_) | (refine below_drewN ?_ _) | (refine Below.alloc ?_ (by first | (simp; done) | (simp; omega) | omega) _) | (refine Below.trans ?_ (Below.mono (by assumption) (by first | (simp; done) | (simp; omega) | omega)))))⟩
      obtain ⟨pl, hpl⟩ : ∃ pl, pl = w.heap.size := ⟨_, rfl⟩
      have HW : Hid (Blk W pl gl ∧ Below w.heap.size w W) := Lib.hid (by rw [hpl]; exact HWp)
      rw [← hpl]
      clear hW HWp hpl
      have m0 := HW.out.1.c 0 _ HG0.out; have lk := HW.out.1.lt
      have n0 := HW.out.1.c 32 _ HC0.out; have n1 := HW.out.1.c 33 _ HC1.out; have n2 := HW.out.1.c 34 _ HC2.out; have n3 := HW.out.1.c 35 _ HC3.out; have n4 := HW.out.1.c 36 _ HC4.out; have n5 := HW.out.1.c 37 _ HC5.out; have n6 := HW.out.1.c 38 _ HC6.out; have n7 := HW.out.1.c 39 _ HC7.out; have n8 := HW.out.1.c 40 _ HC8.out; have n9 := HW.out.1.c 41 _ HC9.out; have n10 := HW.out.1.c 42 _ HC10.out; have n11 := HW.out.1.c 43 _ HC11.out
      go_wp2_with (first | (go_at_call 28; refine (HCK.out _).mono ?_; rintro e w2 ⟨rfl, hb2⟩; have HK2 := Lib.hid (HW.out.1.past hb2); have HB2 := Lib.hid (HW.out.2.trans (hb2.mono HW.out.2.size))) | (go_at_call 30; refine (HSP.out _).mono ?_; rintro e w9 ⟨rfl, hb9⟩; rw [hS]) | ((with_reducible apply wpList_ldW gl Tryz.underlying63 rfl HI.out (HK2.out.sub 0 49 HS.out)); (with_reducible rfl); rfl; rfl))
      go_ret
      rw [HV.out]
      exact ⟨rfl, HB2.out.trans (hb9.mono HB2.out.size)⟩
    case true =>
      have HV := Lib.hid (show R = 0 by rw [HE.out, hS]; rfl)
      clear HE
      go_enter Tryz.func14, Tryz.ntmps14
      go_upto_region 1 with fail
      refine wp_world (fun W hW => ?_)
      have HWp : Blk W w.heap.size gl ∧ Below w.heap.size w W := by rw [hW]; exact ⟨Blk.new _ _ _ _ rfl, by (repeat (first | exact Below.refl _ _ | assumption | (refine Below.setCell ?_ (by first | (simp; done) | (simp; omega) | omega) _) | (refine Below.drew ?_) | (refine below_drewN ?_ _) | (refine Below.alloc ?_ (by first | (simp; done) | (simp; omega) | omega) _) | (refine Below.trans ?_ (Below.mono (by assumption) (by first | (simp; done) | (simp; omega) | omega)))))⟩
      obtain ⟨pl, hpl⟩ : ∃ pl, pl = w.heap.size := ⟨_, rfl⟩
      have HW : Hid (Blk W pl gl ∧ Below w.heap.size w W) := Lib.hid (by rw [hpl]; exact HWp)
      rw [← hpl]
      clear hW HWp hpl
      have m0 := HW.out.1.c 0 _ HG0.out; have lk := HW.out.1.lt
      have n0 := HW.out.1.c 32 _ HC0.out; have n1 := HW.out.1.c 33 _ HC1.out; have n2 := HW.out.1.c 34 _ HC2.out; have n3 := HW.out.1.c 35 _ HC3.out; have n4 := HW.out.1.c 36 _ HC4.out; have n5 := HW.out.1.c 37 _ HC5.out; have n6 := HW.out.1.c 38 _ HC6.out; have n7 := HW.out.1.c 39 _ HC7.out; have n8 := HW.out.1.c 40 _ HC8.out; have n9 := HW.out.1.c 41 _ HC9.out; have n10 := HW.out.1.c 42 _ HC10.out; have n11 := HW.out.1.c 43 _ HC11.out
      go_wp2_with (first | (go_at_call 28; refine (HCK.out _).mono ?_; rintro e w2 ⟨rfl, hb2⟩; have HK2 := Lib.hid (HW.out.1.past hb2); have HB2 := Lib.hid (HW.out.2.trans (hb2.mono HW.out.2.size))) | (go_at_call 30; refine (HSP.out _).mono ?_; rintro e w9 ⟨rfl, hb9⟩; rw [hS]) | ((with_reducible apply wpList_ldW gl Tryz.underlying63 rfl HI.out (HK2.out.sub 0 49 HS.out)); (with_reducible rfl); rfl; rfl))
      go_ret
      rw [HV.out]
      exact ⟨rfl, HB2.out.trans (hb9.mono HB2.out.size)⟩
set_option maxRecDepth 100000 in
set_option maxHeartbeats 6400000 in
theorem CheckGrade_5 (g : GradeD) (hk : g.k = 5) (w : World) : Calls Tryz.prog 14 #[gradeV g] w fun e w' => e = .returned (.int .i64 (grE g)) ∧ Below w.heap.size w w' := by
  obtain ⟨gl, hgl⟩ : ∃ gl, gl = gradeL g := ⟨_, rfl⟩
  have e0 : gradeV g = .agg gl.toArray := by rw [hgl]; rfl
  have HS : Hid (gl = (gl.drop 0).take 49) := Lib.hid (by rw [hgl]; rfl)
  have HI : Hid ((Tryz.prog.info? 63).map (·.size) = some gl.length) := Lib.hid (by rw [hgl]; exact infoGr)
  have HE : Hid (grE g = if coK g = 0 then (if spB g then 0 else 12) else coK g) := Lib.hid (by unfold grE grK; rw [hk]; rfl)
  have HSP : Hid (∀ w, Calls Tryz.prog 30 #[.agg gl.toArray] w fun e w' => e = .returned (.bool (spB g)) ∧ Below w.heap.size w w') := Lib.hid (fun w => by rw [← e0]; exact spare_5 g hk w)
  have HG0 : Hid (gl[0]? = some (.int .i64 5)) := Lib.hid (by rw [hgl, ← hk]; rfl)
  obtain ⟨x0, hx0⟩ : ∃ x, x = g.f 31 := ⟨_, rfl⟩
  have HC0 : Hid (gl[44]? = some (.float .f32 x0)) := Lib.hid (by rw [hgl, hx0]; rfl)
  obtain ⟨x1, hx1⟩ : ∃ x, x = g.f 32 := ⟨_, rfl⟩
  have HC1 : Hid (gl[45]? = some (.float .f32 x1)) := Lib.hid (by rw [hgl, hx1]; rfl)
  have HCK : Hid (∀ b w, Blk w b [.float .f32 x0, .float .f32 x1] → Calls Tryz.prog 9 #[.slice (some ⟨b, 0, none⟩) 2 2] w fun e w' => e = .returned (.bool (allNum [g.f 31, g.f 32])) ∧ w = w') := Lib.hid (fun b w hb => by rw [← hx0, ← hx1]; exact AllNumbers_any b 0 2 2 [x0, x1] w rfl (by decide) (fun i hi => by rw [Nat.zero_add]; match i, hi with | 0, _ => exact hb.c 0 _ rfl | 1, _ => exact hb.c 1 _ rfl))
  have HCO : Hid (coK g = if allNum [g.f 31, g.f 32] then 0 else 2) := Lib.hid rfl
  obtain ⟨A, hA⟩ : ∃ A, A = allNum [g.f 31, g.f 32] := ⟨_, rfl⟩
  rw [← hA] at HCK HCO
  clear hA
  obtain ⟨E, hE⟩ : ∃ E, E = coK g := ⟨_, rfl⟩
  rw [← hE] at HE HCO
  obtain ⟨S, hSS⟩ : ∃ S, S = spB g := ⟨_, rfl⟩
  rw [← hSS] at HE HSP
  obtain ⟨R, hR⟩ : ∃ R, R = grE g := ⟨_, rfl⟩
  rw [← hR] at HE
  rw [← hR]
  rw [e0]
  clear e0 hgl hE hSS hR hk hx0 hx1
  cases A
  case false =>
    have HV := Lib.hid (show R = 2 by rw [HE.out, HCO.out]; rfl)
    clear HE HSP HS HI HCO
    go_enter Tryz.func14, Tryz.ntmps14
    go_upto_region 1 with fail
    refine wp_world (fun W hW => ?_)
    have HWp : Blk W w.heap.size gl ∧ Below w.heap.size w W := by rw [hW]; exact ⟨Blk.new _ _ _ _ rfl, by (repeat (first | exact Below.refl _ _ | assumption | (refine Below.setCell ?_ (by first | (simp; done) | (simp; omega) | omega) _) | (refine Below.drew ?_) | (refine below_drewN ?_ _) | (refine Below.alloc ?_ (by first | (simp; done) | (simp; omega) | omega) _) | (refine Below.trans ?_ (Below.mono (by assumption) (by first | (simp; done) | (simp; omega) | omega)))))⟩
    obtain ⟨pl, hpl⟩ : ∃ pl, pl = w.heap.size := ⟨_, rfl⟩
    have HW : Hid (Blk W pl gl ∧ Below w.heap.size w W) := Lib.hid (by rw [hpl]; exact HWp)
    rw [← hpl]
    clear hW HWp hpl
    have m0 := HW.out.1.c 0 _ HG0.out; have lk := HW.out.1.lt; have n0 := HW.out.1.c 44 _ HC0.out; have n1 := HW.out.1.c 45 _ HC1.out
    go_wp2_with (go_at_call 9; refine (HCK.out _ _ (Blk.new _ _ _ _ rfl)).mono ?_; rintro e w2 ⟨rfl, rfl⟩)
    go_ret
    rw [HV.out]
    exact ⟨rfl, HW.out.2.alloc HW.out.2.size _⟩
  case true =>
    obtain rfl : E = 0 := by rw [HCO.out]; rfl
    cases hS : S
    case false =>
      have HV := Lib.hid (show R = 12 by rw [HE.out, hS]; rfl)
      clear HE HCO
      go_enter Tryz.func14, Tryz.ntmps14
      go_upto_region 1 with fail
      refine wp_world (fun W hW => ?_)
      have HWp : Blk W w.heap.size gl ∧ Below w.heap.size w W := by rw [hW]; exact ⟨Blk.new _ _ _ _ rfl, by (repeat (first | exact Below.refl _ _ | assumption | (refine Below.setCell ?_ (by first | (simp; done) | (simp; omega) | omega) _) | (refine Below.drew ?_) | (refine below_drewN ?_ _) | (refine Below.alloc ?_ (by first | (simp; done) | (simp; omega) | omega) _) | (refine Below.trans ?_ (Below.mono (by assumption) (by first | (simp; done) | (simp; omega) | omega)))))⟩
      obtain ⟨pl, hpl⟩ : ∃ pl, pl = w.heap.size := ⟨_, rfl⟩
      have HW : Hid (Blk W pl gl ∧ Below w.heap.size w W) := Lib.hid (by rw [hpl]; exact HWp)
      rw [← hpl]
      clear hW HWp hpl
      have HK2 := Lib.hid (fun v => HW.out.1.alloc v)
      have m0 := HW.out.1.c 0 _ HG0.out; have lk := HW.out.1.lt; have n0 := HW.out.1.c 44 _ HC0.out; have n1 := HW.out.1.c 45 _ HC1.out
      go_wp2_with (first | (go_at_call 9; refine (HCK.out _ _ (Blk.new _ _ _ _ rfl)).mono ?_; rintro e w2 ⟨rfl, rfl⟩) | (go_at_call 30; refine (HSP.out _).mono ?_; rintro e w9 ⟨rfl, hb9⟩; rw [hS]) | ((with_reducible apply wpList_ldW gl Tryz.underlying63 rfl HI.out ((HK2.out _).sub 0 49 HS.out)); (with_reducible rfl); rfl; rfl))
      go_ret
      rw [HV.out]
      exact ⟨rfl, (HW.out.2.alloc HW.out.2.size _).trans (hb9.mono (HW.out.2.alloc HW.out.2.size _).size)⟩
    case true =>
      have HV := Lib.hid (show R = 0 by rw [HE.out, hS]; rfl)
      clear HE HCO
      go_enter Tryz.func14, Tryz.ntmps14
      go_upto_region 1 with fail
      refine wp_world (fun W hW => ?_)
      have HWp : Blk W w.heap.size gl ∧ Below w.heap.size w W := by rw [hW]; exact ⟨Blk.new _ _ _ _ rfl, by (repeat (first | exact Below.refl _ _ | assumption | (refine Below.setCell ?_ (by first | (simp; done) | (simp; omega) | omega) _) | (refine Below.drew ?_) | (refine below_drewN ?_ _) | (refine Below.alloc ?_ (by first | (simp; done) | (simp; omega) | omega) _) | (refine Below.trans ?_ (Below.mono (by assumption) (by first | (simp; done) | (simp; omega) | omega)))))⟩
      obtain ⟨pl, hpl⟩ : ∃ pl, pl = w.heap.size := ⟨_, rfl⟩
      have HW : Hid (Blk W pl gl ∧ Below w.heap.size w W) := Lib.hid (by rw [hpl]; exact HWp)
      rw [← hpl]
      clear hW HWp hpl
      have HK2 := Lib.hid (fun v => HW.out.1.alloc v)
      have m0 := HW.out.1.c 0 _ HG0.out; have lk := HW.out.1.lt; have n0 := HW.out.1.c 44 _ HC0.out; have n1 := HW.out.1.c 45 _ HC1.out
      go_wp2_with (first | (go_at_call 9; refine (HCK.out _ _ (Blk.new _ _ _ _ rfl)).mono ?_; rintro e w2 ⟨rfl, rfl⟩) | (go_at_call 30; refine (HSP.out _).mono ?_; rintro e w9 ⟨rfl, hb9⟩; rw [hS]) | ((with_reducible apply wpList_ldW gl Tryz.underlying63 rfl HI.out ((HK2.out _).sub 0 49 HS.out)); (with_reducible rfl); rfl; rfl))
      go_ret
      rw [HV.out]
      exact ⟨rfl, (HW.out.2.alloc HW.out.2.size _).trans (hb9.mono (HW.out.2.alloc HW.out.2.size _).size)⟩
set_option maxRecDepth 100000 in
set_option maxHeartbeats 6400000 in
theorem CheckGrade_6 (g : GradeD) (hk : g.k = 6) (w : World) : Calls Tryz.prog 14 #[gradeV g] w fun e w' => e = .returned (.int .i64 (grE g)) ∧ Below w.heap.size w w' := by
  obtain ⟨gl, hgl⟩ : ∃ gl, gl = gradeL g := ⟨_, rfl⟩
  have e0 : gradeV g = .agg gl.toArray := by rw [hgl]; rfl
  have HS : Hid (gl = (gl.drop 0).take 49) := Lib.hid (by rw [hgl]; rfl)
  have HI : Hid ((Tryz.prog.info? 63).map (·.size) = some gl.length) := Lib.hid (by rw [hgl]; exact infoGr)
  have HE : Hid (grE g = if ptK g = 0 then (if spB g then 0 else 12) else ptK g) := Lib.hid (by unfold grE grK; rw [hk]; rfl)
  have HSP : Hid (∀ w, Calls Tryz.prog 30 #[.agg gl.toArray] w fun e w' => e = .returned (.bool (spB g)) ∧ Below w.heap.size w w') := Lib.hid (fun w => by rw [← e0]; exact spare_6 g hk w)
  have HG0 : Hid (gl[0]? = some (.int .i64 6)) := Lib.hid (by rw [hgl, ← hk]; rfl)
  obtain ⟨x0, hx0⟩ : ∃ x, x = g.p 0 := ⟨_, rfl⟩
  have HC0 : Hid (gl[46]? = some (.int .i64 x0)) := Lib.hid (by rw [hgl, hx0]; rfl)
  obtain ⟨x1, hx1⟩ : ∃ x, x = g.p 1 := ⟨_, rfl⟩
  have HC1 : Hid (gl[47]? = some (.int .i64 x1)) := Lib.hid (by rw [hgl, hx1]; rfl)
  obtain ⟨x2, hx2⟩ : ∃ x, x = g.p 2 := ⟨_, rfl⟩
  have HC2 : Hid (gl[48]? = some (.int .i64 x2)) := Lib.hid (by rw [hgl, hx2]; rfl)
  have HCK : Hid (∀ w, Calls Tryz.prog 29 #[.agg #[.int .i64 x0, .int .i64 x1, .int .i64 x2]] w fun e w' => e = .returned (.int .i64 (ptK g)) ∧ Below w.heap.size w w') := Lib.hid (fun w => by rw [hx0, hx1, hx2]; exact checkPoints_any _ _ _ w)
  obtain ⟨E, hE⟩ : ∃ E, E = ptK g := ⟨_, rfl⟩
  rw [← hE] at HE HCK
  obtain ⟨S, hSS⟩ : ∃ S, S = spB g := ⟨_, rfl⟩
  rw [← hSS] at HE HSP
  obtain ⟨R, hR⟩ : ∃ R, R = grE g := ⟨_, rfl⟩
  rw [← hR] at HE
  rw [← hR]
  rw [e0]
  clear e0 hgl hE hSS hR hk hx0 hx1 hx2
  cases hz : (E == 0)
  case false =>
    have HV := Lib.hid (show R = E by rw [HE.out, if_neg (by simpa using hz)])
    clear HE HSP HS HI
    go_enter Tryz.func14, Tryz.ntmps14
    go_upto_region 1 with fail
    refine wp_world (fun W hW => ?_)
    have HWp : Blk W w.heap.size gl ∧ Below w.heap.size w W := by rw [hW]; exact ⟨Blk.new _ _ _ _ rfl, by (repeat (first | exact Below.refl _ _ | assumption | (refine Below.setCell ?_ (by first | (simp; done) | (simp; omega) | omega) _) | (refine Below.drew ?_) | (refine below_drewN ?_ _) | (refine Below.alloc ?_ (by first | (simp; done) | (simp; omega) | omega) _) | (refine Below.trans ?_ (Below.mono (by assumption) (by first | (simp; done) | (simp; omega) | omega)))))⟩
    obtain ⟨pl, hpl⟩ : ∃ pl, pl = w.heap.size := ⟨_, rfl⟩
    have HW : Hid (Blk W pl gl ∧ Below w.heap.size w W) := Lib.hid (by rw [hpl]; exact HWp)
    rw [← hpl]
    clear hW HWp hpl
    have m0 := HW.out.1.c 0 _ HG0.out; have lk := HW.out.1.lt
    have n0 := HW.out.1.c 46 _ HC0.out; have n1 := HW.out.1.c 47 _ HC1.out; have n2 := HW.out.1.c 48 _ HC2.out
    go_wp2_with (go_at_call 29; refine (HCK.out _).mono ?_; rintro e w2 ⟨rfl, hb2⟩)
    go_ret
    rw [HV.out]
    exact ⟨rfl, HW.out.2.trans (hb2.mono HW.out.2.size)⟩
  case true =>
    obtain rfl : E = 0 := by simpa using hz
    clear hz
    cases hS : S
    case false =>
      have HV := Lib.hid (show R = 12 by rw [HE.out, hS]; rfl)
      clear HE
      go_enter Tryz.func14, Tryz.ntmps14
      go_upto_region 1 with fail
      refine wp_world (fun W hW => ?_)
      have HWp : Blk W w.heap.size gl ∧ Below w.heap.size w W := by rw [hW]; exact ⟨Blk.new _ _ _ _ rfl, by (repeat (first | exact Below.refl _ _ | assumption | (refine Below.setCell ?_ (by first | (simp; done) | (simp; omega) | omega) _) | (refine Below.drew ?_) | (refine below_drewN ?_ _) | (refine Below.alloc ?_ (by first | (simp; done) | (simp; omega) | omega) _) | (refine Below.trans ?_ (Below.mono (by assumption) (by first | (simp; done) | (simp; omega) | omega)))))⟩
      obtain ⟨pl, hpl⟩ : ∃ pl, pl = w.heap.size := ⟨_, rfl⟩
      have HW : Hid (Blk W pl gl ∧ Below w.heap.size w W) := Lib.hid (by rw [hpl]; exact HWp)
      rw [← hpl]
      clear hW HWp hpl
      have m0 := HW.out.1.c 0 _ HG0.out; have lk := HW.out.1.lt
      have n0 := HW.out.1.c 46 _ HC0.out; have n1 := HW.out.1.c 47 _ HC1.out; have n2 := HW.out.1.c 48 _ HC2.out
      go_wp2_with (first | (go_at_call 29; refine (HCK.out _).mono ?_; rintro e w2 ⟨rfl, hb2⟩; have HK2 := Lib.hid (HW.out.1.past hb2); have HB2 := Lib.hid (HW.out.2.trans (hb2.mono HW.out.2.size))) | (go_at_call 30; refine (HSP.out _).mono ?_; rintro e w9 ⟨rfl, hb9⟩; rw [hS]) | ((with_reducible apply wpList_ldW gl Tryz.underlying63 rfl HI.out (HK2.out.sub 0 49 HS.out)); (with_reducible rfl); rfl; rfl))
      go_ret
      rw [HV.out]
      exact ⟨rfl, HB2.out.trans (hb9.mono HB2.out.size)⟩
    case true =>
      have HV := Lib.hid (show R = 0 by rw [HE.out, hS]; rfl)
      clear HE
      go_enter Tryz.func14, Tryz.ntmps14
      go_upto_region 1 with fail
      refine wp_world (fun W hW => ?_)
      have HWp : Blk W w.heap.size gl ∧ Below w.heap.size w W := by rw [hW]; exact ⟨Blk.new _ _ _ _ rfl, by (repeat (first | exact Below.refl _ _ | assumption | (refine Below.setCell ?_ (by first | (simp; done) | (simp; omega) | omega) _) | (refine Below.drew ?_) | (refine below_drewN ?_ _) | (refine Below.alloc ?_ (by first | (simp; done) | (simp; omega) | omega) _) | (refine Below.trans ?_ (Below.mono (by assumption) (by first | (simp; done) | (simp; omega) | omega)))))⟩
      obtain ⟨pl, hpl⟩ : ∃ pl, pl = w.heap.size := ⟨_, rfl⟩
      have HW : Hid (Blk W pl gl ∧ Below w.heap.size w W) := Lib.hid (by rw [hpl]; exact HWp)
      rw [← hpl]
      clear hW HWp hpl
      have m0 := HW.out.1.c 0 _ HG0.out; have lk := HW.out.1.lt
      have n0 := HW.out.1.c 46 _ HC0.out; have n1 := HW.out.1.c 47 _ HC1.out; have n2 := HW.out.1.c 48 _ HC2.out
      go_wp2_with (first | (go_at_call 29; refine (HCK.out _).mono ?_; rintro e w2 ⟨rfl, hb2⟩; have HK2 := Lib.hid (HW.out.1.past hb2); have HB2 := Lib.hid (HW.out.2.trans (hb2.mono HW.out.2.size))) | (go_at_call 30; refine (HSP.out _).mono ?_; rintro e w9 ⟨rfl, hb9⟩; rw [hS]) | ((with_reducible apply wpList_ldW gl Tryz.underlying63 rfl HI.out (HK2.out.sub 0 49 HS.out)); (with_reducible rfl); rfl; rfl))
      go_ret
      rw [HV.out]
      exact ⟨rfl, HB2.out.trans (hb9.mono HB2.out.size)⟩
end Go.Proofs.YthlomgbchmhjiaaGreatDoor
