/- grade.spare at the kinds 5 and 6. No condition. -/
import Derived.Test.YthlomgbchmhjiaaGreatDoorLD
set_option linter.unusedSimpArgs false
set_option linter.unusedVariables false
namespace Go.Proofs.YthlomgbchmhjiaaGreatDoor
open Go Go.RowKit
set_option maxRecDepth 100000 in
set_option maxHeartbeats 6400000 in
theorem spare_5 (g : GradeD) (hk : g.k = 5) (w : World) : Calls Tryz.prog 30 #[gradeV g] w fun e w' => e = .returned (.bool (spB g)) ∧ Below w.heap.size w w' := by
  have HCR : Hid (∀ i, crN g i = if crB 5 (g.c i) then 1 else 0) := Lib.hid (fun i => by unfold crN; rw [hk])
  have HSB := Lib.hid (show spB g = if fstN (crN g) 4 = 0 then spT g else false from rfl)
  obtain ⟨cN, hcN⟩ : ∃ cN, cN = crN g := ⟨_, rfl⟩
  have HST : Hid (spT g = (((5 : Int) == 1 || wzB g) && (((5 : Int) == 2 || lzB g) && (((5 : Int) == 4 || mzB g) && (((5 : Int) == 5 || (fz (g.f 31) && fz (g.f 32))) && ((5 : Int) == 6 || pzB g)))))) := Lib.hid (by unfold spT; rw [hk])
  have HWZ : Hid (∀ w, (Op.equalIn 10000 52 (.agg #[.float .f32 (g.f 0), .float .f32 (g.f 1), .float .f32 (g.f 2), .float .f32 (g.f 3), .float .f32 (g.f 4), .float .f32 (g.f 5), .float .f32 (g.f 6), .float .f32 (g.f 7), .float .f32 (g.f 8)]) (.agg #[.float .f32 0, .float .f32 0, .float .f32 0, .float .f32 0, .float .f32 0, .float .f32 0, .float .f32 0, .float .f32 0, .float .f32 0])).run Tryz.prog w = .ok (wzB g) w) := Lib.hid (fun w => eq_wheels _ _ _ _ _ _ _ _ _ w)
  have HLZ : Hid (∀ w, (Op.equalIn 10000 54 (.agg #[.float .f32 (g.f 9), .float .f32 (g.f 10), .float .f32 (g.f 11), .float .f32 (g.f 12), .float .f32 (g.f 13), .float .f32 (g.f 14), .float .f32 (g.f 15), .float .f32 (g.f 16), .float .f32 (g.f 17), .float .f32 (g.f 18)]) (.agg #[.float .f32 0, .float .f32 0, .float .f32 0, .float .f32 0, .float .f32 0, .float .f32 0, .float .f32 0, .float .f32 0, .float .f32 0, .float .f32 0])).run Tryz.prog w = .ok (lzB g) w) := Lib.hid (fun w => eq_list _ _ _ _ _ _ _ _ _ _ w)
  have HMZ : Hid (∀ w, (Op.equalIn 10000 60 (.agg #[.float .f32 (g.f 19), .float .f32 (g.f 20), .float .f32 (g.f 21), .float .f32 (g.f 22), .float .f32 (g.f 23), .float .f32 (g.f 24), .float .f32 (g.f 25), .float .f32 (g.f 26), .float .f32 (g.f 27), .float .f32 (g.f 28), .float .f32 (g.f 29), .float .f32 (g.f 30)]) (.agg #[.float .f32 0, .float .f32 0, .float .f32 0, .float .f32 0, .float .f32 0, .float .f32 0, .float .f32 0, .float .f32 0, .float .f32 0, .float .f32 0, .float .f32 0, .float .f32 0])).run Tryz.prog w = .ok (mzB g) w) := Lib.hid (fun w => eq_mixer _ _ _ _ _ _ _ _ _ _ _ _ w)
  have HPZ : Hid (∀ w, (Op.equalIn 10000 61 (.agg #[.int .i64 (g.p 0), .int .i64 (g.p 1), .int .i64 (g.p 2)]) (.agg #[.int .i64 0, .int .i64 0, .int .i64 0])).run Tryz.prog w = .ok (pzB g) w) := Lib.hid (fun w => eq_points _ _ _ w)
  obtain ⟨gl, hgl⟩ : ∃ gl, gl = gradeL g := ⟨_, rfl⟩
  obtain ⟨cl, hcl⟩ : ∃ cl, cl = crvL g := ⟨_, rfl⟩
  obtain ⟨wz, hwz⟩ : ∃ wz, wz = wzB g := ⟨_, rfl⟩
  obtain ⟨lz, hlz⟩ : ∃ lz, lz = lzB g := ⟨_, rfl⟩
  obtain ⟨mz, hmz⟩ : ∃ mz, mz = mzB g := ⟨_, rfl⟩
  obtain ⟨pz, hpz⟩ : ∃ pz, pz = pzB g := ⟨_, rfl⟩
  obtain ⟨x0, hx0⟩ : ∃ x, x = g.f 0 := ⟨_, rfl⟩
  obtain ⟨x1, hx1⟩ : ∃ x, x = g.f 1 := ⟨_, rfl⟩
  obtain ⟨x2, hx2⟩ : ∃ x, x = g.f 2 := ⟨_, rfl⟩
  obtain ⟨x3, hx3⟩ : ∃ x, x = g.f 3 := ⟨_, rfl⟩
  obtain ⟨x4, hx4⟩ : ∃ x, x = g.f 4 := ⟨_, rfl⟩
  obtain ⟨x5, hx5⟩ : ∃ x, x = g.f 5 := ⟨_, rfl⟩
  obtain ⟨x6, hx6⟩ : ∃ x, x = g.f 6 := ⟨_, rfl⟩
  obtain ⟨x7, hx7⟩ : ∃ x, x = g.f 7 := ⟨_, rfl⟩
  obtain ⟨x8, hx8⟩ : ∃ x, x = g.f 8 := ⟨_, rfl⟩
  obtain ⟨x9, hx9⟩ : ∃ x, x = g.f 9 := ⟨_, rfl⟩
  obtain ⟨x10, hx10⟩ : ∃ x, x = g.f 10 := ⟨_, rfl⟩
  obtain ⟨x11, hx11⟩ : ∃ x, x = g.f 11 := ⟨_, rfl⟩
  obtain ⟨x12, hx12⟩ : ∃ x, x = g.f 12 := ⟨_, rfl⟩
  obtain ⟨x13, hx13⟩ : ∃ x, x = g.f 13 := ⟨_, rfl⟩
  obtain ⟨x14, hx14⟩ : ∃ x, x = g.f 14 := ⟨_, rfl⟩
  obtain ⟨x15, hx15⟩ : ∃ x, x = g.f 15 := ⟨_, rfl⟩
  obtain ⟨x16, hx16⟩ : ∃ x, x = g.f 16 := ⟨_, rfl⟩
  obtain ⟨x17, hx17⟩ : ∃ x, x = g.f 17 := ⟨_, rfl⟩
  obtain ⟨x18, hx18⟩ : ∃ x, x = g.f 18 := ⟨_, rfl⟩
  obtain ⟨x19, hx19⟩ : ∃ x, x = g.f 19 := ⟨_, rfl⟩
  obtain ⟨x20, hx20⟩ : ∃ x, x = g.f 20 := ⟨_, rfl⟩
  obtain ⟨x21, hx21⟩ : ∃ x, x = g.f 21 := ⟨_, rfl⟩
  obtain ⟨x22, hx22⟩ : ∃ x, x = g.f 22 := ⟨_, rfl⟩
  obtain ⟨x23, hx23⟩ : ∃ x, x = g.f 23 := ⟨_, rfl⟩
  obtain ⟨x24, hx24⟩ : ∃ x, x = g.f 24 := ⟨_, rfl⟩
  obtain ⟨x25, hx25⟩ : ∃ x, x = g.f 25 := ⟨_, rfl⟩
  obtain ⟨x26, hx26⟩ : ∃ x, x = g.f 26 := ⟨_, rfl⟩
  obtain ⟨x27, hx27⟩ : ∃ x, x = g.f 27 := ⟨_, rfl⟩
  obtain ⟨x28, hx28⟩ : ∃ x, x = g.f 28 := ⟨_, rfl⟩
  obtain ⟨x29, hx29⟩ : ∃ x, x = g.f 29 := ⟨_, rfl⟩
  obtain ⟨x30, hx30⟩ : ∃ x, x = g.f 30 := ⟨_, rfl⟩
  obtain ⟨x31, hx31⟩ : ∃ x, x = g.f 31 := ⟨_, rfl⟩
  obtain ⟨x32, hx32⟩ : ∃ x, x = g.f 32 := ⟨_, rfl⟩
  obtain ⟨p0, hp0⟩ : ∃ x, x = g.p 0 := ⟨_, rfl⟩
  obtain ⟨p1, hp1⟩ : ∃ x, x = g.p 1 := ⟨_, rfl⟩
  obtain ⟨p2, hp2⟩ : ∃ x, x = g.p 2 := ⟨_, rfl⟩
  have HIX : Hid (∀ i : Nat, i < 4 → ∀ w, (Instr.index 57 (.agg cl.toArray) (.int .i64 (i : Int))).run Tryz.prog w = .ok (curveV (g.c i)) w) := Lib.hid (by rw [hcl]; exact ix_c g)
  have HG0 : Hid (gl[0]? = some (.int .i64 5)) := Lib.hid (by rw [hgl, ← hk]; rfl)
  have HGC : Hid (gl[1]? = some (.float .f32 x0) ∧ gl[2]? = some (.float .f32 x1) ∧ gl[3]? = some (.float .f32 x2) ∧ gl[4]? = some (.float .f32 x3) ∧ gl[5]? = some (.float .f32 x4) ∧ gl[6]? = some (.float .f32 x5) ∧ gl[7]? = some (.float .f32 x6) ∧ gl[8]? = some (.float .f32 x7) ∧ gl[9]? = some (.float .f32 x8) ∧ gl[10]? = some (.float .f32 x9) ∧ gl[11]? = some (.float .f32 x10) ∧ gl[12]? = some (.float .f32 x11) ∧ gl[13]? = some (.float .f32 x12) ∧ gl[14]? = some (.float .f32 x13) ∧ gl[15]? = some (.float .f32 x14) ∧ gl[16]? = some (.float .f32 x15) ∧ gl[17]? = some (.float .f32 x16) ∧ gl[18]? = some (.float .f32 x17) ∧ gl[19]? = some (.float .f32 x18) ∧ gl[32]? = some (.float .f32 x19) ∧ gl[33]? = some (.float .f32 x20) ∧ gl[34]? = some (.float .f32 x21) ∧ gl[35]? = some (.float .f32 x22) ∧ gl[36]? = some (.float .f32 x23) ∧ gl[37]? = some (.float .f32 x24) ∧ gl[38]? = some (.float .f32 x25) ∧ gl[39]? = some (.float .f32 x26) ∧ gl[40]? = some (.float .f32 x27) ∧ gl[41]? = some (.float .f32 x28) ∧ gl[42]? = some (.float .f32 x29) ∧ gl[43]? = some (.float .f32 x30) ∧ gl[44]? = some (.float .f32 x31) ∧ gl[45]? = some (.float .f32 x32) ∧ gl[46]? = some (.int .i64 p0) ∧ gl[47]? = some (.int .i64 p1) ∧ gl[48]? = some (.int .i64 p2)) := Lib.hid (by rw [hgl, hx0, hx1, hx2, hx3, hx4, hx5, hx6, hx7, hx8, hx9, hx10, hx11, hx12, hx13, hx14, hx15, hx16, hx17, hx18, hx19, hx20, hx21, hx22, hx23, hx24, hx25, hx26, hx27, hx28, hx29, hx30, hx31, hx32, hp0, hp1, hp2]; exact ⟨rfl, rfl, rfl, rfl, rfl, rfl, rfl, rfl, rfl, rfl, rfl, rfl, rfl, rfl, rfl, rfl, rfl, rfl, rfl, rfl, rfl, rfl, rfl, rfl, rfl, rfl, rfl, rfl, rfl, rfl, rfl, rfl, rfl, rfl, rfl, rfl⟩)
  have HSUB : Hid (cl = (gl.drop 20).take 12) := Lib.hid (by rw [hgl, hcl]; rfl)
  have HLEN : Hid (cl.length = 12) := Lib.hid (by rw [hcl]; rfl)
  rw [← hwz, ← hx0, ← hx1, ← hx2, ← hx3, ← hx4, ← hx5, ← hx6, ← hx7, ← hx8] at HWZ
  rw [← hlz, ← hx9, ← hx10, ← hx11, ← hx12, ← hx13, ← hx14, ← hx15, ← hx16, ← hx17, ← hx18] at HLZ
  rw [← hmz, ← hx19, ← hx20, ← hx21, ← hx22, ← hx23, ← hx24, ← hx25, ← hx26, ← hx27, ← hx28, ← hx29, ← hx30] at HMZ
  rw [← hpz, ← hp0, ← hp1, ← hp2] at HPZ
  rw [← hwz, ← hlz, ← hmz, ← hpz, ← hx31, ← hx32] at HST
  rw [← hcN] at HCR HSB
  obtain ⟨sT, hsT⟩ : ∃ sT, sT = spT g := ⟨_, rfl⟩
  obtain ⟨R, hR⟩ : ∃ R, R = spB g := ⟨_, rfl⟩
  rw [← hsT] at HST HSB
  rw [← hR] at HSB
  rw [← hR]
  have e0 : gradeV g = .agg gl.toArray := by rw [hgl]; rfl
  rw [e0]
  have HI : Hid ((Tryz.prog.info? 57).map (·.size) = some cl.length) := Lib.hid (by rw [HLEN.out]; exact infoC4)
  clear e0 hgl hcl hwz hlz hmz hpz hx0 hx1 hx2 hx3 hx4 hx5 hx6 hx7 hx8 hx9 hx10 hx11 hx12 hx13 hx14 hx15 hx16 hx17 hx18 hx19 hx20 hx21 hx22 hx23 hx24 hx25 hx26 hx27 hx28 hx29 hx30 hx31 hx32 hp0 hp1 hp2 hsT hR hcN hk
  go_enter Tryz.func30, Tryz.ntmps30
  go_upto_region 1 with fail
  refine wp_world (fun W hW => ?_)
  have HWp : Blk W w.heap.size gl ∧ Below w.heap.size w W := by rw [hW]; exact ⟨Blk.new _ _ _ _ rfl, by (repeat (first | exact Below.refl _ _ | assumption | (refine Below.setCell ?_ (by first | (simp; done) | (simp; omega) | omega) _) | (refine Below.drew ?_) | (refine below_drewN ?_ _) | (refine Below.alloc ?_ (by first | (simp; done) | (simp; omega) | omega) _) | (refine Below.trans ?_ (Below.mono (by assumption) (by first | (simp; done) | (simp; omega) | omega)))))⟩
  obtain ⟨pl, hpl⟩ : ∃ pl, pl = w.heap.size := ⟨_, rfl⟩
  have HW : Hid (Blk W pl gl ∧ Below w.heap.size w W) := Lib.hid (by rw [hpl]; exact HWp)
  rw [← hpl]
  clear hW HWp hpl
  go_wp2_with ((with_reducible apply wpList_ldW cl Tryz.underlying57 rfl HI.out (HW.out.1.sub 20 12 HSUB.out)); (with_reducible rfl); rfl; rfl)
  go_loopw [7] (fun s7 wr => ∃ i : Nat, i ≤ 4 ∧ s7 = .int .i64 i ∧ fstN cN i = 0 ∧ Below W.heap.size W wr) (fun s7 _ => 4 - (intOf s7).toNat)
  case atStart => exact ⟨0, by omega, rfl, rfl, Below.refl _ _⟩
  case round =>
    obtain ⟨i, hi, rfl, hz, hq⟩ := hrel
    have HZ := Lib.hid hz; have HQ := Lib.hid hq
    have HQB := Lib.hid (HW.out.2.trans (hq.mono HW.out.2.size))
    have HK := Lib.hid (HW.out.1.past hq)
    clear hz hq
    have m0 := HK.out.c 0 _ HG0.out; have lk := HK.out.lt
    by_cases hi4 : i < 4
    · have hi4i : (i : Int) < 4 := by omega
      have ix := HIX.out i hi4
      have HBAD := Lib.hid (fun h => by rw [HSB.out, if_neg (by rw [fstN_of HZ.out h hi4]; exact h)] : cN i ≠ 0 → R = false)
      have HOK := Lib.hid (fun h => fstN_succ HZ.out h : cN i = 0 → fstN cN (i + 1) = 0)
      have HCI := Lib.hid (HCR.out i)
      have HHP := Lib.hid (fun w => hasPoints_any (g.c i) w)
      obtain ⟨c, hc⟩ : ∃ c, c = g.c i := ⟨_, rfl⟩
      rw [← hc] at ix HCI HHP
      clear hc
      obtain ⟨hp, hhp⟩ : ∃ hp, hp = hpB c := ⟨_, rfl⟩
      have HCB := Lib.hid (show crB 5 c = ((((5 : Int) != 3) || !(hpB c)) && ((c.k != 0) || hpB c)) from rfl)
      rw [← hhp] at HCB HHP
      clear hhp
      obtain ⟨ck, xa, xc, xs, ya, yc, ys⟩ := c
      unfold curveV at ix HHP
      simp only at ix HHP HCB
      obtain ⟨xl, hxl⟩ : ∃ xl, xl = xs.length := ⟨_, rfl⟩
      obtain ⟨yl, hyl⟩ : ∃ yl, yl = ys.length := ⟨_, rfl⟩
      rw [← hxl, ← hyl] at ix HHP
      clear hxl hyl
      cases kc : (ck != 0) <;> cases hh : hp
      case false.false =>
        have HV := Lib.hid (HOK.out (by rw [HCI.out, HCB.out, kc, hh]; decide))
        go_wp2_with ((go_at_call 26; refine (HHP.out _).mono ?_; rintro e w3 ⟨rfl, hb3⟩; rw [hh]))
        go_roundw
        case rel => exact ⟨i + 1, by omega, by go_num, HV.out, by first | exact (HQ.out.trans (hb3.mono HQ.out.size)).trans (hb4.mono (HQ.out.trans (hb3.mono HQ.out.size)).size) | exact HQ.out.trans (hb3.mono HQ.out.size) | exact HQ.out | (have hh9 := HQ.out; have hs := hh9.size; (repeat (first | exact Below.refl _ _ | assumption | (refine Below.setCell ?_ (by first | (simp; done) | (simp; omega) | omega) _) | (refine Below.drew ?_) | (refine below_drewN ?_ _) | (refine Below.alloc ?_ (by first | (simp; done) | (simp; omega) | omega) _) | (refine Below.trans ?_ (Below.mono (by assumption) (by first | (simp; done) | (simp; omega) | omega))))))⟩
        case measure => simp [intOf] <;> omega
      case false.true =>
        have HV := Lib.hid (HBAD.out (by rw [HCI.out, HCB.out, kc, hh]; decide))
        go_wp2_with ((go_at_call 26; refine (HHP.out _).mono ?_; rintro e w3 ⟨rfl, hb3⟩; rw [hh]))
        go_ret
        rw [HV.out]
        exact ⟨rfl, by first | exact (HQB.out.trans (hb3.mono HQB.out.size)).trans (hb4.mono (HQB.out.trans (hb3.mono HQB.out.size)).size) | exact HQB.out.trans (hb3.mono HQB.out.size) | exact HQB.out | (have hh9 := HQB.out; have hs := hh9.size; (repeat (first | exact Below.refl _ _ | assumption | (refine Below.setCell ?_ (by first | (simp; done) | (simp; omega) | omega) _) | (refine Below.drew ?_) | (refine below_drewN ?_ _) | (refine Below.alloc ?_ (by first | (simp; done) | (simp; omega) | omega) _) | (refine Below.trans ?_ (Below.mono (by assumption) (by first | (simp; done) | (simp; omega) | omega))))))⟩
      case true.false =>
        have HV := Lib.hid (HBAD.out (by rw [HCI.out, HCB.out, kc, hh]; decide))
        go_wp2_with ((go_at_call 26; refine (HHP.out _).mono ?_; rintro e w3 ⟨rfl, hb3⟩; rw [hh]))
        go_ret
        rw [HV.out]
        exact ⟨rfl, by first | exact (HQB.out.trans (hb3.mono HQB.out.size)).trans (hb4.mono (HQB.out.trans (hb3.mono HQB.out.size)).size) | exact HQB.out.trans (hb3.mono HQB.out.size) | exact HQB.out | (have hh9 := HQB.out; have hs := hh9.size; (repeat (first | exact Below.refl _ _ | assumption | (refine Below.setCell ?_ (by first | (simp; done) | (simp; omega) | omega) _) | (refine Below.drew ?_) | (refine below_drewN ?_ _) | (refine Below.alloc ?_ (by first | (simp; done) | (simp; omega) | omega) _) | (refine Below.trans ?_ (Below.mono (by assumption) (by first | (simp; done) | (simp; omega) | omega))))))⟩
      case true.true =>
        have HV := Lib.hid (HBAD.out (by rw [HCI.out, HCB.out, kc, hh]; decide))
        go_wp2_with ((go_at_call 26; refine (HHP.out _).mono ?_; rintro e w3 ⟨rfl, hb3⟩; rw [hh]))
        go_ret
        rw [HV.out]
        exact ⟨rfl, by first | exact (HQB.out.trans (hb3.mono HQB.out.size)).trans (hb4.mono (HQB.out.trans (hb3.mono HQB.out.size)).size) | exact HQB.out.trans (hb3.mono HQB.out.size) | exact HQB.out | (have hh9 := HQB.out; have hs := hh9.size; (repeat (first | exact Below.refl _ _ | assumption | (refine Below.setCell ?_ (by first | (simp; done) | (simp; omega) | omega) _) | (refine Below.drew ?_) | (refine below_drewN ?_ _) | (refine Below.alloc ?_ (by first | (simp; done) | (simp; omega) | omega) _) | (refine Below.trans ?_ (Below.mono (by assumption) (by first | (simp; done) | (simp; omega) | omega))))))⟩
    · have hi4i : ¬ (i : Int) < 4 := by omega
      obtain rfl : i = 4 := by omega
      have HSB2 : Hid (R = sT) := Lib.hid (by rw [HSB.out, if_pos HZ.out])
      clear HSB HCR HIX
      unfold fz at HST
      have n0 := HK.out.c 1 _ HGC.out.1; have n1 := HK.out.c 2 _ HGC.out.2.1; have n2 := HK.out.c 3 _ HGC.out.2.2.1; have n3 := HK.out.c 4 _ HGC.out.2.2.2.1; have n4 := HK.out.c 5 _ HGC.out.2.2.2.2.1; have n5 := HK.out.c 6 _ HGC.out.2.2.2.2.2.1; have n6 := HK.out.c 7 _ HGC.out.2.2.2.2.2.2.1; have n7 := HK.out.c 8 _ HGC.out.2.2.2.2.2.2.2.1; have n8 := HK.out.c 9 _ HGC.out.2.2.2.2.2.2.2.2.1
      have eW := HWZ.out
      cases tW : wz
      case false =>
        rw [tW] at eW
        go_wp2_with fail
        go_ret
        rw [HSB2.out, HST.out]
        simp only [tW]
        exact ⟨by first | rfl | decide, HQB.out⟩
      case true =>
        rw [tW] at eW
        have n9 := HK.out.c 10 _ HGC.out.2.2.2.2.2.2.2.2.2.1; have n10 := HK.out.c 11 _ HGC.out.2.2.2.2.2.2.2.2.2.2.1; have n11 := HK.out.c 12 _ HGC.out.2.2.2.2.2.2.2.2.2.2.2.1; have n12 := HK.out.c 13 _ HGC.out.2.2.2.2.2.2.2.2.2.2.2.2.1; have n13 := HK.out.c 14 _ HGC.out.2.2.2.2.2.2.2.2.2.2.2.2.2.1; have n14 := HK.out.c 15 _ HGC.out.2.2.2.2.2.2.2.2.2.2.2.2.2.2.1; have n15 := HK.out.c 16 _ HGC.out.2.2.2.2.2.2.2.2.2.2.2.2.2.2.2.1; have n16 := HK.out.c 17 _ HGC.out.2.2.2.2.2.2.2.2.2.2.2.2.2.2.2.2.1; have n17 := HK.out.c 18 _ HGC.out.2.2.2.2.2.2.2.2.2.2.2.2.2.2.2.2.2.1; have n18 := HK.out.c 19 _ HGC.out.2.2.2.2.2.2.2.2.2.2.2.2.2.2.2.2.2.2.1
        have eL := HLZ.out
        cases tL : lz
        case false =>
          rw [tL] at eL
          go_wp2_with fail
          go_ret
          rw [HSB2.out, HST.out]
          simp only [tW, tL]
          exact ⟨by first | rfl | decide, HQB.out⟩
        case true =>
          rw [tL] at eL
          have n19 := HK.out.c 32 _ HGC.out.2.2.2.2.2.2.2.2.2.2.2.2.2.2.2.2.2.2.2.1; have n20 := HK.out.c 33 _ HGC.out.2.2.2.2.2.2.2.2.2.2.2.2.2.2.2.2.2.2.2.2.1; have n21 := HK.out.c 34 _ HGC.out.2.2.2.2.2.2.2.2.2.2.2.2.2.2.2.2.2.2.2.2.2.1; have n22 := HK.out.c 35 _ HGC.out.2.2.2.2.2.2.2.2.2.2.2.2.2.2.2.2.2.2.2.2.2.2.1; have n23 := HK.out.c 36 _ HGC.out.2.2.2.2.2.2.2.2.2.2.2.2.2.2.2.2.2.2.2.2.2.2.2.1; have n24 := HK.out.c 37 _ HGC.out.2.2.2.2.2.2.2.2.2.2.2.2.2.2.2.2.2.2.2.2.2.2.2.2.1; have n25 := HK.out.c 38 _ HGC.out.2.2.2.2.2.2.2.2.2.2.2.2.2.2.2.2.2.2.2.2.2.2.2.2.2.1; have n26 := HK.out.c 39 _ HGC.out.2.2.2.2.2.2.2.2.2.2.2.2.2.2.2.2.2.2.2.2.2.2.2.2.2.2.1; have n27 := HK.out.c 40 _ HGC.out.2.2.2.2.2.2.2.2.2.2.2.2.2.2.2.2.2.2.2.2.2.2.2.2.2.2.2.1; have n28 := HK.out.c 41 _ HGC.out.2.2.2.2.2.2.2.2.2.2.2.2.2.2.2.2.2.2.2.2.2.2.2.2.2.2.2.2.1; have n29 := HK.out.c 42 _ HGC.out.2.2.2.2.2.2.2.2.2.2.2.2.2.2.2.2.2.2.2.2.2.2.2.2.2.2.2.2.2.1; have n30 := HK.out.c 43 _ HGC.out.2.2.2.2.2.2.2.2.2.2.2.2.2.2.2.2.2.2.2.2.2.2.2.2.2.2.2.2.2.2.1
          have eM := HMZ.out
          cases tM : mz
          case false =>
            rw [tM] at eM
            go_wp2_with fail
            go_ret
            rw [HSB2.out, HST.out]
            simp only [tW, tL, tM]
            exact ⟨by first | rfl | decide, HQB.out⟩
          case true =>
            rw [tM] at eM
            have n33 := HK.out.c 46 _ HGC.out.2.2.2.2.2.2.2.2.2.2.2.2.2.2.2.2.2.2.2.2.2.2.2.2.2.2.2.2.2.2.2.2.2.1; have n34 := HK.out.c 47 _ HGC.out.2.2.2.2.2.2.2.2.2.2.2.2.2.2.2.2.2.2.2.2.2.2.2.2.2.2.2.2.2.2.2.2.2.2.1; have n35 := HK.out.c 48 _ HGC.out.2.2.2.2.2.2.2.2.2.2.2.2.2.2.2.2.2.2.2.2.2.2.2.2.2.2.2.2.2.2.2.2.2.2.2
            have eP := HPZ.out
            cases tP : pz
            case false =>
              rw [tP] at eP
              go_wp2_with fail
              go_ret
              rw [HSB2.out, HST.out]
              simp only [tW, tL, tM, tP]
              exact ⟨by first | rfl | decide, HQB.out⟩
            case true =>
              rw [tP] at eP
              go_wp2_with fail
              go_ret
              rw [HSB2.out, HST.out]
              simp only [tW, tL, tM, tP]
              exact ⟨by first | rfl | decide, HQB.out⟩
set_option maxRecDepth 100000 in
set_option maxHeartbeats 6400000 in
theorem spare_6 (g : GradeD) (hk : g.k = 6) (w : World) : Calls Tryz.prog 30 #[gradeV g] w fun e w' => e = .returned (.bool (spB g)) ∧ Below w.heap.size w w' := by
  have HCR : Hid (∀ i, crN g i = if crB 6 (g.c i) then 1 else 0) := Lib.hid (fun i => by unfold crN; rw [hk])
  have HSB := Lib.hid (show spB g = if fstN (crN g) 4 = 0 then spT g else false from rfl)
  obtain ⟨cN, hcN⟩ : ∃ cN, cN = crN g := ⟨_, rfl⟩
  have HST : Hid (spT g = (((6 : Int) == 1 || wzB g) && (((6 : Int) == 2 || lzB g) && (((6 : Int) == 4 || mzB g) && (((6 : Int) == 5 || (fz (g.f 31) && fz (g.f 32))) && ((6 : Int) == 6 || pzB g)))))) := Lib.hid (by unfold spT; rw [hk])
  have HWZ : Hid (∀ w, (Op.equalIn 10000 52 (.agg #[.float .f32 (g.f 0), .float .f32 (g.f 1), .float .f32 (g.f 2), .float .f32 (g.f 3), .float .f32 (g.f 4), .float .f32 (g.f 5), .float .f32 (g.f 6), .float .f32 (g.f 7), .float .f32 (g.f 8)]) (.agg #[.float .f32 0, .float .f32 0, .float .f32 0, .float .f32 0, .float .f32 0, .float .f32 0, .float .f32 0, .float .f32 0, .float .f32 0])).run Tryz.prog w = .ok (wzB g) w) := Lib.hid (fun w => eq_wheels _ _ _ _ _ _ _ _ _ w)
  have HLZ : Hid (∀ w, (Op.equalIn 10000 54 (.agg #[.float .f32 (g.f 9), .float .f32 (g.f 10), .float .f32 (g.f 11), .float .f32 (g.f 12), .float .f32 (g.f 13), .float .f32 (g.f 14), .float .f32 (g.f 15), .float .f32 (g.f 16), .float .f32 (g.f 17), .float .f32 (g.f 18)]) (.agg #[.float .f32 0, .float .f32 0, .float .f32 0, .float .f32 0, .float .f32 0, .float .f32 0, .float .f32 0, .float .f32 0, .float .f32 0, .float .f32 0])).run Tryz.prog w = .ok (lzB g) w) := Lib.hid (fun w => eq_list _ _ _ _ _ _ _ _ _ _ w)
  have HMZ : Hid (∀ w, (Op.equalIn 10000 60 (.agg #[.float .f32 (g.f 19), .float .f32 (g.f 20), .float .f32 (g.f 21), .float .f32 (g.f 22), .float .f32 (g.f 23), .float .f32 (g.f 24), .float .f32 (g.f 25), .float .f32 (g.f 26), .float .f32 (g.f 27), .float .f32 (g.f 28), .float .f32 (g.f 29), .float .f32 (g.f 30)]) (.agg #[.float .f32 0, .float .f32 0, .float .f32 0, .float .f32 0, .float .f32 0, .float .f32 0, .float .f32 0, .float .f32 0, .float .f32 0, .float .f32 0, .float .f32 0, .float .f32 0])).run Tryz.prog w = .ok (mzB g) w) := Lib.hid (fun w => eq_mixer _ _ _ _ _ _ _ _ _ _ _ _ w)
  have HPZ : Hid (∀ w, (Op.equalIn 10000 61 (.agg #[.int .i64 (g.p 0), .int .i64 (g.p 1), .int .i64 (g.p 2)]) (.agg #[.int .i64 0, .int .i64 0, .int .i64 0])).run Tryz.prog w = .ok (pzB g) w) := Lib.hid (fun w => eq_points _ _ _ w)
  obtain ⟨gl, hgl⟩ : ∃ gl, gl = gradeL g := ⟨_, rfl⟩
  obtain ⟨cl, hcl⟩ : ∃ cl, cl = crvL g := ⟨_, rfl⟩
  obtain ⟨wz, hwz⟩ : ∃ wz, wz = wzB g := ⟨_, rfl⟩
  obtain ⟨lz, hlz⟩ : ∃ lz, lz = lzB g := ⟨_, rfl⟩
  obtain ⟨mz, hmz⟩ : ∃ mz, mz = mzB g := ⟨_, rfl⟩
  obtain ⟨pz, hpz⟩ : ∃ pz, pz = pzB g := ⟨_, rfl⟩
  obtain ⟨x0, hx0⟩ : ∃ x, x = g.f 0 := ⟨_, rfl⟩
  obtain ⟨x1, hx1⟩ : ∃ x, x = g.f 1 := ⟨_, rfl⟩
  obtain ⟨x2, hx2⟩ : ∃ x, x = g.f 2 := ⟨_, rfl⟩
  obtain ⟨x3, hx3⟩ : ∃ x, x = g.f 3 := ⟨_, rfl⟩
  obtain ⟨x4, hx4⟩ : ∃ x, x = g.f 4 := ⟨_, rfl⟩
  obtain ⟨x5, hx5⟩ : ∃ x, x = g.f 5 := ⟨_, rfl⟩
  obtain ⟨x6, hx6⟩ : ∃ x, x = g.f 6 := ⟨_, rfl⟩
  obtain ⟨x7, hx7⟩ : ∃ x, x = g.f 7 := ⟨_, rfl⟩
  obtain ⟨x8, hx8⟩ : ∃ x, x = g.f 8 := ⟨_, rfl⟩
  obtain ⟨x9, hx9⟩ : ∃ x, x = g.f 9 := ⟨_, rfl⟩
  obtain ⟨x10, hx10⟩ : ∃ x, x = g.f 10 := ⟨_, rfl⟩
  obtain ⟨x11, hx11⟩ : ∃ x, x = g.f 11 := ⟨_, rfl⟩
  obtain ⟨x12, hx12⟩ : ∃ x, x = g.f 12 := ⟨_, rfl⟩
  obtain ⟨x13, hx13⟩ : ∃ x, x = g.f 13 := ⟨_, rfl⟩
  obtain ⟨x14, hx14⟩ : ∃ x, x = g.f 14 := ⟨_, rfl⟩
  obtain ⟨x15, hx15⟩ : ∃ x, x = g.f 15 := ⟨_, rfl⟩
  obtain ⟨x16, hx16⟩ : ∃ x, x = g.f 16 := ⟨_, rfl⟩
  obtain ⟨x17, hx17⟩ : ∃ x, x = g.f 17 := ⟨_, rfl⟩
  obtain ⟨x18, hx18⟩ : ∃ x, x = g.f 18 := ⟨_, rfl⟩
  obtain ⟨x19, hx19⟩ : ∃ x, x = g.f 19 := ⟨_, rfl⟩
  obtain ⟨x20, hx20⟩ : ∃ x, x = g.f 20 := ⟨_, rfl⟩
  obtain ⟨x21, hx21⟩ : ∃ x, x = g.f 21 := ⟨_, rfl⟩
  obtain ⟨x22, hx22⟩ : ∃ x, x = g.f 22 := ⟨_, rfl⟩
  obtain ⟨x23, hx23⟩ : ∃ x, x = g.f 23 := ⟨_, rfl⟩
  obtain ⟨x24, hx24⟩ : ∃ x, x = g.f 24 := ⟨_, rfl⟩
  obtain ⟨x25, hx25⟩ : ∃ x, x = g.f 25 := ⟨_, rfl⟩
  obtain ⟨x26, hx26⟩ : ∃ x, x = g.f 26 := ⟨_, rfl⟩
  obtain ⟨x27, hx27⟩ : ∃ x, x = g.f 27 := ⟨_, rfl⟩
  obtain ⟨x28, hx28⟩ : ∃ x, x = g.f 28 := ⟨_, rfl⟩
  obtain ⟨x29, hx29⟩ : ∃ x, x = g.f 29 := ⟨_, rfl⟩
  obtain ⟨x30, hx30⟩ : ∃ x, x = g.f 30 := ⟨_, rfl⟩
  obtain ⟨x31, hx31⟩ : ∃ x, x = g.f 31 := ⟨_, rfl⟩
  obtain ⟨x32, hx32⟩ : ∃ x, x = g.f 32 := ⟨_, rfl⟩
  obtain ⟨p0, hp0⟩ : ∃ x, x = g.p 0 := ⟨_, rfl⟩
  obtain ⟨p1, hp1⟩ : ∃ x, x = g.p 1 := ⟨_, rfl⟩
  obtain ⟨p2, hp2⟩ : ∃ x, x = g.p 2 := ⟨_, rfl⟩
  have HIX : Hid (∀ i : Nat, i < 4 → ∀ w, (Instr.index 57 (.agg cl.toArray) (.int .i64 (i : Int))).run Tryz.prog w = .ok (curveV (g.c i)) w) := Lib.hid (by rw [hcl]; exact ix_c g)
  have HG0 : Hid (gl[0]? = some (.int .i64 6)) := Lib.hid (by rw [hgl, ← hk]; rfl)
  have HGC : Hid (gl[1]? = some (.float .f32 x0) ∧ gl[2]? = some (.float .f32 x1) ∧ gl[3]? = some (.float .f32 x2) ∧ gl[4]? = some (.float .f32 x3) ∧ gl[5]? = some (.float .f32 x4) ∧ gl[6]? = some (.float .f32 x5) ∧ gl[7]? = some (.float .f32 x6) ∧ gl[8]? = some (.float .f32 x7) ∧ gl[9]? = some (.float .f32 x8) ∧ gl[10]? = some (.float .f32 x9) ∧ gl[11]? = some (.float .f32 x10) ∧ gl[12]? = some (.float .f32 x11) ∧ gl[13]? = some (.float .f32 x12) ∧ gl[14]? = some (.float .f32 x13) ∧ gl[15]? = some (.float .f32 x14) ∧ gl[16]? = some (.float .f32 x15) ∧ gl[17]? = some (.float .f32 x16) ∧ gl[18]? = some (.float .f32 x17) ∧ gl[19]? = some (.float .f32 x18) ∧ gl[32]? = some (.float .f32 x19) ∧ gl[33]? = some (.float .f32 x20) ∧ gl[34]? = some (.float .f32 x21) ∧ gl[35]? = some (.float .f32 x22) ∧ gl[36]? = some (.float .f32 x23) ∧ gl[37]? = some (.float .f32 x24) ∧ gl[38]? = some (.float .f32 x25) ∧ gl[39]? = some (.float .f32 x26) ∧ gl[40]? = some (.float .f32 x27) ∧ gl[41]? = some (.float .f32 x28) ∧ gl[42]? = some (.float .f32 x29) ∧ gl[43]? = some (.float .f32 x30) ∧ gl[44]? = some (.float .f32 x31) ∧ gl[45]? = some (.float .f32 x32) ∧ gl[46]? = some (.int .i64 p0) ∧ gl[47]? = some (.int .i64 p1) ∧ gl[48]? = some (.int .i64 p2)) := Lib.hid (by rw [hgl, hx0, hx1, hx2, hx3, hx4, hx5, hx6, hx7, hx8, hx9, hx10, hx11, hx12, hx13, hx14, hx15, hx16, hx17, hx18, hx19, hx20, hx21, hx22, hx23, hx24, hx25, hx26, hx27, hx28, hx29, hx30, hx31, hx32, hp0, hp1, hp2]; exact ⟨rfl, rfl, rfl, rfl, rfl, rfl, rfl, rfl, rfl, rfl, rfl, rfl, rfl, rfl, rfl, rfl, rfl, rfl, rfl, rfl, rfl, rfl, rfl, rfl, rfl, rfl, rfl, rfl, rfl, rfl, rfl, rfl, rfl, rfl, rfl, rfl⟩)
  have HSUB : Hid (cl = (gl.drop 20).take 12) := Lib.hid (by rw [hgl, hcl]; rfl)
  have HLEN : Hid (cl.length = 12) := Lib.hid (by rw [hcl]; rfl)
  rw [← hwz, ← hx0, ← hx1, ← hx2, ← hx3, ← hx4, ← hx5, ← hx6, ← hx7, ← hx8] at HWZ
  rw [← hlz, ← hx9, ← hx10, ← hx11, ← hx12, ← hx13, ← hx14, ← hx15, ← hx16, ← hx17, ← hx18] at HLZ
  rw [← hmz, ← hx19, ← hx20, ← hx21, ← hx22, ← hx23, ← hx24, ← hx25, ← hx26, ← hx27, ← hx28, ← hx29, ← hx30] at HMZ
  rw [← hpz, ← hp0, ← hp1, ← hp2] at HPZ
  rw [← hwz, ← hlz, ← hmz, ← hpz, ← hx31, ← hx32] at HST
  rw [← hcN] at HCR HSB
  obtain ⟨sT, hsT⟩ : ∃ sT, sT = spT g := ⟨_, rfl⟩
  obtain ⟨R, hR⟩ : ∃ R, R = spB g := ⟨_, rfl⟩
  rw [← hsT] at HST HSB
  rw [← hR] at HSB
  rw [← hR]
  have e0 : gradeV g = .agg gl.toArray := by rw [hgl]; rfl
  rw [e0]
  have HI : Hid ((Tryz.prog.info? 57).map (·.size) = some cl.length) := Lib.hid (by rw [HLEN.out]; exact infoC4)
  clear e0 hgl hcl hwz hlz hmz hpz hx0 hx1 hx2 hx3 hx4 hx5 hx6 hx7 hx8 hx9 hx10 hx11 hx12 hx13 hx14 hx15 hx16 hx17 hx18 hx19 hx20 hx21 hx22 hx23 hx24 hx25 hx26 hx27 hx28 hx29 hx30 hx31 hx32 hp0 hp1 hp2 hsT hR hcN hk
  go_enter Tryz.func30, Tryz.ntmps30
  go_upto_region 1 with fail
  refine wp_world (fun W hW => ?_)
  have HWp : Blk W w.heap.size gl ∧ Below w.heap.size w W := by rw [hW]; exact ⟨Blk.new _ _ _ _ rfl, by (repeat (first | exact Below.refl _ _ | assumption | (refine Below.setCell ?_ (by first | (simp; done) | (simp; omega) | omega) _) | (refine Below.drew ?_) | (refine below_drewN ?_ _) | (refine Below.alloc ?_ (by first | (simp; done) | (simp; omega) | omega) _) | (refine Below.trans ?_ (Below.mono (by assumption) (by first | (simp; done) | (simp; omega) | omega)))))⟩
  obtain ⟨pl, hpl⟩ : ∃ pl, pl = w.heap.size := ⟨_, rfl⟩
  have HW : Hid (Blk W pl gl ∧ Below w.heap.size w W) := Lib.hid (by rw [hpl]; exact HWp)
  rw [← hpl]
  clear hW HWp hpl
  go_wp2_with ((with_reducible apply wpList_ldW cl Tryz.underlying57 rfl HI.out (HW.out.1.sub 20 12 HSUB.out)); (with_reducible rfl); rfl; rfl)
  go_loopw [7] (fun s7 wr => ∃ i : Nat, i ≤ 4 ∧ s7 = .int .i64 i ∧ fstN cN i = 0 ∧ Below W.heap.size W wr) (fun s7 _ => 4 - (intOf s7).toNat)
  case atStart => exact ⟨0, by omega, rfl, rfl, Below.refl _ _⟩
  case round =>
    obtain ⟨i, hi, rfl, hz, hq⟩ := hrel
    have HZ := Lib.hid hz; have HQ := Lib.hid hq
    have HQB := Lib.hid (HW.out.2.trans (hq.mono HW.out.2.size))
    have HK := Lib.hid (HW.out.1.past hq)
    clear hz hq
    have m0 := HK.out.c 0 _ HG0.out; have lk := HK.out.lt
    by_cases hi4 : i < 4
    · have hi4i : (i : Int) < 4 := by omega
      have ix := HIX.out i hi4
      have HBAD := Lib.hid (fun h => by rw [HSB.out, if_neg (by rw [fstN_of HZ.out h hi4]; exact h)] : cN i ≠ 0 → R = false)
      have HOK := Lib.hid (fun h => fstN_succ HZ.out h : cN i = 0 → fstN cN (i + 1) = 0)
      have HCI := Lib.hid (HCR.out i)
      have HHP := Lib.hid (fun w => hasPoints_any (g.c i) w)
      obtain ⟨c, hc⟩ : ∃ c, c = g.c i := ⟨_, rfl⟩
      rw [← hc] at ix HCI HHP
      clear hc
      obtain ⟨hp, hhp⟩ : ∃ hp, hp = hpB c := ⟨_, rfl⟩
      have HCB := Lib.hid (show crB 6 c = ((((6 : Int) != 3) || !(hpB c)) && ((c.k != 0) || hpB c)) from rfl)
      rw [← hhp] at HCB HHP
      clear hhp
      obtain ⟨ck, xa, xc, xs, ya, yc, ys⟩ := c
      unfold curveV at ix HHP
      simp only at ix HHP HCB
      obtain ⟨xl, hxl⟩ : ∃ xl, xl = xs.length := ⟨_, rfl⟩
      obtain ⟨yl, hyl⟩ : ∃ yl, yl = ys.length := ⟨_, rfl⟩
      rw [← hxl, ← hyl] at ix HHP
      clear hxl hyl
      cases kc : (ck != 0) <;> cases hh : hp
      case false.false =>
        have HV := Lib.hid (HOK.out (by rw [HCI.out, HCB.out, kc, hh]; decide))
        go_wp2_with ((go_at_call 26; refine (HHP.out _).mono ?_; rintro e w3 ⟨rfl, hb3⟩; rw [hh]))
        go_roundw
        case rel => exact ⟨i + 1, by omega, by go_num, HV.out, by first | exact (HQ.out.trans (hb3.mono HQ.out.size)).trans (hb4.mono (HQ.out.trans (hb3.mono HQ.out.size)).size) | exact HQ.out.trans (hb3.mono HQ.out.size) | exact HQ.out | (have hh9 := HQ.out; have hs := hh9.size; (repeat (first | exact Below.refl _ _ | assumption | (refine Below.setCell ?_ (by first | (simp; done) | (simp; omega) | omega) _) | (refine Below.drew ?_) | (refine below_drewN ?_ _) | (refine Below.alloc ?_ (by first | (simp; done) | (simp; omega) | omega) _) | (refine Below.trans ?_ (Below.mono (by assumption) (by first | (simp; done) | (simp; omega) | omega))))))⟩
        case measure => simp [intOf] <;> omega
      case false.true =>
        have HV := Lib.hid (HBAD.out (by rw [HCI.out, HCB.out, kc, hh]; decide))
        go_wp2_with ((go_at_call 26; refine (HHP.out _).mono ?_; rintro e w3 ⟨rfl, hb3⟩; rw [hh]))
        go_ret
        rw [HV.out]
        exact ⟨rfl, by first | exact (HQB.out.trans (hb3.mono HQB.out.size)).trans (hb4.mono (HQB.out.trans (hb3.mono HQB.out.size)).size) | exact HQB.out.trans (hb3.mono HQB.out.size) | exact HQB.out | (have hh9 := HQB.out; have hs := hh9.size; (repeat (first | exact Below.refl _ _ | assumption | (refine Below.setCell ?_ (by first | (simp; done) | (simp; omega) | omega) _) | (refine Below.drew ?_) | (refine below_drewN ?_ _) | (refine Below.alloc ?_ (by first | (simp; done) | (simp; omega) | omega) _) | (refine Below.trans ?_ (Below.mono (by assumption) (by first | (simp; done) | (simp; omega) | omega))))))⟩
      case true.false =>
        have HV := Lib.hid (HBAD.out (by rw [HCI.out, HCB.out, kc, hh]; decide))
        go_wp2_with ((go_at_call 26; refine (HHP.out _).mono ?_; rintro e w3 ⟨rfl, hb3⟩; rw [hh]))
        go_ret
        rw [HV.out]
        exact ⟨rfl, by first | exact (HQB.out.trans (hb3.mono HQB.out.size)).trans (hb4.mono (HQB.out.trans (hb3.mono HQB.out.size)).size) | exact HQB.out.trans (hb3.mono HQB.out.size) | exact HQB.out | (have hh9 := HQB.out; have hs := hh9.size; (repeat (first | exact Below.refl _ _ | assumption | (refine Below.setCell ?_ (by first | (simp; done) | (simp; omega) | omega) _) | (refine Below.drew ?_) | (refine below_drewN ?_ _) | (refine Below.alloc ?_ (by first | (simp; done) | (simp; omega) | omega) _) | (refine Below.trans ?_ (Below.mono (by assumption) (by first | (simp; done) | (simp; omega) | omega))))))⟩
      case true.true =>
        have HV := Lib.hid (HBAD.out (by rw [HCI.out, HCB.out, kc, hh]; decide))
        go_wp2_with ((go_at_call 26; refine (HHP.out _).mono ?_; rintro e w3 ⟨rfl, hb3⟩; rw [hh]))
        go_ret
        rw [HV.out]
        exact ⟨rfl, by first | exact (HQB.out.trans (hb3.mono HQB.out.size)).trans (hb4.mono (HQB.out.trans (hb3.mono HQB.out.size)).size) | exact HQB.out.trans (hb3.mono HQB.out.size) | exact HQB.out | (have hh9 := HQB.out; have hs := hh9.size; (repeat (first | exact Below.refl _ _ | assumption | (refine Below.setCell ?_ (by first | (simp; done) | (simp; omega) | omega) _) | (refine Below.drew ?_) | (refine below_drewN ?_ _) | (refine Below.alloc ?_ (by first | (simp; done) | (simp; omega) | omega) _) | (refine Below.trans ?_ (Below.mono (by assumption) (by first | (simp; done) | (simp; omega) | omega))))))⟩
    · have hi4i : ¬ (i : Int) < 4 := by omega
      obtain rfl : i = 4 := by omega
      have HSB2 : Hid (R = sT) := Lib.hid (by rw [HSB.out, if_pos HZ.out])
      clear HSB HCR HIX
      unfold fz at HST
      have n0 := HK.out.c 1 _ HGC.out.1; have n1 := HK.out.c 2 _ HGC.out.2.1; have n2 := HK.out.c 3 _ HGC.out.2.2.1; have n3 := HK.out.c 4 _ HGC.out.2.2.2.1; have n4 := HK.out.c 5 _ HGC.out.2.2.2.2.1; have n5 := HK.out.c 6 _ HGC.out.2.2.2.2.2.1; have n6 := HK.out.c 7 _ HGC.out.2.2.2.2.2.2.1; have n7 := HK.out.c 8 _ HGC.out.2.2.2.2.2.2.2.1; have n8 := HK.out.c 9 _ HGC.out.2.2.2.2.2.2.2.2.1
      have eW := HWZ.out
      cases tW : wz
      case false =>
        rw [tW] at eW
        go_wp2_with fail
        go_ret
        rw [HSB2.out, HST.out]
        simp only [tW]
        exact ⟨by first | rfl | decide, HQB.out⟩
      case true =>
        rw [tW] at eW
        have n9 := HK.out.c 10 _ HGC.out.2.2.2.2.2.2.2.2.2.1; have n10 := HK.out.c 11 _ HGC.out.2.2.2.2.2.2.2.2.2.2.1; have n11 := HK.out.c 12 _ HGC.out.2.2.2.2.2.2.2.2.2.2.2.1; have n12 := HK.out.c 13 _ HGC.out.2.2.2.2.2.2.2.2.2.2.2.2.1; have n13 := HK.out.c 14 _ HGC.out.2.2.2.2.2.2.2.2.2.2.2.2.2.1; have n14 := HK.out.c 15 _ HGC.out.2.2.2.2.2.2.2.2.2.2.2.2.2.2.1; have n15 := HK.out.c 16 _ HGC.out.2.2.2.2.2.2.2.2.2.2.2.2.2.2.2.1; have n16 := HK.out.c 17 _ HGC.out.2.2.2.2.2.2.2.2.2.2.2.2.2.2.2.2.1; have n17 := HK.out.c 18 _ HGC.out.2.2.2.2.2.2.2.2.2.2.2.2.2.2.2.2.2.1; have n18 := HK.out.c 19 _ HGC.out.2.2.2.2.2.2.2.2.2.2.2.2.2.2.2.2.2.2.1
        have eL := HLZ.out
        cases tL : lz
        case false =>
          rw [tL] at eL
          go_wp2_with fail
          go_ret
          rw [HSB2.out, HST.out]
          simp only [tW, tL]
          exact ⟨by first | rfl | decide, HQB.out⟩
        case true =>
          rw [tL] at eL
          have n19 := HK.out.c 32 _ HGC.out.2.2.2.2.2.2.2.2.2.2.2.2.2.2.2.2.2.2.2.1; have n20 := HK.out.c 33 _ HGC.out.2.2.2.2.2.2.2.2.2.2.2.2.2.2.2.2.2.2.2.2.1; have n21 := HK.out.c 34 _ HGC.out.2.2.2.2.2.2.2.2.2.2.2.2.2.2.2.2.2.2.2.2.2.1; have n22 := HK.out.c 35 _ HGC.out.2.2.2.2.2.2.2.2.2.2.2.2.2.2.2.2.2.2.2.2.2.2.1; have n23 := HK.out.c 36 _ HGC.out.2.2.2.2.2.2.2.2.2.2.2.2.2.2.2.2.2.2.2.2.2.2.2.1; have n24 := HK.out.c 37 _ HGC.out.2.2.2.2.2.2.2.2.2.2.2.2.2.2.2.2.2.2.2.2.2.2.2.2.1; have n25 := HK.out.c 38 _ HGC.out.2.2.2.2.2.2.2.2.2.2.2.2.2.2.2.2.2.2.2.2.2.2.2.2.2.1; have n26 := HK.out.c 39 _ HGC.out.2.2.2.2.2.2.2.2.2.2.2.2.2.2.2.2.2.2.2.2.2.2.2.2.2.2.1; have n27 := HK.out.c 40 _ HGC.out.2.2.2.2.2.2.2.2.2.2.2.2.2.2.2.2.2.2.2.2.2.2.2.2.2.2.2.1; have n28 := HK.out.c 41 _ HGC.out.2.2.2.2.2.2.2.2.2.2.2.2.2.2.2.2.2.2.2.2.2.2.2.2.2.2.2.2.1; have n29 := HK.out.c 42 _ HGC.out.2.2.2.2.2.2.2.2.2.2.2.2.2.2.2.2.2.2.2.2.2.2.2.2.2.2.2.2.2.1; have n30 := HK.out.c 43 _ HGC.out.2.2.2.2.2.2.2.2.2.2.2.2.2.2.2.2.2.2.2.2.2.2.2.2.2.2.2.2.2.2.1
          have eM := HMZ.out
          cases tM : mz
          case false =>
            rw [tM] at eM
            go_wp2_with fail
            go_ret
            rw [HSB2.out, HST.out]
            simp only [tW, tL, tM]
            exact ⟨by first | rfl | decide, HQB.out⟩
          case true =>
            rw [tM] at eM
            have n31 := HK.out.c 44 _ HGC.out.2.2.2.2.2.2.2.2.2.2.2.2.2.2.2.2.2.2.2.2.2.2.2.2.2.2.2.2.2.2.2.1
            cases c31 : (FloatKind.f32.format.order x31 0 == some .eq)
            case false =>
              go_wp2_with fail
              go_ret
              rw [HSB2.out, HST.out]
              simp only [tW, tL, tM, c31]
              exact ⟨by first | rfl | decide, HQB.out⟩
            case true =>
              have n32 := HK.out.c 45 _ HGC.out.2.2.2.2.2.2.2.2.2.2.2.2.2.2.2.2.2.2.2.2.2.2.2.2.2.2.2.2.2.2.2.2.1
              cases c32 : (FloatKind.f32.format.order x32 0 == some .eq)
              case false =>
                go_wp2_with fail
                go_ret
                rw [HSB2.out, HST.out]
                simp only [tW, tL, tM, c31, c32]
                exact ⟨by first | rfl | decide, HQB.out⟩
              case true =>
                go_wp2_with fail
                go_ret
                rw [HSB2.out, HST.out]
                simp only [tW, tL, tM, c31, c32]
                exact ⟨by first | rfl | decide, HQB.out⟩
end Go.Proofs.YthlomgbchmhjiaaGreatDoor
