/- key.CheckWindow at each kind. Condition: the points can be read. -/
import Derived.Test.YthlomgbchmhjiaaGreatDoorLC
set_option linter.unusedSimpArgs false
set_option linter.unusedVariables false
namespace Go.Proofs.YthlomgbchmhjiaaGreatDoor
open Go Go.RowKit
set_option maxRecDepth 100000 in
set_option maxHeartbeats 6400000 in
theorem CheckWindow_3 (x y u v s pn pc : Nat) (pa : Option Addr) (ou : Bool) (px py : Nat → Int) (fr ez : Int) (w : World) (hp : KeyAt w ⟨fr, ez, 3, x, y, u, v, s, pa, pn, pc, px, py, ou⟩) : Calls Tryz.prog 31 #[.agg #[.int .i64 3, .float .f32 x, .float .f32 y, .float .f32 u, .float .f32 v, .float .f32 s, .slice pa pn pc, .bool ou]] w fun e w' => e = .returned (.int .i64 (wiE ⟨fr, ez, 3, x, y, u, v, s, pa, pn, pc, px, py, ou⟩)) ∧ Below w.heap.size w w' := by
  have HCT : Hid (∀ w', Below w.heap.size w w' → Calls Tryz.prog 46 #[.slice pa pn pc, .func (.func 47) #[] #[]] w' fun e w'' => e = .returned (.bool (ptW ⟨fr, ez, 3, x, y, u, v, s, pa, pn, pc, px, py, ou⟩)) ∧ Below w'.heap.size w' w'') := Lib.hid (fun w' hb => points_any ⟨fr, ez, 3, x, y, u, v, s, pa, pn, pc, px, py, ou⟩ w' (RowS.past hp hb))
  have hpc1 : pn ≤ pc := hp.lc
  have hpc2 : pc ≤ 9223372036854775807 := by have h2 : pc ≤ maxLen := hp.lm; unfold maxLen at h2; omega
  have hpc : pn ≤ 9223372036854775807 := by omega
  have HCK : Hid (∀ b w, Blk w b [.float .f32 x, .float .f32 y, .float .f32 u, .float .f32 v, .float .f32 s] → Calls Tryz.prog 9 #[.slice (some ⟨b, 0, none⟩) 5 5] w fun e w' => e = .returned (.bool (allNum [x, y, u, v, s])) ∧ w = w') := Lib.hid (fun b w hb => AllNumbers_any b 0 5 5 [x, y, u, v, s] w rfl (by decide) (fun i hi => by rw [Nat.zero_add]; match i, hi with | 0, _ => exact hb.c 0 _ rfl | 1, _ => exact hb.c 1 _ rfl | 2, _ => exact hb.c 2 _ rfl | 3, _ => exact hb.c 3 _ rfl | 4, _ => exact hb.c 4 _ rfl))
  have HO1 := Lib.hid (fun w => outW_any x 3380609024 1233125376 w)
  have HO2 := Lib.hid (fun w => outW_any y 3380609024 1233125376 w)
  have HO3 := Lib.hid (fun w => outW_any u 0 1233125376 w)
  have HO4 := Lib.hid (fun w => outW_any v 0 1233125376 w)
  have HO5 := Lib.hid (fun w => outW_any s 0 1166016512 w)
  have HE : Hid (wiE ⟨fr, ez, 3, x, y, u, v, s, pa, pn, pc, px, py, ou⟩ = if allNum [x, y, u, v, s] then (if (oB x 3380609024 1233125376 || (oB y 3380609024 1233125376 || (oB u 0 1233125376 || (oB v 0 1233125376 || oB s 0 1166016512)))) then 3 else if (decide (pn < 3) || decide (32 < pn)) then 3 else if ptW ⟨fr, ez, 3, x, y, u, v, s, pa, pn, pc, px, py, ou⟩ then 5 else if (nb x || (nb y || (nb u || (nb v || nb s)))) then 12 else 0) else 2) := Lib.hid rfl
  obtain ⟨o1, ho1⟩ : ∃ o, o = oB x 3380609024 1233125376 := ⟨_, rfl⟩
  obtain ⟨o2, ho2⟩ : ∃ o, o = oB y 3380609024 1233125376 := ⟨_, rfl⟩
  obtain ⟨o3, ho3⟩ : ∃ o, o = oB u 0 1233125376 := ⟨_, rfl⟩
  obtain ⟨o4, ho4⟩ : ∃ o, o = oB v 0 1233125376 := ⟨_, rfl⟩
  obtain ⟨o5, ho5⟩ : ∃ o, o = oB s 0 1166016512 := ⟨_, rfl⟩
  obtain ⟨A, hA⟩ : ∃ A, A = allNum [x, y, u, v, s] := ⟨_, rfl⟩
  obtain ⟨T, hT⟩ : ∃ T, T = ptW ⟨fr, ez, 3, x, y, u, v, s, pa, pn, pc, px, py, ou⟩ := ⟨_, rfl⟩
  obtain ⟨R, hR⟩ : ∃ R, R = wiE ⟨fr, ez, 3, x, y, u, v, s, pa, pn, pc, px, py, ou⟩ := ⟨_, rfl⟩
  rw [← ho1] at HO1; rw [← ho2] at HO2; rw [← ho3] at HO3; rw [← ho4] at HO4; rw [← ho5] at HO5
  rw [← hA] at HCK; rw [← hT] at HCT
  rw [← ho1, ← ho2, ← ho3, ← ho4, ← ho5, ← hA, ← hT, ← hR] at HE
  rw [← hR]
  clear ho1 ho2 ho3 ho4 ho5 hA hT hR hp
  cases A
  case false =>
    have HV : Hid (R = 2) := Lib.hid HE.out
    go_enter Tryz.func31, Tryz.ntmps31
    go_upto_region 1 with fail
    refine wp_world (fun W hW => ?_)
    have HWp : Blk W w.heap.size [.int .i64 3, .float .f32 x, .float .f32 y, .float .f32 u, .float .f32 v, .float .f32 s, .slice pa pn pc, .bool ou] ∧ Below w.heap.size w W := by rw [hW]; exact ⟨Blk.new _ _ _ _ rfl, by (repeat (first | exact Below.refl _ _ | assumption | (refine Below.setCell ?_ (by first | (simp; done) | (simp; omega) | omega) _) | (refine Below.drew ?_) | (refine below_drewN ?_ _) | (refine Below.alloc ?_ (by first | (simp; done) | (simp; omega) | omega) _) | (refine Below.trans ?_ (Below.mono (by assumption) (by first | (simp; done) | (simp; omega) | omega)))))⟩
    obtain ⟨pl, hpl⟩ : ∃ pl, pl = w.heap.size := ⟨_, rfl⟩
    have HW : Hid (Blk W pl [.int .i64 3, .float .f32 x, .float .f32 y, .float .f32 u, .float .f32 v, .float .f32 s, .slice pa pn pc, .bool ou] ∧ Below w.heap.size w W) := Lib.hid (by rw [hpl]; exact HWp)
    rw [← hpl]
    clear hW HWp hpl
    have m0 := HW.out.1.c 0 _ rfl; have m1 := HW.out.1.c 1 _ rfl; have m2 := HW.out.1.c 2 _ rfl; have m3 := HW.out.1.c 3 _ rfl; have m4 := HW.out.1.c 4 _ rfl; have m5 := HW.out.1.c 5 _ rfl; have m6 := HW.out.1.c 6 _ rfl; have ml := HW.out.1.lt
    go_wp2_with (go_at_call 9; refine (HCK.out _ _ (Blk.new _ _ _ _ rfl)).mono ?_; rintro e w2 ⟨rfl, rfl⟩)
    go_ret
    rw [HV.out]
    exact ⟨rfl, HW.out.2.alloc HW.out.2.size _⟩
  case true =>
    go_enter Tryz.func31, Tryz.ntmps31
    go_upto_region 1 with fail
    refine wp_world (fun W hW => ?_)
    have HWp : Blk W w.heap.size [.int .i64 3, .float .f32 x, .float .f32 y, .float .f32 u, .float .f32 v, .float .f32 s, .slice pa pn pc, .bool ou] ∧ Below w.heap.size w W := by rw [hW]; exact ⟨Blk.new _ _ _ _ rfl, by (repeat (first | exact Below.refl _ _ | assumption | (refine Below.setCell ?_ (by first | (simp; done) | (simp; omega) | omega) _) | (refine Below.drew ?_) | (refine below_drewN ?_ _) | (refine Below.alloc ?_ (by first | (simp; done) | (simp; omega) | omega) _) | (refine Below.trans ?_ (Below.mono (by assumption) (by first | (simp; done) | (simp; omega) | omega)))))⟩
    obtain ⟨pl, hpl⟩ : ∃ pl, pl = w.heap.size := ⟨_, rfl⟩
    have HW : Hid (Blk W pl [.int .i64 3, .float .f32 x, .float .f32 y, .float .f32 u, .float .f32 v, .float .f32 s, .slice pa pn pc, .bool ou] ∧ Below w.heap.size w W) := Lib.hid (by rw [hpl]; exact HWp)
    rw [← hpl]
    clear hW HWp hpl
    have m0 := HW.out.1.c 0 _ rfl; have m1 := HW.out.1.c 1 _ rfl; have m2 := HW.out.1.c 2 _ rfl; have m3 := HW.out.1.c 3 _ rfl; have m4 := HW.out.1.c 4 _ rfl; have m5 := HW.out.1.c 5 _ rfl; have m6 := HW.out.1.c 6 _ rfl; have ml := HW.out.1.lt
    go_upto_region 7 with (go_at_call 9; refine (HCK.out _ _ (Blk.new _ _ _ _ rfl)).mono ?_; rintro e w2 ⟨rfl, rfl⟩)
    refine wp_world (fun W2 hW2 => ?_)
    have HK2 : Hid (Blk W2 pl [.int .i64 3, .float .f32 x, .float .f32 y, .float .f32 u, .float .f32 v, .float .f32 s, .slice pa pn pc, .bool ou]) := Lib.hid (by rw [hW2]; exact HW.out.1.alloc _)
    have HB2 : Hid (Below w.heap.size w W2) := Lib.hid (by rw [hW2]; exact HW.out.2.alloc HW.out.2.size _)
    clear hW2 HCK
    clear m0 m1 m2 m3 m4 m5 m6 ml
    have m0 := HK2.out.c 0 _ rfl; have m1 := HK2.out.c 1 _ rfl; have m2 := HK2.out.c 2 _ rfl; have m3 := HK2.out.c 3 _ rfl; have m4 := HK2.out.c 4 _ rfl; have m5 := HK2.out.c 5 _ rfl; have m6 := HK2.out.c 6 _ rfl; have ml := HK2.out.lt
    cases o1
    case true =>
      have HV := Lib.hid (show R = 3 by rw [HE.out]; simp [])
      go_wp2_with (first | (go_at_call 45; refine (HO1.out _).mono ?_; rintro e w7 ⟨rfl, rfl⟩; clear HO1) | (go_at_call 45; refine (HO2.out _).mono ?_; rintro e w7 ⟨rfl, rfl⟩; clear HO2) | (go_at_call 45; refine (HO3.out _).mono ?_; rintro e w7 ⟨rfl, rfl⟩; clear HO3) | (go_at_call 45; refine (HO4.out _).mono ?_; rintro e w7 ⟨rfl, rfl⟩; clear HO4) | (go_at_call 45; refine (HO5.out _).mono ?_; rintro e w7 ⟨rfl, rfl⟩; clear HO5))
      go_ret
      rw [HV.out]
      exact ⟨rfl, HB2.out⟩
    case false =>
      cases o2
      case true =>
        have HV := Lib.hid (show R = 3 by rw [HE.out]; simp [])
        go_wp2_with (first | (go_at_call 45; refine (HO1.out _).mono ?_; rintro e w7 ⟨rfl, rfl⟩; clear HO1) | (go_at_call 45; refine (HO2.out _).mono ?_; rintro e w7 ⟨rfl, rfl⟩; clear HO2) | (go_at_call 45; refine (HO3.out _).mono ?_; rintro e w7 ⟨rfl, rfl⟩; clear HO3) | (go_at_call 45; refine (HO4.out _).mono ?_; rintro e w7 ⟨rfl, rfl⟩; clear HO4) | (go_at_call 45; refine (HO5.out _).mono ?_; rintro e w7 ⟨rfl, rfl⟩; clear HO5))
        go_ret
        rw [HV.out]
        exact ⟨rfl, HB2.out⟩
      case false =>
        cases o3
        case true =>
          have HV := Lib.hid (show R = 3 by rw [HE.out]; simp [])
          go_wp2_with (first | (go_at_call 45; refine (HO1.out _).mono ?_; rintro e w7 ⟨rfl, rfl⟩; clear HO1) | (go_at_call 45; refine (HO2.out _).mono ?_; rintro e w7 ⟨rfl, rfl⟩; clear HO2) | (go_at_call 45; refine (HO3.out _).mono ?_; rintro e w7 ⟨rfl, rfl⟩; clear HO3) | (go_at_call 45; refine (HO4.out _).mono ?_; rintro e w7 ⟨rfl, rfl⟩; clear HO4) | (go_at_call 45; refine (HO5.out _).mono ?_; rintro e w7 ⟨rfl, rfl⟩; clear HO5))
          go_ret
          rw [HV.out]
          exact ⟨rfl, HB2.out⟩
        case false =>
          cases o4
          case true =>
            have HV := Lib.hid (show R = 3 by rw [HE.out]; simp [])
            go_wp2_with (first | (go_at_call 45; refine (HO1.out _).mono ?_; rintro e w7 ⟨rfl, rfl⟩; clear HO1) | (go_at_call 45; refine (HO2.out _).mono ?_; rintro e w7 ⟨rfl, rfl⟩; clear HO2) | (go_at_call 45; refine (HO3.out _).mono ?_; rintro e w7 ⟨rfl, rfl⟩; clear HO3) | (go_at_call 45; refine (HO4.out _).mono ?_; rintro e w7 ⟨rfl, rfl⟩; clear HO4) | (go_at_call 45; refine (HO5.out _).mono ?_; rintro e w7 ⟨rfl, rfl⟩; clear HO5))
            go_ret
            rw [HV.out]
            exact ⟨rfl, HB2.out⟩
          case false =>
            cases o5
            case true =>
              have HV := Lib.hid (show R = 3 by rw [HE.out]; simp [])
              go_wp2_with (first | (go_at_call 45; refine (HO1.out _).mono ?_; rintro e w7 ⟨rfl, rfl⟩; clear HO1) | (go_at_call 45; refine (HO2.out _).mono ?_; rintro e w7 ⟨rfl, rfl⟩; clear HO2) | (go_at_call 45; refine (HO3.out _).mono ?_; rintro e w7 ⟨rfl, rfl⟩; clear HO3) | (go_at_call 45; refine (HO4.out _).mono ?_; rintro e w7 ⟨rfl, rfl⟩; clear HO4) | (go_at_call 45; refine (HO5.out _).mono ?_; rintro e w7 ⟨rfl, rfl⟩; clear HO5))
              go_ret
              rw [HV.out]
              exact ⟨rfl, HB2.out⟩
            case false =>
              go_upto_region 9 with (first | (go_at_call 45; refine (HO1.out _).mono ?_; rintro e w7 ⟨rfl, rfl⟩; clear HO1) | (go_at_call 45; refine (HO2.out _).mono ?_; rintro e w7 ⟨rfl, rfl⟩; clear HO2) | (go_at_call 45; refine (HO3.out _).mono ?_; rintro e w7 ⟨rfl, rfl⟩; clear HO3) | (go_at_call 45; refine (HO4.out _).mono ?_; rintro e w7 ⟨rfl, rfl⟩; clear HO4) | (go_at_call 45; refine (HO5.out _).mono ?_; rintro e w7 ⟨rfl, rfl⟩; clear HO5))
              by_cases p1 : pn < 3
              · have p1i : (pn : Int) < 3 := by omega
                have HV := Lib.hid (show R = 3 by rw [HE.out]; simp [p1])
                go_wp2_with fail
                go_ret
                rw [HV.out]
                exact ⟨rfl, HB2.out⟩
              have p1i : ¬ (pn : Int) < 3 := by omega
              by_cases p2 : 32 < pn
              · have p2i : (32 : Int) < (pn : Int) := by omega
                have HV := Lib.hid (show R = 3 by rw [HE.out]; simp [p2])
                go_wp2_with fail
                go_ret
                rw [HV.out]
                exact ⟨rfl, HB2.out⟩
              have p2i : ¬ (32 : Int) < (pn : Int) := by omega
              go_upto_region 11 with fail
              cases T
              case true =>
                have HV := Lib.hid (show R = 5 by rw [HE.out]; simp [p1, p2])
                go_wp2_with (go_at_call 46; refine (HCT.out _ HB2.out).mono ?_; rintro e w5 ⟨rfl, hb5⟩)
                go_ret
                rw [HV.out]
                exact ⟨rfl, HB2.out.trans (hb5.mono HB2.out.size)⟩
              case false =>
                go_upto_region 13 with (go_at_call 46; refine (HCT.out _ HB2.out).mono ?_; rintro e w5 ⟨rfl, hb5⟩)
                have HK5 := Lib.hid (HK2.out.past hb5)
                have HB5 := Lib.hid (HB2.out.trans (hb5.mono HB2.out.size))
                clear hb5 HCT
                clear m0 m1 m2 m3 m4 m5 m6 ml
                have m0 := HK5.out.c 0 _ rfl; have m1 := HK5.out.c 1 _ rfl; have m2 := HK5.out.c 2 _ rfl; have m3 := HK5.out.c 3 _ rfl; have m4 := HK5.out.c 4 _ rfl; have m5 := HK5.out.c 5 _ rfl; have m6 := HK5.out.c 6 _ rfl; have ml := HK5.out.lt
                cases z0 : (FloatKind.f32.format.order x 0 != some .eq)
                case true =>
                  have HV := Lib.hid (show R = 12 by rw [HE.out]; simp [p1, p2, nz, nb, z0])
                  go_wp2_with fail
                  go_ret
                  rw [HV.out]
                  exact ⟨rfl, HB5.out⟩
                case false =>
                  cases z1 : (FloatKind.f32.format.order y 0 != some .eq)
                  case true =>
                    have HV := Lib.hid (show R = 12 by rw [HE.out]; simp [p1, p2, nz, nb, z1, z0])
                    go_wp2_with fail
                    go_ret
                    rw [HV.out]
                    exact ⟨rfl, HB5.out⟩
                  case false =>
                    cases z2 : (FloatKind.f32.format.order u 0 != some .eq)
                    case true =>
                      have HV := Lib.hid (show R = 12 by rw [HE.out]; simp [p1, p2, nz, nb, z2, z0, z1])
                      go_wp2_with fail
                      go_ret
                      rw [HV.out]
                      exact ⟨rfl, HB5.out⟩
                    case false =>
                      cases z3 : (FloatKind.f32.format.order v 0 != some .eq)
                      case true =>
                        have HV := Lib.hid (show R = 12 by rw [HE.out]; simp [p1, p2, nz, nb, z3, z0, z1, z2])
                        go_wp2_with fail
                        go_ret
                        rw [HV.out]
                        exact ⟨rfl, HB5.out⟩
                      case false =>
                        cases z4 : (FloatKind.f32.format.order s 0 != some .eq)
                        case true =>
                          have HV := Lib.hid (show R = 12 by rw [HE.out]; simp [p1, p2, nz, nb, z4, z0, z1, z2, z3])
                          go_wp2_with fail
                          go_ret
                          rw [HV.out]
                          exact ⟨rfl, HB5.out⟩
                        case false =>
                          have HV := Lib.hid (show R = 0 by rw [HE.out]; simp [p1, p2, nz, nb, z0, z1, z2, z3, z4])
                          go_wp2_with fail
                          go_ret
                          rw [HV.out]
                          exact ⟨rfl, HB5.out⟩
set_option maxRecDepth 100000 in
set_option maxHeartbeats 6400000 in
theorem CheckWindow_2 (x y u v s pn pc : Nat) (pa : Option Addr) (ou : Bool) (px py : Nat → Int) (fr ez : Int) (w : World) (hp : KeyAt w ⟨fr, ez, 2, x, y, u, v, s, pa, pn, pc, px, py, ou⟩) : Calls Tryz.prog 31 #[.agg #[.int .i64 2, .float .f32 x, .float .f32 y, .float .f32 u, .float .f32 v, .float .f32 s, .slice pa pn pc, .bool ou]] w fun e w' => e = .returned (.int .i64 (wiE ⟨fr, ez, 2, x, y, u, v, s, pa, pn, pc, px, py, ou⟩)) ∧ Below w.heap.size w w' := by
  have HCT : Hid (∀ w', Below w.heap.size w w' → Calls Tryz.prog 46 #[.slice pa pn pc, .func (.func 47) #[] #[]] w' fun e w'' => e = .returned (.bool (ptW ⟨fr, ez, 2, x, y, u, v, s, pa, pn, pc, px, py, ou⟩)) ∧ Below w'.heap.size w' w'') := Lib.hid (fun w' hb => points_any ⟨fr, ez, 2, x, y, u, v, s, pa, pn, pc, px, py, ou⟩ w' (RowS.past hp hb))
  have hpc1 : pn ≤ pc := hp.lc
  have hpc2 : pc ≤ 9223372036854775807 := by have h2 : pc ≤ maxLen := hp.lm; unfold maxLen at h2; omega
  have hpc : pn ≤ 9223372036854775807 := by omega
  have HCK : Hid (∀ b w, Blk w b [.float .f32 x, .float .f32 y, .float .f32 u, .float .f32 v, .float .f32 s] → Calls Tryz.prog 9 #[.slice (some ⟨b, 0, none⟩) 5 5] w fun e w' => e = .returned (.bool (allNum [x, y, u, v, s])) ∧ w = w') := Lib.hid (fun b w hb => AllNumbers_any b 0 5 5 [x, y, u, v, s] w rfl (by decide) (fun i hi => by rw [Nat.zero_add]; match i, hi with | 0, _ => exact hb.c 0 _ rfl | 1, _ => exact hb.c 1 _ rfl | 2, _ => exact hb.c 2 _ rfl | 3, _ => exact hb.c 3 _ rfl | 4, _ => exact hb.c 4 _ rfl))
  have HO1 := Lib.hid (fun w => outW_any x 3380609024 1233125376 w)
  have HO2 := Lib.hid (fun w => outW_any y 3380609024 1233125376 w)
  have HO3 := Lib.hid (fun w => outW_any u 0 1233125376 w)
  have HO4 := Lib.hid (fun w => outW_any v 0 1233125376 w)
  have HO5 := Lib.hid (fun w => outW_any s 0 1166016512 w)
  have HE : Hid (wiE ⟨fr, ez, 2, x, y, u, v, s, pa, pn, pc, px, py, ou⟩ = if allNum [x, y, u, v, s] then (if (oB x 3380609024 1233125376 || (oB y 3380609024 1233125376 || (oB u 0 1233125376 || (oB v 0 1233125376 || oB s 0 1166016512)))) then 3 else if (decide (0 < pn)) then 3 else if ptW ⟨fr, ez, 2, x, y, u, v, s, pa, pn, pc, px, py, ou⟩ then 5 else if (nz u || nz v) then 12 else 0) else 2) := Lib.hid rfl
  obtain ⟨o1, ho1⟩ : ∃ o, o = oB x 3380609024 1233125376 := ⟨_, rfl⟩
  obtain ⟨o2, ho2⟩ : ∃ o, o = oB y 3380609024 1233125376 := ⟨_, rfl⟩
  obtain ⟨o3, ho3⟩ : ∃ o, o = oB u 0 1233125376 := ⟨_, rfl⟩
  obtain ⟨o4, ho4⟩ : ∃ o, o = oB v 0 1233125376 := ⟨_, rfl⟩
  obtain ⟨o5, ho5⟩ : ∃ o, o = oB s 0 1166016512 := ⟨_, rfl⟩
  obtain ⟨A, hA⟩ : ∃ A, A = allNum [x, y, u, v, s] := ⟨_, rfl⟩
  obtain ⟨T, hT⟩ : ∃ T, T = ptW ⟨fr, ez, 2, x, y, u, v, s, pa, pn, pc, px, py, ou⟩ := ⟨_, rfl⟩
  obtain ⟨R, hR⟩ : ∃ R, R = wiE ⟨fr, ez, 2, x, y, u, v, s, pa, pn, pc, px, py, ou⟩ := ⟨_, rfl⟩
  rw [← ho1] at HO1; rw [← ho2] at HO2; rw [← ho3] at HO3; rw [← ho4] at HO4; rw [← ho5] at HO5
  rw [← hA] at HCK; rw [← hT] at HCT
  rw [← ho1, ← ho2, ← ho3, ← ho4, ← ho5, ← hA, ← hT, ← hR] at HE
  rw [← hR]
  clear ho1 ho2 ho3 ho4 ho5 hA hT hR hp
  cases A
  case false =>
    have HV : Hid (R = 2) := Lib.hid HE.out
    go_enter Tryz.func31, Tryz.ntmps31
    go_upto_region 1 with fail
    refine wp_world (fun W hW => ?_)
    have HWp : Blk W w.heap.size [.int .i64 2, .float .f32 x, .float .f32 y, .float .f32 u, .float .f32 v, .float .f32 s, .slice pa pn pc, .bool ou] ∧ Below w.heap.size w W := by rw [hW]; exact ⟨Blk.new _ _ _ _ rfl, by (repeat (first | exact Below.refl _ _ | assumption | (refine Below.setCell ?_ (by first | (simp; done) | (simp; omega) | omega) _) | (refine Below.drew ?_) | (refine below_drewN ?_ _) | (refine Below.alloc ?_ (by first | (simp; done) | (simp; omega) | omega) _) | (refine Below.trans ?_ (Below.mono (by assumption) (by first | (simp; done) | (simp; omega) | omega)))))⟩
    obtain ⟨pl, hpl⟩ : ∃ pl, pl = w.heap.size := ⟨_, rfl⟩
    have HW : Hid (Blk W pl [.int .i64 2, .float .f32 x, .float .f32 y, .float .f32 u, .float .f32 v, .float .f32 s, .slice pa pn pc, .bool ou] ∧ Below w.heap.size w W) := Lib.hid (by rw [hpl]; exact HWp)
    rw [← hpl]
    clear hW HWp hpl
    have m0 := HW.out.1.c 0 _ rfl; have m1 := HW.out.1.c 1 _ rfl; have m2 := HW.out.1.c 2 _ rfl; have m3 := HW.out.1.c 3 _ rfl; have m4 := HW.out.1.c 4 _ rfl; have m5 := HW.out.1.c 5 _ rfl; have m6 := HW.out.1.c 6 _ rfl; have ml := HW.out.1.lt
    go_wp2_with (go_at_call 9; refine (HCK.out _ _ (Blk.new _ _ _ _ rfl)).mono ?_; rintro e w2 ⟨rfl, rfl⟩)
    go_ret
    rw [HV.out]
    exact ⟨rfl, HW.out.2.alloc HW.out.2.size _⟩
  case true =>
    go_enter Tryz.func31, Tryz.ntmps31
    go_upto_region 1 with fail
    refine wp_world (fun W hW => ?_)
    have HWp : Blk W w.heap.size [.int .i64 2, .float .f32 x, .float .f32 y, .float .f32 u, .float .f32 v, .float .f32 s, .slice pa pn pc, .bool ou] ∧ Below w.heap.size w W := by rw [hW]; exact ⟨Blk.new _ _ _ _ rfl, by (repeat (first | exact Below.refl _ _ | assumption | (refine Below.setCell ?_ (by first | (simp; done) | (simp; omega) | omega) _) | (refine Below.drew ?_) | (refine below_drewN ?_ _) | (refine Below.alloc ?_ (by first | (simp; done) | (simp; omega) | omega) _) | (refine Below.trans ?_ (Below.mono (by assumption) (by first | (simp; done) | (simp; omega) | omega)))))⟩
    obtain ⟨pl, hpl⟩ : ∃ pl, pl = w.heap.size := ⟨_, rfl⟩
    have HW : Hid (Blk W pl [.int .i64 2, .float .f32 x, .float .f32 y, .float .f32 u, .float .f32 v, .float .f32 s, .slice pa pn pc, .bool ou] ∧ Below w.heap.size w W) := Lib.hid (by rw [hpl]; exact HWp)
    rw [← hpl]
    clear hW HWp hpl
    have m0 := HW.out.1.c 0 _ rfl; have m1 := HW.out.1.c 1 _ rfl; have m2 := HW.out.1.c 2 _ rfl; have m3 := HW.out.1.c 3 _ rfl; have m4 := HW.out.1.c 4 _ rfl; have m5 := HW.out.1.c 5 _ rfl; have m6 := HW.out.1.c 6 _ rfl; have ml := HW.out.1.lt
    go_upto_region 7 with (go_at_call 9; refine (HCK.out _ _ (Blk.new _ _ _ _ rfl)).mono ?_; rintro e w2 ⟨rfl, rfl⟩)
    refine wp_world (fun W2 hW2 => ?_)
    have HK2 : Hid (Blk W2 pl [.int .i64 2, .float .f32 x, .float .f32 y, .float .f32 u, .float .f32 v, .float .f32 s, .slice pa pn pc, .bool ou]) := Lib.hid (by rw [hW2]; exact HW.out.1.alloc _)
    have HB2 : Hid (Below w.heap.size w W2) := Lib.hid (by rw [hW2]; exact HW.out.2.alloc HW.out.2.size _)
    clear hW2 HCK
    clear m0 m1 m2 m3 m4 m5 m6 ml
    have m0 := HK2.out.c 0 _ rfl; have m1 := HK2.out.c 1 _ rfl; have m2 := HK2.out.c 2 _ rfl; have m3 := HK2.out.c 3 _ rfl; have m4 := HK2.out.c 4 _ rfl; have m5 := HK2.out.c 5 _ rfl; have m6 := HK2.out.c 6 _ rfl; have ml := HK2.out.lt
    cases o1
    case true =>
      have HV := Lib.hid (show R = 3 by rw [HE.out]; simp [])
      go_wp2_with (first | (go_at_call 45; refine (HO1.out _).mono ?_; rintro e w7 ⟨rfl, rfl⟩; clear HO1) | (go_at_call 45; refine (HO2.out _).mono ?_; rintro e w7 ⟨rfl, rfl⟩; clear HO2) | (go_at_call 45; refine (HO3.out _).mono ?_; rintro e w7 ⟨rfl, rfl⟩; clear HO3) | (go_at_call 45; refine (HO4.out _).mono ?_; rintro e w7 ⟨rfl, rfl⟩; clear HO4) | (go_at_call 45; refine (HO5.out _).mono ?_; rintro e w7 ⟨rfl, rfl⟩; clear HO5))
      go_ret
      rw [HV.out]
      exact ⟨rfl, HB2.out⟩
    case false =>
      cases o2
      case true =>
        have HV := Lib.hid (show R = 3 by rw [HE.out]; simp [])
        go_wp2_with (first | (go_at_call 45; refine (HO1.out _).mono ?_; rintro e w7 ⟨rfl, rfl⟩; clear HO1) | (go_at_call 45; refine (HO2.out _).mono ?_; rintro e w7 ⟨rfl, rfl⟩; clear HO2) | (go_at_call 45; refine (HO3.out _).mono ?_; rintro e w7 ⟨rfl, rfl⟩; clear HO3) | (go_at_call 45; refine (HO4.out _).mono ?_; rintro e w7 ⟨rfl, rfl⟩; clear HO4) | (go_at_call 45; refine (HO5.out _).mono ?_; rintro e w7 ⟨rfl, rfl⟩; clear HO5))
        go_ret
        rw [HV.out]
        exact ⟨rfl, HB2.out⟩
      case false =>
        cases o3
        case true =>
          have HV := Lib.hid (show R = 3 by rw [HE.out]; simp [])
          go_wp2_with (first | (go_at_call 45; refine (HO1.out _).mono ?_; rintro e w7 ⟨rfl, rfl⟩; clear HO1) | (go_at_call 45; refine (HO2.out _).mono ?_; rintro e w7 ⟨rfl, rfl⟩; clear HO2) | (go_at_call 45; refine (HO3.out _).mono ?_; rintro e w7 ⟨rfl, rfl⟩; clear HO3) | (go_at_call 45; refine (HO4.out _).mono ?_; rintro e w7 ⟨rfl, rfl⟩; clear HO4) | (go_at_call 45; refine (HO5.out _).mono ?_; rintro e w7 ⟨rfl, rfl⟩; clear HO5))
          go_ret
          rw [HV.out]
          exact ⟨rfl, HB2.out⟩
        case false =>
          cases o4
          case true =>
            have HV := Lib.hid (show R = 3 by rw [HE.out]; simp [])
            go_wp2_with (first | (go_at_call 45; refine (HO1.out _).mono ?_; rintro e w7 ⟨rfl, rfl⟩; clear HO1) | (go_at_call 45; refine (HO2.out _).mono ?_; rintro e w7 ⟨rfl, rfl⟩; clear HO2) | (go_at_call 45; refine (HO3.out _).mono ?_; rintro e w7 ⟨rfl, rfl⟩; clear HO3) | (go_at_call 45; refine (HO4.out _).mono ?_; rintro e w7 ⟨rfl, rfl⟩; clear HO4) | (go_at_call 45; refine (HO5.out _).mono ?_; rintro e w7 ⟨rfl, rfl⟩; clear HO5))
            go_ret
            rw [HV.out]
            exact ⟨rfl, HB2.out⟩
          case false =>
            cases o5
            case true =>
              have HV := Lib.hid (show R = 3 by rw [HE.out]; simp [])
              go_wp2_with (first | (go_at_call 45; refine (HO1.out _).mono ?_; rintro e w7 ⟨rfl, rfl⟩; clear HO1) | (go_at_call 45; refine (HO2.out _).mono ?_; rintro e w7 ⟨rfl, rfl⟩; clear HO2) | (go_at_call 45; refine (HO3.out _).mono ?_; rintro e w7 ⟨rfl, rfl⟩; clear HO3) | (go_at_call 45; refine (HO4.out _).mono ?_; rintro e w7 ⟨rfl, rfl⟩; clear HO4) | (go_at_call 45; refine (HO5.out _).mono ?_; rintro e w7 ⟨rfl, rfl⟩; clear HO5))
              go_ret
              rw [HV.out]
              exact ⟨rfl, HB2.out⟩
            case false =>
              go_upto_region 9 with (first | (go_at_call 45; refine (HO1.out _).mono ?_; rintro e w7 ⟨rfl, rfl⟩; clear HO1) | (go_at_call 45; refine (HO2.out _).mono ?_; rintro e w7 ⟨rfl, rfl⟩; clear HO2) | (go_at_call 45; refine (HO3.out _).mono ?_; rintro e w7 ⟨rfl, rfl⟩; clear HO3) | (go_at_call 45; refine (HO4.out _).mono ?_; rintro e w7 ⟨rfl, rfl⟩; clear HO4) | (go_at_call 45; refine (HO5.out _).mono ?_; rintro e w7 ⟨rfl, rfl⟩; clear HO5))
              by_cases p1 : 0 < pn
              · have p1i : (0 : Int) < (pn : Int) := by omega
                have HV := Lib.hid (show R = 3 by rw [HE.out]; simp [p1])
                go_wp2_with fail
                go_ret
                rw [HV.out]
                exact ⟨rfl, HB2.out⟩
              have p1i : ¬ (0 : Int) < (pn : Int) := by omega
              go_upto_region 11 with fail
              cases T
              case true =>
                have HV := Lib.hid (show R = 5 by rw [HE.out]; simp [p1])
                go_wp2_with (go_at_call 46; refine (HCT.out _ HB2.out).mono ?_; rintro e w5 ⟨rfl, hb5⟩)
                go_ret
                rw [HV.out]
                exact ⟨rfl, HB2.out.trans (hb5.mono HB2.out.size)⟩
              case false =>
                go_upto_region 13 with (go_at_call 46; refine (HCT.out _ HB2.out).mono ?_; rintro e w5 ⟨rfl, hb5⟩)
                have HK5 := Lib.hid (HK2.out.past hb5)
                have HB5 := Lib.hid (HB2.out.trans (hb5.mono HB2.out.size))
                clear hb5 HCT
                clear m0 m1 m2 m3 m4 m5 m6 ml
                have m0 := HK5.out.c 0 _ rfl; have m1 := HK5.out.c 1 _ rfl; have m2 := HK5.out.c 2 _ rfl; have m3 := HK5.out.c 3 _ rfl; have m4 := HK5.out.c 4 _ rfl; have m5 := HK5.out.c 5 _ rfl; have m6 := HK5.out.c 6 _ rfl; have ml := HK5.out.lt
                cases z0 : (FloatKind.f32.format.order u 0 == some .eq)
                case true =>
                  have HV := Lib.hid (show R = 12 by rw [HE.out]; simp [p1, nz, nb, z0])
                  go_wp2_with fail
                  go_ret
                  rw [HV.out]
                  exact ⟨rfl, HB5.out⟩
                case false =>
                  cases z1 : (FloatKind.f32.format.order v 0 == some .eq)
                  case true =>
                    have HV := Lib.hid (show R = 12 by rw [HE.out]; simp [p1, nz, nb, z1, z0])
                    go_wp2_with fail
                    go_ret
                    rw [HV.out]
                    exact ⟨rfl, HB5.out⟩
                  case false =>
                    have HV := Lib.hid (show R = 0 by rw [HE.out]; simp [p1, nz, nb, z0, z1])
                    go_wp2_with fail
                    go_ret
                    rw [HV.out]
                    exact ⟨rfl, HB5.out⟩
set_option maxRecDepth 100000 in
set_option maxHeartbeats 6400000 in
theorem CheckWindow_1 (x y u v s pn pc : Nat) (pa : Option Addr) (ou : Bool) (px py : Nat → Int) (fr ez : Int) (w : World) (hp : KeyAt w ⟨fr, ez, 1, x, y, u, v, s, pa, pn, pc, px, py, ou⟩) : Calls Tryz.prog 31 #[.agg #[.int .i64 1, .float .f32 x, .float .f32 y, .float .f32 u, .float .f32 v, .float .f32 s, .slice pa pn pc, .bool ou]] w fun e w' => e = .returned (.int .i64 (wiE ⟨fr, ez, 1, x, y, u, v, s, pa, pn, pc, px, py, ou⟩)) ∧ Below w.heap.size w w' := by
  have HCT : Hid (∀ w', Below w.heap.size w w' → Calls Tryz.prog 46 #[.slice pa pn pc, .func (.func 47) #[] #[]] w' fun e w'' => e = .returned (.bool (ptW ⟨fr, ez, 1, x, y, u, v, s, pa, pn, pc, px, py, ou⟩)) ∧ Below w'.heap.size w' w'') := Lib.hid (fun w' hb => points_any ⟨fr, ez, 1, x, y, u, v, s, pa, pn, pc, px, py, ou⟩ w' (RowS.past hp hb))
  have hpc1 : pn ≤ pc := hp.lc
  have hpc2 : pc ≤ 9223372036854775807 := by have h2 : pc ≤ maxLen := hp.lm; unfold maxLen at h2; omega
  have hpc : pn ≤ 9223372036854775807 := by omega
  have HCK : Hid (∀ b w, Blk w b [.float .f32 x, .float .f32 y, .float .f32 u, .float .f32 v, .float .f32 s] → Calls Tryz.prog 9 #[.slice (some ⟨b, 0, none⟩) 5 5] w fun e w' => e = .returned (.bool (allNum [x, y, u, v, s])) ∧ w = w') := Lib.hid (fun b w hb => AllNumbers_any b 0 5 5 [x, y, u, v, s] w rfl (by decide) (fun i hi => by rw [Nat.zero_add]; match i, hi with | 0, _ => exact hb.c 0 _ rfl | 1, _ => exact hb.c 1 _ rfl | 2, _ => exact hb.c 2 _ rfl | 3, _ => exact hb.c 3 _ rfl | 4, _ => exact hb.c 4 _ rfl))
  have HO1 := Lib.hid (fun w => outW_any x 3380609024 1233125376 w)
  have HO2 := Lib.hid (fun w => outW_any y 3380609024 1233125376 w)
  have HO3 := Lib.hid (fun w => outW_any u 0 1233125376 w)
  have HO4 := Lib.hid (fun w => outW_any v 0 1233125376 w)
  have HO5 := Lib.hid (fun w => outW_any s 0 1166016512 w)
  have HE : Hid (wiE ⟨fr, ez, 1, x, y, u, v, s, pa, pn, pc, px, py, ou⟩ = if allNum [x, y, u, v, s] then (if (oB x 3380609024 1233125376 || (oB y 3380609024 1233125376 || (oB u 0 1233125376 || (oB v 0 1233125376 || oB s 0 1166016512)))) then 3 else if (decide (0 < pn)) then 3 else if ptW ⟨fr, ez, 1, x, y, u, v, s, pa, pn, pc, px, py, ou⟩ then 5 else if false then 12 else 0) else 2) := Lib.hid rfl
  obtain ⟨o1, ho1⟩ : ∃ o, o = oB x 3380609024 1233125376 := ⟨_, rfl⟩
  obtain ⟨o2, ho2⟩ : ∃ o, o = oB y 3380609024 1233125376 := ⟨_, rfl⟩
  obtain ⟨o3, ho3⟩ : ∃ o, o = oB u 0 1233125376 := ⟨_, rfl⟩
  obtain ⟨o4, ho4⟩ : ∃ o, o = oB v 0 1233125376 := ⟨_, rfl⟩
  obtain ⟨o5, ho5⟩ : ∃ o, o = oB s 0 1166016512 := ⟨_, rfl⟩
  obtain ⟨A, hA⟩ : ∃ A, A = allNum [x, y, u, v, s] := ⟨_, rfl⟩
  obtain ⟨T, hT⟩ : ∃ T, T = ptW ⟨fr, ez, 1, x, y, u, v, s, pa, pn, pc, px, py, ou⟩ := ⟨_, rfl⟩
  obtain ⟨R, hR⟩ : ∃ R, R = wiE ⟨fr, ez, 1, x, y, u, v, s, pa, pn, pc, px, py, ou⟩ := ⟨_, rfl⟩
  rw [← ho1] at HO1; rw [← ho2] at HO2; rw [← ho3] at HO3; rw [← ho4] at HO4; rw [← ho5] at HO5
  rw [← hA] at HCK; rw [← hT] at HCT
  rw [← ho1, ← ho2, ← ho3, ← ho4, ← ho5, ← hA, ← hT, ← hR] at HE
  rw [← hR]
  clear ho1 ho2 ho3 ho4 ho5 hA hT hR hp
  cases A
  case false =>
    have HV : Hid (R = 2) := Lib.hid HE.out
    go_enter Tryz.func31, Tryz.ntmps31
    go_upto_region 1 with fail
    refine wp_world (fun W hW => ?_)
    have HWp : Blk W w.heap.size [.int .i64 1, .float .f32 x, .float .f32 y, .float .f32 u, .float .f32 v, .float .f32 s, .slice pa pn pc, .bool ou] ∧ Below w.heap.size w W := by rw [hW]; exact ⟨Blk.new _ _ _ _ rfl, by (repeat (first | exact Below.refl _ _ | assumption | (refine Below.setCell ?_ (by first | (simp; done) | (simp; omega) | omega) _) | (refine Below.drew ?_) | (refine below_drewN ?_ _) | (refine Below.alloc ?_ (by first | (simp; done) | (simp; omega) | omega) _) | (refine Below.trans ?_ (Below.mono (by assumption) (by first | (simp; done) | (simp; omega) | omega)))))⟩
    obtain ⟨pl, hpl⟩ : ∃ pl, pl = w.heap.size := ⟨_, rfl⟩
    have HW : Hid (Blk W pl [.int .i64 1, .float .f32 x, .float .f32 y, .float .f32 u, .float .f32 v, .float .f32 s, .slice pa pn pc, .bool ou] ∧ Below w.heap.size w W) := Lib.hid (by rw [hpl]; exact HWp)
    rw [← hpl]
    clear hW HWp hpl
    have m0 := HW.out.1.c 0 _ rfl; have m1 := HW.out.1.c 1 _ rfl; have m2 := HW.out.1.c 2 _ rfl; have m3 := HW.out.1.c 3 _ rfl; have m4 := HW.out.1.c 4 _ rfl; have m5 := HW.out.1.c 5 _ rfl; have m6 := HW.out.1.c 6 _ rfl; have ml := HW.out.1.lt
    go_wp2_with (go_at_call 9; refine (HCK.out _ _ (Blk.new _ _ _ _ rfl)).mono ?_; rintro e w2 ⟨rfl, rfl⟩)
    go_ret
    rw [HV.out]
    exact ⟨rfl, HW.out.2.alloc HW.out.2.size _⟩
  case true =>
    go_enter Tryz.func31, Tryz.ntmps31
    go_upto_region 1 with fail
    refine wp_world (fun W hW => ?_)
    have HWp : Blk W w.heap.size [.int .i64 1, .float .f32 x, .float .f32 y, .float .f32 u, .float .f32 v, .float .f32 s, .slice pa pn pc, .bool ou] ∧ Below w.heap.size w W := by rw [hW]; exact ⟨Blk.new _ _ _ _ rfl, by (repeat (first | exact Below.refl _ _ | assumption | (refine Below.setCell ?_ (by first | (simp; done) | (simp; omega) | omega) _) | (refine Below.drew ?_) | (refine below_drewN ?_ _) | (refine Below.alloc ?_ (by first | (simp; done) | (simp; omega) | omega) _) | (refine Below.trans ?_ (Below.mono (by assumption) (by first | (simp; done) | (simp; omega) | omega)))))⟩
    obtain ⟨pl, hpl⟩ : ∃ pl, pl = w.heap.size := ⟨_, rfl⟩
    have HW : Hid (Blk W pl [.int .i64 1, .float .f32 x, .float .f32 y, .float .f32 u, .float .f32 v, .float .f32 s, .slice pa pn pc, .bool ou] ∧ Below w.heap.size w W) := Lib.hid (by rw [hpl]; exact HWp)
    rw [← hpl]
    clear hW HWp hpl
    have m0 := HW.out.1.c 0 _ rfl; have m1 := HW.out.1.c 1 _ rfl; have m2 := HW.out.1.c 2 _ rfl; have m3 := HW.out.1.c 3 _ rfl; have m4 := HW.out.1.c 4 _ rfl; have m5 := HW.out.1.c 5 _ rfl; have m6 := HW.out.1.c 6 _ rfl; have ml := HW.out.1.lt
    go_upto_region 7 with (go_at_call 9; refine (HCK.out _ _ (Blk.new _ _ _ _ rfl)).mono ?_; rintro e w2 ⟨rfl, rfl⟩)
    refine wp_world (fun W2 hW2 => ?_)
    have HK2 : Hid (Blk W2 pl [.int .i64 1, .float .f32 x, .float .f32 y, .float .f32 u, .float .f32 v, .float .f32 s, .slice pa pn pc, .bool ou]) := Lib.hid (by rw [hW2]; exact HW.out.1.alloc _)
    have HB2 : Hid (Below w.heap.size w W2) := Lib.hid (by rw [hW2]; exact HW.out.2.alloc HW.out.2.size _)
    clear hW2 HCK
    clear m0 m1 m2 m3 m4 m5 m6 ml
    have m0 := HK2.out.c 0 _ rfl; have m1 := HK2.out.c 1 _ rfl; have m2 := HK2.out.c 2 _ rfl; have m3 := HK2.out.c 3 _ rfl; have m4 := HK2.out.c 4 _ rfl; have m5 := HK2.out.c 5 _ rfl; have m6 := HK2.out.c 6 _ rfl; have ml := HK2.out.lt
    cases o1
    case true =>
      have HV := Lib.hid (show R = 3 by rw [HE.out]; simp [])
      go_wp2_with (first | (go_at_call 45; refine (HO1.out _).mono ?_; rintro e w7 ⟨rfl, rfl⟩; clear HO1) | (go_at_call 45; refine (HO2.out _).mono ?_; rintro e w7 ⟨rfl, rfl⟩; clear HO2) | (go_at_call 45; refine (HO3.out _).mono ?_; rintro e w7 ⟨rfl, rfl⟩; clear HO3) | (go_at_call 45; refine (HO4.out _).mono ?_; rintro e w7 ⟨rfl, rfl⟩; clear HO4) | (go_at_call 45; refine (HO5.out _).mono ?_; rintro e w7 ⟨rfl, rfl⟩; clear HO5))
      go_ret
      rw [HV.out]
      exact ⟨rfl, HB2.out⟩
    case false =>
      cases o2
      case true =>
        have HV := Lib.hid (show R = 3 by rw [HE.out]; simp [])
        go_wp2_with (first | (go_at_call 45; refine (HO1.out _).mono ?_; rintro e w7 ⟨rfl, rfl⟩; clear HO1) | (go_at_call 45; refine (HO2.out _).mono ?_; rintro e w7 ⟨rfl, rfl⟩; clear HO2) | (go_at_call 45; refine (HO3.out _).mono ?_; rintro e w7 ⟨rfl, rfl⟩; clear HO3) | (go_at_call 45; refine (HO4.out _).mono ?_; rintro e w7 ⟨rfl, rfl⟩; clear HO4) | (go_at_call 45; refine (HO5.out _).mono ?_; rintro e w7 ⟨rfl, rfl⟩; clear HO5))
        go_ret
        rw [HV.out]
        exact ⟨rfl, HB2.out⟩
      case false =>
        cases o3
        case true =>
          have HV := Lib.hid (show R = 3 by rw [HE.out]; simp [])
          go_wp2_with (first | (go_at_call 45; refine (HO1.out _).mono ?_; rintro e w7 ⟨rfl, rfl⟩; clear HO1) | (go_at_call 45; refine (HO2.out _).mono ?_; rintro e w7 ⟨rfl, rfl⟩; clear HO2) | (go_at_call 45; refine (HO3.out _).mono ?_; rintro e w7 ⟨rfl, rfl⟩; clear HO3) | (go_at_call 45; refine (HO4.out _).mono ?_; rintro e w7 ⟨rfl, rfl⟩; clear HO4) | (go_at_call 45; refine (HO5.out _).mono ?_; rintro e w7 ⟨rfl, rfl⟩; clear HO5))
          go_ret
          rw [HV.out]
          exact ⟨rfl, HB2.out⟩
        case false =>
          cases o4
          case true =>
            have HV := Lib.hid (show R = 3 by rw [HE.out]; simp [])
            go_wp2_with (first | (go_at_call 45; refine (HO1.out _).mono ?_; rintro e w7 ⟨rfl, rfl⟩; clear HO1) | (go_at_call 45; refine (HO2.out _).mono ?_; rintro e w7 ⟨rfl, rfl⟩; clear HO2) | (go_at_call 45; refine (HO3.out _).mono ?_; rintro e w7 ⟨rfl, rfl⟩; clear HO3) | (go_at_call 45; refine (HO4.out _).mono ?_; rintro e w7 ⟨rfl, rfl⟩; clear HO4) | (go_at_call 45; refine (HO5.out _).mono ?_; rintro e w7 ⟨rfl, rfl⟩; clear HO5))
            go_ret
            rw [HV.out]
            exact ⟨rfl, HB2.out⟩
          case false =>
            cases o5
            case true =>
              have HV := Lib.hid (show R = 3 by rw [HE.out]; simp [])
              go_wp2_with (first | (go_at_call 45; refine (HO1.out _).mono ?_; rintro e w7 ⟨rfl, rfl⟩; clear HO1) | (go_at_call 45; refine (HO2.out _).mono ?_; rintro e w7 ⟨rfl, rfl⟩; clear HO2) | (go_at_call 45; refine (HO3.out _).mono ?_; rintro e w7 ⟨rfl, rfl⟩; clear HO3) | (go_at_call 45; refine (HO4.out _).mono ?_; rintro e w7 ⟨rfl, rfl⟩; clear HO4) | (go_at_call 45; refine (HO5.out _).mono ?_; rintro e w7 ⟨rfl, rfl⟩; clear HO5))
              go_ret
              rw [HV.out]
              exact ⟨rfl, HB2.out⟩
            case false =>
              go_upto_region 9 with (first | (go_at_call 45; refine (HO1.out _).mono ?_; rintro e w7 ⟨rfl, rfl⟩; clear HO1) | (go_at_call 45; refine (HO2.out _).mono ?_; rintro e w7 ⟨rfl, rfl⟩; clear HO2) | (go_at_call 45; refine (HO3.out _).mono ?_; rintro e w7 ⟨rfl, rfl⟩; clear HO3) | (go_at_call 45; refine (HO4.out _).mono ?_; rintro e w7 ⟨rfl, rfl⟩; clear HO4) | (go_at_call 45; refine (HO5.out _).mono ?_; rintro e w7 ⟨rfl, rfl⟩; clear HO5))
              by_cases p1 : 0 < pn
              · have p1i : (0 : Int) < (pn : Int) := by omega
                have HV := Lib.hid (show R = 3 by rw [HE.out]; simp [p1])
                go_wp2_with fail
                go_ret
                rw [HV.out]
                exact ⟨rfl, HB2.out⟩
              have p1i : ¬ (0 : Int) < (pn : Int) := by omega
              go_upto_region 11 with fail
              cases T
              case true =>
                have HV := Lib.hid (show R = 5 by rw [HE.out]; simp [p1])
                go_wp2_with (go_at_call 46; refine (HCT.out _ HB2.out).mono ?_; rintro e w5 ⟨rfl, hb5⟩)
                go_ret
                rw [HV.out]
                exact ⟨rfl, HB2.out.trans (hb5.mono HB2.out.size)⟩
              case false =>
                go_upto_region 13 with (go_at_call 46; refine (HCT.out _ HB2.out).mono ?_; rintro e w5 ⟨rfl, hb5⟩)
                have HK5 := Lib.hid (HK2.out.past hb5)
                have HB5 := Lib.hid (HB2.out.trans (hb5.mono HB2.out.size))
                clear hb5 HCT
                clear m0 m1 m2 m3 m4 m5 m6 ml
                have m0 := HK5.out.c 0 _ rfl; have m1 := HK5.out.c 1 _ rfl; have m2 := HK5.out.c 2 _ rfl; have m3 := HK5.out.c 3 _ rfl; have m4 := HK5.out.c 4 _ rfl; have m5 := HK5.out.c 5 _ rfl; have m6 := HK5.out.c 6 _ rfl; have ml := HK5.out.lt
                have HV := Lib.hid (show R = 0 by rw [HE.out]; simp [p1])
                go_wp2_with fail
                go_ret
                rw [HV.out]
                exact ⟨rfl, HB5.out⟩
set_option maxRecDepth 100000 in
theorem CheckWindow_0 (d : KeyD) (k1 : d.k ≠ 1) (k2 : d.k ≠ 2) (k3 : d.k ≠ 3) (w : World) : Calls Tryz.prog 31 #[winV d] w fun e w' => e = .returned (.int .i64 (wiE d)) ∧ Below w.heap.size w w' := by
  have e1 : wiE d = 1 := by unfold wiE; rw [if_neg k3, if_neg k2, if_neg k1]
  rw [e1]
  obtain ⟨fr, ez, k, x, y, u, v, s, pa, pn, pc, px, py, ou⟩ := d
  unfold winV
  simp only at k1 k2 k3 ⊢
  have q1 : (k == 1) = false := beq_false_of_ne k1
  have q2 : (k == 2) = false := beq_false_of_ne k2
  have q3 : (k == 3) = false := beq_false_of_ne k3
  have r1 : (k != 1) = true := bne_iff_ne.2 k1
  have r2 : (k != 2) = true := bne_iff_ne.2 k2
  clear e1
  go_enter Tryz.func31, Tryz.ntmps31
  go_upto_region 1 with fail
  refine wp_world (fun W hW => ?_)
  have HWp : Blk W w.heap.size [.int .i64 k, .float .f32 x, .float .f32 y, .float .f32 u, .float .f32 v, .float .f32 s, .slice pa pn pc, .bool ou] ∧ Below w.heap.size w W := by rw [hW]; exact ⟨Blk.new _ _ _ _ rfl, by (repeat (first | exact Below.refl _ _ | assumption | (refine Below.setCell ?_ (by first | (simp; done) | (simp; omega) | omega) _) | (refine Below.drew ?_) | (refine below_drewN ?_ _) | (refine Below.alloc ?_ (by first | (simp; done) | (simp; omega) | omega) _) | (refine Below.trans ?_ (Below.mono (by assumption) (by first | (simp; done) | (simp; omega) | omega)))))⟩
  obtain ⟨pl, hpl⟩ : ∃ pl, pl = w.heap.size := ⟨_, rfl⟩
  have HW : Hid (Blk W pl [.int .i64 k, .float .f32 x, .float .f32 y, .float .f32 u, .float .f32 v, .float .f32 s, .slice pa pn pc, .bool ou] ∧ Below w.heap.size w W) := Lib.hid (by rw [hpl]; exact HWp)
  rw [← hpl]
  clear hW HWp hpl
  have m0 := HW.out.1.c 0 _ rfl; have m1 := HW.out.1.c 1 _ rfl; have m2 := HW.out.1.c 2 _ rfl; have m3 := HW.out.1.c 3 _ rfl; have m4 := HW.out.1.c 4 _ rfl; have m5 := HW.out.1.c 5 _ rfl; have m6 := HW.out.1.c 6 _ rfl; have ml := HW.out.1.lt
  go_wp2_with fail
  go_ret
  exact ⟨rfl, HW.out.2⟩
theorem CheckWindow_any (d : KeyD) (w : World) (h : KeyAt w d) : Calls Tryz.prog 31 #[winV d] w fun e w' => e = .returned (.int .i64 (wiE d)) ∧ Below w.heap.size w w' := by
  by_cases k1 : d.k = 1
  · obtain ⟨fr, ez, k, x, y, u, v, s, pa, pn, pc, px, py, ou⟩ := d
    simp only at k1; subst k1
    exact CheckWindow_1 x y u v s pn pc pa ou px py fr ez w h
  by_cases k2 : d.k = 2
  · obtain ⟨fr, ez, k, x, y, u, v, s, pa, pn, pc, px, py, ou⟩ := d
    simp only at k2; subst k2
    exact CheckWindow_2 x y u v s pn pc pa ou px py fr ez w h
  by_cases k3 : d.k = 3
  · obtain ⟨fr, ez, k, x, y, u, v, s, pa, pn, pc, px, py, ou⟩ := d
    simp only at k3; subst k3
    exact CheckWindow_3 x y u v s pn pc pa ou px py fr ez w h
  exact CheckWindow_0 d k1 k2 k3 w
end Go.Proofs.YthlomgbchmhjiaaGreatDoor
