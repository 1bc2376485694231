/- dyelaw2.PowersHold: what follows for powers. Conditions: those named. -/
import Derived.Test.YtefjkelakecanaaPiM
namespace Go.Proofs.Ytefjkelakecanaa
open Go Go.RowKit
set_option maxRecDepth 100000 in
set_option maxHeartbeats 6400000 in
theorem ph_walk (v : Nat) (n : Int) (w : World) (hv : v < 2 ^ FloatKind.f32.format.width) (_ : IntKind.i64.min ≤ n ∧ n ≤ IntKind.i64.max) :
    Calls Try.prog 3 #[.float .f32 v, .int .i64 n] w fun e w' => e = .returned (.bool true) ∧ Below w.heap.size w w' := by
  have HV := Lib.hid hv
  clear hv
  go_enter Try.func3, Try.ntmps3
  go_upto_if 11 with (first | (go_at_call 6; refine (counts_any _).mono ?_; rintro e w' ⟨rfl, m, rfl⟩) | (go_at_call 7; refine (In_any _ _ _ _).mono ?_; rintro e w' ⟨rfl, rfl⟩))
  go_cut [5] (fun _ wx => Below w.heap.size w wx)
  case first =>
    cases hin : inB n (-149) 127 with
    | false =>
      go_wp2_with fail
      go_meet
      case rel => (repeat (first | exact Below.refl _ _ | assumption | (refine Below.setCell ?_ (by first | (simp; done) | (simp; omega) | omega) _) | (refine Below.drew ?_) | (refine below_drewN ?_ _) | (refine Below.alloc ?_ (by first | (simp; done) | (simp; omega) | omega) _) | (refine Below.trans ?_ (Below.mono (by assumption) (by first | (simp; done) | (simp; omega) | omega)))))
    | true =>
      obtain ⟨n1, n2⟩ := inB_iff.1 hin
      obtain ⟨t1, t2, t3, c1, c2, t6, t7, v2, o1, o2, o3, -⟩ := two_facts n1 n2
      have v1 : ovf .f32 .f64 (two32 n) = false := ovf_up _
      have y1 := isNum_not_nan t1
      have y2 : (FloatKind.f64.format.order (two64 n) (two64 n) != some .eq) = false := by rw [ord_self_ne]; exact y1
      have y3 : (FloatKind.f32.format.order (floatOfInt .f32 n) (floatOfInt .f32 n) != some .eq) = false := by rw [ord_self_ne]; exact isNum_not_nan t7
      go_wp2_with (first | ((with_reducible apply wpList_clit); rfl; exact Try.underlying26; exact Try.underlying22; decide; (with_reducible assumption); (with_reducible assumption); (with_reducible assumption); intro _) | ((with_reducible apply wpList_clit); rfl; exact Try.underlying22; exact Try.underlying26; decide; (with_reducible assumption); (with_reducible assumption); (with_reducible assumption); intro _) | (go_at_call 8; refine (Exp2_two n _ n1 n2).mono ?_; rintro e w' ⟨rfl, m1, rfl⟩) | (go_at_call 10; refine (Log2_two n _ n1 n2).mono ?_; rintro e w' ⟨rfl, m2, rfl⟩) | (go_at_call 9; refine (Ldexp_one n _ n1 n2).mono ?_; rintro e w' ⟨rfl, m3, rfl⟩))
      go_meet
      case rel => (repeat (first | exact Below.refl _ _ | assumption | (refine Below.setCell ?_ (by first | (simp; done) | (simp; omega) | omega) _) | (refine Below.drew ?_) | (refine below_drewN ?_ _) | (refine Below.alloc ?_ (by first | (simp; done) | (simp; omega) | omega) _) | (refine Below.trans ?_ (Below.mono (by assumption) (by first | (simp; done) | (simp; omega) | omega)))))
  case rest =>
    have HB := Lib.hid hcut
    clear hcut
    have q1 := fun w => lv_lit (b := 4066750463515557888) (c := 58720256) (by decide +kernel) (by decide +kernel) (by decide +kernel) w
    have q2 := fun w => lv_lit (b := 5147614374084476928) (c := 2071986176) (by decide +kernel) (by decide +kernel) (by decide +kernel) w
    have q3 := fun w => lv_lit (b := 4039728865751334912) (c := 8388608) (by decide +kernel) (by decide +kernel) (by decide +kernel) w
    cases hA : ((FloatKind.f32.format.order v 58720256 == some .gt) || (FloatKind.f32.format.order v 58720256 == some .eq)) with
    | false =>
      go_wp2_with (first | (go_at_call 9; with_reducible refine (Ldexp_m120 _).mono ?_; rintro e w' ⟨rfl, m1, rfl⟩))
      go_ret
      have hb := HB.out
      exact ⟨rfl, by (repeat (first | exact Below.refl _ _ | assumption | (refine Below.setCell ?_ (by first | (simp; done) | (simp; omega) | omega) _) | (refine Below.drew ?_) | (refine below_drewN ?_ _) | (refine Below.alloc ?_ (by first | (simp; done) | (simp; omega) | omega) _) | (refine Below.trans ?_ (Below.mono (by assumption) (by first | (simp; done) | (simp; omega) | omega)))))⟩
    | true =>
      cases hC : ((FloatKind.f32.format.order v 2071986176 == some .lt) || (FloatKind.f32.format.order v 2071986176 == some .eq)) with
      | false =>
        go_wp2_with (first | (go_at_call 9; with_reducible refine (Ldexp_m120 _).mono ?_; rintro e w' ⟨rfl, m1, rfl⟩) | (go_at_call 9; with_reducible refine (Ldexp_p120 _).mono ?_; rintro e w' ⟨rfl, m2, rfl⟩))
        go_ret
        have hb := HB.out
        exact ⟨rfl, by (repeat (first | exact Below.refl _ _ | assumption | (refine Below.setCell ?_ (by first | (simp; done) | (simp; omega) | omega) _) | (refine Below.drew ?_) | (refine below_drewN ?_ _) | (refine Below.alloc ?_ (by first | (simp; done) | (simp; omega) | omega) _) | (refine Below.trans ?_ (Below.mono (by assumption) (by first | (simp; done) | (simp; omega) | omega)))))⟩
      | true =>
        obtain ⟨b0, b1, b2⟩ := ph_bounds hA hC
        have hl := HV.out
        obtain ⟨s, hs⟩ : ∃ s, s = fop .mul .f32 v v := ⟨_, rfl⟩
        have sn : isN .f32 s = false := by rw [hs]; exact mul_not_nan b0 b0
        have sm : fop .mul .f32 (cn .f32 v) (cn .f32 v) = s := by rw [cn_of_not (isNum_not_nan b0), hs]
        have x1 : ovf .f32 .f64 v = false := ovf_up _
        obtain ⟨x, hx⟩ : ∃ x, fcv .f32 .f64 v = x := ⟨_, rfl⟩
        have x2 : isN .f64 x = false := by rw [← hx]; exact isNum_not_nan (up_exact b0).1
        have HS := Lib.hid hs
        have B := Lib.hid (And.intro b0 (And.intro b1 b2))
        have hsx : (2 : Rat) ^ (-126 : Int) ≤ val .f32 v := by
          have : (2 : Rat) ^ (-126 : Int) < (2 : Rat) ^ (-120 : Int) := zp_lt (by decide)
          grind
        have L16 : Hid (∀ w, Calls Try.prog 9 #[.float .f64 x, .int .i64 (-16)] w fun e w' => ∃ r, e = .returned (.float .f64 r) ∧ (isNum .f64 r = true ∧ isN .f64 r = false ∧ val .f64 r = val .f32 v * (2 : Rat) ^ (-16 : Int)) ∧ ∃ m, w' = w.drewN m) := Lib.hid (fun w => by
          have := Ldexp_less (-16) w b0 hsx (by decide) (by decide)
          rwa [hx] at this)
        have LB : Hid (∀ p, BackR (val .f32 v) p → ∃ P D, ovf .f32 .f64 p = false ∧ fcv .f32 .f64 p = P ∧ isN .f64 P = false ∧ fop .sub .f64 (cn .f64 P) (cn .f64 x) = D ∧ isN .f64 D = false ∧
            ∀ r, isNum .f64 r = true → val .f64 r = val .f32 v * (2 : Rat) ^ (-16 : Int) → (FloatKind.f64.format.order (absF D) r == some .gt) = false) := Lib.hid (fun p hp => by
          have := back_facts b0 b1 b2 hp
          rwa [hx] at this)
        have HX := Lib.hid hx
        clear hs b0 b1 b2 hsx hl
        go_upto_region 13 with (first | ((with_reducible apply wpList_clit); rfl; exact Try.underlying26; exact Try.underlying22; decide; (with_reducible assumption); (with_reducible assumption); (with_reducible assumption); intro _) | ((with_reducible apply wpList_clit); rfl; exact Try.underlying22; exact Try.underlying26; decide; (with_reducible assumption); (with_reducible assumption); (with_reducible assumption); intro _) | ((with_reducible apply wpList_flit); rfl; rfl; rfl; (with_reducible assumption); (with_reducible assumption); intro _) | (go_at_call 9; with_reducible refine (Ldexp_m120 _).mono ?_; rintro e w' ⟨rfl, m1, rfl⟩) | (go_at_call 9; with_reducible refine (Ldexp_p120 _).mono ?_; rintro e w' ⟨rfl, m2, rfl⟩) | (go_at_call 9; with_reducible refine (L16.out _).mono ?_; rintro e w' ⟨r1, rfl, hr1, m3, rfl⟩; have hg := HBk.out.2.2.2.2.2 _ hr1.1 hr1.2.2) | (go_at_call 10; refine (Log2_any v _ B.out.1 B.out.2.1 B.out.2.2).mono ?_; rintro e w' ⟨⟨l, rfl, hl⟩, m4, rfl⟩; have HL := Lib.hid hl; clear hl) | (go_at_call 8; refine (Exp2_any l _ _ HL.out B.out.2.1 B.out.2.2).mono ?_; rintro e w' ⟨⟨p, rfl, hp⟩, m5, rfl⟩; obtain ⟨P, D, i1, i2, i3, i4, i5, i6⟩ := LB.out p hp; have HBk := Lib.hid (And.intro i1 (And.intro i2 (And.intro i3 (And.intro i4 (And.intro i5 i6))))); clear hp i6) | (go_at_call 13; refine (Power_1 v _ HV.out B.out.1 B.out.2.1).mono ?_; rintro e w' ⟨rfl, rfl⟩) | (go_at_call 11; refine (Abs_any _ _).mono ?_; rintro e w' ⟨rfl, rfl⟩) | (go_at_call 12; refine (same_any _ _ _).mono ?_; rintro e w' ⟨rfl, rfl⟩; rw [decide_eq_true rfl]))
        clear hg hr1 i1 i2 i3 i4 i5 HBk HL L16 LB
        cases hM : (FloatKind.f32.format.order s 2139095039 == some .gt) with
        | true =>
          go_wp2_with fail
          go_ret
          have hb := HB.out
          exact ⟨rfl, by (repeat (first | exact Below.refl _ _ | assumption | (refine Below.setCell ?_ (by first | (simp; done) | (simp; omega) | omega) _) | (refine Below.drew ?_) | (refine below_drewN ?_ _) | (refine Below.alloc ?_ (by first | (simp; done) | (simp; omega) | omega) _) | (refine Below.trans ?_ (Below.mono (by assumption) (by first | (simp; done) | (simp; omega) | omega)))))⟩
        | false =>
          cases hT : (FloatKind.f32.format.order s 8388608 == some .lt) with
          | true =>
            go_wp2_with (first | (go_at_call 9; with_reducible refine (Ldexp_m126 _).mono ?_; rintro e w' ⟨rfl, m6, rfl⟩))
            go_ret
            have hb := HB.out
            exact ⟨rfl, by (repeat (first | exact Below.refl _ _ | assumption | (refine Below.setCell ?_ (by first | (simp; done) | (simp; omega) | omega) _) | (refine Below.drew ?_) | (refine below_drewN ?_ _) | (refine Below.alloc ?_ (by first | (simp; done) | (simp; omega) | omega) _) | (refine Below.trans ?_ (Below.mono (by assumption) (by first | (simp; done) | (simp; omega) | omega)))))⟩
          | false =>
            obtain ⟨g0, g1⟩ := sq_bounds sn hM hT
            obtain ⟨z1, z2⟩ := square_rel HV.out B.out.1 (by have := B.out.2.1; have := zp_pos (-120); grind) B.out.2.2 (by rw [← HS.out]; exact g0) (by rw [← HS.out]; exact g1)
            rw [← HS.out] at z1
            have z3 : 0 < val .f32 v * val .f32 v := by have := zp_pos (-126); grind
            have y1 : ovf .f32 .f64 s = false := ovf_up _
            obtain ⟨y, hy⟩ : ∃ y, fcv .f32 .f64 s = y := ⟨_, rfl⟩
            have y2 : isN .f64 y = false := by rw [← hy]; exact isNum_not_nan (up_exact g0).1
            have HP : Hid (∀ w, Calls Try.prog 13 #[.float .f32 v, .float .f32 1073741824] w fun e w' => (∃ p, e = .returned (.float .f32 p) ∧ SquareR (val .f32 v) p) ∧ ∃ m, w' = w.drewN m) := Lib.hid (fun w =>
              Power_2 v w HV.out B.out.1 B.out.2.1 B.out.2.2 (by rw [← HS.out]; exact g0) (by rw [← HS.out]; exact g1))
            have L22 : Hid (∀ w, Calls Try.prog 9 #[.float .f64 y, .int .i64 (-22)] w fun e w' => ∃ r, e = .returned (.float .f64 r) ∧ (isNum .f64 r = true ∧ isN .f64 r = false ∧ val .f64 r = val .f32 s * (2 : Rat) ^ (-22 : Int)) ∧ ∃ m, w' = w.drewN m) := Lib.hid (fun w => by
              have := Ldexp_less (-22) w g0 g1 (by decide) (by decide)
              rwa [hy] at this)
            have LS : Hid (∀ p, SquareR (val .f32 v) p → ∃ P D, ovf .f32 .f64 p = false ∧ fcv .f32 .f64 p = P ∧ isN .f64 P = false ∧ fop .sub .f64 (cn .f64 P) (cn .f64 y) = D ∧ isN .f64 D = false ∧
                ∀ r, isNum .f64 r = true → val .f64 r = val .f32 s * (2 : Rat) ^ (-22 : Int) → (FloatKind.f64.format.order (absF D) r == some .lt) = true) := Lib.hid (fun p hp => by
              have := square_facts g0 g1 z1 z3 hp
              rwa [hy] at this)
            clear g0 g1 z1 z2 z3
            go_wp2_with (first | ((with_reducible apply wpList_clit); rfl; exact Try.underlying26; exact Try.underlying22; decide; (with_reducible assumption); (with_reducible assumption); (with_reducible assumption); intro _) | ((with_reducible apply wpList_clit); rfl; exact Try.underlying22; exact Try.underlying26; decide; (with_reducible assumption); (with_reducible assumption); (with_reducible assumption); intro _) | ((with_reducible apply wpList_flit); rfl; rfl; rfl; (with_reducible assumption); (with_reducible assumption); intro _) | (go_at_call 9; with_reducible refine (Ldexp_m126 _).mono ?_; rintro e w' ⟨rfl, m6, rfl⟩) | (go_at_call 9; with_reducible refine (L22.out _).mono ?_; rintro e w' ⟨r2, rfl, hr2, m7, rfl⟩; have hg := HBk.out.2.2.2.2.2 _ hr2.1 hr2.2.2) | (go_at_call 13; refine (HP.out _).mono ?_; rintro e w' ⟨⟨p, rfl, hp⟩, m8, rfl⟩; obtain ⟨P, D, i1, i2, i3, i4, i5, i6⟩ := LS.out p hp; have HBk := Lib.hid (And.intro i1 (And.intro i2 (And.intro i3 (And.intro i4 (And.intro i5 i6))))); clear hp i6) | (go_at_call 11; refine (Abs_any _ _).mono ?_; rintro e w' ⟨rfl, rfl⟩))
            go_ret
            have hb := HB.out
            exact ⟨rfl, by (repeat (first | exact Below.refl _ _ | assumption | (refine Below.setCell ?_ (by first | (simp; done) | (simp; omega) | omega) _) | (refine Below.drew ?_) | (refine below_drewN ?_ _) | (refine Below.alloc ?_ (by first | (simp; done) | (simp; omega) | omega) _) | (refine Below.trans ?_ (Below.mono (by assumption) (by first | (simp; done) | (simp; omega) | omega)))))⟩
end Go.Proofs.Ytefjkelakecanaa
