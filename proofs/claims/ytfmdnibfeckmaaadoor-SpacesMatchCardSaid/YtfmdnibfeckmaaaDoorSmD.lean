/- The document's error of primaries. No condition. -/
import Derived.Test.YtfmdnibfeckmaaaDoorSmC
namespace Go.Proofs.YtfmdnibfeckmaaaDoor
open Go Go.RowKit
theorem allNum2 (x y : Nat) : allNum [x, y] = (isNum .f32 x && isNum .f32 y) := by simp [allNum]
set_option maxRecDepth 100000 in
set_option maxHeartbeats 6400000 in
theorem SpotsError_any (b : Nat) (p : Nat → Nat) (w : World) (hb0 : Blk w b [.float .f32 (p 0), .float .f32 (p 1), .float .f32 (p 2), .float .f32 (p 3), .float .f32 (p 4), .float .f32 (p 5), .float .f32 (p 6), .float .f32 (p 7)]) : Calls Tryd.prog 34 #[.slice (some ⟨b, 0, none⟩) 4 4] w (IntIs (prE p) w.heap.size w) := by
  have HB0 := Lib.hid hb0
  clear hb0
  go_enter Tryd.func34, Tryd.ntmps34
  go_wp2_with fail
  go_loopw [7] (fun s7 wr => ∃ k : Nat, k ≤ 4 ∧ s7 = .int .i64 k ∧ (∀ i, i < k → spK p i = 0) ∧ Below w.heap.size w wr) (fun s7 _ => 4 - (intOf s7).toNat)
  case atStart => exact ⟨0, by omega, rfl, fun i hi => by omega, Below.refl _ _⟩
  case round =>
    obtain ⟨k, hk, rfl, hok, hb⟩ := hrel
    have HK := Lib.hid hok; have HBR := Lib.hid hb
    clear hok hb
    by_cases hk4 : k < 4
    · have hk4' : (k : Int) < 4 := by omega
      have hk0 : (0 : Int) ≤ (k : Int) := by omega
      have HBK := HB0.out.below HBR.out HB0.out.lt
      have c0 : wr.cell? ⟨b, k * 2, none⟩ = some (.float .f32 (p (2 * k))) := by
        rcases (show k = 0 ∨ k = 1 ∨ k = 2 ∨ k = 3 by omega) with rfl | rfl | rfl | rfl
        · exact HBK.c 0 _ rfl
        · exact HBK.c 2 _ rfl
        · exact HBK.c 4 _ rfl
        · exact HBK.c 6 _ rfl
      have c1 : wr.cell? ⟨b, k * 2 + 1, none⟩ = some (.float .f32 (p (2 * k + 1))) := by
        rcases (show k = 0 ∨ k = 1 ∨ k = 2 ∨ k = 3 by omega) with rfl | rfl | rfl | rfl
        · exact HBK.c 1 _ rfl
        · exact HBK.c 3 _ rfl
        · exact HBK.c 5 _ rfl
        · exact HBK.c 7 _ rfl
      have cl := HBK.lt
      clear HBK
      have HS : Hid (spoE (p (2 * k)) (p (2 * k + 1)) = spK p k) := Lib.hid rfl
      have hsp : spoE (p (2 * k)) (p (2 * k + 1)) = if isNum .f32 (p (2 * k)) && isNum .f32 (p (2 * k + 1)) then (if badS (p (2 * k)) (p (2 * k + 1)) then 3 else 0) else 2 := by unfold spoE; rw [allNum2]
      generalize p (2 * k) = x at *
      generalize p (2 * k + 1) = y at *
      cases hx : isNum .f32 x
      · have HX := Lib.hid hx
        have HY := HX
        rw [hx] at hsp
        clear hx
        have HE : Hid (spK p k = 2) := Lib.hid (by rw [← HS.out, hsp]; rfl)
        clear hsp
        go_wp2_with (go_at_call 36; first | (refine (IsNumberR_any x _).mono ?_; rintro e w1 ⟨rfl, m1, rfl⟩; rw [HX.out]) | (refine (IsNumberR_any y _).mono ?_; rintro e w1 ⟨rfl, m1, rfl⟩; rw [HY.out]))
        go_ret
        refine ⟨?_, HBR.out.trans (Below.mono (by (repeat (first | exact Below.refl _ _ | assumption | (refine Below.setCell ?_ (by first | (simp; done) | (simp; omega) | omega) _) | (refine Below.drew ?_) | (refine below_drewN ?_ _) | (refine Below.alloc ?_ (by first | (simp; done) | (simp; omega) | omega) _) | (refine Below.trans ?_ (Below.mono (by assumption) (by first | (simp; done) | (simp; omega) | omega)))))) HBR.out.size)⟩
        have hp : prE p = 2 := (fst_at HK.out (by rw [HE.out]; decide) hk4).trans HE.out
        rw [hp]; rfl
      · have HX := Lib.hid hx
        rw [hx] at hsp
        clear hx
        cases hy : isNum .f32 y
        · have HY := Lib.hid hy
          rw [hy] at hsp
          clear hy
          have HE : Hid (spK p k = 2) := Lib.hid (by rw [← HS.out, hsp]; rfl)
          clear hsp
          go_wp2_with (go_at_call 36; first | (refine (IsNumberR_any x _).mono ?_; rintro e w1 ⟨rfl, m1, rfl⟩; rw [HX.out]) | (refine (IsNumberR_any y _).mono ?_; rintro e w1 ⟨rfl, m1, rfl⟩; rw [HY.out]))
          go_ret
          refine ⟨?_, HBR.out.trans (Below.mono (by (repeat (first | exact Below.refl _ _ | assumption | (refine Below.setCell ?_ (by first | (simp; done) | (simp; omega) | omega) _) | (refine Below.drew ?_) | (refine below_drewN ?_ _) | (refine Below.alloc ?_ (by first | (simp; done) | (simp; omega) | omega) _) | (refine Below.trans ?_ (Below.mono (by assumption) (by first | (simp; done) | (simp; omega) | omega)))))) HBR.out.size)⟩
          have hp : prE p = 2 := (fst_at HK.out (by rw [HE.out]; decide) hk4).trans HE.out
          rw [hp]; rfl
        · have HY := Lib.hid hy
          rw [hy, if_pos (show (true && true) = true from rfl)] at hsp
          clear hy
          cases h1 : (FloatKind.f32.format.order x 3212836864 == some .lt)
          · cases h2 : (FloatKind.f32.format.order x 1073741824 == some .gt)
            · cases h3 : (FloatKind.f32.format.order y 3212836864 == some .lt)
              · cases h4 : (FloatKind.f32.format.order y 1073741824 == some .gt)
                · cases h5 : (FloatKind.f32.format.order y 981467136 == some .lt)
                  · have hb : badS x y = false := by unfold badS; rw [h1, h2, h3, h4, h5]; rfl
                    have HE : Hid (spK p k = 0) := Lib.hid (by rw [← HS.out, hsp, hb]; rfl)
                    clear hsp hb
                    go_wp2_with (go_at_call 36; first | (refine (IsNumberR_any x _).mono ?_; rintro e w1 ⟨rfl, m1, rfl⟩; rw [HX.out]) | (refine (IsNumberR_any y _).mono ?_; rintro e w1 ⟨rfl, m1, rfl⟩; rw [HY.out]))
                    go_roundw
                    case rel =>
                      refine ⟨k + 1, by omega, by go_num, fun i hi => ?_, HBR.out.trans (Below.mono (by (repeat (first | exact Below.refl _ _ | assumption | (refine Below.setCell ?_ (by first | (simp; done) | (simp; omega) | omega) _) | (refine Below.drew ?_) | (refine below_drewN ?_ _) | (refine Below.alloc ?_ (by first | (simp; done) | (simp; omega) | omega) _) | (refine Below.trans ?_ (Below.mono (by assumption) (by first | (simp; done) | (simp; omega) | omega)))))) HBR.out.size)⟩
                      rcases (show i < k ∨ i = k by omega) with h | rfl
                      · exact HK.out i h
                      · exact HE.out
                    case measure => simp [intOf]; omega
                  · cases h6 : (FloatKind.f32.format.order y 3128950784 == some .gt)
                    · have hb : badS x y = false := by unfold badS; rw [h1, h2, h3, h4, h5, h6]; rfl
                      have HE : Hid (spK p k = 0) := Lib.hid (by rw [← HS.out, hsp, hb]; rfl)
                      clear hsp hb
                      go_wp2_with (go_at_call 36; first | (refine (IsNumberR_any x _).mono ?_; rintro e w1 ⟨rfl, m1, rfl⟩; rw [HX.out]) | (refine (IsNumberR_any y _).mono ?_; rintro e w1 ⟨rfl, m1, rfl⟩; rw [HY.out]))
                      go_roundw
                      case rel =>
                        refine ⟨k + 1, by omega, by go_num, fun i hi => ?_, HBR.out.trans (Below.mono (by (repeat (first | exact Below.refl _ _ | assumption | (refine Below.setCell ?_ (by first | (simp; done) | (simp; omega) | omega) _) | (refine Below.drew ?_) | (refine below_drewN ?_ _) | (refine Below.alloc ?_ (by first | (simp; done) | (simp; omega) | omega) _) | (refine Below.trans ?_ (Below.mono (by assumption) (by first | (simp; done) | (simp; omega) | omega)))))) HBR.out.size)⟩
                        rcases (show i < k ∨ i = k by omega) with h | rfl
                        · exact HK.out i h
                        · exact HE.out
                      case measure => simp [intOf]; omega
                    · have hb : badS x y = true := by unfold badS; rw [h1, h2, h3, h4, h5, h6]; rfl
                      have HE : Hid (spK p k = 3) := Lib.hid (by rw [← HS.out, hsp, hb]; rfl)
                      clear hsp hb
                      go_wp2_with (go_at_call 36; first | (refine (IsNumberR_any x _).mono ?_; rintro e w1 ⟨rfl, m1, rfl⟩; rw [HX.out]) | (refine (IsNumberR_any y _).mono ?_; rintro e w1 ⟨rfl, m1, rfl⟩; rw [HY.out]))
                      go_ret
                      refine ⟨?_, HBR.out.trans (Below.mono (by (repeat (first | exact Below.refl _ _ | assumption | (refine Below.setCell ?_ (by first | (simp; done) | (simp; omega) | omega) _) | (refine Below.drew ?_) | (refine below_drewN ?_ _) | (refine Below.alloc ?_ (by first | (simp; done) | (simp; omega) | omega) _) | (refine Below.trans ?_ (Below.mono (by assumption) (by first | (simp; done) | (simp; omega) | omega)))))) HBR.out.size)⟩
                      have hp : prE p = 3 := (fst_at HK.out (by rw [HE.out]; decide) hk4).trans HE.out
                      rw [hp]; rfl
                · have hb : badS x y = true := by unfold badS; rw [h1, h2, h3, h4]; simp
                  have HE : Hid (spK p k = 3) := Lib.hid (by rw [← HS.out, hsp, hb]; rfl)
                  clear hsp hb
                  go_wp2_with (go_at_call 36; first | (refine (IsNumberR_any x _).mono ?_; rintro e w1 ⟨rfl, m1, rfl⟩; rw [HX.out]) | (refine (IsNumberR_any y _).mono ?_; rintro e w1 ⟨rfl, m1, rfl⟩; rw [HY.out]))
                  go_ret
                  refine ⟨?_, HBR.out.trans (Below.mono (by (repeat (first | exact Below.refl _ _ | assumption | (refine Below.setCell ?_ (by first | (simp; done) | (simp; omega) | omega) _) | (refine Below.drew ?_) | (refine below_drewN ?_ _) | (refine Below.alloc ?_ (by first | (simp; done) | (simp; omega) | omega) _) | (refine Below.trans ?_ (Below.mono (by assumption) (by first | (simp; done) | (simp; omega) | omega)))))) HBR.out.size)⟩
                  have hp : prE p = 3 := (fst_at HK.out (by rw [HE.out]; decide) hk4).trans HE.out
                  rw [hp]; rfl
              · have hb : badS x y = true := by unfold badS; rw [h1, h2, h3]; simp
                have HE : Hid (spK p k = 3) := Lib.hid (by rw [← HS.out, hsp, hb]; rfl)
                clear hsp hb
                go_wp2_with (go_at_call 36; first | (refine (IsNumberR_any x _).mono ?_; rintro e w1 ⟨rfl, m1, rfl⟩; rw [HX.out]) | (refine (IsNumberR_any y _).mono ?_; rintro e w1 ⟨rfl, m1, rfl⟩; rw [HY.out]))
                go_ret
                refine ⟨?_, HBR.out.trans (Below.mono (by (repeat (first | exact Below.refl _ _ | assumption | (refine Below.setCell ?_ (by first | (simp; done) | (simp; omega) | omega) _) | (refine Below.drew ?_) | (refine below_drewN ?_ _) | (refine Below.alloc ?_ (by first | (simp; done) | (simp; omega) | omega) _) | (refine Below.trans ?_ (Below.mono (by assumption) (by first | (simp; done) | (simp; omega) | omega)))))) HBR.out.size)⟩
                have hp : prE p = 3 := (fst_at HK.out (by rw [HE.out]; decide) hk4).trans HE.out
                rw [hp]; rfl
            · have hb : badS x y = true := by unfold badS; rw [h1, h2]; simp
              have HE : Hid (spK p k = 3) := Lib.hid (by rw [← HS.out, hsp, hb]; rfl)
              clear hsp hb
              go_wp2_with (go_at_call 36; first | (refine (IsNumberR_any x _).mono ?_; rintro e w1 ⟨rfl, m1, rfl⟩; rw [HX.out]) | (refine (IsNumberR_any y _).mono ?_; rintro e w1 ⟨rfl, m1, rfl⟩; rw [HY.out]))
              go_ret
              refine ⟨?_, HBR.out.trans (Below.mono (by (repeat (first | exact Below.refl _ _ | assumption | (refine Below.setCell ?_ (by first | (simp; done) | (simp; omega) | omega) _) | (refine Below.drew ?_) | (refine below_drewN ?_ _) | (refine Below.alloc ?_ (by first | (simp; done) | (simp; omega) | omega) _) | (refine Below.trans ?_ (Below.mono (by assumption) (by first | (simp; done) | (simp; omega) | omega)))))) HBR.out.size)⟩
              have hp : prE p = 3 := (fst_at HK.out (by rw [HE.out]; decide) hk4).trans HE.out
              rw [hp]; rfl
          · have hb : badS x y = true := by unfold badS; rw [h1]; simp
            have HE : Hid (spK p k = 3) := Lib.hid (by rw [← HS.out, hsp, hb]; rfl)
            clear hsp hb
            go_wp2_with (go_at_call 36; first | (refine (IsNumberR_any x _).mono ?_; rintro e w1 ⟨rfl, m1, rfl⟩; rw [HX.out]) | (refine (IsNumberR_any y _).mono ?_; rintro e w1 ⟨rfl, m1, rfl⟩; rw [HY.out]))
            go_ret
            refine ⟨?_, HBR.out.trans (Below.mono (by (repeat (first | exact Below.refl _ _ | assumption | (refine Below.setCell ?_ (by first | (simp; done) | (simp; omega) | omega) _) | (refine Below.drew ?_) | (refine below_drewN ?_ _) | (refine Below.alloc ?_ (by first | (simp; done) | (simp; omega) | omega) _) | (refine Below.trans ?_ (Below.mono (by assumption) (by first | (simp; done) | (simp; omega) | omega)))))) HBR.out.size)⟩
            have hp : prE p = 3 := (fst_at HK.out (by rw [HE.out]; decide) hk4).trans HE.out
            rw [hp]; rfl
    · have hk4' : ¬ (k : Int) < 4 := by omega
      go_wp2_with fail
      go_ret
      refine ⟨?_, HBR.out⟩
      have hp : prE p = 0 := fst_zero fun i hi => HK.out i (by omega)
      rw [hp]; rfl
set_option maxRecDepth 100000 in
set_option maxHeartbeats 3200000 in
theorem PrimariesError_any (p : Nat → Nat) (w : World) : Calls Tryd.prog 18 #[prV p] w (IntIs (prE p) w.heap.size w) := by
  go_enter Tryd.func18, Tryd.ntmps18
  go_wp2_with fail
  refine calls_world (fun V hV => ?_)
  have hb : Blk V (w.heap.size + 1) [.float .f32 (p 0), .float .f32 (p 1), .float .f32 (p 2), .float .f32 (p 3), .float .f32 (p 4), .float .f32 (p 5), .float .f32 (p 6), .float .f32 (p 7)] := by rw [hV]; exact Blk.new _ _ _ _ (by simp)
  have HBV : Hid (Below w.heap.size w V) := Lib.hid (by rw [hV]; (repeat (first | exact Below.refl _ _ | assumption | (refine Below.setCell ?_ (by first | (simp; done) | (simp; omega) | omega) _) | (refine Below.drew ?_) | (refine below_drewN ?_ _) | (refine Below.alloc ?_ (by first | (simp; done) | (simp; omega) | omega) _) | (refine Below.trans ?_ (Below.mono (by assumption) (by first | (simp; done) | (simp; omega) | omega))))))
  clear hV
  refine (SpotsError_any _ p V hb).mono ?_
  rintro e w1 ⟨rfl, hb1⟩
  clear hb
  go_wp2_with fail
  go_ret
  exact ⟨rfl, HBV.out.trans (hb1.mono HBV.out.size)⟩
end Go.Proofs.YtfmdnibfeckmaaaDoor
