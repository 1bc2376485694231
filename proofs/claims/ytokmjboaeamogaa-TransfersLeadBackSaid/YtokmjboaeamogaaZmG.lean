/- The document's error of a transfer. No condition. -/
import Derived.Test.YtokmjboaeamogaaZmF
namespace Go.Proofs.Ytokmjboaeamogaa
open Go Go.RowKit
set_option maxRecDepth 100000 in
set_option maxHeartbeats 12800000 in
theorem TransferError_any (k : Int) (a b c : Nat) (w : World) : Calls Try.prog 5 #[trV k a b c] w (IntIs (trE k a b c) w.heap.size w) := by
  by_cases h1 : k < 1
  · have HE : Hid (trE k a b c = 1) := Lib.hid (by unfold trE; rw [if_pos h1])
    have h2 : ¬ 1 ≤ k := by omega
    have hi : inB k 1 5 = false := by unfold inB; simp; omega
    go_enter Try.func5, Try.ntmps5
    go_wp2_with (first | (go_at_call 11; refine (In_any _ _ _ _).mono ?_; rintro e w' ⟨rfl, rfl⟩))
    go_ret
    exact ⟨by rw [HE.out]; rfl, by (repeat (first | exact Below.refl _ _ | assumption | (refine Below.setCell ?_ (by first | (simp; done) | (simp; omega) | omega) _) | (refine Below.drew ?_) | (refine below_drewN ?_ _) | (refine Below.alloc ?_ (by first | (simp; done) | (simp; omega) | omega) _) | (refine Below.trans ?_ (Below.mono (by assumption) (by first | (simp; done) | (simp; omega) | omega)))))⟩
  by_cases h5 : 5 < k
  · have HE : Hid (trE k a b c = 1) := Lib.hid (by unfold trE; rw [if_neg h1, if_pos h5])
    have h2 : 1 ≤ k := by omega
    have h3 : ¬ k ≤ 5 := by omega
    have hi : inB k 1 5 = false := by unfold inB; simp; omega
    go_enter Try.func5, Try.ntmps5
    go_wp2_with (first | (go_at_call 11; refine (In_any _ _ _ _).mono ?_; rintro e w' ⟨rfl, rfl⟩))
    go_ret
    exact ⟨by rw [HE.out]; rfl, by (repeat (first | exact Below.refl _ _ | assumption | (refine Below.setCell ?_ (by first | (simp; done) | (simp; omega) | omega) _) | (refine Below.drew ?_) | (refine below_drewN ?_ _) | (refine Below.alloc ?_ (by first | (simp; done) | (simp; omega) | omega) _) | (refine Below.trans ?_ (Below.mono (by assumption) (by first | (simp; done) | (simp; omega) | omega)))))⟩
  cases hx : isNum .f32 a
  · have HNA := Lib.hid hx
    have HNB := HNA
    have HNC := HNA
    have HE : Hid (trE k a b c = 2) := Lib.hid (by unfold trE; rw [if_neg h1, if_neg h5, allNum_3, hx]; rfl)
    clear hx
    have h2 : 1 ≤ k := by omega
    have h3 : k ≤ 5 := by omega
    have hi : inB k 1 5 = true := by unfold inB; simp; omega
    go_enter Try.func5, Try.ntmps5
    go_wp2_with (first | (go_at_call 11; refine (In_any _ _ _ _).mono ?_; rintro e w' ⟨rfl, rfl⟩) | (go_at_call 12; first | (refine (IsNumberR_any a _).mono ?_; rintro e w1 ⟨rfl, m1, rfl⟩; rw [HNA.out]) | (refine (IsNumberR_any b _).mono ?_; rintro e w1 ⟨rfl, m1, rfl⟩; rw [HNB.out]) | (refine (IsNumberR_any c _).mono ?_; rintro e w1 ⟨rfl, m1, rfl⟩; rw [HNC.out])) | (go_at_call 13; refine (withinR_any _ _ _ _).mono ?_; rintro e w' ⟨rfl, rfl⟩) | (go_at_call 14; refine (When_any _ _ _).mono ?_; rintro e w' ⟨rfl, rfl⟩))
    go_ret
    exact ⟨by rw [HE.out]; rfl, by (repeat (first | exact Below.refl _ _ | assumption | (refine Below.setCell ?_ (by first | (simp; done) | (simp; omega) | omega) _) | (refine Below.drew ?_) | (refine below_drewN ?_ _) | (refine Below.alloc ?_ (by first | (simp; done) | (simp; omega) | omega) _) | (refine Below.trans ?_ (Below.mono (by assumption) (by first | (simp; done) | (simp; omega) | omega)))))⟩
  · have HNA := Lib.hid hx
    clear hx
    cases hx : isNum .f32 b
    · have HNB := Lib.hid hx
      have HNC := HNB
      have HE : Hid (trE k a b c = 2) := Lib.hid (by unfold trE; rw [if_neg h1, if_neg h5, allNum_3, HNA.out, hx]; rfl)
      clear hx
      have h2 : 1 ≤ k := by omega
      have h3 : k ≤ 5 := by omega
      have hi : inB k 1 5 = true := by unfold inB; simp; omega
      go_enter Try.func5, Try.ntmps5
      go_wp2_with (first | (go_at_call 11; refine (In_any _ _ _ _).mono ?_; rintro e w' ⟨rfl, rfl⟩) | (go_at_call 12; first | (refine (IsNumberR_any a _).mono ?_; rintro e w1 ⟨rfl, m1, rfl⟩; rw [HNA.out]) | (refine (IsNumberR_any b _).mono ?_; rintro e w1 ⟨rfl, m1, rfl⟩; rw [HNB.out]) | (refine (IsNumberR_any c _).mono ?_; rintro e w1 ⟨rfl, m1, rfl⟩; rw [HNC.out])) | (go_at_call 13; refine (withinR_any _ _ _ _).mono ?_; rintro e w' ⟨rfl, rfl⟩) | (go_at_call 14; refine (When_any _ _ _).mono ?_; rintro e w' ⟨rfl, rfl⟩))
      go_ret
      exact ⟨by rw [HE.out]; rfl, by (repeat (first | exact Below.refl _ _ | assumption | (refine Below.setCell ?_ (by first | (simp; done) | (simp; omega) | omega) _) | (refine Below.drew ?_) | (refine below_drewN ?_ _) | (refine Below.alloc ?_ (by first | (simp; done) | (simp; omega) | omega) _) | (refine Below.trans ?_ (Below.mono (by assumption) (by first | (simp; done) | (simp; omega) | omega)))))⟩
    · have HNB := Lib.hid hx
      clear hx
      cases hx : isNum .f32 c
      · have HNC := Lib.hid hx
        have HE : Hid (trE k a b c = 2) := Lib.hid (by unfold trE; rw [if_neg h1, if_neg h5, allNum_3, HNA.out, HNB.out, hx]; rfl)
        clear hx
        have h2 : 1 ≤ k := by omega
        have h3 : k ≤ 5 := by omega
        have hi : inB k 1 5 = true := by unfold inB; simp; omega
        go_enter Try.func5, Try.ntmps5
        go_wp2_with (first | (go_at_call 11; refine (In_any _ _ _ _).mono ?_; rintro e w' ⟨rfl, rfl⟩) | (go_at_call 12; first | (refine (IsNumberR_any a _).mono ?_; rintro e w1 ⟨rfl, m1, rfl⟩; rw [HNA.out]) | (refine (IsNumberR_any b _).mono ?_; rintro e w1 ⟨rfl, m1, rfl⟩; rw [HNB.out]) | (refine (IsNumberR_any c _).mono ?_; rintro e w1 ⟨rfl, m1, rfl⟩; rw [HNC.out])) | (go_at_call 13; refine (withinR_any _ _ _ _).mono ?_; rintro e w' ⟨rfl, rfl⟩) | (go_at_call 14; refine (When_any _ _ _).mono ?_; rintro e w' ⟨rfl, rfl⟩))
        go_ret
        exact ⟨by rw [HE.out]; rfl, by (repeat (first | exact Below.refl _ _ | assumption | (refine Below.setCell ?_ (by first | (simp; done) | (simp; omega) | omega) _) | (refine Below.drew ?_) | (refine below_drewN ?_ _) | (refine Below.alloc ?_ (by first | (simp; done) | (simp; omega) | omega) _) | (refine Below.trans ?_ (Below.mono (by assumption) (by first | (simp; done) | (simp; omega) | omega)))))⟩
      · have HNC := Lib.hid hx
        clear hx
        have hn : allNum [a, b, c] = true := by rw [allNum_3, HNA.out, HNB.out, HNC.out]; rfl
        rcases (show k = 1 ∨ k = 2 ∨ k = 3 ∨ k = 4 ∨ k = 5 by omega) with rfl | rfl | rfl | rfl | rfl
        · have hsp : trE 1 a b c = if rig1 a b c then 0 else 3 := by unfold trE; rw [hn]; rfl
          clear hn h1 h5
          cases t0 : (FloatKind.f32.format.order a 0 == some .eq)
          · have HE : Hid (trE 1 a b c = 3) := Lib.hid (by rw [hsp]; unfold rig1; rw [t0]; rfl)
            clear hsp
            go_enter Try.func5, Try.ntmps5
            go_wp2_with (first | (go_at_call 11; refine (In_any _ _ _ _).mono ?_; rintro e w' ⟨rfl, rfl⟩) | (go_at_call 12; first | (refine (IsNumberR_any a _).mono ?_; rintro e w1 ⟨rfl, m1, rfl⟩; rw [HNA.out]) | (refine (IsNumberR_any b _).mono ?_; rintro e w1 ⟨rfl, m1, rfl⟩; rw [HNB.out]) | (refine (IsNumberR_any c _).mono ?_; rintro e w1 ⟨rfl, m1, rfl⟩; rw [HNC.out])) | (go_at_call 13; refine (withinR_any _ _ _ _).mono ?_; rintro e w' ⟨rfl, rfl⟩) | (go_at_call 14; refine (When_any _ _ _).mono ?_; rintro e w' ⟨rfl, rfl⟩))
            go_ret
            exact ⟨by rw [HE.out]; rfl, by (repeat (first | exact Below.refl _ _ | assumption | (refine Below.setCell ?_ (by first | (simp; done) | (simp; omega) | omega) _) | (refine Below.drew ?_) | (refine below_drewN ?_ _) | (refine Below.alloc ?_ (by first | (simp; done) | (simp; omega) | omega) _) | (refine Below.trans ?_ (Below.mono (by assumption) (by first | (simp; done) | (simp; omega) | omega)))))⟩
          · skip
            cases t1 : (FloatKind.f32.format.order b 0 == some .eq)
            · have HE : Hid (trE 1 a b c = 3) := Lib.hid (by rw [hsp]; unfold rig1; rw [t0, t1]; rfl)
              clear hsp
              go_enter Try.func5, Try.ntmps5
              go_wp2_with (first | (go_at_call 11; refine (In_any _ _ _ _).mono ?_; rintro e w' ⟨rfl, rfl⟩) | (go_at_call 12; first | (refine (IsNumberR_any a _).mono ?_; rintro e w1 ⟨rfl, m1, rfl⟩; rw [HNA.out]) | (refine (IsNumberR_any b _).mono ?_; rintro e w1 ⟨rfl, m1, rfl⟩; rw [HNB.out]) | (refine (IsNumberR_any c _).mono ?_; rintro e w1 ⟨rfl, m1, rfl⟩; rw [HNC.out])) | (go_at_call 13; refine (withinR_any _ _ _ _).mono ?_; rintro e w' ⟨rfl, rfl⟩) | (go_at_call 14; refine (When_any _ _ _).mono ?_; rintro e w' ⟨rfl, rfl⟩))
              go_ret
              exact ⟨by rw [HE.out]; rfl, by (repeat (first | exact Below.refl _ _ | assumption | (refine Below.setCell ?_ (by first | (simp; done) | (simp; omega) | omega) _) | (refine Below.drew ?_) | (refine below_drewN ?_ _) | (refine Below.alloc ?_ (by first | (simp; done) | (simp; omega) | omega) _) | (refine Below.trans ?_ (Below.mono (by assumption) (by first | (simp; done) | (simp; omega) | omega)))))⟩
            · skip
              cases t2 : (FloatKind.f32.format.order c 0 == some .eq)
              · have HE : Hid (trE 1 a b c = 3) := Lib.hid (by rw [hsp]; unfold rig1; rw [t0, t1, t2]; rfl)
                clear hsp
                go_enter Try.func5, Try.ntmps5
                go_wp2_with (first | (go_at_call 11; refine (In_any _ _ _ _).mono ?_; rintro e w' ⟨rfl, rfl⟩) | (go_at_call 12; first | (refine (IsNumberR_any a _).mono ?_; rintro e w1 ⟨rfl, m1, rfl⟩; rw [HNA.out]) | (refine (IsNumberR_any b _).mono ?_; rintro e w1 ⟨rfl, m1, rfl⟩; rw [HNB.out]) | (refine (IsNumberR_any c _).mono ?_; rintro e w1 ⟨rfl, m1, rfl⟩; rw [HNC.out])) | (go_at_call 13; refine (withinR_any _ _ _ _).mono ?_; rintro e w' ⟨rfl, rfl⟩) | (go_at_call 14; refine (When_any _ _ _).mono ?_; rintro e w' ⟨rfl, rfl⟩))
                go_ret
                exact ⟨by rw [HE.out]; rfl, by (repeat (first | exact Below.refl _ _ | assumption | (refine Below.setCell ?_ (by first | (simp; done) | (simp; omega) | omega) _) | (refine Below.drew ?_) | (refine below_drewN ?_ _) | (refine Below.alloc ?_ (by first | (simp; done) | (simp; omega) | omega) _) | (refine Below.trans ?_ (Below.mono (by assumption) (by first | (simp; done) | (simp; omega) | omega)))))⟩
              · skip
                have HE : Hid (trE 1 a b c = 0) := Lib.hid (by rw [hsp]; unfold rig1; rw [t0, t1, t2]; rfl)
                clear hsp
                go_enter Try.func5, Try.ntmps5
                go_wp2_with (first | (go_at_call 11; refine (In_any _ _ _ _).mono ?_; rintro e w' ⟨rfl, rfl⟩) | (go_at_call 12; first | (refine (IsNumberR_any a _).mono ?_; rintro e w1 ⟨rfl, m1, rfl⟩; rw [HNA.out]) | (refine (IsNumberR_any b _).mono ?_; rintro e w1 ⟨rfl, m1, rfl⟩; rw [HNB.out]) | (refine (IsNumberR_any c _).mono ?_; rintro e w1 ⟨rfl, m1, rfl⟩; rw [HNC.out])) | (go_at_call 13; refine (withinR_any _ _ _ _).mono ?_; rintro e w' ⟨rfl, rfl⟩) | (go_at_call 14; refine (When_any _ _ _).mono ?_; rintro e w' ⟨rfl, rfl⟩))
                go_ret
                exact ⟨by rw [HE.out]; rfl, by (repeat (first | exact Below.refl _ _ | assumption | (refine Below.setCell ?_ (by first | (simp; done) | (simp; omega) | omega) _) | (refine Below.drew ?_) | (refine below_drewN ?_ _) | (refine Below.alloc ?_ (by first | (simp; done) | (simp; omega) | omega) _) | (refine Below.trans ?_ (Below.mono (by assumption) (by first | (simp; done) | (simp; omega) | omega)))))⟩
        · have hsp : trE 2 a b c = if rig2 a b c then 0 else 3 := by unfold trE; rw [hn]; rfl
          clear hn h1 h5
          cases t0 : withinB a 1040187392 1090519040
          · have HE : Hid (trE 2 a b c = 3) := Lib.hid (by rw [hsp]; unfold rig2; rw [t0]; rfl)
            clear hsp
            go_enter Try.func5, Try.ntmps5
            go_wp2_with (first | (go_at_call 11; refine (In_any _ _ _ _).mono ?_; rintro e w' ⟨rfl, rfl⟩) | (go_at_call 12; first | (refine (IsNumberR_any a _).mono ?_; rintro e w1 ⟨rfl, m1, rfl⟩; rw [HNA.out]) | (refine (IsNumberR_any b _).mono ?_; rintro e w1 ⟨rfl, m1, rfl⟩; rw [HNB.out]) | (refine (IsNumberR_any c _).mono ?_; rintro e w1 ⟨rfl, m1, rfl⟩; rw [HNC.out])) | (go_at_call 13; refine (withinR_any _ _ _ _).mono ?_; rintro e w' ⟨rfl, rfl⟩) | (go_at_call 14; refine (When_any _ _ _).mono ?_; rintro e w' ⟨rfl, rfl⟩))
            go_ret
            exact ⟨by rw [HE.out]; rfl, by (repeat (first | exact Below.refl _ _ | assumption | (refine Below.setCell ?_ (by first | (simp; done) | (simp; omega) | omega) _) | (refine Below.drew ?_) | (refine below_drewN ?_ _) | (refine Below.alloc ?_ (by first | (simp; done) | (simp; omega) | omega) _) | (refine Below.trans ?_ (Below.mono (by assumption) (by first | (simp; done) | (simp; omega) | omega)))))⟩
          · skip
            cases t1 : (FloatKind.f32.format.order b 0 == some .eq)
            · have HE : Hid (trE 2 a b c = 3) := Lib.hid (by rw [hsp]; unfold rig2; rw [t0, t1]; rfl)
              clear hsp
              go_enter Try.func5, Try.ntmps5
              go_wp2_with (first | (go_at_call 11; refine (In_any _ _ _ _).mono ?_; rintro e w' ⟨rfl, rfl⟩) | (go_at_call 12; first | (refine (IsNumberR_any a _).mono ?_; rintro e w1 ⟨rfl, m1, rfl⟩; rw [HNA.out]) | (refine (IsNumberR_any b _).mono ?_; rintro e w1 ⟨rfl, m1, rfl⟩; rw [HNB.out]) | (refine (IsNumberR_any c _).mono ?_; rintro e w1 ⟨rfl, m1, rfl⟩; rw [HNC.out])) | (go_at_call 13; refine (withinR_any _ _ _ _).mono ?_; rintro e w' ⟨rfl, rfl⟩) | (go_at_call 14; refine (When_any _ _ _).mono ?_; rintro e w' ⟨rfl, rfl⟩))
              go_ret
              exact ⟨by rw [HE.out]; rfl, by (repeat (first | exact Below.refl _ _ | assumption | (refine Below.setCell ?_ (by first | (simp; done) | (simp; omega) | omega) _) | (refine Below.drew ?_) | (refine below_drewN ?_ _) | (refine Below.alloc ?_ (by first | (simp; done) | (simp; omega) | omega) _) | (refine Below.trans ?_ (Below.mono (by assumption) (by first | (simp; done) | (simp; omega) | omega)))))⟩
            · skip
              cases t2 : (FloatKind.f32.format.order c 0 == some .eq)
              · have HE : Hid (trE 2 a b c = 3) := Lib.hid (by rw [hsp]; unfold rig2; rw [t0, t1, t2]; rfl)
                clear hsp
                go_enter Try.func5, Try.ntmps5
                go_wp2_with (first | (go_at_call 11; refine (In_any _ _ _ _).mono ?_; rintro e w' ⟨rfl, rfl⟩) | (go_at_call 12; first | (refine (IsNumberR_any a _).mono ?_; rintro e w1 ⟨rfl, m1, rfl⟩; rw [HNA.out]) | (refine (IsNumberR_any b _).mono ?_; rintro e w1 ⟨rfl, m1, rfl⟩; rw [HNB.out]) | (refine (IsNumberR_any c _).mono ?_; rintro e w1 ⟨rfl, m1, rfl⟩; rw [HNC.out])) | (go_at_call 13; refine (withinR_any _ _ _ _).mono ?_; rintro e w' ⟨rfl, rfl⟩) | (go_at_call 14; refine (When_any _ _ _).mono ?_; rintro e w' ⟨rfl, rfl⟩))
                go_ret
                exact ⟨by rw [HE.out]; rfl, by (repeat (first | exact Below.refl _ _ | assumption | (refine Below.setCell ?_ (by first | (simp; done) | (simp; omega) | omega) _) | (refine Below.drew ?_) | (refine below_drewN ?_ _) | (refine Below.alloc ?_ (by first | (simp; done) | (simp; omega) | omega) _) | (refine Below.trans ?_ (Below.mono (by assumption) (by first | (simp; done) | (simp; omega) | omega)))))⟩
              · skip
                have HE : Hid (trE 2 a b c = 0) := Lib.hid (by rw [hsp]; unfold rig2; rw [t0, t1, t2]; rfl)
                clear hsp
                go_enter Try.func5, Try.ntmps5
                go_wp2_with (first | (go_at_call 11; refine (In_any _ _ _ _).mono ?_; rintro e w' ⟨rfl, rfl⟩) | (go_at_call 12; first | (refine (IsNumberR_any a _).mono ?_; rintro e w1 ⟨rfl, m1, rfl⟩; rw [HNA.out]) | (refine (IsNumberR_any b _).mono ?_; rintro e w1 ⟨rfl, m1, rfl⟩; rw [HNB.out]) | (refine (IsNumberR_any c _).mono ?_; rintro e w1 ⟨rfl, m1, rfl⟩; rw [HNC.out])) | (go_at_call 13; refine (withinR_any _ _ _ _).mono ?_; rintro e w' ⟨rfl, rfl⟩) | (go_at_call 14; refine (When_any _ _ _).mono ?_; rintro e w' ⟨rfl, rfl⟩))
                go_ret
                exact ⟨by rw [HE.out]; rfl, by (repeat (first | exact Below.refl _ _ | assumption | (refine Below.setCell ?_ (by first | (simp; done) | (simp; omega) | omega) _) | (refine Below.drew ?_) | (refine below_drewN ?_ _) | (refine Below.alloc ?_ (by first | (simp; done) | (simp; omega) | omega) _) | (refine Below.trans ?_ (Below.mono (by assumption) (by first | (simp; done) | (simp; omega) | omega)))))⟩
        · have hsp : trE 3 a b c = if rig3 a b c then 0 else 3 := by unfold trE; rw [hn]; rfl
          clear hn h1 h5
          cases t0 : withinB a 1065353216 1090519040
          · have HE : Hid (trE 3 a b c = 3) := Lib.hid (by rw [hsp]; unfold rig3; rw [t0]; rfl)
            clear hsp
            go_enter Try.func5, Try.ntmps5
            go_wp2_with (first | (go_at_call 11; refine (In_any _ _ _ _).mono ?_; rintro e w' ⟨rfl, rfl⟩) | (go_at_call 12; first | (refine (IsNumberR_any a _).mono ?_; rintro e w1 ⟨rfl, m1, rfl⟩; rw [HNA.out]) | (refine (IsNumberR_any b _).mono ?_; rintro e w1 ⟨rfl, m1, rfl⟩; rw [HNB.out]) | (refine (IsNumberR_any c _).mono ?_; rintro e w1 ⟨rfl, m1, rfl⟩; rw [HNC.out])) | (go_at_call 13; refine (withinR_any _ _ _ _).mono ?_; rintro e w' ⟨rfl, rfl⟩) | (go_at_call 14; refine (When_any _ _ _).mono ?_; rintro e w' ⟨rfl, rfl⟩))
            go_ret
            exact ⟨by rw [HE.out]; rfl, by (repeat (first | exact Below.refl _ _ | assumption | (refine Below.setCell ?_ (by first | (simp; done) | (simp; omega) | omega) _) | (refine Below.drew ?_) | (refine below_drewN ?_ _) | (refine Below.alloc ?_ (by first | (simp; done) | (simp; omega) | omega) _) | (refine Below.trans ?_ (Below.mono (by assumption) (by first | (simp; done) | (simp; omega) | omega)))))⟩
          · skip
            cases t1 : (FloatKind.f32.format.order b 0 == some .gt)
            · have HE : Hid (trE 3 a b c = 3) := Lib.hid (by rw [hsp]; unfold rig3; rw [t0, t1]; rfl)
              clear hsp
              go_enter Try.func5, Try.ntmps5
              go_wp2_with (first | (go_at_call 11; refine (In_any _ _ _ _).mono ?_; rintro e w' ⟨rfl, rfl⟩) | (go_at_call 12; first | (refine (IsNumberR_any a _).mono ?_; rintro e w1 ⟨rfl, m1, rfl⟩; rw [HNA.out]) | (refine (IsNumberR_any b _).mono ?_; rintro e w1 ⟨rfl, m1, rfl⟩; rw [HNB.out]) | (refine (IsNumberR_any c _).mono ?_; rintro e w1 ⟨rfl, m1, rfl⟩; rw [HNC.out])) | (go_at_call 13; refine (withinR_any _ _ _ _).mono ?_; rintro e w' ⟨rfl, rfl⟩) | (go_at_call 14; refine (When_any _ _ _).mono ?_; rintro e w' ⟨rfl, rfl⟩))
              go_ret
              exact ⟨by rw [HE.out]; rfl, by (repeat (first | exact Below.refl _ _ | assumption | (refine Below.setCell ?_ (by first | (simp; done) | (simp; omega) | omega) _) | (refine Below.drew ?_) | (refine below_drewN ?_ _) | (refine Below.alloc ?_ (by first | (simp; done) | (simp; omega) | omega) _) | (refine Below.trans ?_ (Below.mono (by assumption) (by first | (simp; done) | (simp; omega) | omega)))))⟩
            · skip
              cases t2 : ((FloatKind.f32.format.order b 1065353216 == some .lt) || (FloatKind.f32.format.order b 1065353216 == some .eq))
              · have HE : Hid (trE 3 a b c = 3) := Lib.hid (by rw [hsp]; unfold rig3; rw [t0, t1, t2]; rfl)
                clear hsp
                go_enter Try.func5, Try.ntmps5
                go_wp2_with (first | (go_at_call 11; refine (In_any _ _ _ _).mono ?_; rintro e w' ⟨rfl, rfl⟩) | (go_at_call 12; first | (refine (IsNumberR_any a _).mono ?_; rintro e w1 ⟨rfl, m1, rfl⟩; rw [HNA.out]) | (refine (IsNumberR_any b _).mono ?_; rintro e w1 ⟨rfl, m1, rfl⟩; rw [HNB.out]) | (refine (IsNumberR_any c _).mono ?_; rintro e w1 ⟨rfl, m1, rfl⟩; rw [HNC.out])) | (go_at_call 13; refine (withinR_any _ _ _ _).mono ?_; rintro e w' ⟨rfl, rfl⟩) | (go_at_call 14; refine (When_any _ _ _).mono ?_; rintro e w' ⟨rfl, rfl⟩))
                go_ret
                exact ⟨by rw [HE.out]; rfl, by (repeat (first | exact Below.refl _ _ | assumption | (refine Below.setCell ?_ (by first | (simp; done) | (simp; omega) | omega) _) | (refine Below.drew ?_) | (refine below_drewN ?_ _) | (refine Below.alloc ?_ (by first | (simp; done) | (simp; omega) | omega) _) | (refine Below.trans ?_ (Below.mono (by assumption) (by first | (simp; done) | (simp; omega) | omega)))))⟩
              · skip
                cases t3 : withinB c 1073741824 1115684864
                · have HE : Hid (trE 3 a b c = 3) := Lib.hid (by rw [hsp]; unfold rig3; rw [t0, t1, t2, t3]; rfl)
                  clear hsp
                  go_enter Try.func5, Try.ntmps5
                  go_wp2_with (first | (go_at_call 11; refine (In_any _ _ _ _).mono ?_; rintro e w' ⟨rfl, rfl⟩) | (go_at_call 12; first | (refine (IsNumberR_any a _).mono ?_; rintro e w1 ⟨rfl, m1, rfl⟩; rw [HNA.out]) | (refine (IsNumberR_any b _).mono ?_; rintro e w1 ⟨rfl, m1, rfl⟩; rw [HNB.out]) | (refine (IsNumberR_any c _).mono ?_; rintro e w1 ⟨rfl, m1, rfl⟩; rw [HNC.out])) | (go_at_call 13; refine (withinR_any _ _ _ _).mono ?_; rintro e w' ⟨rfl, rfl⟩) | (go_at_call 14; refine (When_any _ _ _).mono ?_; rintro e w' ⟨rfl, rfl⟩))
                  go_ret
                  exact ⟨by rw [HE.out]; rfl, by (repeat (first | exact Below.refl _ _ | assumption | (refine Below.setCell ?_ (by first | (simp; done) | (simp; omega) | omega) _) | (refine Below.drew ?_) | (refine below_drewN ?_ _) | (refine Below.alloc ?_ (by first | (simp; done) | (simp; omega) | omega) _) | (refine Below.trans ?_ (Below.mono (by assumption) (by first | (simp; done) | (simp; omega) | omega)))))⟩
                · skip
                  have HE : Hid (trE 3 a b c = 0) := Lib.hid (by rw [hsp]; unfold rig3; rw [t0, t1, t2, t3]; rfl)
                  clear hsp
                  go_enter Try.func5, Try.ntmps5
                  go_wp2_with (first | (go_at_call 11; refine (In_any _ _ _ _).mono ?_; rintro e w' ⟨rfl, rfl⟩) | (go_at_call 12; first | (refine (IsNumberR_any a _).mono ?_; rintro e w1 ⟨rfl, m1, rfl⟩; rw [HNA.out]) | (refine (IsNumberR_any b _).mono ?_; rintro e w1 ⟨rfl, m1, rfl⟩; rw [HNB.out]) | (refine (IsNumberR_any c _).mono ?_; rintro e w1 ⟨rfl, m1, rfl⟩; rw [HNC.out])) | (go_at_call 13; refine (withinR_any _ _ _ _).mono ?_; rintro e w' ⟨rfl, rfl⟩) | (go_at_call 14; refine (When_any _ _ _).mono ?_; rintro e w' ⟨rfl, rfl⟩))
                  go_ret
                  exact ⟨by rw [HE.out]; rfl, by (repeat (first | exact Below.refl _ _ | assumption | (refine Below.setCell ?_ (by first | (simp; done) | (simp; omega) | omega) _) | (refine Below.drew ?_) | (refine below_drewN ?_ _) | (refine Below.alloc ?_ (by first | (simp; done) | (simp; omega) | omega) _) | (refine Below.trans ?_ (Below.mono (by assumption) (by first | (simp; done) | (simp; omega) | omega)))))⟩
        · have hsp : trE 4 a b c = if rig4 a b c then 0 else 3 := by unfold trE; rw [hn]; rfl
          clear hn h1 h5
          cases t0 : withinB a 1065353216 1149239296
          · have HE : Hid (trE 4 a b c = 3) := Lib.hid (by rw [hsp]; unfold rig4; rw [t0]; rfl)
            clear hsp
            go_enter Try.func5, Try.ntmps5
            go_wp2_with (first | (go_at_call 11; refine (In_any _ _ _ _).mono ?_; rintro e w' ⟨rfl, rfl⟩) | (go_at_call 12; first | (refine (IsNumberR_any a _).mono ?_; rintro e w1 ⟨rfl, m1, rfl⟩; rw [HNA.out]) | (refine (IsNumberR_any b _).mono ?_; rintro e w1 ⟨rfl, m1, rfl⟩; rw [HNB.out]) | (refine (IsNumberR_any c _).mono ?_; rintro e w1 ⟨rfl, m1, rfl⟩; rw [HNC.out])) | (go_at_call 13; refine (withinR_any _ _ _ _).mono ?_; rintro e w' ⟨rfl, rfl⟩) | (go_at_call 14; refine (When_any _ _ _).mono ?_; rintro e w' ⟨rfl, rfl⟩))
            go_ret
            exact ⟨by rw [HE.out]; rfl, by (repeat (first | exact Below.refl _ _ | assumption | (refine Below.setCell ?_ (by first | (simp; done) | (simp; omega) | omega) _) | (refine Below.drew ?_) | (refine below_drewN ?_ _) | (refine Below.alloc ?_ (by first | (simp; done) | (simp; omega) | omega) _) | (refine Below.trans ?_ (Below.mono (by assumption) (by first | (simp; done) | (simp; omega) | omega)))))⟩
          · skip
            cases t1 : withinB b 981467136 1065353216
            · have HE : Hid (trE 4 a b c = 3) := Lib.hid (by rw [hsp]; unfold rig4; rw [t0, t1]; rfl)
              clear hsp
              go_enter Try.func5, Try.ntmps5
              go_wp2_with (first | (go_at_call 11; refine (In_any _ _ _ _).mono ?_; rintro e w' ⟨rfl, rfl⟩) | (go_at_call 12; first | (refine (IsNumberR_any a _).mono ?_; rintro e w1 ⟨rfl, m1, rfl⟩; rw [HNA.out]) | (refine (IsNumberR_any b _).mono ?_; rintro e w1 ⟨rfl, m1, rfl⟩; rw [HNB.out]) | (refine (IsNumberR_any c _).mono ?_; rintro e w1 ⟨rfl, m1, rfl⟩; rw [HNC.out])) | (go_at_call 13; refine (withinR_any _ _ _ _).mono ?_; rintro e w' ⟨rfl, rfl⟩) | (go_at_call 14; refine (When_any _ _ _).mono ?_; rintro e w' ⟨rfl, rfl⟩))
              go_ret
              exact ⟨by rw [HE.out]; rfl, by (repeat (first | exact Below.refl _ _ | assumption | (refine Below.setCell ?_ (by first | (simp; done) | (simp; omega) | omega) _) | (refine Below.drew ?_) | (refine below_drewN ?_ _) | (refine Below.alloc ?_ (by first | (simp; done) | (simp; omega) | omega) _) | (refine Below.trans ?_ (Below.mono (by assumption) (by first | (simp; done) | (simp; omega) | omega)))))⟩
            · skip
              cases t2 : (FloatKind.f32.format.order c 0 == some .eq)
              · have HE : Hid (trE 4 a b c = 3) := Lib.hid (by rw [hsp]; unfold rig4; rw [t0, t1, t2]; rfl)
                clear hsp
                go_enter Try.func5, Try.ntmps5
                go_wp2_with (first | (go_at_call 11; refine (In_any _ _ _ _).mono ?_; rintro e w' ⟨rfl, rfl⟩) | (go_at_call 12; first | (refine (IsNumberR_any a _).mono ?_; rintro e w1 ⟨rfl, m1, rfl⟩; rw [HNA.out]) | (refine (IsNumberR_any b _).mono ?_; rintro e w1 ⟨rfl, m1, rfl⟩; rw [HNB.out]) | (refine (IsNumberR_any c _).mono ?_; rintro e w1 ⟨rfl, m1, rfl⟩; rw [HNC.out])) | (go_at_call 13; refine (withinR_any _ _ _ _).mono ?_; rintro e w' ⟨rfl, rfl⟩) | (go_at_call 14; refine (When_any _ _ _).mono ?_; rintro e w' ⟨rfl, rfl⟩))
                go_ret
                exact ⟨by rw [HE.out]; rfl, by (repeat (first | exact Below.refl _ _ | assumption | (refine Below.setCell ?_ (by first | (simp; done) | (simp; omega) | omega) _) | (refine Below.drew ?_) | (refine below_drewN ?_ _) | (refine Below.alloc ?_ (by first | (simp; done) | (simp; omega) | omega) _) | (refine Below.trans ?_ (Below.mono (by assumption) (by first | (simp; done) | (simp; omega) | omega)))))⟩
              · skip
                have HE : Hid (trE 4 a b c = 0) := Lib.hid (by rw [hsp]; unfold rig4; rw [t0, t1, t2]; rfl)
                clear hsp
                go_enter Try.func5, Try.ntmps5
                go_wp2_with (first | (go_at_call 11; refine (In_any _ _ _ _).mono ?_; rintro e w' ⟨rfl, rfl⟩) | (go_at_call 12; first | (refine (IsNumberR_any a _).mono ?_; rintro e w1 ⟨rfl, m1, rfl⟩; rw [HNA.out]) | (refine (IsNumberR_any b _).mono ?_; rintro e w1 ⟨rfl, m1, rfl⟩; rw [HNB.out]) | (refine (IsNumberR_any c _).mono ?_; rintro e w1 ⟨rfl, m1, rfl⟩; rw [HNC.out])) | (go_at_call 13; refine (withinR_any _ _ _ _).mono ?_; rintro e w' ⟨rfl, rfl⟩) | (go_at_call 14; refine (When_any _ _ _).mono ?_; rintro e w' ⟨rfl, rfl⟩))
                go_ret
                exact ⟨by rw [HE.out]; rfl, by (repeat (first | exact Below.refl _ _ | assumption | (refine Below.setCell ?_ (by first | (simp; done) | (simp; omega) | omega) _) | (refine Below.drew ?_) | (refine below_drewN ?_ _) | (refine Below.alloc ?_ (by first | (simp; done) | (simp; omega) | omega) _) | (refine Below.trans ?_ (Below.mono (by assumption) (by first | (simp; done) | (simp; omega) | omega)))))⟩
        · have hsp : trE 5 a b c = if rig5 a b c then 0 else 3 := by unfold trE; rw [hn]; rfl
          clear hn h1 h5
          cases t0 : withinB a 1015021568 1115684864
          · have HE : Hid (trE 5 a b c = 3) := Lib.hid (by rw [hsp]; unfold rig5; rw [t0]; rfl)
            clear hsp
            go_enter Try.func5, Try.ntmps5
            go_wp2_with (first | (go_at_call 11; refine (In_any _ _ _ _).mono ?_; rintro e w' ⟨rfl, rfl⟩) | (go_at_call 12; first | (refine (IsNumberR_any a _).mono ?_; rintro e w1 ⟨rfl, m1, rfl⟩; rw [HNA.out]) | (refine (IsNumberR_any b _).mono ?_; rintro e w1 ⟨rfl, m1, rfl⟩; rw [HNB.out]) | (refine (IsNumberR_any c _).mono ?_; rintro e w1 ⟨rfl, m1, rfl⟩; rw [HNC.out])) | (go_at_call 13; refine (withinR_any _ _ _ _).mono ?_; rintro e w' ⟨rfl, rfl⟩) | (go_at_call 14; refine (When_any _ _ _).mono ?_; rintro e w' ⟨rfl, rfl⟩))
            go_ret
            exact ⟨by rw [HE.out]; rfl, by (repeat (first | exact Below.refl _ _ | assumption | (refine Below.setCell ?_ (by first | (simp; done) | (simp; omega) | omega) _) | (refine Below.drew ?_) | (refine below_drewN ?_ _) | (refine Below.alloc ?_ (by first | (simp; done) | (simp; omega) | omega) _) | (refine Below.trans ?_ (Below.mono (by assumption) (by first | (simp; done) | (simp; omega) | omega)))))⟩
          · skip
            cases t1 : (FloatKind.f32.format.order b 0 == some .eq)
            · have HE : Hid (trE 5 a b c = 3) := Lib.hid (by rw [hsp]; unfold rig5; rw [t0, t1]; rfl)
              clear hsp
              go_enter Try.func5, Try.ntmps5
              go_wp2_with (first | (go_at_call 11; refine (In_any _ _ _ _).mono ?_; rintro e w' ⟨rfl, rfl⟩) | (go_at_call 12; first | (refine (IsNumberR_any a _).mono ?_; rintro e w1 ⟨rfl, m1, rfl⟩; rw [HNA.out]) | (refine (IsNumberR_any b _).mono ?_; rintro e w1 ⟨rfl, m1, rfl⟩; rw [HNB.out]) | (refine (IsNumberR_any c _).mono ?_; rintro e w1 ⟨rfl, m1, rfl⟩; rw [HNC.out])) | (go_at_call 13; refine (withinR_any _ _ _ _).mono ?_; rintro e w' ⟨rfl, rfl⟩) | (go_at_call 14; refine (When_any _ _ _).mono ?_; rintro e w' ⟨rfl, rfl⟩))
              go_ret
              exact ⟨by rw [HE.out]; rfl, by (repeat (first | exact Below.refl _ _ | assumption | (refine Below.setCell ?_ (by first | (simp; done) | (simp; omega) | omega) _) | (refine Below.drew ?_) | (refine below_drewN ?_ _) | (refine Below.alloc ?_ (by first | (simp; done) | (simp; omega) | omega) _) | (refine Below.trans ?_ (Below.mono (by assumption) (by first | (simp; done) | (simp; omega) | omega)))))⟩
            · skip
              cases t2 : (FloatKind.f32.format.order c 0 == some .eq)
              · have HE : Hid (trE 5 a b c = 3) := Lib.hid (by rw [hsp]; unfold rig5; rw [t0, t1, t2]; rfl)
                clear hsp
                go_enter Try.func5, Try.ntmps5
                go_wp2_with (first | (go_at_call 11; refine (In_any _ _ _ _).mono ?_; rintro e w' ⟨rfl, rfl⟩) | (go_at_call 12; first | (refine (IsNumberR_any a _).mono ?_; rintro e w1 ⟨rfl, m1, rfl⟩; rw [HNA.out]) | (refine (IsNumberR_any b _).mono ?_; rintro e w1 ⟨rfl, m1, rfl⟩; rw [HNB.out]) | (refine (IsNumberR_any c _).mono ?_; rintro e w1 ⟨rfl, m1, rfl⟩; rw [HNC.out])) | (go_at_call 13; refine (withinR_any _ _ _ _).mono ?_; rintro e w' ⟨rfl, rfl⟩) | (go_at_call 14; refine (When_any _ _ _).mono ?_; rintro e w' ⟨rfl, rfl⟩))
                go_ret
                exact ⟨by rw [HE.out]; rfl, by (repeat (first | exact Below.refl _ _ | assumption | (refine Below.setCell ?_ (by first | (simp; done) | (simp; omega) | omega) _) | (refine Below.drew ?_) | (refine below_drewN ?_ _) | (refine Below.alloc ?_ (by first | (simp; done) | (simp; omega) | omega) _) | (refine Below.trans ?_ (Below.mono (by assumption) (by first | (simp; done) | (simp; omega) | omega)))))⟩
              · skip
                have HE : Hid (trE 5 a b c = 0) := Lib.hid (by rw [hsp]; unfold rig5; rw [t0, t1, t2]; rfl)
                clear hsp
                go_enter Try.func5, Try.ntmps5
                go_wp2_with (first | (go_at_call 11; refine (In_any _ _ _ _).mono ?_; rintro e w' ⟨rfl, rfl⟩) | (go_at_call 12; first | (refine (IsNumberR_any a _).mono ?_; rintro e w1 ⟨rfl, m1, rfl⟩; rw [HNA.out]) | (refine (IsNumberR_any b _).mono ?_; rintro e w1 ⟨rfl, m1, rfl⟩; rw [HNB.out]) | (refine (IsNumberR_any c _).mono ?_; rintro e w1 ⟨rfl, m1, rfl⟩; rw [HNC.out])) | (go_at_call 13; refine (withinR_any _ _ _ _).mono ?_; rintro e w' ⟨rfl, rfl⟩) | (go_at_call 14; refine (When_any _ _ _).mono ?_; rintro e w' ⟨rfl, rfl⟩))
                go_ret
                exact ⟨by rw [HE.out]; rfl, by (repeat (first | exact Below.refl _ _ | assumption | (refine Below.setCell ?_ (by first | (simp; done) | (simp; omega) | omega) _) | (refine Below.drew ?_) | (refine below_drewN ?_ _) | (refine Below.alloc ?_ (by first | (simp; done) | (simp; omega) | omega) _) | (refine Below.trans ?_ (Below.mono (by assumption) (by first | (simp; done) | (simp; omega) | omega)))))⟩
end Go.Proofs.Ytokmjboaeamogaa
