/- The error of a transfer, by the program and by the document. No condition. -/
import Derived.Test.YtokmjboaeamogaaHueA
namespace Go.Proofs.Ytokmjboaeamogaa
open Go Go.RowKit
def IntIs (n : Int) (B : Nat) (w : World) (e : Ending) (w' : World) : Prop := e = .returned (.int .i64 n) ∧ Below B w w'
def withinB (x l h : Nat) : Bool := ((FloatKind.f32.format.order x l == some .gt) || (FloatKind.f32.format.order x l == some .eq)) && ((FloatKind.f32.format.order x h == some .lt) || (FloatKind.f32.format.order x h == some .eq))
def rig1 (a b c : Nat) : Bool := (FloatKind.f32.format.order a 0 == some .eq) && ((FloatKind.f32.format.order b 0 == some .eq) && ((FloatKind.f32.format.order c 0 == some .eq)))
def rig2 (a b c : Nat) : Bool := withinB a 1040187392 1090519040 && ((FloatKind.f32.format.order b 0 == some .eq) && ((FloatKind.f32.format.order c 0 == some .eq)))
def rig3 (a b c : Nat) : Bool := withinB a 1065353216 1090519040 && ((FloatKind.f32.format.order b 0 == some .gt) && (((FloatKind.f32.format.order b 1065353216 == some .lt) || (FloatKind.f32.format.order b 1065353216 == some .eq)) && (withinB c 1073741824 1115684864)))
def rig4 (a b c : Nat) : Bool := withinB a 1065353216 1149239296 && (withinB b 981467136 1065353216 && ((FloatKind.f32.format.order c 0 == some .eq)))
def rig5 (a b c : Nat) : Bool := withinB a 1015021568 1115684864 && ((FloatKind.f32.format.order b 0 == some .eq) && ((FloatKind.f32.format.order c 0 == some .eq)))
def trE (k : Int) (a b c : Nat) : Int := if k < 1 then 1 else if 5 < k then 1 else if allNum [a, b, c] then (if (if k = 1 then rig1 a b c else if k = 2 then rig2 a b c else if k = 3 then rig3 a b c else if k = 4 then rig4 a b c else rig5 a b c) then 0 else 3) else 2
abbrev trV (k : Int) (a b c : Nat) : Value := .agg #[.int .i64 k, .float .f32 a, .float .f32 b, .float .f32 c]
theorem allNum_3 (h s v : Nat) : allNum [h, s, v] = (isNum .f32 h && (isNum .f32 s && isNum .f32 v)) := by simp [allNum]
theorem within_any (x l h : Nat) (w : World) : Calls Try.prog 24 #[.float .f32 x, .float .f32 l, .float .f32 h] w fun e w' => e = .returned (.bool (withinB x l h)) ∧ w = w' := by
  unfold withinB
  cases h1 : ((FloatKind.f32.format.order x l == some .gt) || (FloatKind.f32.format.order x l == some .eq))
  · go_enter Try.func24, Try.ntmps24
    go_wp2
    go_ret
    exact ⟨rfl, rfl⟩
  · go_enter Try.func24, Try.ntmps24
    go_wp2
    go_ret
    exact ⟨rfl, rfl⟩
theorem withinR_any (x l h : Nat) (w : World) : Calls Try.prog 13 #[.float .f32 x, .float .f32 l, .float .f32 h] w fun e w' => e = .returned (.bool (withinB x l h)) ∧ w = w' := by
  unfold withinB
  cases h1 : ((FloatKind.f32.format.order x l == some .gt) || (FloatKind.f32.format.order x l == some .eq))
  · go_enter Try.func13, Try.ntmps13
    go_wp2
    go_ret
    exact ⟨rfl, rfl⟩
  · go_enter Try.func13, Try.ntmps13
    go_wp2
    go_ret
    exact ⟨rfl, rfl⟩
set_option maxRecDepth 100000 in
set_option maxHeartbeats 12800000 in
theorem CheckTransfer_any (k : Int) (a b c : Nat) (w : World) : Calls Try.prog 15 #[trV k a b c] w (IntIs (trE k a b c) w.heap.size w) := by
  by_cases h1 : k < 1
  · have HE : Hid (trE k a b c = 1) := Lib.hid (by unfold trE; rw [if_pos h1])
    have h2 : ¬ 1 ≤ k := by omega
    go_enter Try.func15, Try.ntmps15
    go_wp2_with fail
    go_ret
    exact ⟨by rw [HE.out]; rfl, by (repeat (first | exact Below.refl _ _ | assumption | (refine Below.setCell ?_ (by first | (simp; done) | (simp; omega) | omega) _) | (refine Below.drew ?_) | (refine below_drewN ?_ _) | (refine Below.alloc ?_ (by first | (simp; done) | (simp; omega) | omega) _) | (refine Below.trans ?_ (Below.mono (by assumption) (by first | (simp; done) | (simp; omega) | omega)))))⟩
  by_cases h5 : 5 < k
  · have HE : Hid (trE k a b c = 1) := Lib.hid (by unfold trE; rw [if_neg h1, if_pos h5])
    have h2 : 1 ≤ k := by omega
    have h3 : ¬ k ≤ 5 := by omega
    go_enter Try.func15, Try.ntmps15
    go_wp2_with fail
    go_ret
    exact ⟨by rw [HE.out]; rfl, by (repeat (first | exact Below.refl _ _ | assumption | (refine Below.setCell ?_ (by first | (simp; done) | (simp; omega) | omega) _) | (refine Below.drew ?_) | (refine below_drewN ?_ _) | (refine Below.alloc ?_ (by first | (simp; done) | (simp; omega) | omega) _) | (refine Below.trans ?_ (Below.mono (by assumption) (by first | (simp; done) | (simp; omega) | omega)))))⟩
  cases hn : allNum [a, b, c]
  · have HN := Lib.hid hn
    have HE : Hid (trE k a b c = 2) := Lib.hid (by unfold trE; rw [if_neg h1, if_neg h5, hn]; rfl)
    clear hn
    have h2 : 1 ≤ k := by omega
    have h3 : k ≤ 5 := by omega
    go_enter Try.func15, Try.ntmps15
    go_wp2_with (first | (go_at_call 23; refine (All3_any _ _ _ a b c _ (by simp [go_sem]) (by simp [go_sem]) (by simp [go_sem])).mono ?_; rintro e w1 ⟨rfl, rfl⟩; rw [HN.out]) | (go_at_call 24; refine (within_any _ _ _ _).mono ?_; rintro e w' ⟨rfl, rfl⟩))
    go_ret
    exact ⟨by rw [HE.out]; rfl, by (repeat (first | exact Below.refl _ _ | assumption | (refine Below.setCell ?_ (by first | (simp; done) | (simp; omega) | omega) _) | (refine Below.drew ?_) | (refine below_drewN ?_ _) | (refine Below.alloc ?_ (by first | (simp; done) | (simp; omega) | omega) _) | (refine Below.trans ?_ (Below.mono (by assumption) (by first | (simp; done) | (simp; omega) | omega)))))⟩
  · have HN := Lib.hid hn
    rcases (show k = 1 ∨ k = 2 ∨ k = 3 ∨ k = 4 ∨ k = 5 by omega) with rfl | rfl | rfl | rfl | rfl
    · have hsp : trE 1 a b c = if rig1 a b c then 0 else 3 := by unfold trE; rw [hn]; rfl
      clear hn h1 h5
      cases t0 : (FloatKind.f32.format.order a 0 == some .eq)
      · have HE : Hid (trE 1 a b c = 3) := Lib.hid (by rw [hsp]; unfold rig1; rw [t0]; rfl)
        clear hsp
        go_enter Try.func15, Try.ntmps15
        go_wp2_with (first | (go_at_call 23; refine (All3_any _ _ _ a b c _ (by simp [go_sem]) (by simp [go_sem]) (by simp [go_sem])).mono ?_; rintro e w1 ⟨rfl, rfl⟩; rw [HN.out]) | (go_at_call 24; refine (within_any _ _ _ _).mono ?_; rintro e w' ⟨rfl, rfl⟩))
        go_ret
        exact ⟨by rw [HE.out]; rfl, by (repeat (first | exact Below.refl _ _ | assumption | (refine Below.setCell ?_ (by first | (simp; done) | (simp; omega) | omega) _) | (refine Below.drew ?_) | (refine below_drewN ?_ _) | (refine Below.alloc ?_ (by first | (simp; done) | (simp; omega) | omega) _) | (refine Below.trans ?_ (Below.mono (by assumption) (by first | (simp; done) | (simp; omega) | omega)))))⟩
      · skip
        cases t1 : (FloatKind.f32.format.order b 0 == some .eq)
        · have HE : Hid (trE 1 a b c = 3) := Lib.hid (by rw [hsp]; unfold rig1; rw [t0, t1]; rfl)
          clear hsp
          go_enter Try.func15, Try.ntmps15
          go_wp2_with (first | (go_at_call 23; refine (All3_any _ _ _ a b c _ (by simp [go_sem]) (by simp [go_sem]) (by simp [go_sem])).mono ?_; rintro e w1 ⟨rfl, rfl⟩; rw [HN.out]) | (go_at_call 24; refine (within_any _ _ _ _).mono ?_; rintro e w' ⟨rfl, rfl⟩))
          go_ret
          exact ⟨by rw [HE.out]; rfl, by (repeat (first | exact Below.refl _ _ | assumption | (refine Below.setCell ?_ (by first | (simp; done) | (simp; omega) | omega) _) | (refine Below.drew ?_) | (refine below_drewN ?_ _) | (refine Below.alloc ?_ (by first | (simp; done) | (simp; omega) | omega) _) | (refine Below.trans ?_ (Below.mono (by assumption) (by first | (simp; done) | (simp; omega) | omega)))))⟩
        · skip
          cases t2 : (FloatKind.f32.format.order c 0 == some .eq)
          · have HE : Hid (trE 1 a b c = 3) := Lib.hid (by rw [hsp]; unfold rig1; rw [t0, t1, t2]; rfl)
            clear hsp
            go_enter Try.func15, Try.ntmps15
            go_wp2_with (first | (go_at_call 23; refine (All3_any _ _ _ a b c _ (by simp [go_sem]) (by simp [go_sem]) (by simp [go_sem])).mono ?_; rintro e w1 ⟨rfl, rfl⟩; rw [HN.out]) | (go_at_call 24; refine (within_any _ _ _ _).mono ?_; rintro e w' ⟨rfl, rfl⟩))
            go_ret
            exact ⟨by rw [HE.out]; rfl, by (repeat (first | exact Below.refl _ _ | assumption | (refine Below.setCell ?_ (by first | (simp; done) | (simp; omega) | omega) _) | (refine Below.drew ?_) | (refine below_drewN ?_ _) | (refine Below.alloc ?_ (by first | (simp; done) | (simp; omega) | omega) _) | (refine Below.trans ?_ (Below.mono (by assumption) (by first | (simp; done) | (simp; omega) | omega)))))⟩
          · skip
            have HE : Hid (trE 1 a b c = 0) := Lib.hid (by rw [hsp]; unfold rig1; rw [t0, t1, t2]; rfl)
            clear hsp
            go_enter Try.func15, Try.ntmps15
            go_wp2_with (first | (go_at_call 23; refine (All3_any _ _ _ a b c _ (by simp [go_sem]) (by simp [go_sem]) (by simp [go_sem])).mono ?_; rintro e w1 ⟨rfl, rfl⟩; rw [HN.out]) | (go_at_call 24; refine (within_any _ _ _ _).mono ?_; rintro e w' ⟨rfl, rfl⟩))
            go_ret
            exact ⟨by rw [HE.out]; rfl, by (repeat (first | exact Below.refl _ _ | assumption | (refine Below.setCell ?_ (by first | (simp; done) | (simp; omega) | omega) _) | (refine Below.drew ?_) | (refine below_drewN ?_ _) | (refine Below.alloc ?_ (by first | (simp; done) | (simp; omega) | omega) _) | (refine Below.trans ?_ (Below.mono (by assumption) (by first | (simp; done) | (simp; omega) | omega)))))⟩
    · have hsp : trE 2 a b c = if rig2 a b c then 0 else 3 := by unfold trE; rw [hn]; rfl
      clear hn h1 h5
      cases t0 : withinB a 1040187392 1090519040
      · have HE : Hid (trE 2 a b c = 3) := Lib.hid (by rw [hsp]; unfold rig2; rw [t0]; rfl)
        clear hsp
        go_enter Try.func15, Try.ntmps15
        go_wp2_with (first | (go_at_call 23; refine (All3_any _ _ _ a b c _ (by simp [go_sem]) (by simp [go_sem]) (by simp [go_sem])).mono ?_; rintro e w1 ⟨rfl, rfl⟩; rw [HN.out]) | (go_at_call 24; refine (within_any _ _ _ _).mono ?_; rintro e w' ⟨rfl, rfl⟩))
        go_ret
        exact ⟨by rw [HE.out]; rfl, by (repeat (first | exact Below.refl _ _ | assumption | (refine Below.setCell ?_ (by first | (simp; done) | (simp; omega) | omega) _) | (refine Below.drew ?_) | (refine below_drewN ?_ _) | (refine Below.alloc ?_ (by first | (simp; done) | (simp; omega) | omega) _) | (refine Below.trans ?_ (Below.mono (by assumption) (by first | (simp; done) | (simp; omega) | omega)))))⟩
      · skip
        cases t1 : (FloatKind.f32.format.order b 0 == some .eq)
        · have HE : Hid (trE 2 a b c = 3) := Lib.hid (by rw [hsp]; unfold rig2; rw [t0, t1]; rfl)
          clear hsp
          go_enter Try.func15, Try.ntmps15
          go_wp2_with (first | (go_at_call 23; refine (All3_any _ _ _ a b c _ (by simp [go_sem]) (by simp [go_sem]) (by simp [go_sem])).mono ?_; rintro e w1 ⟨rfl, rfl⟩; rw [HN.out]) | (go_at_call 24; refine (within_any _ _ _ _).mono ?_; rintro e w' ⟨rfl, rfl⟩))
          go_ret
          exact ⟨by rw [HE.out]; rfl, by (repeat (first | exact Below.refl _ _ | assumption | (refine Below.setCell ?_ (by first | (simp; done) | (simp; omega) | omega) _) | (refine Below.drew ?_) | (refine below_drewN ?_ _) | (refine Below.alloc ?_ (by first | (simp; done) | (simp; omega) | omega) _) | (refine Below.trans ?_ (Below.mono (by assumption) (by first | (simp; done) | (simp; omega) | omega)))))⟩
        · skip
          cases t2 : (FloatKind.f32.format.order c 0 == some .eq)
          · have HE : Hid (trE 2 a b c = 3) := Lib.hid (by rw [hsp]; unfold rig2; rw [t0, t1, t2]; rfl)
            clear hsp
            go_enter Try.func15, Try.ntmps15
            go_wp2_with (first | (go_at_call 23; refine (All3_any _ _ _ a b c _ (by simp [go_sem]) (by simp [go_sem]) (by simp [go_sem])).mono ?_; rintro e w1 ⟨rfl, rfl⟩; rw [HN.out]) | (go_at_call 24; refine (within_any _ _ _ _).mono ?_; rintro e w' ⟨rfl, rfl⟩))
            go_ret
            exact ⟨by rw [HE.out]; rfl, by (repeat (first | exact Below.refl _ _ | assumption | (refine Below.setCell ?_ (by first | (simp; done) | (simp; omega) | omega) _) | (refine Below.drew ?_) | (refine below_drewN ?_ _) | (refine Below.alloc ?_ (by first | (simp; done) | (simp; omega) | omega) _) | (refine Below.trans ?_ (Below.mono (by assumption) (by first | (simp; done) | (simp; omega) | omega)))))⟩
          · skip
            have HE : Hid (trE 2 a b c = 0) := Lib.hid (by rw [hsp]; unfold rig2; rw [t0, t1, t2]; rfl)
            clear hsp
            go_enter Try.func15, Try.ntmps15
            go_wp2_with (first | (go_at_call 23; refine (All3_any _ _ _ a b c _ (by simp [go_sem]) (by simp [go_sem]) (by simp [go_sem])).mono ?_; rintro e w1 ⟨rfl, rfl⟩; rw [HN.out]) | (go_at_call 24; refine (within_any _ _ _ _).mono ?_; rintro e w' ⟨rfl, rfl⟩))
            go_ret
            exact ⟨by rw [HE.out]; rfl, by (repeat (first | exact Below.refl _ _ | assumption | (refine Below.setCell ?_ (by first | (simp; done) | (simp; omega) | omega) _) | (refine Below.drew ?_) | (refine below_drewN ?_ _) | (refine Below.alloc ?_ (by first | (simp; done) | (simp; omega) | omega) _) | (refine Below.trans ?_ (Below.mono (by assumption) (by first | (simp; done) | (simp; omega) | omega)))))⟩
    · have hsp : trE 3 a b c = if rig3 a b c then 0 else 3 := by unfold trE; rw [hn]; rfl
      clear hn h1 h5
      cases t0 : withinB a 1065353216 1090519040
      · have HE : Hid (trE 3 a b c = 3) := Lib.hid (by rw [hsp]; unfold rig3; rw [t0]; rfl)
        clear hsp
        go_enter Try.func15, Try.ntmps15
        go_wp2_with (first | (go_at_call 23; refine (All3_any _ _ _ a b c _ (by simp [go_sem]) (by simp [go_sem]) (by simp [go_sem])).mono ?_; rintro e w1 ⟨rfl, rfl⟩; rw [HN.out]) | (go_at_call 24; refine (within_any _ _ _ _).mono ?_; rintro e w' ⟨rfl, rfl⟩))
        go_ret
        exact ⟨by rw [HE.out]; rfl, by (repeat (first | exact Below.refl _ _ | assumption | (refine Below.setCell ?_ (by first | (simp; done) | (simp; omega) | omega) _) | (refine Below.drew ?_) | (refine below_drewN ?_ _) | (refine Below.alloc ?_ (by first | (simp; done) | (simp; omega) | omega) _) | (refine Below.trans ?_ (Below.mono (by assumption) (by first | (simp; done) | (simp; omega) | omega)))))⟩
      · skip
        cases t1 : (FloatKind.f32.format.order b 0 == some .gt)
        · have HE : Hid (trE 3 a b c = 3) := Lib.hid (by rw [hsp]; unfold rig3; rw [t0, t1]; rfl)
          clear hsp
          go_enter Try.func15, Try.ntmps15
          go_wp2_with (first | (go_at_call 23; refine (All3_any _ _ _ a b c _ (by simp [go_sem]) (by simp [go_sem]) (by simp [go_sem])).mono ?_; rintro e w1 ⟨rfl, rfl⟩; rw [HN.out]) | (go_at_call 24; refine (within_any _ _ _ _).mono ?_; rintro e w' ⟨rfl, rfl⟩))
          go_ret
          exact ⟨by rw [HE.out]; rfl, by (repeat (first | exact Below.refl _ _ | assumption | (refine Below.setCell ?_ (by first | (simp; done) | (simp; omega) | omega) _) | (refine Below.drew ?_) | (refine below_drewN ?_ _) | (refine Below.alloc ?_ (by first | (simp; done) | (simp; omega) | omega) _) | (refine Below.trans ?_ (Below.mono (by assumption) (by first | (simp; done) | (simp; omega) | omega)))))⟩
        · skip
          cases t2 : ((FloatKind.f32.format.order b 1065353216 == some .lt) || (FloatKind.f32.format.order b 1065353216 == some .eq))
          · have HE : Hid (trE 3 a b c = 3) := Lib.hid (by rw [hsp]; unfold rig3; rw [t0, t1, t2]; rfl)
            clear hsp
            go_enter Try.func15, Try.ntmps15
            go_wp2_with (first | (go_at_call 23; refine (All3_any _ _ _ a b c _ (by simp [go_sem]) (by simp [go_sem]) (by simp [go_sem])).mono ?_; rintro e w1 ⟨rfl, rfl⟩; rw [HN.out]) | (go_at_call 24; refine (within_any _ _ _ _).mono ?_; rintro e w' ⟨rfl, rfl⟩))
            go_ret
            exact ⟨by rw [HE.out]; rfl, by (repeat (first | exact Below.refl _ _ | assumption | (refine Below.setCell ?_ (by first | (simp; done) | (simp; omega) | omega) _) | (refine Below.drew ?_) | (refine below_drewN ?_ _) | (refine Below.alloc ?_ (by first | (simp; done) | (simp; omega) | omega) _) | (refine Below.trans ?_ (Below.mono (by assumption) (by first | (simp; done) | (simp; omega) | omega)))))⟩
          · skip
            cases t3 : withinB c 1073741824 1115684864
            · have HE : Hid (trE 3 a b c = 3) := Lib.hid (by rw [hsp]; unfold rig3; rw [t0, t1, t2, t3]; rfl)
              clear hsp
              go_enter Try.func15, Try.ntmps15
              go_wp2_with (first | (go_at_call 23; refine (All3_any _ _ _ a b c _ (by simp [go_sem]) (by simp [go_sem]) (by simp [go_sem])).mono ?_; rintro e w1 ⟨rfl, rfl⟩; rw [HN.out]) | (go_at_call 24; refine (within_any _ _ _ _).mono ?_; rintro e w' ⟨rfl, rfl⟩))
              go_ret
              exact ⟨by rw [HE.out]; rfl, by (repeat (first | exact Below.refl _ _ | assumption | (refine Below.setCell ?_ (by first | (simp; done) | (simp; omega) | omega) _) | (refine Below.drew ?_) | (refine below_drewN ?_ _) | (refine Below.alloc ?_ (by first | (simp; done) | (simp; omega) | omega) _) | (refine Below.trans ?_ (Below.mono (by assumption) (by first | (simp; done) | (simp; omega) | omega)))))⟩
            · skip
              have HE : Hid (trE 3 a b c = 0) := Lib.hid (by rw [hsp]; unfold rig3; rw [t0, t1, t2, t3]; rfl)
              clear hsp
              go_enter Try.func15, Try.ntmps15
              go_wp2_with (first | (go_at_call 23; refine (All3_any _ _ _ a b c _ (by simp [go_sem]) (by simp [go_sem]) (by simp [go_sem])).mono ?_; rintro e w1 ⟨rfl, rfl⟩; rw [HN.out]) | (go_at_call 24; refine (within_any _ _ _ _).mono ?_; rintro e w' ⟨rfl, rfl⟩))
              go_ret
              exact ⟨by rw [HE.out]; rfl, by (repeat (first | exact Below.refl _ _ | assumption | (refine Below.setCell ?_ (by first | (simp; done) | (simp; omega) | omega) _) | (refine Below.drew ?_) | (refine below_drewN ?_ _) | (refine Below.alloc ?_ (by first | (simp; done) | (simp; omega) | omega) _) | (refine Below.trans ?_ (Below.mono (by assumption) (by first | (simp; done) | (simp; omega) | omega)))))⟩
    · have hsp : trE 4 a b c = if rig4 a b c then 0 else 3 := by unfold trE; rw [hn]; rfl
      clear hn h1 h5
      cases t0 : withinB a 1065353216 1149239296
      · have HE : Hid (trE 4 a b c = 3) := Lib.hid (by rw [hsp]; unfold rig4; rw [t0]; rfl)
        clear hsp
        go_enter Try.func15, Try.ntmps15
        go_wp2_with (first | (go_at_call 23; refine (All3_any _ _ _ a b c _ (by simp [go_sem]) (by simp [go_sem]) (by simp [go_sem])).mono ?_; rintro e w1 ⟨rfl, rfl⟩; rw [HN.out]) | (go_at_call 24; refine (within_any _ _ _ _).mono ?_; rintro e w' ⟨rfl, rfl⟩))
        go_ret
        exact ⟨by rw [HE.out]; rfl, by (repeat (first | exact Below.refl _ _ | assumption | (refine Below.setCell ?_ (by first | (simp; done) | (simp; omega) | omega) _) | (refine Below.drew ?_) | (refine below_drewN ?_ _) | (refine Below.alloc ?_ (by first | (simp; done) | (simp; omega) | omega) _) | (refine Below.trans ?_ (Below.mono (by assumption) (by first | (simp; done) | (simp; omega) | omega)))))⟩
      · skip
        cases t1 : withinB b 981467136 1065353216
        · have HE : Hid (trE 4 a b c = 3) := Lib.hid (by rw [hsp]; unfold rig4; rw [t0, t1]; rfl)
          clear hsp
          go_enter Try.func15, Try.ntmps15
          go_wp2_with (first | (go_at_call 23; refine (All3_any _ _ _ a b c _ (by simp [go_sem]) (by simp [go_sem]) (by simp [go_sem])).mono ?_; rintro e w1 ⟨rfl, rfl⟩; rw [HN.out]) | (go_at_call 24; refine (within_any _ _ _ _).mono ?_; rintro e w' ⟨rfl, rfl⟩))
          go_ret
          exact ⟨by rw [HE.out]; rfl, by (repeat (first | exact Below.refl _ _ | assumption | (refine Below.setCell ?_ (by first | (simp; done) | (simp; omega) | omega) _) | (refine Below.drew ?_) | (refine below_drewN ?_ _) | (refine Below.alloc ?_ (by first | (simp; done) | (simp; omega) | omega) _) | (refine Below.trans ?_ (Below.mono (by assumption) (by first | (simp; done) | (simp; omega) | omega)))))⟩
        · skip
          cases t2 : (FloatKind.f32.format.order c 0 == some .eq)
          · have HE : Hid (trE 4 a b c = 3) := Lib.hid (by rw [hsp]; unfold rig4; rw [t0, t1, t2]; rfl)
            clear hsp
            go_enter Try.func15, Try.ntmps15
            go_wp2_with (first | (go_at_call 23; refine (All3_any _ _ _ a b c _ (by simp [go_sem]) (by simp [go_sem]) (by simp [go_sem])).mono ?_; rintro e w1 ⟨rfl, rfl⟩; rw [HN.out]) | (go_at_call 24; refine (within_any _ _ _ _).mono ?_; rintro e w' ⟨rfl, rfl⟩))
            go_ret
            exact ⟨by rw [HE.out]; rfl, by (repeat (first | exact Below.refl _ _ | assumption | (refine Below.setCell ?_ (by first | (simp; done) | (simp; omega) | omega) _) | (refine Below.drew ?_) | (refine below_drewN ?_ _) | (refine Below.alloc ?_ (by first | (simp; done) | (simp; omega) | omega) _) | (refine Below.trans ?_ (Below.mono (by assumption) (by first | (simp; done) | (simp; omega) | omega)))))⟩
          · skip
            have HE : Hid (trE 4 a b c = 0) := Lib.hid (by rw [hsp]; unfold rig4; rw [t0, t1, t2]; rfl)
            clear hsp
            go_enter Try.func15, Try.ntmps15
            go_wp2_with (first | (go_at_call 23; refine (All3_any _ _ _ a b c _ (by simp [go_sem]) (by simp [go_sem]) (by simp [go_sem])).mono ?_; rintro e w1 ⟨rfl, rfl⟩; rw [HN.out]) | (go_at_call 24; refine (within_any _ _ _ _).mono ?_; rintro e w' ⟨rfl, rfl⟩))
            go_ret
            exact ⟨by rw [HE.out]; rfl, by (repeat (first | exact Below.refl _ _ | assumption | (refine Below.setCell ?_ (by first | (simp; done) | (simp; omega) | omega) _) | (refine Below.drew ?_) | (refine below_drewN ?_ _) | (refine Below.alloc ?_ (by first | (simp; done) | (simp; omega) | omega) _) | (refine Below.trans ?_ (Below.mono (by assumption) (by first | (simp; done) | (simp; omega) | omega)))))⟩
    · have hsp : trE 5 a b c = if rig5 a b c then 0 else 3 := by unfold trE; rw [hn]; rfl
      clear hn h1 h5
      cases t0 : withinB a 1015021568 1115684864
      · have HE : Hid (trE 5 a b c = 3) := Lib.hid (by rw [hsp]; unfold rig5; rw [t0]; rfl)
        clear hsp
        go_enter Try.func15, Try.ntmps15
        go_wp2_with (first | (go_at_call 23; refine (All3_any _ _ _ a b c _ (by simp [go_sem]) (by simp [go_sem]) (by simp [go_sem])).mono ?_; rintro e w1 ⟨rfl, rfl⟩; rw [HN.out]) | (go_at_call 24; refine (within_any _ _ _ _).mono ?_; rintro e w' ⟨rfl, rfl⟩))
        go_ret
        exact ⟨by rw [HE.out]; rfl, by (repeat (first | exact Below.refl _ _ | assumption | (refine Below.setCell ?_ (by first | (simp; done) | (simp; omega) | omega) _) | (refine Below.drew ?_) | (refine below_drewN ?_ _) | (refine Below.alloc ?_ (by first | (simp; done) | (simp; omega) | omega) _) | (refine Below.trans ?_ (Below.mono (by assumption) (by first | (simp; done) | (simp; omega) | omega)))))⟩
      · skip
        cases t1 : (FloatKind.f32.format.order b 0 == some .eq)
        · have HE : Hid (trE 5 a b c = 3) := Lib.hid (by rw [hsp]; unfold rig5; rw [t0, t1]; rfl)
          clear hsp
          go_enter Try.func15, Try.ntmps15
          go_wp2_with (first | (go_at_call 23; refine (All3_any _ _ _ a b c _ (by simp [go_sem]) (by simp [go_sem]) (by simp [go_sem])).mono ?_; rintro e w1 ⟨rfl, rfl⟩; rw [HN.out]) | (go_at_call 24; refine (within_any _ _ _ _).mono ?_; rintro e w' ⟨rfl, rfl⟩))
          go_ret
          exact ⟨by rw [HE.out]; rfl, by (repeat (first | exact Below.refl _ _ | assumption | (refine Below.setCell ?_ (by first | (simp; done) | (simp; omega) | omega) _) | (refine Below.drew ?_) | (refine below_drewN ?_ _) | (refine Below.alloc ?_ (by first | (simp; done) | (simp; omega) | omega) _) | (refine Below.trans ?_ (Below.mono (by assumption) (by first | (simp; done) | (simp; omega) | omega)))))⟩
        · skip
          cases t2 : (FloatKind.f32.format.order c 0 == some .eq)
          · have HE : Hid (trE 5 a b c = 3) := Lib.hid (by rw [hsp]; unfold rig5; rw [t0, t1, t2]; rfl)
            clear hsp
            go_enter Try.func15, Try.ntmps15
            go_wp2_with (first | (go_at_call 23; refine (All3_any _ _ _ a b c _ (by simp [go_sem]) (by simp [go_sem]) (by simp [go_sem])).mono ?_; rintro e w1 ⟨rfl, rfl⟩; rw [HN.out]) | (go_at_call 24; refine (within_any _ _ _ _).mono ?_; rintro e w' ⟨rfl, rfl⟩))
            go_ret
            exact ⟨by rw [HE.out]; rfl, by (repeat (first | exact Below.refl _ _ | assumption | (refine Below.setCell ?_ (by first | (simp; done) | (simp; omega) | omega) _) | (refine Below.drew ?_) | (refine below_drewN ?_ _) | (refine Below.alloc ?_ (by first | (simp; done) | (simp; omega) | omega) _) | (refine Below.trans ?_ (Below.mono (by assumption) (by first | (simp; done) | (simp; omega) | omega)))))⟩
          · skip
            have HE : Hid (trE 5 a b c = 0) := Lib.hid (by rw [hsp]; unfold rig5; rw [t0, t1, t2]; rfl)
            clear hsp
            go_enter Try.func15, Try.ntmps15
            go_wp2_with (first | (go_at_call 23; refine (All3_any _ _ _ a b c _ (by simp [go_sem]) (by simp [go_sem]) (by simp [go_sem])).mono ?_; rintro e w1 ⟨rfl, rfl⟩; rw [HN.out]) | (go_at_call 24; refine (within_any _ _ _ _).mono ?_; rintro e w' ⟨rfl, rfl⟩))
            go_ret
            exact ⟨by rw [HE.out]; rfl, by (repeat (first | exact Below.refl _ _ | assumption | (refine Below.setCell ?_ (by first | (simp; done) | (simp; omega) | omega) _) | (refine Below.drew ?_) | (refine below_drewN ?_ _) | (refine Below.alloc ?_ (by first | (simp; done) | (simp; omega) | omega) _) | (refine Below.trans ?_ (Below.mono (by assumption) (by first | (simp; done) | (simp; omega) | omega)))))⟩
end Go.Proofs.Ytokmjboaeamogaa
