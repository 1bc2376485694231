/- colour.checkSpot, colour.CheckPrimaries of any spots. No condition. -/
import Derived.Test.YtfmdnibfeckmaaaDoorTcE
import Derived.Test.YtfmdnibfeckmaaaDoorBE
namespace Go.Proofs.YtfmdnibfeckmaaaDoor
open Go Go.RowKit
/-- A spot is out of bounds. -/
def badS (x y : Nat) : Bool := (FloatKind.f32.format.order x 3212836864 == some .lt) || ((FloatKind.f32.format.order x 1073741824 == some .gt) || ((FloatKind.f32.format.order y 3212836864 == some .lt) || ((FloatKind.f32.format.order y 1073741824 == some .gt) || ((FloatKind.f32.format.order y 981467136 == some .lt) && (FloatKind.f32.format.order y 3128950784 == some .gt)))))
def spoE (x y : Nat) : Int := if allNum [x, y] then (if badS x y then 3 else 0) else 2
def IntIs (n : Int) (B : Nat) (w : World) (e : Ending) (w' : World) : Prop := e = .returned (.int .i64 n) ∧ Below B w w'
theorem badS_of {x y : Nat} {a b c d e f : Bool} (h1 : (FloatKind.f32.format.order x 3212836864 == some .lt) = a) (h2 : (FloatKind.f32.format.order x 1073741824 == some .gt) = b) (h3 : (FloatKind.f32.format.order y 3212836864 == some .lt) = c) (h4 : (FloatKind.f32.format.order y 1073741824 == some .gt) = d) (h5 : (FloatKind.f32.format.order y 981467136 == some .lt) = e) (h6 : (FloatKind.f32.format.order y 3128950784 == some .gt) = f) : badS x y = (a || (b || (c || (d || (e && f))))) := by
  unfold badS; rw [h1, h2, h3, h4, h5, h6]
abbrev spV (x y : Nat) : Value := .agg #[.float .f32 x, .float .f32 y]
set_option maxRecDepth 100000 in
set_option maxHeartbeats 3200000 in
theorem checkSpot_any (x y : Nat) (w : World) : Calls Tryd.prog 28 #[spV x y] w (IntIs (spoE x y) w.heap.size w) := by
  have hall : (allNum [x, y] = false ∧ spoE x y = 2) ∨ (allNum [x, y] = true ∧ spoE x y = if badS x y then 3 else 0) := by
    unfold spoE; cases allNum [x, y] <;> simp
  rcases hall with ⟨ha, hsp⟩ | ⟨ha, hsp⟩
  · have HA := Lib.hid ha
    have HE := Lib.hid hsp
    clear ha hsp
    go_enter Tryd.func28, Tryd.ntmps28
    go_wp2_with (go_at_call 29; refine (All2_any _ _ _ x y _ (by simp [go_sem]) (by simp [go_sem])).mono ?_; rintro e w1 ⟨rfl, rfl⟩; rw [HA.out])
    go_ret
    exact ⟨by rw [HE.out]; rfl, by (repeat (first | exact Below.refl _ _ | assumption | (refine Below.setCell ?_ (by first | (simp; done) | (simp; omega) | omega) _) | (refine Below.drew ?_) | (refine below_drewN ?_ _) | (refine Below.alloc ?_ (by first | (simp; done) | (simp; omega) | omega) _) | (refine Below.trans ?_ (Below.mono (by assumption) (by first | (simp; done) | (simp; omega) | omega)))))⟩
  · have HA := Lib.hid ha
    clear ha
    cases h1 : (FloatKind.f32.format.order x 3212836864 == some .lt)
    · cases h2 : (FloatKind.f32.format.order x 1073741824 == some .gt)
      · cases h3 : (FloatKind.f32.format.order y 3212836864 == some .lt)
        · cases h4 : (FloatKind.f32.format.order y 1073741824 == some .gt)
          · cases h5 : (FloatKind.f32.format.order y 981467136 == some .lt)
            · have hb : badS x y = false := by unfold badS; rw [h1, h2, h3, h4, h5]; rfl
              have HE : Hid (spoE x y = 0) := Lib.hid (by rw [hsp, hb]; rfl)
              clear hsp hb
              go_enter Tryd.func28, Tryd.ntmps28
              go_wp2_with (go_at_call 29; refine (All2_any _ _ _ x y _ (by simp [go_sem]) (by simp [go_sem])).mono ?_; rintro e w1 ⟨rfl, rfl⟩; rw [HA.out])
              go_ret
              exact ⟨by rw [HE.out]; rfl, by (repeat (first | exact Below.refl _ _ | assumption | (refine Below.setCell ?_ (by first | (simp; done) | (simp; omega) | omega) _) | (refine Below.drew ?_) | (refine below_drewN ?_ _) | (refine Below.alloc ?_ (by first | (simp; done) | (simp; omega) | omega) _) | (refine Below.trans ?_ (Below.mono (by assumption) (by first | (simp; done) | (simp; omega) | omega)))))⟩
            · cases h6 : (FloatKind.f32.format.order y 3128950784 == some .gt)
              · have hb : badS x y = false := by unfold badS; rw [h1, h2, h3, h4, h5, h6]; rfl
                have HE : Hid (spoE x y = 0) := Lib.hid (by rw [hsp, hb]; rfl)
                clear hsp hb
                go_enter Tryd.func28, Tryd.ntmps28
                go_wp2_with (go_at_call 29; refine (All2_any _ _ _ x y _ (by simp [go_sem]) (by simp [go_sem])).mono ?_; rintro e w1 ⟨rfl, rfl⟩; rw [HA.out])
                go_ret
                exact ⟨by rw [HE.out]; rfl, by (repeat (first | exact Below.refl _ _ | assumption | (refine Below.setCell ?_ (by first | (simp; done) | (simp; omega) | omega) _) | (refine Below.drew ?_) | (refine below_drewN ?_ _) | (refine Below.alloc ?_ (by first | (simp; done) | (simp; omega) | omega) _) | (refine Below.trans ?_ (Below.mono (by assumption) (by first | (simp; done) | (simp; omega) | omega)))))⟩
              · have hb : badS x y = true := by unfold badS; rw [h1, h2, h3, h4, h5, h6]; rfl
                have HE : Hid (spoE x y = 3) := Lib.hid (by rw [hsp, hb]; rfl)
                clear hsp hb
                go_enter Tryd.func28, Tryd.ntmps28
                go_wp2_with (go_at_call 29; refine (All2_any _ _ _ x y _ (by simp [go_sem]) (by simp [go_sem])).mono ?_; rintro e w1 ⟨rfl, rfl⟩; rw [HA.out])
                go_ret
                exact ⟨by rw [HE.out]; rfl, by (repeat (first | exact Below.refl _ _ | assumption | (refine Below.setCell ?_ (by first | (simp; done) | (simp; omega) | omega) _) | (refine Below.drew ?_) | (refine below_drewN ?_ _) | (refine Below.alloc ?_ (by first | (simp; done) | (simp; omega) | omega) _) | (refine Below.trans ?_ (Below.mono (by assumption) (by first | (simp; done) | (simp; omega) | omega)))))⟩
          · have hb : badS x y = true := by unfold badS; rw [h1, h2, h3, h4]; simp
            have HE : Hid (spoE x y = 3) := Lib.hid (by rw [hsp, hb]; rfl)
            clear hsp hb
            go_enter Tryd.func28, Tryd.ntmps28
            go_wp2_with (go_at_call 29; refine (All2_any _ _ _ x y _ (by simp [go_sem]) (by simp [go_sem])).mono ?_; rintro e w1 ⟨rfl, rfl⟩; rw [HA.out])
            go_ret
            exact ⟨by rw [HE.out]; rfl, by (repeat (first | exact Below.refl _ _ | assumption | (refine Below.setCell ?_ (by first | (simp; done) | (simp; omega) | omega) _) | (refine Below.drew ?_) | (refine below_drewN ?_ _) | (refine Below.alloc ?_ (by first | (simp; done) | (simp; omega) | omega) _) | (refine Below.trans ?_ (Below.mono (by assumption) (by first | (simp; done) | (simp; omega) | omega)))))⟩
        · have hb : badS x y = true := by unfold badS; rw [h1, h2, h3]; simp
          have HE : Hid (spoE x y = 3) := Lib.hid (by rw [hsp, hb]; rfl)
          clear hsp hb
          go_enter Tryd.func28, Tryd.ntmps28
          go_wp2_with (go_at_call 29; refine (All2_any _ _ _ x y _ (by simp [go_sem]) (by simp [go_sem])).mono ?_; rintro e w1 ⟨rfl, rfl⟩; rw [HA.out])
          go_ret
          exact ⟨by rw [HE.out]; rfl, by (repeat (first | exact Below.refl _ _ | assumption | (refine Below.setCell ?_ (by first | (simp; done) | (simp; omega) | omega) _) | (refine Below.drew ?_) | (refine below_drewN ?_ _) | (refine Below.alloc ?_ (by first | (simp; done) | (simp; omega) | omega) _) | (refine Below.trans ?_ (Below.mono (by assumption) (by first | (simp; done) | (simp; omega) | omega)))))⟩
      · have hb : badS x y = true := by unfold badS; rw [h1, h2]; simp
        have HE : Hid (spoE x y = 3) := Lib.hid (by rw [hsp, hb]; rfl)
        clear hsp hb
        go_enter Tryd.func28, Tryd.ntmps28
        go_wp2_with (go_at_call 29; refine (All2_any _ _ _ x y _ (by simp [go_sem]) (by simp [go_sem])).mono ?_; rintro e w1 ⟨rfl, rfl⟩; rw [HA.out])
        go_ret
        exact ⟨by rw [HE.out]; rfl, by (repeat (first | exact Below.refl _ _ | assumption | (refine Below.setCell ?_ (by first | (simp; done) | (simp; omega) | omega) _) | (refine Below.drew ?_) | (refine below_drewN ?_ _) | (refine Below.alloc ?_ (by first | (simp; done) | (simp; omega) | omega) _) | (refine Below.trans ?_ (Below.mono (by assumption) (by first | (simp; done) | (simp; omega) | omega)))))⟩
    · have hb : badS x y = true := by unfold badS; rw [h1]; simp
      have HE : Hid (spoE x y = 3) := Lib.hid (by rw [hsp, hb]; rfl)
      clear hsp hb
      go_enter Tryd.func28, Tryd.ntmps28
      go_wp2_with (go_at_call 29; refine (All2_any _ _ _ x y _ (by simp [go_sem]) (by simp [go_sem])).mono ?_; rintro e w1 ⟨rfl, rfl⟩; rw [HA.out])
      go_ret
      exact ⟨by rw [HE.out]; rfl, by (repeat (first | exact Below.refl _ _ | assumption | (refine Below.setCell ?_ (by first | (simp; done) | (simp; omega) | omega) _) | (refine Below.drew ?_) | (refine below_drewN ?_ _) | (refine Below.alloc ?_ (by first | (simp; done) | (simp; omega) | omega) _) | (refine Below.trans ?_ (Below.mono (by assumption) (by first | (simp; done) | (simp; omega) | omega)))))⟩
end Go.Proofs.YtfmdnibfeckmaaaDoor
