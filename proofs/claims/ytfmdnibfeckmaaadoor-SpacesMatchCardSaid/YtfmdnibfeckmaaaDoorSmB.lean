/- The document's inverse of a matrix. Conditions: the matrix' doubles are doubles. -/
import Derived.Test.YtfmdnibfeckmaaaDoorSmA
namespace Go.Proofs.YtfmdnibfeckmaaaDoor
open Go Go.RowKit
theorem sub_self_num64 {v : Nat} (h : isNum .f64 v = true) : isNum .f64 (fop .sub .f64 v v) = true ∧ val .f64 (fop .sub .f64 v v) = 0 := by
  have e : val .f64 v - val .f64 v = 0 := by grind
  have p := zp_pos 1
  have := fop_sub_num h h 1 (by decide) (by decide) (by rw [e]; grind) (by rw [e]; grind)
  rw [e] at this
  refine ⟨this.num, this.exact false 0 0 (by decide) (by decide) (by simp [sg])⟩
theorem sub_self_not64 {v : Nat} (h : isNum .f64 v = false) : isN .f64 (fop .sub .f64 v v) = true := by
  have hx : ∀ s m e, FloatKind.f64.decode v ≠ .number s m e := fun s m e hd => by
    rw [isNum_decode.2 ⟨s, m, e, hd⟩] at h; cases h
  have hn : floatBits .sub .f64 v v = none := by
    have hd : FloatKind.f64.decode v = FloatKind.f64.format.read v := rfl
    unfold floatBits Ieee.Format.sub
    simp only []
    rw [hd] at hx
    cases hr : FloatKind.f64.format.read v with
    | number s m e => exact absurd hr (hx s m e)
    | nan s t => rfl
    | infinity s => cases s <;> rfl
  unfold fop; rw [hn]; exact isN_nanOf _
theorem isNum_ref64 {v r : Nat} (h : FR .f64 r (fop .sub .f64 (cn .f64 v) (cn .f64 v))) : (FloatKind.f64.format.order r 0 != some .eq) = !isNum .f64 v := by
  rw [fop_cn_left, fop_cn_right] at h
  cases hn : isNum .f64 v with
  | true =>
    obtain ⟨a, b⟩ := sub_self_num64 hn
    rw [FR.exact h (isNum_not_nan a)]
    have z : isN .f64 0 = false := by decide +kernel
    have q : (FloatKind.f64.format.order (fop .sub .f64 v v) 0 == some .eq) = true := by
      rw [ord_eq (isNum_not_nan a) z, decide_eq_true_eq]
      have e1 := val_le_key (k := .f64) (x := fop .sub .f64 v v) (y := 0)
      have e2 := val_le_key (k := .f64) (x := 0) (y := fop .sub .f64 v v)
      have v0 : val .f64 0 = 0 := by decide +kernel
      rw [b, v0] at e1 e2
      have := e1.1 Rat.le_refl
      have := e2.1 Rat.le_refl
      omega
    rw [bne, q]
  | false =>
    have a := sub_self_not64 hn
    have hr : isN .f64 r = true := by rw [← isN_cn, h.eq]; exact a
    rw [ord_nan_l _ hr]
    rfl
theorem num_cn (v : Nat) : isNum .f64 (cn .f64 v) = isNum .f64 v := by
  by_cases h : isN .f64 v = true
  · have e : isNum .f64 v = false := by
      cases hh : isNum .f64 v with
      | false => rfl
      | true => rw [isNum_not_nan hh] at h; cases h
    rw [e, cn_of_nan h]; decide +kernel
  · rw [cn_of_not (by simpa using h)]
theorem okD_num {v : Nat} (hv : v < 2 ^ FloatKind.f64.format.width) : okD v = isNum .f64 v := by
  unfold okD infD
  cases hN : isN .f64 v with
  | true =>
    cases hh : isNum .f64 v with
    | false => rfl
    | true => rw [isNum_not_nan hh] at hN; cases hN
  | false =>
    obtain ⟨a1, a2⟩ := abs_rung hv
    have na : isN .f64 (absF v) = false := by rw [isN_rung, a1, ← isN_rung]; exact hN
    have nm : isN .f64 9218868437227405311 = false := by decide +kernel
    have km : key FloatKind.f64.format 9218868437227405311 = 9218868437227405311 := by decide +kernel
    rw [ord_gt na nm, a2, km]
    unfold isNum
    rw [f64_ir]
    rw [Bool.eq_iff_iff]
    simp
    omega
theorem okD_of {v V : Nat} (h : cn .f64 v = V) (hV : V < 2 ^ FloatKind.f64.format.width) : okD v = isNum .f64 v := by
  rw [← okD_cn, h, okD_num hV, ← h, num_cn]
set_option maxRecDepth 100000 in
set_option maxHeartbeats 1600000 in
theorem finiteR_any (r : Nat → Nat) (w : World) (hr : ∀ i, i < 9 → cn .f64 (r i) < 2 ^ FloatKind.f64.format.width) : Calls Tryd.prog 51 #[m9 r] w (BoolIs (finB r) w.heap.size w) := by
  go_enter Tryd.func51, Tryd.ntmps51
  go_upto_region 1 with fail
  refine wp_world (fun W hW => ?_)
  have V0 : VecD W w.heap.size 9 r := by rw [hW]; exact VecD.of9 (Blk.new _ _ _ _ rfl)
  have B0 : Below w.heap.size w W := by rw [hW]; (repeat (first | exact Below.refl _ _ | assumption | (refine Below.setCell ?_ (by first | (simp; done) | (simp; omega) | omega) _) | (refine Below.drew ?_) | (refine below_drewN ?_ _) | (refine Below.alloc ?_ (by first | (simp; done) | (simp; omega) | omega) _) | (refine Below.trans ?_ (Below.mono (by assumption) (by first | (simp; done) | (simp; omega) | omega)))))
  have HV := Lib.hid V0; have HB := Lib.hid B0
  clear hW V0 B0
  go_wp2_with (first | ((with_reducible apply wpList_ld9 (HV.out)); rfl; rfl; rfl))
  go_loopw [6] (fun s6 wr => ∃ k : Nat, k ≤ 9 ∧ s6 = .int .i64 k ∧ (∀ i, i < k → okD (r i) = true) ∧ Below w.heap.size w wr) (fun s6 _ => 9 - (intOf s6).toNat)
  case atStart => exact ⟨0, by omega, rfl, fun i hi => by omega, HB.out⟩
  case round =>
    obtain ⟨k, hk, rfl, hok, hbw'⟩ := hrel
    have HK := Lib.hid hok
    have hbw := Lib.hid hbw'
    clear hok hbw' HB
    by_cases hk9 : k < 9
    · have ix := idx9 r k hk9
      have hb := okD_of rfl (hr k hk9)
      obtain ⟨v, hv⟩ : ∃ v, v = r k := ⟨_, rfl⟩
      rw [← hv] at ix hb
      have HE := Lib.hid hv
      clear hv
      cases hN : isNum .f64 v
      · have HN : Hid (okD v = false) := Lib.hid (by rw [hb]; exact hN)
        have HF := Lib.hid hN
        clear hN hb
        go_wp2_with ((with_reducible apply wpList_farith); rfl; rfl; rfl; intro s _ hs; have hs2 : (FloatKind.f64.format.order s 0 != some .eq) = true := ((isNum_ref64 hs).trans (by rw [HF.out]; rfl)); clear hs)
        go_ret
        refine ⟨?_, hbw.out.trans (Below.mono (by (repeat (first | exact Below.refl _ _ | assumption | (refine Below.setCell ?_ (by first | (simp; done) | (simp; omega) | omega) _) | (refine Below.drew ?_) | (refine below_drewN ?_ _) | (refine Below.alloc ?_ (by first | (simp; done) | (simp; omega) | omega) _) | (refine Below.trans ?_ (Below.mono (by assumption) (by first | (simp; done) | (simp; omega) | omega)))))) hbw.out.size)⟩
        rw [fin_false hk9 (by rw [← HE.out]; exact HN.out)]; rfl
      · have HN : Hid (okD v = true) := Lib.hid (by rw [hb]; exact hN)
        have HF := Lib.hid hN
        clear hN hb
        go_wp2_with ((with_reducible apply wpList_farith); rfl; rfl; rfl; intro s _ hs; have hs2 : (FloatKind.f64.format.order s 0 != some .eq) = false := ((isNum_ref64 hs).trans (by rw [HF.out]; rfl)); clear hs)
        go_roundw
        case rel =>
          refine ⟨k + 1, by omega, by go_num, fun i hi => ?_, hbw.out.trans (Below.mono (by (repeat (first | exact Below.refl _ _ | assumption | (refine Below.setCell ?_ (by first | (simp; done) | (simp; omega) | omega) _) | (refine Below.drew ?_) | (refine below_drewN ?_ _) | (refine Below.alloc ?_ (by first | (simp; done) | (simp; omega) | omega) _) | (refine Below.trans ?_ (Below.mono (by assumption) (by first | (simp; done) | (simp; omega) | omega)))))) hbw.out.size)⟩
          rcases (show i < k ∨ i = k by omega) with h | rfl
          · exact HK.out i h
          · rw [← HE.out]; exact HN.out
        case measure => simp [intOf]; omega
    · have hk9' : ¬ (k : Int) < 9 := by omega
      go_wp2_with fail
      go_ret
      refine ⟨?_, hbw.out⟩
      rw [fin_true (fun i hi => HK.out i (by omega))]; rfl
end Go.Proofs.YtfmdnibfeckmaaaDoor
