/- What a number is, and lists of numbers; pixels. No condition. -/
import Derived.Test.YtalgepfammpmbaaPix
namespace Go.Proofs.Ytalgepfammpmbaa
open Go.RowKit

theorem isNum_code (v : Nat) : isNum .f32 v = ((FloatKind.f32.format.order v v == some .eq) && !((FloatKind.f32.format.order v 2139095039 == some .gt) || (FloatKind.f32.format.order v 4286578687 == some .lt))) := by
  have k1 : key FloatKind.f32.format 2139095039 = 2139095039 := by decide +kernel
  have k2 : key FloatKind.f32.format 4286578687 = -2139095039 := by decide +kernel
  have n1 : isN .f32 2139095039 = false := by decide +kernel
  have n2 : isN .f32 4286578687 = false := by decide +kernel
  rw [ord_self_eq]
  cases h : isN .f32 v with
  | true =>
    cases hn : isNum .f32 v with
    | true => rw [isNum_not_nan hn] at h; cases h
    | false => rfl
  | false =>
    rw [ord_gt h n1, ord_lt h n2, k1, k2, Bool.eq_iff_iff]
    unfold isNum key
    rw [isN_rung] at h
    rw [f32_ir] at *
    simp only [decide_eq_false_iff_not] at h
    simp
    split <;> omega
theorem sub_self_num {v : Nat} (h : isNum .f32 v = true) : isNum .f32 (fop .sub .f32 v v) = true ∧ val .f32 (fop .sub .f32 v v) = 0 := by
  have e : val .f32 v - val .f32 v = 0 := by grind
  have p := zp_pos 1
  have := fop_sub_num h h 1 (by decide) (by decide) (by rw [e]; grind) (by rw [e]; grind)
  rw [e] at this
  refine ⟨this.num, this.exact false 0 0 (by decide) (by decide) (by simp [sg])⟩
theorem sub_self_not {v : Nat} (h : isNum .f32 v = false) : isN .f32 (fop .sub .f32 v v) = true := by
  have hx : ∀ s m e, FloatKind.f32.decode v ≠ .number s m e := fun s m e hd => by
    rw [isNum_decode.2 ⟨s, m, e, hd⟩] at h; cases h
  have hn : floatBits .sub .f32 v v = none := by
    have hd : FloatKind.f32.decode v = FloatKind.f32.format.read v := rfl
    unfold floatBits Ieee.Format.sub
    simp only []
    rw [hd] at hx
    cases hr : FloatKind.f32.format.read v with
    | number s m e => exact absurd hr (hx s m e)
    | nan s t => rfl
    | infinity s => cases s <;> rfl
  unfold fop; rw [hn]; exact isN_nanOf _
theorem isNum_ref {v r : Nat} (h : FR .f32 r (fop .sub .f32 (cn .f32 v) (cn .f32 v))) : (FloatKind.f32.format.order r 0 == some .eq) = isNum .f32 v := by
  rw [fop_cn_left, fop_cn_right] at h
  cases hn : isNum .f32 v with
  | true =>
    obtain ⟨a, b⟩ := sub_self_num hn
    rw [FR.exact h (isNum_not_nan a)]
    have z : isN .f32 0 = false := by decide +kernel
    rw [ord_eq (isNum_not_nan a) z, decide_eq_true_eq]
    have e1 := val_le_key (k := .f32) (x := fop .sub .f32 v v) (y := 0)
    have e2 := val_le_key (k := .f32) (x := 0) (y := fop .sub .f32 v v)
    have v0 : val .f32 0 = 0 := by decide +kernel
    rw [b, v0] at e1 e2
    have := e1.1 Rat.le_refl
    have := e2.1 Rat.le_refl
    omega
  | false =>
    have hN := sub_self_not hn
    have e : isN .f32 r = true := by
      rw [← isN_cn, h.eq]; exact hN
    rw [ord_nan_l _ e]; rfl
set_option maxHeartbeats 400000 in
theorem infinite_any (v : Nat) (w : World) : Calls Try.prog 179 #[.float .f32 v] w fun e w' => e = .returned (.bool ((FloatKind.f32.format.order v 2139095039 == some .gt) || (FloatKind.f32.format.order v 4286578687 == some .lt))) ∧ w = w' := by
  go_enter Try.func179, Try.ntmps179
  go_wp2
  all_goals (go_ret; refine ⟨ret_b ?_, rfl⟩; simp [*])
set_option maxHeartbeats 400000 in
theorem IsNumber_any (v : Nat) (w : World) : Calls Try.prog 132 #[.float .f32 v] w fun e w' => e = .returned (.bool (isNum .f32 v)) ∧ w = w' := by
  go_enter Try.func132, Try.ntmps132
  go_wp2_with (first | (go_at_call 179; refine (infinite_any _ _).mono ?_; rintro e w' ⟨rfl, rfl⟩))
  all_goals (go_ret; refine ⟨ret_b ?_, rfl⟩; rw [isNum_code]; simp [*])
set_option maxHeartbeats 400000 in
theorem IsNumberR_any (v : Nat) (w : World) : Calls Try.prog 44 #[.float .f32 v] w fun e w' => e = .returned (.bool (isNum .f32 v)) ∧ ∃ n, w' = w.drewN n := by
  go_enter Try.func44, Try.ntmps44
  go_wp2_with (first | ((with_reducible apply wpList_farith); rfl; rfl; rfl; intro _ _ _) | ((with_reducible apply wpList_up); rfl; exact Try.underlying27; exact Try.underlying151; intro _ _ _))
  rename_i hr
  go_ret
  exact ⟨ret_b (isNum_ref hr), _, rfl⟩
/-- Whether all of the first n are numbers. -/
def allNum : List Nat → Bool
  | [] => true
  | v :: l => isNum .f32 v && allNum l
set_option maxHeartbeats 800000 in
theorem AllNumbers_any (b off n cap : Nat) (vs : List Nat) (w : World) (hn : vs.length = n) (hb : n ≤ 1000000) (hc : ∀ i, i < n → w.cell? ⟨b, off + i, none⟩ = some (.float .f32 (vs.getD i 0))) :
    Calls Try.prog 114 #[.slice (some ⟨b, off, none⟩) n cap] w fun e w' => e = .returned (.bool (allNum vs)) ∧ w = w' := by
  go_enter Try.func114, Try.ntmps114
  go_wp2
  go_loopw [7] (fun i wr => ∃ k : Nat, k ≤ n ∧ i = .int .i64 k ∧ wr = w ∧ allNum vs = allNum (vs.drop k)) (fun i _ => n - (intOf i).toNat)
  case atStart => exact ⟨0, Nat.zero_le _, rfl, rfl, rfl⟩
  case round =>
    obtain ⟨k, hk, rfl, rfl, hall⟩ := hrel
    by_cases hkn : k < n
    · have hcx := hc k hkn
      obtain ⟨l, hl⟩ : ∃ l, vs.drop k = vs.getD k 0 :: l ∧ l = vs.drop (k + 1) := ⟨vs.drop (k + 1), by rw [List.drop_eq_getElem_cons (by omega)]; simp [List.getElem?_eq_getElem (show k < vs.length by omega)], rfl⟩
      rw [hl.1] at hall
      have hl2 := hl.2
      clear hl hc
      generalize vs.getD k 0 = z at *
      have hall' := Lib.hid hall; clear hall
      cases hz : isNum .f32 z
      · go_wp2_with (first | (go_at_call 132; refine (IsNumber_any _ _).mono ?_; rintro e w' ⟨rfl, rfl⟩))
        go_ret
        refine ⟨ret_b ?_, rfl⟩
        rw [hall'.out]; simp [allNum, hz]
      · go_wp2_with (first | (go_at_call 132; refine (IsNumber_any _ _).mono ?_; rintro e w' ⟨rfl, rfl⟩))
        go_roundw
        case rel => exact ⟨k + 1, by omega, by first | rfl | simp, by first | rfl | trivial, by rw [hall'.out, ← hl2]; simp [allNum, hz]⟩
        case measure => simp [intOf]; omega
    · have hkn' : k = n := by omega
      subst hkn'
      go_wp2
      go_ret
      refine ⟨ret_b ?_, rfl⟩
      rw [hall, List.drop_of_length_le (by omega)]; rfl
set_option maxRecDepth 100000 in
set_option maxHeartbeats 800000 in
theorem samePixel_any (a0 a1 a2 a3 b0 b1 b2 b3 : Nat) (w : World) : Calls Try.prog 45 #[.agg #[.float .f32 a0, .float .f32 a1, .float .f32 a2, .float .f32 a3], .agg #[.float .f32 b0, .float .f32 b1, .float .f32 b2, .float .f32 b3]] w fun e w' => e = .returned (.bool (decide (a0 = b0) && decide (a1 = b1) && decide (a2 = b2) && decide (a3 = b3))) ∧ Below w.heap.size w w' := by
  go_enter Try.func45, Try.ntmps45
  go_wp2_with (first | (go_at_call 36; refine (same_any _ _ _).mono ?_; rintro e w' ⟨rfl, rfl⟩))
  all_goals (go_ret; refine ⟨ret_b ?_, by (repeat (first | exact Below.refl _ _ | assumption | (refine Below.setCell ?_ (by first | (simp; done) | (simp; omega) | omega) _) | (refine Below.drew ?_) | (refine below_drewN ?_ _) | (refine Below.alloc ?_ (by first | (simp; done) | (simp; omega) | omega) _) | (refine Below.trans ?_ (Below.mono (by assumption) (by first | (simp; done) | (simp; omega) | omega)))))⟩; simp [*])
end Go.Proofs.Ytalgepfammpmbaa
