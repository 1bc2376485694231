/- Whether a matrix of doubles is finite: math.IsInf, colour.finite. No condition. -/
import Derived.Test.YtfmdnibfeckmaaaDoorTcM
import Derived.Test.YtfmdnibfeckmaaaDoorAbsA
namespace Go.Proofs.YtfmdnibfeckmaaaDoor
open Go Go.RowKit
/-- A double's magnitude is above the greatest finite one. -/
def infD (b : Nat) : Bool := FloatKind.f64.format.order (absF b) 9218868437227405311 == some .gt
/-- A double is a number. -/
def okD (b : Nat) : Bool := !(isN .f64 b || infD b)
theorem okD_cn (b : Nat) : okD (cn .f64 b) = okD b := by
  by_cases h : isN .f64 b = true
  · unfold okD; rw [isN_cn, h]; rfl
  · rw [cn_of_not (by simpa using h)]
def finB (r : Nat → Nat) : Bool := (List.range 9).all fun i => okD (r i)
theorem finB_cn (r : Nat → Nat) : finB (fun i => cn .f64 (r i)) = finB r := by
  unfold finB; congr 1; funext i; exact okD_cn _
theorem finB_congr {r s : Nat → Nat} (h : ∀ i, i < 9 → cn .f64 (r i) = cn .f64 (s i)) : finB r = finB s := by
  rw [← finB_cn r, ← finB_cn s]
  unfold finB
  rw [Bool.eq_iff_iff, List.all_eq_true, List.all_eq_true]
  constructor <;> intro H i hi <;> have := H i hi <;> have e := h i (by simpa using hi)
  · show okD (cn .f64 (s i)) = true
    rw [← e]; exact this
  · show okD (cn .f64 (r i)) = true
    rw [e]; exact this
theorem fin_true {r : Nat → Nat} (h : ∀ i, i < 9 → okD (r i) = true) : finB r = true := by
  unfold finB; rw [List.all_eq_true]; exact fun i hi => h i (by simpa using hi)
theorem fin_false {r : Nat → Nat} {k : Nat} (hk : k < 9) (h : okD (r k) = false) : finB r = false := by
  unfold finB
  cases e : (List.range 9).all fun i => okD (r i) with
  | false => rfl
  | true => rw [List.all_eq_true] at e; rw [e k (by simpa using hk)] at h; cases h
theorem IsInfT_any (b : Nat) (w : World) : Calls Tryd.prog 50 #[.float .f64 b, .int .i64 0] w fun e w' => e = .returned (.bool (infD b)) ∧ w = w' := by
  go_enter Tryd.func50, Tryd.ntmps50
  go_wp2_with (go_at_call 58; refine (Abs_any _ _).mono ?_; rintro e w' ⟨rfl, rfl⟩)
  go_ret
  exact ⟨rfl, rfl⟩
theorem idx9 (r : Nat → Nat) (k : Nat) (hk : k < 9) (w : World) : (Instr.index 49 (m9 r) (.int .i64 (k : Int))).run Tryd.prog w = .ok (.float .f64 (r k)) w := by
  rcases (show k = 0 ∨ k = 1 ∨ k = 2 ∨ k = 3 ∨ k = 4 ∨ k = 5 ∨ k = 6 ∨ k = 7 ∨ k = 8 by omega) with rfl | rfl | rfl | rfl | rfl | rfl | rfl | rfl | rfl <;> kernel_rfl
def BoolIs (b : Bool) (B : Nat) (w : World) (e : Ending) (w' : World) : Prop := e = .returned (.bool b) ∧ Below B w w'
set_option maxRecDepth 100000 in
set_option maxHeartbeats 1600000 in
theorem finite_any (r : Nat → Nat) (w : World) : Calls Tryd.prog 47 #[m9 r] w (BoolIs (finB r) w.heap.size w) := by
  go_enter Tryd.func47, Tryd.ntmps47
  go_upto_region 1 with fail
  refine wp_world (fun W hW => ?_)
  have V0 : VecD W w.heap.size 9 r := by rw [hW]; exact VecD.of9 (Blk.new _ _ _ _ rfl)
  have B0 : Below w.heap.size w W := by rw [hW]; (repeat (first | exact Below.refl _ _ | assumption | (refine Below.setCell ?_ (by first | (simp; done) | (simp; omega) | omega) _) | (refine Below.drew ?_) | (refine below_drewN ?_ _) | (refine Below.alloc ?_ (by first | (simp; done) | (simp; omega) | omega) _) | (refine Below.trans ?_ (Below.mono (by assumption) (by first | (simp; done) | (simp; omega) | omega)))))
  have HV := Lib.hid V0; have HB := Lib.hid B0
  clear hW V0 B0
  go_wp2_with (first | ((with_reducible apply wpList_ld9 (HV.out)); rfl; rfl; rfl))
  go_loop [6] (fun s6 => ∃ k : Nat, k ≤ 9 ∧ s6 = .int .i64 k ∧ ∀ i, i < k → okD (r i) = true) (fun s6 => 9 - (intOf s6).toNat)
  case atStart => exact ⟨0, by omega, rfl, fun i hi => by omega⟩
  case round =>
    obtain ⟨k, hk, rfl, hok⟩ := hrel
    have HK := Lib.hid hok
    clear hok
    by_cases hk9 : k < 9
    · have ix := idx9 r k hk9
      obtain ⟨v, hv⟩ : ∃ v, v = r k := ⟨_, rfl⟩
      rw [← hv] at ix
      have HE := Lib.hid hv
      clear hv
      have oe := ord_self_ne (k := .f64) (x := v)
      cases hN : isN .f64 v
      · rw [hN] at oe
        have HN := Lib.hid hN
        clear hN
        obtain ⟨b, hb⟩ : ∃ b, b = infD v := ⟨_, rfl⟩
        have HI := Lib.hid (fun w' => IsInfT_any v w' : ∀ w', _)
        rw [← hb] at HI
        have HBB := Lib.hid hb
        clear hb
        cases b
        · go_wp2_with (go_at_call 50; refine (HI.out _).mono ?_; rintro e w' ⟨rfl, rfl⟩)
          go_round
          case rel =>
            refine ⟨k + 1, by omega, by go_num, fun i hi => ?_⟩
            rcases (show i < k ∨ i = k by omega) with h | rfl
            · exact HK.out i h
            · rw [← HE.out]; unfold okD; rw [HN.out, ← HBB.out]; rfl
          case measure => simp [intOf]; omega
        · go_wp2_with (go_at_call 50; refine (HI.out _).mono ?_; rintro e w' ⟨rfl, rfl⟩)
          go_ret
          refine ⟨?_, HB.out⟩
          rw [fin_false hk9 (by rw [← HE.out]; unfold okD; rw [← HBB.out, Bool.or_true]; rfl)]; rfl
      · rw [hN] at oe
        have HN := Lib.hid hN
        clear hN
        go_wp2_with fail
        go_ret
        refine ⟨?_, HB.out⟩
        rw [fin_false hk9 (by rw [← HE.out]; unfold okD; rw [HN.out]; rfl)]; rfl
    · have hk9' : ¬ (k : Int) < 9 := by omega
      go_wp2_with fail
      go_ret
      refine ⟨?_, HB.out⟩
      rw [fin_true (fun i hi => HK.out i (by omega))]; rfl
end Go.Proofs.YtfmdnibfeckmaaaDoor
