/- Hues, saturations and values: colour.ToHSV, dyeref2.HSVOf. No condition. -/
import Derived.Test.YtfmdnibfeckmaaaHueA
namespace Go.Proofs.Ytfmdnibfeckmaaa
open Go.RowKit
def lowF (a v : Nat) : Nat := if FloatKind.f32.format.order v a == some .lt then v else a
theorem low_t {a v : Nat} (h : (FloatKind.f32.format.order v a == some .lt) = true) : lowF a v = v := by unfold lowF; rw [if_pos h]
theorem low_f {a v : Nat} (h : (FloatKind.f32.format.order v a == some .lt) = false) : lowF a v = a := by unfold lowF; rw [if_neg (by rw [h]; decide)]
def lkF (p0 p1 p2 : Nat) : Nat → Nat
  | 0 => p0
  | 1 => lowF p0 p1
  | _ => lowF (lowF p0 p1) p2
theorem ord_cn (r y : Nat) : FloatKind.f32.format.order (cn .f32 r) y = FloatKind.f32.format.order r y := by
  by_cases hn : isN .f32 r = true
  · rw [ord_nan_l _ hn, ord_nan_l _ (by rw [isN_cn]; exact hn)]
  · rw [cn_of_not (by simpa using hn)]
/-- The hue ahead of what brings it to 0 .. 1; the hue; the saturation. -/
def hrawF (V M p0 p1 p2 : Nat) : Nat :=
  fop .quo .f32 (if FloatKind.f32.format.order V p0 == some .eq then fop .quo .f32 (fop .sub .f32 (cn .f32 p1) (cn .f32 p2)) (fop .sub .f32 (cn .f32 V) (cn .f32 M))
    else if FloatKind.f32.format.order V p1 == some .eq then fop .add .f32 (fop .quo .f32 (fop .sub .f32 (cn .f32 p2) (cn .f32 p0)) (fop .sub .f32 (cn .f32 V) (cn .f32 M))) (cn .f32 1073741824)
    else fop .add .f32 (fop .quo .f32 (fop .sub .f32 (cn .f32 p0) (cn .f32 p1)) (fop .sub .f32 (cn .f32 V) (cn .f32 M))) (cn .f32 1082130432)) (cn .f32 1086324736)
def hueF (V M p0 p1 p2 : Nat) : Nat :=
  if FloatKind.f32.format.order (fop .sub .f32 (cn .f32 V) (cn .f32 M)) 0 == some .eq then 0
  else if FloatKind.f32.format.order (hrawF V M p0 p1 p2) 0 == some .lt then fop .add .f32 (hrawF V M p0 p1 p2) (cn .f32 1065353216) else hrawF V M p0 p1 p2
def satF (V M : Nat) : Nat := if FloatKind.f32.format.order V 0 == some .eq then 0 else fop .quo .f32 (fop .sub .f32 (cn .f32 V) (cn .f32 M)) (cn .f32 V)
theorem ne_imp {x y : Option Ordering} {p : Prop} (h : (x != y) = true) : x = y → p := fun e => by subst e; simp at h
theorem eq_imp {x y : Option Ordering} {p : Prop} (h : (x != y) = false) : ¬ x = y → p := fun e => absurd (by simpa using h) e
theorem cn_zero : cn .f32 0 = 0 := by decide +kernel
theorem ret_fff {k : FloatKind} {a b c a' b' c' : Nat} (h1 : a = a') (h2 : b = b') (h3 : c = c') : Ending.returned (.tuple #[.float k a, .float k b, .float k c]) = .returned (.tuple #[.float k a', .float k b', .float k c']) := by rw [h1, h2, h3]
set_option maxHeartbeats 800000 in
theorem FromBits_any (b : Int) (w : World) : Calls Try.prog 69 #[.int .u32 b] w fun e w' => e = .returned (.float .f32 (cn .f32 b.toNat)) ∧ w = w' := by
  have h := Clean_any b.toNat
  go_enter Try.func69, Try.ntmps69
  go_wp2_with (first | (go_at_call 23; refine (Clean_any _ _).mono ?_; rintro e w' ⟨rfl, rfl⟩))
  go_ret
  exact ⟨rfl, rfl⟩
set_option maxHeartbeats 400000 in
theorem noneC_any (w : World) : Calls Try.prog 38 #[] w fun e w' => e = .returned (.float .f32 2143289344) ∧ w = w' := by
  have c : cn .f32 2143289344 = 2143289344 := by decide +kernel
  go_enter Try.func38, Try.ntmps38
  go_wp2_with (first | (go_at_call 23; refine (Clean_any _ _).mono ?_; rintro e w' ⟨rfl, rfl⟩) | (go_at_call 69; refine (FromBits_any _ _).mono ?_; rintro e w' ⟨rfl, rfl⟩))
  go_ret
  exact ⟨by first | rfl | (rw [c]), rfl⟩
/-- What HSV is of a pixel: three singles. -/
def hsvF (p0 p1 p2 : Nat) : Nat × Nat × Nat :=
  if isN .f32 p0 || (isN .f32 p1 || isN .f32 p2) then (2143289344, 2143289344, 2143289344)
  else (hueF (maxF p0 p1 p2) (lkF p0 p1 p2 2) p0 p1 p2, satF (maxF p0 p1 p2) (lkF p0 p1 p2 2), cn .f32 (maxF p0 p1 p2))
set_option maxRecDepth 100000 in
set_option maxHeartbeats 3200000 in
theorem ToHSV_num (p0 p1 p2 p3 : Nat) (w : World) (n0 : isN .f32 p0 = false) (n1 : isN .f32 p1 = false) (n2 : isN .f32 p2 = false) : Calls Try.prog 16 #[.agg #[.float .f32 p0, .float .f32 p1, .float .f32 p2, .float .f32 p3]] w fun e w' =>
    e = .returned (.tuple #[.float .f32 (hueF (maxF p0 p1 p2) (lkF p0 p1 p2 2) p0 p1 p2), .float .f32 (satF (maxF p0 p1 p2) (lkF p0 p1 p2 2)), .float .f32 (cn .f32 (maxF p0 p1 p2))]) ∧ Below w.heap.size w w' := by
  have o0 : (FloatKind.f32.format.order p0 p0 != some .eq) = false := by rw [ord_self_ne]; exact n0
  have o1 : (FloatKind.f32.format.order p1 p1 != some .eq) = false := by rw [ord_self_ne]; exact n1
  have o2 : (FloatKind.f32.format.order p2 p2 != some .eq) = false := by rw [ord_self_ne]; exact n2
  clear n0 n1 n2
  have i0 : ∀ w, (Instr.index 76 (.agg #[.float .f32 p1, .float .f32 p2]) (.int .i64 0)).run Try.prog w = .ok (.float .f32 p1) w := fun _ => by kernel_rfl
  have i1 : ∀ w, (Instr.index 76 (.agg #[.float .f32 p1, .float .f32 p2]) (.int .i64 1)).run Try.prog w = .ok (.float .f32 p2) w := fun _ => by kernel_rfl
  go_enter Try.func16, Try.ntmps16
  go_wp2
  go_region
  go_wp2
  go_loopw [8, 9, 42] (fun s8 s9 i wr => ∃ k : Nat, k ≤ 2 ∧ i = .int .i64 k ∧ s8 = .float .f32 (pkF p0 p1 p2 k) ∧ s9 = .float .f32 (lkF p0 p1 p2 k) ∧ Below w.heap.size w wr) (fun _ _ i _ => 2 - (intOf i).toNat)
  case atStart => exact ⟨0, by decide, rfl, rfl, rfl, by (repeat (first | exact Below.refl _ _ | assumption | (refine Below.setCell ?_ (by first | (simp; done) | (simp; omega) | omega) _) | (refine Below.drew ?_) | (refine below_drewN ?_ _) | (refine Below.alloc ?_ (by first | (simp; done) | (simp; omega) | omega) _) | (refine Below.trans ?_ (Below.mono (by assumption) (by first | (simp; done) | (simp; omega) | omega)))))⟩
  case round =>
    obtain ⟨k, hk, rfl, rfl, rfl, hb⟩ := hrel
    rcases (show k = 0 ∨ k = 1 ∨ k = 2 by omega) with rfl | rfl | rfl
    · simp only [pkF, lkF] at *
      go_wp2
      all_goals
        go_roundw
        case rel => exact ⟨1, by omega, rfl, by show Value.float .f32 _ = Value.float .f32 (pickF p0 p1); first | (rw [pick_t (a := p0) (v := p1) (by assumption)]; done) | (rw [pick_f (a := p0) (v := p1) (by assumption)]; done), by show Value.float .f32 _ = Value.float .f32 (lowF p0 p1); first | (rw [low_t (a := p0) (v := p1) (by assumption)]; done) | (rw [low_f (a := p0) (v := p1) (by assumption)]; done), hb⟩
        case measure => simp [intOf]
    · simp only [pkF, lkF] at *
      go_wp2
      all_goals
        go_roundw
        case rel => exact ⟨2, by omega, rfl, by show Value.float .f32 _ = Value.float .f32 (pickF (pickF p0 p1) p2); first | (rw [pick_t (a := (pickF p0 p1)) (v := p2) (by assumption)]; done) | (rw [pick_f (a := (pickF p0 p1)) (v := p2) (by assumption)]; done), by show Value.float .f32 _ = Value.float .f32 (lowF (lowF p0 p1) p2); first | (rw [low_t (a := (lowF p0 p1)) (v := p2) (by assumption)]; done) | (rw [low_f (a := (lowF p0 p1)) (v := p2) (by assumption)]; done), hb⟩
        case measure => simp [intOf]
    · clear i0 i1 o0 o1 o2
      rw [show pkF p0 p1 p2 2 = maxF p0 p1 p2 from rfl]
      go_wp2_with (first | ((with_reducible apply wpList_farith); rfl; rfl; rfl; (intro r n hr; replace hr := hr.eq.symm)) | (go_at_call 23; refine (Clean_any _ _).mono ?_; rintro e w' ⟨rfl, rfl⟩))
      all_goals
        refine bodyPost_ret (v := .tuple #[.float .f32 _, .float .f32 _, .float .f32 _]) (by simp [results, Try.results16, go_sem]; and_intros <;> rfl) rfl ⟨ret_fff ?_ ?_ rfl, by (repeat (first | exact Below.refl _ _ | assumption | (refine Below.setCell ?_ (by first | (simp; done) | (simp; omega) | omega) _) | (refine Below.drew ?_) | (refine below_drewN ?_ _) | (refine Below.alloc ?_ (by first | (simp; done) | (simp; omega) | omega) _) | (refine Below.trans ?_ (Below.mono (by assumption) (by first | (simp; done) | (simp; omega) | omega)))))⟩
        · (simp [hueF, hrawF, ord_cn, cn_zero, *]) <;> first | exact ne_imp (by assumption) | exact eq_imp (by assumption)
        · (simp [satF, cn_zero, *]) <;> first | exact ne_imp (by assumption) | exact eq_imp (by assumption)
set_option maxRecDepth 100000 in
set_option maxHeartbeats 1600000 in
theorem ToHSV_any (p0 p1 p2 p3 : Nat) (w : World) : Calls Try.prog 16 #[.agg #[.float .f32 p0, .float .f32 p1, .float .f32 p2, .float .f32 p3]] w fun e w' =>
    e = .returned (.tuple #[.float .f32 (hsvF p0 p1 p2).1, .float .f32 (hsvF p0 p1 p2).2.1, .float .f32 (hsvF p0 p1 p2).2.2]) ∧ Below w.heap.size w w' := by
  unfold hsvF
  have s0 := ord_self_ne (k := .f32) (x := p0)
  have s1 := ord_self_ne (k := .f32) (x := p1)
  have s2 := ord_self_ne (k := .f32) (x := p2)
  cases h0 : isN .f32 p0 with
  | false =>
    cases h1 : isN .f32 p1 with
    | false =>
      cases h2 : isN .f32 p2 with
      | false => exact ToHSV_num p0 p1 p2 p3 w h0 h1 h2
      | true =>
        rw [if_pos (show (false || (false || true)) = true from rfl)]
        rw [h0] at s0; rw [h1] at s1; rw [h2] at s2
        clear h0 h1 h2
        go_enter Try.func16, Try.ntmps16
        go_wp2
        go_region
        go_wp2_with (first | (go_at_call 38; refine (noneC_any _).mono ?_; rintro e w' ⟨rfl, rfl⟩))
        exact bodyPost_ret (v := .tuple #[.float .f32 2143289344, .float .f32 2143289344, .float .f32 2143289344]) (by simp [results, Try.results16, go_sem]) rfl ⟨rfl, by (repeat (first | exact Below.refl _ _ | assumption | (refine Below.setCell ?_ (by first | (simp; done) | (simp; omega) | omega) _) | (refine Below.drew ?_) | (refine below_drewN ?_ _) | (refine Below.alloc ?_ (by first | (simp; done) | (simp; omega) | omega) _) | (refine Below.trans ?_ (Below.mono (by assumption) (by first | (simp; done) | (simp; omega) | omega)))))⟩
    | true =>
      rw [if_pos (show (false || (true || isN .f32 p2)) = true from rfl)]
      rw [h0] at s0; rw [h1] at s1
      clear h0 h1 s2
      go_enter Try.func16, Try.ntmps16
      go_wp2
      go_region
      go_wp2_with (first | (go_at_call 38; refine (noneC_any _).mono ?_; rintro e w' ⟨rfl, rfl⟩))
      exact bodyPost_ret (v := .tuple #[.float .f32 2143289344, .float .f32 2143289344, .float .f32 2143289344]) (by simp [results, Try.results16, go_sem]) rfl ⟨rfl, by (repeat (first | exact Below.refl _ _ | assumption | (refine Below.setCell ?_ (by first | (simp; done) | (simp; omega) | omega) _) | (refine Below.drew ?_) | (refine below_drewN ?_ _) | (refine Below.alloc ?_ (by first | (simp; done) | (simp; omega) | omega) _) | (refine Below.trans ?_ (Below.mono (by assumption) (by first | (simp; done) | (simp; omega) | omega)))))⟩
  | true =>
    rw [if_pos (show (true || (isN .f32 p1 || isN .f32 p2)) = true from rfl)]
    rw [h0] at s0
    clear h0 s1 s2
    go_enter Try.func16, Try.ntmps16
    go_wp2
    go_region
    go_wp2_with (first | (go_at_call 38; refine (noneC_any _).mono ?_; rintro e w' ⟨rfl, rfl⟩))
    exact bodyPost_ret (v := .tuple #[.float .f32 2143289344, .float .f32 2143289344, .float .f32 2143289344]) (by simp [results, Try.results16, go_sem]) rfl ⟨rfl, by (repeat (first | exact Below.refl _ _ | assumption | (refine Below.setCell ?_ (by first | (simp; done) | (simp; omega) | omega) _) | (refine Below.drew ?_) | (refine below_drewN ?_ _) | (refine Below.alloc ?_ (by first | (simp; done) | (simp; omega) | omega) _) | (refine Below.trans ?_ (Below.mono (by assumption) (by first | (simp; done) | (simp; omega) | omega)))))⟩
end Go.Proofs.Ytfmdnibfeckmaaa
