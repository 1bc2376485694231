/- Hues, saturations and values of the document: dyeref2.HSVOf. No condition. -/
import Derived.Test.YtmnmcmmhnbnndaaHueB
namespace Go.Proofs.Ytmnmcmmhnbnndaa
open Go.RowKit
theorem max_not_nan {p0 p1 p2 : Nat} (n0 : isN .f32 p0 = false) (n1 : isN .f32 p1 = false) (n2 : isN .f32 p2 = false) : isN .f32 (maxF p0 p1 p2) = false := by
  have h : isN .f32 (pickF p0 p1) = false := by unfold pickF; split <;> assumption
  show isN .f32 (pickF (pickF p0 p1) p2) = false
  generalize pickF p0 p1 = a at *
  unfold pickF
  split <;> assumption
set_option maxRecDepth 100000 in
set_option maxHeartbeats 3200000 in
theorem HSVOf_num (p0 p1 p2 p3 : Nat) (w : World) (n0 : isN .f32 p0 = false) (n1 : isN .f32 p1 = false) (n2 : isN .f32 p2 = false) : Calls Try.prog 88 #[.agg #[.float .f32 p0, .float .f32 p1, .float .f32 p2, .float .f32 p3]] w fun e w' =>
    e = .returned (.tuple #[.float .f32 (hueF (maxF p0 p1 p2) (lkF p0 p1 p2 2) p0 p1 p2), .float .f32 (satF (maxF p0 p1 p2) (lkF p0 p1 p2 2)), .float .f32 (cn .f32 (maxF p0 p1 p2))]) ∧ Below w.heap.size w w' := by
  have o0 : (FloatKind.f32.format.order p0 p0 != some .eq) = false := by rw [ord_self_ne]; exact n0
  have o1 : (FloatKind.f32.format.order p1 p1 != some .eq) = false := by rw [ord_self_ne]; exact n1
  have o2 : (FloatKind.f32.format.order p2 p2 != some .eq) = false := by rw [ord_self_ne]; exact n2
  have hv : cn .f32 (maxF p0 p1 p2) = maxF p0 p1 p2 := cn_of_not (max_not_nan n0 n1 n2)
  have hv' := Lib.hid hv; clear hv
  clear n0 n1 n2
  go_enter Try.func88, Try.ntmps88
  go_wp2
  go_loopw [4, 5, 37] (fun s8 s9 i wr => ∃ k : Nat, k ≤ 2 ∧ i = .int .i64 k ∧ s8 = .float .f32 (pkF p0 p1 p2 k) ∧ s9 = .float .f32 (lkF p0 p1 p2 k) ∧ Pix4 wr w.heap.size p0 p1 p2 p3 ∧ Below w.heap.size w wr) (fun _ _ i _ => 2 - (intOf i).toNat)
  case atStart => exact ⟨0, by decide, rfl, rfl, rfl, ⟨by simp [go_sem], by simp [go_sem], by simp [go_sem], by simp [go_sem], fun o => by simp [go_sem]⟩, by (repeat (first | exact Below.refl _ _ | assumption | (refine Below.setCell ?_ (by first | (simp; done) | (simp; omega) | omega) _) | (refine Below.drew ?_) | (refine below_drewN ?_ _) | (refine Below.alloc ?_ (by first | (simp; done) | (simp; omega) | omega) _) | (refine Below.trans ?_ (Below.mono (by assumption) (by first | (simp; done) | (simp; omega) | omega)))))⟩
  case round =>
    obtain ⟨k, hk, rfl, rfl, rfl, hp, hb⟩ := hrel
    have hp' := Lib.hid hp
    obtain ⟨c0, c1, c2, c3, cf⟩ := hp
    rcases (show k = 0 ∨ k = 1 ∨ k = 2 by omega) with rfl | rfl | rfl
    · simp only [pkF, lkF] at *
      go_wp2
      all_goals
        go_roundw
        case rel => exact ⟨1, by omega, rfl, by show Value.float .f32 _ = Value.float .f32 (pickF p0 p1); first | (rw [pick_t (a := p0) (v := p1) (by assumption)]; done) | (rw [pick_f (a := p0) (v := p1) (by assumption)]; done), by show Value.float .f32 _ = Value.float .f32 (lowF p0 p1); first | (rw [low_t (a := p0) (v := p1) (by assumption)]; done) | (rw [low_f (a := p0) (v := p1) (by assumption)]; done), hp'.out, hb⟩
        case measure => simp [intOf]
    · simp only [pkF, lkF] at *
      go_wp2
      all_goals
        go_roundw
        case rel => exact ⟨2, by omega, rfl, by show Value.float .f32 _ = Value.float .f32 (pickF (pickF p0 p1) p2); first | (rw [pick_t (a := (pickF p0 p1)) (v := p2) (by assumption)]; done) | (rw [pick_f (a := (pickF p0 p1)) (v := p2) (by assumption)]; done), by show Value.float .f32 _ = Value.float .f32 (lowF (lowF p0 p1) p2); first | (rw [low_t (a := (lowF p0 p1)) (v := p2) (by assumption)]; done) | (rw [low_f (a := (lowF p0 p1)) (v := p2) (by assumption)]; done), hp'.out, hb⟩
        case measure => simp [intOf]
    · clear o0 o1 o2
      rw [show pkF p0 p1 p2 2 = maxF p0 p1 p2 from rfl]
      go_wp2_with (first | ((with_reducible apply wpList_farith); rfl; rfl; rfl; (intro r n hr; replace hr := hr.eq.symm)) | (go_at_call 55; refine (Fix_any _ _).mono ?_; rintro e w' ⟨rfl, rfl⟩))
      all_goals
        refine bodyPost_ret (v := .tuple #[.float .f32 _, .float .f32 _, .float .f32 _]) (by simp [results, Try.results88, go_sem]; and_intros <;> rfl) rfl ⟨ret_fff ?_ ?_ hv'.out.symm, by (repeat (first | exact Below.refl _ _ | assumption | (refine Below.setCell ?_ (by first | (simp; done) | (simp; omega) | omega) _) | (refine Below.drew ?_) | (refine below_drewN ?_ _) | (refine Below.alloc ?_ (by first | (simp; done) | (simp; omega) | omega) _) | (refine Below.trans ?_ (Below.mono (by assumption) (by first | (simp; done) | (simp; omega) | omega)))))⟩
        · (simp [hueF, hrawF, ord_cn, *]) <;> first | exact ne_imp (by assumption) | exact eq_imp (by assumption)
        · (simp [satF, *]) <;> first | exact ne_imp (by assumption) | exact eq_imp (by assumption)
set_option maxRecDepth 100000 in
set_option maxHeartbeats 1600000 in
theorem HSVOf_any (p0 p1 p2 p3 : Nat) (w : World) : Calls Try.prog 88 #[.agg #[.float .f32 p0, .float .f32 p1, .float .f32 p2, .float .f32 p3]] w fun e w' =>
    e = .returned (.tuple #[.float .f32 (hsvF p0 p1 p2).1, .float .f32 (hsvF p0 p1 p2).2.1, .float .f32 (hsvF p0 p1 p2).2.2]) ∧ Below w.heap.size w w' := by
  unfold hsvF
  have s0 := ord_self_ne (k := .f32) (x := p0)
  have s1 := ord_self_ne (k := .f32) (x := p1)
  have s2 := ord_self_ne (k := .f32) (x := p2)
  cases h0 : isN .f32 p0 with
  | false =>
    cases h1 : isN .f32 p1 with
    | false =>
      cases h2 : isN .f32 p2 with
      | false => exact HSVOf_num p0 p1 p2 p3 w h0 h1 h2
      | true =>
        rw [if_pos (show (false || (false || true)) = true from rfl)]
        rw [h0] at s0; rw [h1] at s1; rw [h2] at s2
        clear h0 h1 h2
        go_enter Try.func88, Try.ntmps88
        go_wp2_with (first | (go_at_call 152; refine (TheNaN_any _).mono ?_; rintro e w' ⟨rfl, rfl⟩))
        exact bodyPost_ret (v := .tuple #[.float .f32 2143289344, .float .f32 2143289344, .float .f32 2143289344]) (by simp [results, Try.results88, go_sem]) rfl ⟨rfl, by (repeat (first | exact Below.refl _ _ | assumption | (refine Below.setCell ?_ (by first | (simp; done) | (simp; omega) | omega) _) | (refine Below.drew ?_) | (refine below_drewN ?_ _) | (refine Below.alloc ?_ (by first | (simp; done) | (simp; omega) | omega) _) | (refine Below.trans ?_ (Below.mono (by assumption) (by first | (simp; done) | (simp; omega) | omega)))))⟩
    | true =>
      rw [if_pos (show (false || (true || isN .f32 p2)) = true from rfl)]
      rw [h0] at s0; rw [h1] at s1
      clear h0 h1 s2
      go_enter Try.func88, Try.ntmps88
      go_wp2_with (first | (go_at_call 152; refine (TheNaN_any _).mono ?_; rintro e w' ⟨rfl, rfl⟩))
      exact bodyPost_ret (v := .tuple #[.float .f32 2143289344, .float .f32 2143289344, .float .f32 2143289344]) (by simp [results, Try.results88, go_sem]) rfl ⟨rfl, by (repeat (first | exact Below.refl _ _ | assumption | (refine Below.setCell ?_ (by first | (simp; done) | (simp; omega) | omega) _) | (refine Below.drew ?_) | (refine below_drewN ?_ _) | (refine Below.alloc ?_ (by first | (simp; done) | (simp; omega) | omega) _) | (refine Below.trans ?_ (Below.mono (by assumption) (by first | (simp; done) | (simp; omega) | omega)))))⟩
  | true =>
    rw [if_pos (show (true || (isN .f32 p1 || isN .f32 p2)) = true from rfl)]
    rw [h0] at s0
    clear h0 s1 s2
    go_enter Try.func88, Try.ntmps88
    go_wp2_with (first | (go_at_call 152; refine (TheNaN_any _).mono ?_; rintro e w' ⟨rfl, rfl⟩))
    exact bodyPost_ret (v := .tuple #[.float .f32 2143289344, .float .f32 2143289344, .float .f32 2143289344]) (by simp [results, Try.results88, go_sem]) rfl ⟨rfl, by (repeat (first | exact Below.refl _ _ | assumption | (refine Below.setCell ?_ (by first | (simp; done) | (simp; omega) | omega) _) | (refine Below.drew ?_) | (refine below_drewN ?_ _) | (refine Below.alloc ?_ (by first | (simp; done) | (simp; omega) | omega) _) | (refine Below.trans ?_ (Below.mono (by assumption) (by first | (simp; done) | (simp; omega) | omega)))))⟩
end Go.Proofs.Ytmnmcmmhnbnndaa
