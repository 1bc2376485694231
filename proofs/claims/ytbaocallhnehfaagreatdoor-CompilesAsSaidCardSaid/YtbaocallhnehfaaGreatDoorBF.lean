/- finish.Clip's closure, and three with it: it counts in a variable of Clip's. No condition. (with: ClipB, PixEq, GmA) -/
import Derived.Test.YtbaocallhnehfaaGreatDoorBE
namespace Go.Proofs.YtbaocallhnehfaaGreatDoor
open Go.RowKit
/-- All but the block M is as it was. -/
structure Ex (M : Nat) (w w' : World) : Prop where
  b : ∀ n, n ≤ M → Below n w w'
  c : ∀ b o, b ≠ M → w'.cell? ⟨b, o, none⟩ = w.cell? ⟨b, o, none⟩
  f : ∀ b o, w'.frozen? ⟨b, o, none⟩ = w.frozen? ⟨b, o, none⟩
  s : w'.heap.size = w.heap.size
theorem Ex.refl (M : Nat) (w : World) : Ex M w w := ⟨fun _ _ => Below.refl _ _, fun _ _ _ => rfl, fun _ _ => rfl, rfl⟩
theorem Ex.set (M : Nat) (w : World) (v : Value) : Ex M w (w.setCell ⟨M, 0, none⟩ v) :=
  ⟨fun n hn => (Below.refl _ _).setCell hn _, fun b o h => World.cell?_setCell_other _ _ _ _ (by intro e; cases e; exact h rfl), fun _ _ => World.frozen?_setCell _ _ _ _, by simp [World.setCell]⟩
/-- 1 where a value is not within the bounds. -/
def dltZ (v lo hi : Nat) : Int := if cn .f32 (limF v lo hi) = cn .f32 v then 0 else 1
end Go.Proofs.YtbaocallhnehfaaGreatDoor

namespace Go.Proofs.YtbaocallhnehfaaGreatDoor
open Go.RowKit
set_option maxRecDepth 100000 in
set_option maxHeartbeats 1600000 in
theorem Compress_form (p0 p1 p2 p3 f : Nat) (w : World) (hn : isNum .f32 f = false) :
    Calls Tryz.prog 58 #[.agg #[.float .f32 p0, .float .f32 p1, .float .f32 p2, .float .f32 p3], .float .f32 f] w fun e w' =>
      e = .returned (.tuple #[.agg #[.float .f32 0, .float .f32 0, .float .f32 0, .float .f32 0], .int .i64 2]) ∧ Below w.heap.size w w' := by
  go_enter Tryz.func58, Tryz.ntmps58
  go_wp2_with (first | (go_at_call 85; refine (IsNumber_any _ _).mono ?_; rintro e w' ⟨rfl, rfl⟩))
  refine bodyPost_ret (v := .tuple #[.agg #[.float .f32 0, .float .f32 0, .float .f32 0, .float .f32 0], .int .i64 2]) (by simp [results, Tryz.results58, go_sem, *]) rfl ⟨rfl, ?_⟩
  (repeat (first | exact Below.refl _ _ | assumption | (refine Below.setCell ?_ (by first | (simp; done) | (simp; omega) | omega) _) | (refine Below.drew ?_) | (refine below_drewN ?_ _) | (refine Below.alloc ?_ (by first | (simp; done) | (simp; omega) | omega) _) | (refine Below.trans ?_ (Below.mono (by assumption) (by first | (simp; done) | (simp; omega) | omega)))))
set_option maxRecDepth 100000 in
set_option maxHeartbeats 1600000 in
theorem Compress_range (p0 p1 p2 p3 f : Nat) (w : World) (hn : isNum .f32 f = true) (hr : (FloatKind.f32.format.order f 0 == some .lt) = true ∨ (FloatKind.f32.format.order f 0 == some .lt) = false ∧ ((FloatKind.f32.format.order f 1065353216 == some .gt) || (FloatKind.f32.format.order f 1065353216 == some .eq)) = true) :
    Calls Tryz.prog 58 #[.agg #[.float .f32 p0, .float .f32 p1, .float .f32 p2, .float .f32 p3], .float .f32 f] w fun e w' =>
      e = .returned (.tuple #[.agg #[.float .f32 0, .float .f32 0, .float .f32 0, .float .f32 0], .int .i64 3]) ∧ Below w.heap.size w w' := by
  rcases hr with hr | ⟨hr, hq⟩
  · go_enter Tryz.func58, Tryz.ntmps58
    go_wp2_with (first | (go_at_call 85; refine (IsNumber_any _ _).mono ?_; rintro e w' ⟨rfl, rfl⟩))
    refine bodyPost_ret (v := .tuple #[.agg #[.float .f32 0, .float .f32 0, .float .f32 0, .float .f32 0], .int .i64 3]) (by simp [results, Tryz.results58, go_sem, *]) rfl ⟨rfl, ?_⟩
    (repeat (first | exact Below.refl _ _ | assumption | (refine Below.setCell ?_ (by first | (simp; done) | (simp; omega) | omega) _) | (refine Below.drew ?_) | (refine below_drewN ?_ _) | (refine Below.alloc ?_ (by first | (simp; done) | (simp; omega) | omega) _) | (refine Below.trans ?_ (Below.mono (by assumption) (by first | (simp; done) | (simp; omega) | omega)))))
  · rcases (Bool.or_eq_true_iff.1 hq) with hq | hq
    all_goals
      go_enter Tryz.func58, Tryz.ntmps58
      go_wp2_with (first | (go_at_call 85; refine (IsNumber_any _ _).mono ?_; rintro e w' ⟨rfl, rfl⟩))
      refine bodyPost_ret (v := .tuple #[.agg #[.float .f32 0, .float .f32 0, .float .f32 0, .float .f32 0], .int .i64 3]) (by simp [results, Tryz.results58, go_sem, *]) rfl ⟨rfl, ?_⟩
      (repeat (first | exact Below.refl _ _ | assumption | (refine Below.setCell ?_ (by first | (simp; done) | (simp; omega) | omega) _) | (refine Below.drew ?_) | (refine below_drewN ?_ _) | (refine Below.alloc ?_ (by first | (simp; done) | (simp; omega) | omega) _) | (refine Below.trans ?_ (Below.mono (by assumption) (by first | (simp; done) | (simp; omega) | omega)))))
/-- The error of bounds. -/
def clipE (lo hi : Nat) : Int := if allNum [lo, hi] then (if FloatKind.f32.format.order hi lo == some .lt then 8 else 0) else 2
end Go.Proofs.YtbaocallhnehfaaGreatDoor

namespace Go.Proofs.YtbaocallhnehfaaGreatDoor
open Go.RowKit
end Go.Proofs.YtbaocallhnehfaaGreatDoor

namespace Go.Proofs.YtbaocallhnehfaaGreatDoor
open Go Go.RowKit
def oLt : Ordering → Bool | .lt => true | .eq => false | .gt => false
def oEq : Ordering → Bool | .lt => false | .eq => true | .gt => false
def oGt : Ordering → Bool | .lt => false | .eq => false | .gt => true
theorem ord_some {u v : Nat} (hu : isNum .f32 u = true) (hv : isNum .f32 v = true) : ∃ o, (FloatKind.f32.format.order u v == some .lt) = oLt o ∧ (FloatKind.f32.format.order u v == some .eq) = oEq o ∧ (FloatKind.f32.format.order u v == some .gt) = oGt o := by
  have nu := isNum_not_nan hu
  have nv := isNum_not_nan hv
  rw [ord_lt nu nv, ord_eq nu nv, ord_gt nu nv]
  rcases Int.lt_trichotomy (key FloatKind.f32.format u) (key FloatKind.f32.format v) with h | h | h
  · exact ⟨.lt, by simp [oLt]; omega, by simp [oEq]; omega, by simp [oGt]; omega⟩
  · exact ⟨.eq, by simp [oLt]; omega, by simp [oEq]; omega, by simp [oGt]; omega⟩
  · exact ⟨.gt, by simp [oLt]; omega, by simp [oEq]; omega, by simp [oGt]; omega⟩
theorem ord_flip {u v : Nat} (hu : isNum .f32 u = true) (hv : isNum .f32 v = true) : (FloatKind.f32.format.order u v == some .lt) = (FloatKind.f32.format.order v u == some .gt) := by
  have nu := isNum_not_nan hu
  have nv := isNum_not_nan hv
  rw [ord_lt nu nv, ord_gt nv nu]
theorem num_01 : isNum .f32 0 = true ∧ isNum .f32 1065353216 = true := by constructor <;> decide +kernel
/-- The error of a bound from which on it is compressed. -/
def cmpE (f : Nat) : Int := if isNum .f32 f then (if FloatKind.f32.format.order f 0 == some .lt then 3 else if (FloatKind.f32.format.order f 1065353216 == some .gt) || (FloatKind.f32.format.order f 1065353216 == some .eq) then 3 else 0) else 2
theorem cmpE_zero {f : Nat} (h : cmpE f = 0) : isNum .f32 f = true ∧ (FloatKind.f32.format.order f 0 == some .lt) = false ∧ (FloatKind.f32.format.order f 1065353216 == some .gt) = false ∧ (FloatKind.f32.format.order f 1065353216 == some .eq) = false ∧ (FloatKind.f32.format.order 1065353216 f == some .gt) = true := by
  unfold cmpE at h
  cases hn : isNum .f32 f with
  | false => rw [hn] at h; simp at h
  | true =>
    rw [hn] at h
    obtain ⟨o, h1, h2, h3⟩ := ord_some hn num_01.1
    obtain ⟨o', g1, g2, g3⟩ := ord_some hn num_01.2
    have g4 := ord_flip hn num_01.2
    rw [g1] at g4
    rw [h1, g2, g3] at h
    rw [h1, g2, g3, ← g4]
    cases o <;> cases o' <;> simp_all [oLt, oEq, oGt]
theorem Compress_any (p0 p1 p2 p3 f : Nat) (w : World) (h0 : p0 < 2 ^ FloatKind.f32.format.width) (h1 : p1 < 2 ^ FloatKind.f32.format.width) (h2 : p2 < 2 ^ FloatKind.f32.format.width) :
    Calls Tryz.prog 58 #[.agg #[.float .f32 p0, .float .f32 p1, .float .f32 p2, .float .f32 p3], .float .f32 f] w fun e w' =>
      ∃ q0 q1 q2 q3, e = .returned (.tuple #[.agg #[.float .f32 q0, .float .f32 q1, .float .f32 q2, .float .f32 q3], .int .i64 (cmpE f)]) ∧ (cmpE f ≠ 0 → q0 = 0 ∧ q1 = 0 ∧ q2 = 0 ∧ q3 = 0) ∧
        (cmpE f = 0 → q0 = docF (maxF p0 p1 p2) (staysF p0 p1 p2) f p0 ∧ q1 = docF (maxF p0 p1 p2) (staysF p0 p1 p2) f p1 ∧ q2 = docF (maxF p0 p1 p2) (staysF p0 p1 p2) f p2 ∧ q3 = cn .f32 p3) ∧ Below w.heap.size w w' := by
  cases hn : isNum .f32 f with
  | false =>
    have e : cmpE f = 2 := by unfold cmpE; rw [hn]; rfl
    refine (Compress_form p0 p1 p2 p3 f w hn).mono ?_
    rintro e w' ⟨rfl, hb⟩
    exact ⟨0, 0, 0, 0, by rw [e], fun _ => ⟨rfl, rfl, rfl, rfl⟩, fun h => absurd (e.symm.trans h) (by decide), hb⟩
  | true =>
    by_cases hr : (FloatKind.f32.format.order f 0 == some .lt) = true ∨ (FloatKind.f32.format.order f 0 == some .lt) = false ∧ ((FloatKind.f32.format.order f 1065353216 == some .gt) || (FloatKind.f32.format.order f 1065353216 == some .eq)) = true
    · have e : cmpE f = 3 := by
        unfold cmpE; rw [hn]
        rcases hr with h | ⟨h, h'⟩
        · rw [h]; rfl
        · rw [h, h']; rfl
      refine (Compress_range p0 p1 p2 p3 f w hn hr).mono ?_
      rintro e w' ⟨rfl, hb⟩
      exact ⟨0, 0, 0, 0, by rw [e], fun _ => ⟨rfl, rfl, rfl, rfl⟩, fun h => absurd (e.symm.trans h) (by decide), hb⟩
    · have e : cmpE f = 0 := by
        unfold cmpE; rw [hn]
        simp only [not_or, not_and, Bool.not_eq_true] at hr
        rw [hr.1, hr.2 hr.1]; rfl
      obtain ⟨-, c1, c2, c3, c4⟩ := cmpE_zero e
      refine (Compress_yes p0 p1 p2 p3 f w h0 h1 h2 hn c1 c2 c3).mono ?_
      rintro e w' ⟨rfl, hb⟩
      have E : ∀ a st v, compF a st f v = docF a st f v := fun a st v => by
        cases st with
        | false => exact comp_eq hn c1 c4
        | true => unfold compF docF; rfl
      exact ⟨_, _, _, _, by rw [e], fun h => absurd e h, fun _ => ⟨E _ _ _, E _ _ _, E _ _ _, rfl⟩, hb⟩
end Go.Proofs.YtbaocallhnehfaaGreatDoor
