/- finish.Clip's closure, and three with it: it counts in a variable of Clip's. No condition. (with: ClipB, PixEq, GmA) -/
import Derived.Test.YthlomgbchmhjiaaGreatDoorBE
namespace Go.Proofs.YthlomgbchmhjiaaGreatDoor
open Go.RowKit
/-- All but the block M is as it was. -/
structure Ex (M : Nat) (w w' : World) : Prop where
  b : ∀ n, n ≤ M → Below n w w'
  c : ∀ b o, b ≠ M → w'.cell? ⟨b, o, none⟩ = w.cell? ⟨b, o, none⟩
  f : ∀ b o, w'.frozen? ⟨b, o, none⟩ = w.frozen? ⟨b, o, none⟩
  s : w'.heap.size = w.heap.size
theorem Ex.refl (M : Nat) (w : World) : Ex M w w := ⟨fun _ _ => Below.refl _ _, fun _ _ _ => rfl, fun _ _ => rfl, rfl⟩
theorem Ex.set (M : Nat) (w : World) (v : Value) : Ex M w (w.setCell ⟨M, 0, none⟩ v) :=
  ⟨fun n hn => (Below.refl _ _).setCell hn _, fun b o h => World.cell?_setCell_other _ _ _ _ (by intro e; cases e; exact h rfl), fun _ _ => World.frozen?_setCell _ _ _ _, by simp [World.setCell]⟩
theorem Pix4.ex {w w' : World} {M b v0 v1 v2 v3 : Nat} (h : Pix4 w b v0 v1 v2 v3) (e : Ex M w w') (hb : b ≠ M) : Pix4 w' b v0 v1 v2 v3 :=
  ⟨(e.c _ _ hb).trans h.c0, (e.c _ _ hb).trans h.c1, (e.c _ _ hb).trans h.c2, (e.c _ _ hb).trans h.c3, fun o => (e.f _ o).trans (h.f o)⟩
theorem One.ex {w w' : World} {M b : Nat} {v : Value} (h : One w b v) (e : Ex M w w') (hb : b ≠ M) : One w' b v := ⟨(e.c _ _ hb).trans h.c, (e.f _ _).trans h.f⟩
/-- 1 where a value is not within the bounds. -/
def dltZ (v lo hi : Nat) : Int := if cn .f32 (limF v lo hi) = cn .f32 v then 0 else 1
theorem dlt_bd (v lo hi : Nat) : 0 ≤ dltZ v lo hi ∧ dltZ v lo hi ≤ 1 := by unfold dltZ; split <;> omega
theorem cn_lim (v lo hi : Nat) : cn .f32 (limF v lo hi) = limF v lo hi := by unfold limF; split; exact cn_cn _ _; split <;> exact cn_cn _ _
end Go.Proofs.YthlomgbchmhjiaaGreatDoor

namespace Go.Proofs.YthlomgbchmhjiaaGreatDoor
open Go.RowKit
set_option maxRecDepth 100000 in
set_option maxHeartbeats 1600000 in
theorem Compress_form (p0 p1 p2 p3 f : Nat) (w : World) (hn : isNum .f32 f = false) :
    Calls Tryz.prog 64 #[.agg #[.float .f32 p0, .float .f32 p1, .float .f32 p2, .float .f32 p3], .float .f32 f] w fun e w' =>
      e = .returned (.tuple #[.agg #[.float .f32 0, .float .f32 0, .float .f32 0, .float .f32 0], .int .i64 2]) ∧ Below w.heap.size w w' := by
  go_enter Tryz.func64, Tryz.ntmps64
  go_wp2_with (first | (go_at_call 16; refine (IsNumber_any _ _).mono ?_; rintro e w' ⟨rfl, rfl⟩))
  refine bodyPost_ret (v := .tuple #[.agg #[.float .f32 0, .float .f32 0, .float .f32 0, .float .f32 0], .int .i64 2]) (by simp [results, Tryz.results64, go_sem, *]) rfl ⟨rfl, ?_⟩
  (repeat (first | exact Below.refl _ _ | assumption | (refine Below.setCell ?_ (by first | (simp; done) | (simp; omega) | omega) _) | (refine Below.drew ?_) | (refine below_drewN ?_ _) | (refine Below.alloc ?_ (by first | (simp; done) | (simp; omega) | omega) _) | (refine Below.trans ?_ (Below.mono (by assumption) (by first | (simp; done) | (simp; omega) | omega)))))
set_option maxRecDepth 100000 in
set_option maxHeartbeats 1600000 in
theorem Compress_range (p0 p1 p2 p3 f : Nat) (w : World) (hn : isNum .f32 f = true) (hr : (FloatKind.f32.format.order f 0 == some .lt) = true ∨ (FloatKind.f32.format.order f 0 == some .lt) = false ∧ ((FloatKind.f32.format.order f 1065353216 == some .gt) || (FloatKind.f32.format.order f 1065353216 == some .eq)) = true) :
    Calls Tryz.prog 64 #[.agg #[.float .f32 p0, .float .f32 p1, .float .f32 p2, .float .f32 p3], .float .f32 f] w fun e w' =>
      e = .returned (.tuple #[.agg #[.float .f32 0, .float .f32 0, .float .f32 0, .float .f32 0], .int .i64 3]) ∧ Below w.heap.size w w' := by
  rcases hr with hr | ⟨hr, hq⟩
  · go_enter Tryz.func64, Tryz.ntmps64
    go_wp2_with (first | (go_at_call 16; refine (IsNumber_any _ _).mono ?_; rintro e w' ⟨rfl, rfl⟩))
    refine bodyPost_ret (v := .tuple #[.agg #[.float .f32 0, .float .f32 0, .float .f32 0, .float .f32 0], .int .i64 3]) (by simp [results, Tryz.results64, go_sem, *]) rfl ⟨rfl, ?_⟩
    (repeat (first | exact Below.refl _ _ | assumption | (refine Below.setCell ?_ (by first | (simp; done) | (simp; omega) | omega) _) | (refine Below.drew ?_) | (refine below_drewN ?_ _) | (refine Below.alloc ?_ (by first | (simp; done) | (simp; omega) | omega) _) | (refine Below.trans ?_ (Below.mono (by assumption) (by first | (simp; done) | (simp; omega) | omega)))))
  · rcases (Bool.or_eq_true_iff.1 hq) with hq | hq
    all_goals
      go_enter Tryz.func64, Tryz.ntmps64
      go_wp2_with (first | (go_at_call 16; refine (IsNumber_any _ _).mono ?_; rintro e w' ⟨rfl, rfl⟩))
      refine bodyPost_ret (v := .tuple #[.agg #[.float .f32 0, .float .f32 0, .float .f32 0, .float .f32 0], .int .i64 3]) (by simp [results, Tryz.results64, go_sem, *]) rfl ⟨rfl, ?_⟩
      (repeat (first | exact Below.refl _ _ | assumption | (refine Below.setCell ?_ (by first | (simp; done) | (simp; omega) | omega) _) | (refine Below.drew ?_) | (refine below_drewN ?_ _) | (refine Below.alloc ?_ (by first | (simp; done) | (simp; omega) | omega) _) | (refine Below.trans ?_ (Below.mono (by assumption) (by first | (simp; done) | (simp; omega) | omega)))))
/-- The error of bounds. -/
def clipE (lo hi : Nat) : Int := if allNum [lo, hi] then (if FloatKind.f32.format.order hi lo == some .lt then 8 else 0) else 2
end Go.Proofs.YthlomgbchmhjiaaGreatDoor

namespace Go.Proofs.YthlomgbchmhjiaaGreatDoor
open Go.RowKit
set_option maxHeartbeats 4000000 in
theorem pix_zero (w : World) : (Op.equalIn 10000 139 (.agg #[.float .f32 0, .float .f32 0, .float .f32 0, .float .f32 0]) (.agg #[.float .f32 0, .float .f32 0, .float .f32 0, .float .f32 0])).run Tryz.prog w = .ok true w := by
  have h1 := Tryz.underlying139
  have h2 := Tryz.underlying27
  have g0 : ∀ w, (part 27 #[.float .f32 0, .float .f32 0, .float .f32 0, .float .f32 0] 0).run Tryz.prog w = .ok (.float .f32 0) w := fun _ => by kernel_rfl
  have g1 : ∀ w, (part 27 #[.float .f32 0, .float .f32 0, .float .f32 0, .float .f32 0] 1).run Tryz.prog w = .ok (.float .f32 0) w := fun _ => by kernel_rfl
  have g2 : ∀ w, (part 27 #[.float .f32 0, .float .f32 0, .float .f32 0, .float .f32 0] 2).run Tryz.prog w = .ok (.float .f32 0) w := fun _ => by kernel_rfl
  have g3 : ∀ w, (part 27 #[.float .f32 0, .float .f32 0, .float .f32 0, .float .f32 0] 3).run Tryz.prog w = .ok (.float .f32 0) w := fun _ => by kernel_rfl
  rw [show (10000 : Nat) = 9998 + 1 + 1 from rfl]
  generalize 9998 = d
  have h4 : ∀ w, (sizeOf 27).run Tryz.prog w = .ok 1 w := fun _ => by kernel_rfl
  have h5 : Op.floatEq .f32 0 0 = true := by decide
  simp [Op.equalIn, run_underlying h1, run_underlying h2, Sem.run_bind, Sem.run_pure, Result.andThen_ok, List.range', h4, h5, g0, g1, g2, g3]
end Go.Proofs.YthlomgbchmhjiaaGreatDoor

namespace Go.Proofs.YthlomgbchmhjiaaGreatDoor
open Go Go.RowKit
theorem loose_pass {P : Program} {ops : Array Oper} {W : World} {Ψ : FuncId → Array Value → Value → Prop} {L : Act → Prop} {rest : List Oper} {a : Act} {o : Oper} (hw : Region.wanted o (yielded ops a.tmps) = false)
    (h : ∀ K : Act → Prop, (∀ a, wpLoose P ops W Ψ L rest a → K a) → K (a.put o.dst undef)) : wpLoose P ops W Ψ L (o :: rest) a := loose_skip hw (h _ fun _ h => h)
def oLt : Ordering → Bool | .lt => true | .eq => false | .gt => false
def oEq : Ordering → Bool | .lt => false | .eq => true | .gt => false
def oGt : Ordering → Bool | .lt => false | .eq => false | .gt => true
theorem ord_some {u v : Nat} (hu : isNum .f32 u = true) (hv : isNum .f32 v = true) : ∃ o, (FloatKind.f32.format.order u v == some .lt) = oLt o ∧ (FloatKind.f32.format.order u v == some .eq) = oEq o ∧ (FloatKind.f32.format.order u v == some .gt) = oGt o := by
  have nu := isNum_not_nan hu
  have nv := isNum_not_nan hv
  rw [ord_lt nu nv, ord_eq nu nv, ord_gt nu nv]
  rcases Int.lt_trichotomy (key FloatKind.f32.format u) (key FloatKind.f32.format v) with h | h | h
  · exact ⟨.lt, by simp [oLt]; omega, by simp [oEq]; omega, by simp [oGt]; omega⟩
  · exact ⟨.eq, by simp [oLt]; omega, by simp [oEq]; omega, by simp [oGt]; omega⟩
  · exact ⟨.gt, by simp [oLt]; omega, by simp [oEq]; omega, by simp [oGt]; omega⟩
theorem ord_flip {u v : Nat} (hu : isNum .f32 u = true) (hv : isNum .f32 v = true) : (FloatKind.f32.format.order u v == some .lt) = (FloatKind.f32.format.order v u == some .gt) := by
  have nu := isNum_not_nan hu
  have nv := isNum_not_nan hv
  rw [ord_lt nu nv, ord_gt nv nu]
theorem num_01 : isNum .f32 0 = true ∧ isNum .f32 1065353216 = true := by constructor <;> decide +kernel
/-- The error of a bound from which on it is compressed. -/
def cmpE (f : Nat) : Int := if isNum .f32 f then (if FloatKind.f32.format.order f 0 == some .lt then 3 else if (FloatKind.f32.format.order f 1065353216 == some .gt) || (FloatKind.f32.format.order f 1065353216 == some .eq) then 3 else 0) else 2
theorem cmpE_zero {f : Nat} (h : cmpE f = 0) : isNum .f32 f = true ∧ (FloatKind.f32.format.order f 0 == some .lt) = false ∧ (FloatKind.f32.format.order f 1065353216 == some .gt) = false ∧ (FloatKind.f32.format.order f 1065353216 == some .eq) = false ∧ (FloatKind.f32.format.order 1065353216 f == some .gt) = true := by
  unfold cmpE at h
  cases hn : isNum .f32 f with
  | false => rw [hn] at h; simp at h
  | true =>
    rw [hn] at h
    obtain ⟨o, h1, h2, h3⟩ := ord_some hn num_01.1
    obtain ⟨o', g1, g2, g3⟩ := ord_some hn num_01.2
    have g4 := ord_flip hn num_01.2
    rw [g1] at g4
    rw [h1, g2, g3] at h
    rw [h1, g2, g3, ← g4]
    cases o <;> cases o' <;> simp_all [oLt, oEq, oGt]
theorem Compress_any (p0 p1 p2 p3 f : Nat) (w : World) (h0 : p0 < 2 ^ FloatKind.f32.format.width) (h1 : p1 < 2 ^ FloatKind.f32.format.width) (h2 : p2 < 2 ^ FloatKind.f32.format.width) :
    Calls Tryz.prog 64 #[.agg #[.float .f32 p0, .float .f32 p1, .float .f32 p2, .float .f32 p3], .float .f32 f] w fun e w' =>
      ∃ q0 q1 q2 q3, e = .returned (.tuple #[.agg #[.float .f32 q0, .float .f32 q1, .float .f32 q2, .float .f32 q3], .int .i64 (cmpE f)]) ∧ (cmpE f ≠ 0 → q0 = 0 ∧ q1 = 0 ∧ q2 = 0 ∧ q3 = 0) ∧
        (cmpE f = 0 → q0 = docF (maxF p0 p1 p2) (staysF p0 p1 p2) f p0 ∧ q1 = docF (maxF p0 p1 p2) (staysF p0 p1 p2) f p1 ∧ q2 = docF (maxF p0 p1 p2) (staysF p0 p1 p2) f p2 ∧ q3 = cn .f32 p3) ∧ Below w.heap.size w w' := by
  cases hn : isNum .f32 f with
  | false =>
    have e : cmpE f = 2 := by unfold cmpE; rw [hn]; rfl
    refine (Compress_form p0 p1 p2 p3 f w hn).mono ?_
    rintro e w' ⟨rfl, hb⟩
    exact ⟨0, 0, 0, 0, by rw [e], fun _ => ⟨rfl, rfl, rfl, rfl⟩, fun h => absurd (e.symm.trans h) (by decide), hb⟩
  | true =>
    by_cases hr : (FloatKind.f32.format.order f 0 == some .lt) = true ∨ (FloatKind.f32.format.order f 0 == some .lt) = false ∧ ((FloatKind.f32.format.order f 1065353216 == some .gt) || (FloatKind.f32.format.order f 1065353216 == some .eq)) = true
    · have e : cmpE f = 3 := by
        unfold cmpE; rw [hn]
        rcases hr with h | ⟨h, h'⟩
        · rw [h]; rfl
        · rw [h, h']; rfl
      refine (Compress_range p0 p1 p2 p3 f w hn hr).mono ?_
      rintro e w' ⟨rfl, hb⟩
      exact ⟨0, 0, 0, 0, by rw [e], fun _ => ⟨rfl, rfl, rfl, rfl⟩, fun h => absurd (e.symm.trans h) (by decide), hb⟩
    · have e : cmpE f = 0 := by
        unfold cmpE; rw [hn]
        simp only [not_or, not_and, Bool.not_eq_true] at hr
        rw [hr.1, hr.2 hr.1]; rfl
      obtain ⟨-, c1, c2, c3, c4⟩ := cmpE_zero e
      refine (Compress_yes p0 p1 p2 p3 f w h0 h1 h2 hn c1 c2 c3).mono ?_
      rintro e w' ⟨rfl, hb⟩
      have E : ∀ a st v, compF a st f v = docF a st f v := fun a st v => by
        cases st with
        | false => exact comp_eq hn c1 c4
        | true => unfold compF docF; rfl
      exact ⟨_, _, _, _, by rw [e], fun h => absurd e h, fun _ => ⟨E _ _ _, E _ _ _, E _ _ _, rfl⟩, hb⟩
end Go.Proofs.YthlomgbchmhjiaaGreatDoor
