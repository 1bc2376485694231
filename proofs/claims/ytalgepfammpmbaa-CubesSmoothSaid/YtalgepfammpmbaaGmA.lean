/- finish.Compress and finish.Clip, each by one contract for every argument. No condition. -/
import Derived.Test.YtalgepfammpmbaaPixEq
namespace Go.Proofs.Ytalgepfammpmbaa
open Go Go.RowKit
theorem loose_pass {P : Program} {ops : Array Oper} {W : World} {Ψ : FuncId → Array Value → Value → Prop} {L : Act → Prop} {rest : List Oper} {a : Act} {o : Oper} (hw : Region.wanted o (yielded ops a.tmps) = false)
    (h : ∀ K : Act → Prop, (∀ a, wpLoose P ops W Ψ L rest a → K a) → K (a.put o.dst undef)) : wpLoose P ops W Ψ L (o :: rest) a := loose_skip hw (h _ fun _ h => h)
def oLt : Ordering → Bool | .lt => true | .eq => false | .gt => false
def oEq : Ordering → Bool | .lt => false | .eq => true | .gt => false
def oGt : Ordering → Bool | .lt => false | .eq => false | .gt => true
theorem ord_some {u v : Nat} (hu : isNum .f32 u = true) (hv : isNum .f32 v = true) : ∃ o, (FloatKind.f32.format.order u v == some .lt) = oLt o ∧ (FloatKind.f32.format.order u v == some .eq) = oEq o ∧ (FloatKind.f32.format.order u v == some .gt) = oGt o := by
  have nu := isNum_not_nan hu
  have nv := isNum_not_nan hv
  rw [ord_lt nu nv, ord_eq nu nv, ord_gt nu nv]
  rcases Int.lt_trichotomy (key FloatKind.f32.format u) (key FloatKind.f32.format v) with h | h | h
  · exact ⟨.lt, by simp [oLt]; omega, by simp [oEq]; omega, by simp [oGt]; omega⟩
  · exact ⟨.eq, by simp [oLt]; omega, by simp [oEq]; omega, by simp [oGt]; omega⟩
  · exact ⟨.gt, by simp [oLt]; omega, by simp [oEq]; omega, by simp [oGt]; omega⟩
theorem ord_flip {u v : Nat} (hu : isNum .f32 u = true) (hv : isNum .f32 v = true) : (FloatKind.f32.format.order u v == some .lt) = (FloatKind.f32.format.order v u == some .gt) := by
  have nu := isNum_not_nan hu
  have nv := isNum_not_nan hv
  rw [ord_lt nu nv, ord_gt nv nu]
theorem num_01 : isNum .f32 0 = true ∧ isNum .f32 1065353216 = true := by constructor <;> decide +kernel
/-- The error of a bound from which on it is compressed. -/
def cmpE (f : Nat) : Int := if isNum .f32 f then (if FloatKind.f32.format.order f 0 == some .lt then 3 else if (FloatKind.f32.format.order f 1065353216 == some .gt) || (FloatKind.f32.format.order f 1065353216 == some .eq) then 3 else 0) else 2
theorem cmpE_zero {f : Nat} (h : cmpE f = 0) : isNum .f32 f = true ∧ (FloatKind.f32.format.order f 0 == some .lt) = false ∧ (FloatKind.f32.format.order f 1065353216 == some .gt) = false ∧ (FloatKind.f32.format.order f 1065353216 == some .eq) = false ∧ (FloatKind.f32.format.order 1065353216 f == some .gt) = true := by
  unfold cmpE at h
  cases hn : isNum .f32 f with
  | false => rw [hn] at h; simp at h
  | true =>
    rw [hn] at h
    obtain ⟨o, h1, h2, h3⟩ := ord_some hn num_01.1
    obtain ⟨o', g1, g2, g3⟩ := ord_some hn num_01.2
    have g4 := ord_flip hn num_01.2
    rw [g1] at g4
    rw [h1, g2, g3] at h
    rw [h1, g2, g3, ← g4]
    cases o <;> cases o' <;> simp_all [oLt, oEq, oGt]
theorem Compress_any (p0 p1 p2 p3 f : Nat) (w : World) (h0 : p0 < 2 ^ FloatKind.f32.format.width) (h1 : p1 < 2 ^ FloatKind.f32.format.width) (h2 : p2 < 2 ^ FloatKind.f32.format.width) :
    Calls Try.prog 43 #[.agg #[.float .f32 p0, .float .f32 p1, .float .f32 p2, .float .f32 p3], .float .f32 f] w fun e w' =>
      ∃ q0 q1 q2 q3, e = .returned (.tuple #[.agg #[.float .f32 q0, .float .f32 q1, .float .f32 q2, .float .f32 q3], .int .i64 (cmpE f)]) ∧ (cmpE f ≠ 0 → q0 = 0 ∧ q1 = 0 ∧ q2 = 0 ∧ q3 = 0) ∧
        (cmpE f = 0 → q0 = docF (maxF p0 p1 p2) (staysF p0 p1 p2) f p0 ∧ q1 = docF (maxF p0 p1 p2) (staysF p0 p1 p2) f p1 ∧ q2 = docF (maxF p0 p1 p2) (staysF p0 p1 p2) f p2 ∧ q3 = cn .f32 p3) ∧ Below w.heap.size w w' := by
  cases hn : isNum .f32 f with
  | false =>
    have e : cmpE f = 2 := by unfold cmpE; rw [hn]; rfl
    refine (Compress_form p0 p1 p2 p3 f w hn).mono ?_
    rintro e w' ⟨rfl, hb⟩
    exact ⟨0, 0, 0, 0, by rw [e], fun _ => ⟨rfl, rfl, rfl, rfl⟩, fun h => absurd (e.symm.trans h) (by decide), hb⟩
  | true =>
    by_cases hr : (FloatKind.f32.format.order f 0 == some .lt) = true ∨ (FloatKind.f32.format.order f 0 == some .lt) = false ∧ ((FloatKind.f32.format.order f 1065353216 == some .gt) || (FloatKind.f32.format.order f 1065353216 == some .eq)) = true
    · have e : cmpE f = 3 := by
        unfold cmpE; rw [hn]
        rcases hr with h | ⟨h, h'⟩
        · rw [h]; rfl
        · rw [h, h']; rfl
      refine (Compress_range p0 p1 p2 p3 f w hn hr).mono ?_
      rintro e w' ⟨rfl, hb⟩
      exact ⟨0, 0, 0, 0, by rw [e], fun _ => ⟨rfl, rfl, rfl, rfl⟩, fun h => absurd (e.symm.trans h) (by decide), hb⟩
    · have e : cmpE f = 0 := by
        unfold cmpE; rw [hn]
        simp only [not_or, not_and, Bool.not_eq_true] at hr
        rw [hr.1, hr.2 hr.1]; rfl
      obtain ⟨-, c1, c2, c3, c4⟩ := cmpE_zero e
      refine (Compress_yes p0 p1 p2 p3 f w h0 h1 h2 hn c1 c2 c3).mono ?_
      rintro e w' ⟨rfl, hb⟩
      have E : ∀ a st v, compF a st f v = docF a st f v := fun a st v => by
        cases st with
        | false => exact comp_eq hn c1 c4
        | true => unfold compF docF; rfl
      exact ⟨_, _, _, _, by rw [e], fun h => absurd e h, fun _ => ⟨E _ _ _, E _ _ _, E _ _ _, rfl⟩, hb⟩
theorem Clip_any (p0 p1 p2 p3 lo hi : Nat) (w : World) :
    Calls Try.prog 47 #[.agg #[.float .f32 p0, .float .f32 p1, .float .f32 p2, .float .f32 p3], .float .f32 lo, .float .f32 hi] w fun e w' =>
      ∃ q0 q1 q2 q3 n, e = .returned (.tuple #[.agg #[.float .f32 q0, .float .f32 q1, .float .f32 q2, .float .f32 q3], .int .i64 n, .int .i64 (clipE lo hi)]) ∧ (clipE lo hi ≠ 0 → q0 = 0 ∧ q1 = 0 ∧ q2 = 0 ∧ q3 = 0 ∧ n = 0) ∧
        (clipE lo hi = 0 → q0 = limF p0 lo hi ∧ q1 = limF p1 lo hi ∧ q2 = limF p2 lo hi ∧ q3 = cn .f32 p3 ∧ n = dltZ p0 lo hi + dltZ p1 lo hi + dltZ p2 lo hi) ∧ Below w.heap.size w w' := by
  by_cases hE : clipE lo hi = 0
  · refine (Clip_yes p0 p1 p2 p3 lo hi w hE).mono ?_
    rintro e w' ⟨rfl, hb⟩
    exact ⟨_, _, _, _, _, by rw [hE], fun h => absurd hE h, fun _ => ⟨rfl, rfl, rfl, rfl, rfl⟩, hb⟩
  · refine (Clip_err p0 p1 p2 p3 lo hi w hE).mono ?_
    rintro e w' ⟨rfl, hb⟩
    exact ⟨0, 0, 0, 0, 0, rfl, fun _ => ⟨rfl, rfl, rfl, rfl, rfl⟩, fun h => absurd h hE, hb⟩
end Go.Proofs.Ytalgepfammpmbaa
