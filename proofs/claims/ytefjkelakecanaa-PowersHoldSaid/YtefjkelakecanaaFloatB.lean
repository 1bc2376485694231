/- Whole numbers and roots of floats, up to the bits of a NaN; calls of what the model stands in for. No condition. -/
import Derived.Test.YtefjkelakecanaaFloat
namespace Go.Proofs.Ytefjkelakecanaa
open Go.RowKit

/-! ### Whole numbers, roots -/
/-- A float made whole, one NaN for all. -/
def fwhole (way : Ieee.Toward) (b : Nat) : Nat := if isN .f64 b then nanOf .f64 else FloatKind.f64.encode ((FloatKind.f64.decode b).integral way)
theorem fwhole_cn (way : Ieee.Toward) (b : Nat) : fwhole way (cn .f64 b) = fwhole way b := by
  by_cases h : isN .f64 b = true
  · unfold fwhole; rw [isN_cn, h]; rfl
  · rw [cn_of_not (by simpa using h)]
theorem integral_not_nan (way : Ieee.Toward) (d : Ieee.Datum) : (d.integral way).isNaN = d.isNaN := by cases d <;> rfl
theorem isN_fwhole (way : Ieee.Toward) (b : Nat) : isN .f64 (fwhole way b) = isN .f64 b := by
  unfold fwhole
  by_cases h : isN .f64 b = true
  · rw [if_pos h, isN_nanOf, h]
  · rw [if_neg h]
    have h' : isN .f64 b = false := by simpa using h
    rw [h']; exact read_write_not_nan _ _ (by rw [integral_not_nan]; exact h')
theorem cn_fwhole (way : Ieee.Toward) (b : Nat) : cn .f64 (fwhole way b) = fwhole way b := by
  by_cases h : isN .f64 b = true
  · rw [cn_of_nan (by rw [isN_fwhole]; exact h)]; unfold fwhole; rw [if_pos h]
  · rw [cn_of_not (by rw [isN_fwhole]; simpa using h)]
theorem fwhole_lt (way : Ieee.Toward) (b : Nat) : fwhole way b < 2 ^ FloatKind.f64.format.width := by
  unfold fwhole; split
  · exact nanOf_lt .f64
  · exact encode_lt .f64 _
theorem testBit_lor_false (t m : Nat) : t ||| m = 0 → t = 0 := by
  intro h; exact (Nat.or_eq_zero_iff.1 h).1
theorem isNaN_read_write_quiet (s : Bool) (t : Nat) (ht : t < 2 ^ 52) : isN .f64 (FloatKind.f64.encode (.nan s (FloatKind.f64.format.quiet t))) = true := by
  have hq : FloatKind.f64.format.quiet t = t ||| 2251799813685248 := rfl
  have hlt : t ||| 2251799813685248 < 2 ^ 52 := Nat.or_lt_two_pow ht (by decide)
  have hpos : 0 < t ||| 2251799813685248 := by
    rcases Nat.eq_zero_or_pos (t ||| 2251799813685248) with h | h
    · have := (Nat.or_eq_zero_iff.1 h).2; omega
    · exact h
  have hsw : FloatKind.f64.format.signWeight = 9223372036854775808 := by decide +kernel
  have hir : FloatKind.f64.format.infRung = 9218868437227405312 := by decide +kernel
  have hbn : FloatKind.f64.format.binade = 4503599627370496 := by decide +kernel
  show (FloatKind.f64.format.read (FloatKind.f64.format.word s (FloatKind.f64.format.infRung + FloatKind.f64.format.quiet t % FloatKind.f64.format.binade))).isNaN = true
  rw [hq, hbn]
  generalize t ||| 2251799813685248 = u at hlt hpos
  have hu : u % 4503599627370496 = u := Nat.mod_eq_of_lt (by omega)
  rw [hu]
  have hl : FloatKind.f64.format.infRung + u < FloatKind.f64.format.signWeight := by rw [hsw, hir]; omega
  unfold Ieee.Format.read
  simp only [word_read_rung _ s _ hl]
  rw [hir, hbn, if_neg (by omega), if_neg (by omega), if_neg (by omega)]; rfl
theorem read_nan_fraction {b : Nat} {s : Bool} {t : Nat} (h : FloatKind.f64.decode b = .nan s t) : t < 2 ^ 52 := by
  have hsw : FloatKind.f64.format.signWeight = 9223372036854775808 := by decide +kernel
  have hir : FloatKind.f64.format.infRung = 9218868437227405312 := by decide +kernel
  unfold FloatKind.decode Ieee.Format.read at h
  simp only [hsw, hir] at h
  have hm : b % 9223372036854775808 < 9223372036854775808 := Nat.mod_lt _ (by decide)
  split at h
  · cases h
  · split at h
    · cases h
    · split at h
      · cases h
      · cases h; omega
/-- The stand-in's text for a whole number, at one float; q: what it asks where a NaN comes in that is not quiet. -/
def wholeBody (q : Question) (way : Ieee.Toward) (x : Nat) : Sem Value :=
  match FloatKind.f64.decode x with
  | .nan s t =>
    if FloatKind.f64.format.quiet t = t then pure (.float .f64 x) else do
      let kept ← choose q
      pure (.float .f64 (if kept == 1 then x else FloatKind.f64.encode (.nan s (FloatKind.f64.format.quiet t))))
  | d => pure (.float .f64 (FloatKind.f64.encode (d.integral way)))
theorem toIntegral_body : ∃ n : String, ∀ (name : String) (way : Ieee.Toward) (b : Nat), Extern.MathFloor.toIntegral name way #[.float .f64 b] = wholeBody (.extern n 2) way b := ⟨_, fun _ _ _ => rfl⟩
theorem run_kept {P : Program} (n : String) (f : Nat → Value) (w : World) : ∃ t, Sem.run P (do let kept ← choose (.extern n 2); pure (f kept)) w = .ok (f t) (w.drewN 1) := ⟨_, rfl⟩
theorem wholeBody_nan {q : Question} {way : Ieee.Toward} {b : Nat} {s : Bool} {t : Nat} (hd : FloatKind.f64.decode b = .nan s t) : wholeBody q way b = (if FloatKind.f64.format.quiet t = t then pure (.float .f64 b) else do
      let kept ← choose q
      pure (.float .f64 (if kept == 1 then b else FloatKind.f64.encode (.nan s (FloatKind.f64.format.quiet t))))) := by
  unfold wholeBody; rw [hd]
theorem wholeBody_not {q : Question} {way : Ieee.Toward} {b : Nat} (hi : isN .f64 b = false) : wholeBody q way b = pure (.float .f64 (fwhole way b)) := by
  unfold fwhole; rw [hi]
  unfold isN at hi
  unfold wholeBody
  cases hd : FloatKind.f64.decode b with
  | nan s t => rw [hd] at hi; cases hi
  | infinity s => simp
  | number s m e => simp
theorem run_whole_nan {P : Program} (n : String) (way : Ieee.Toward) (b : Nat) (hb : b < 2 ^ FloatKind.f64.format.width) (w : World) (hi : isN .f64 b = true) :
    ∃ r m, (wholeBody (.extern n 2) way b).run P w = .ok (.float .f64 r) (w.drewN m) ∧ FR .f64 r (fwhole way b) := by
  have ew : fwhole way b = nanOf .f64 := by unfold fwhole; rw [if_pos hi]
  obtain ⟨s, t, hd⟩ := decode_nan_of hi
  rw [wholeBody_nan hd, ew]
  by_cases hq : FloatKind.f64.format.quiet t = t
  · rw [if_pos hq]
    exact ⟨b, 0, rfl, cn_of_nan hi, hb⟩
  · rw [if_neg hq]
    obtain ⟨d, hr⟩ := run_kept (P := P) n (fun kept => Value.float .f64 (if kept == 1 then b else FloatKind.f64.encode (.nan s (FloatKind.f64.format.quiet t)))) w
    have hn := isNaN_read_write_quiet s t (read_nan_fraction hd)
    have hl := encode_lt .f64 (.nan s (FloatKind.f64.format.quiet t))
    generalize FloatKind.f64.encode (.nan s (FloatKind.f64.format.quiet t)) = c at hr hn hl
    refine ⟨_, 1, hr, ?_⟩
    by_cases h1 : (d == 1) = true
    · rw [if_pos h1]; exact ⟨cn_of_nan hi, hb⟩
    · rw [if_neg h1]; exact ⟨cn_of_nan hn, hl⟩
theorem run_whole {P : Program} (name : String) (way : Ieee.Toward) (b : Nat) (hb : b < 2 ^ FloatKind.f64.format.width) (w : World) :
    ∃ r n, (Extern.MathFloor.toIntegral name way #[.float .f64 b]).run P w = .ok (.float .f64 r) (w.drewN n) ∧ FR .f64 r (fwhole way b) := by
  obtain ⟨n, hn⟩ := toIntegral_body
  rw [hn]
  cases hi : isN .f64 b with
  | true => exact run_whole_nan n way b hb w hi
  | false => rw [wholeBody_not hi]; exact ⟨_, 0, rfl, cn_fwhole way b, fwhole_lt way b⟩
/-- The square root, one NaN for all. -/
def fsqrt (b : Nat) : Nat := (FloatKind.f64.format.sqrt b).getD (nanOf .f64)
theorem root_not_nan {n : Nat} {x d : Ieee.Datum} (h : x.root n = some d) : d.isNaN = false := by
  unfold Ieee.Datum.root at h
  split at h
  · cases h
  · split at h
    · cases h
    · cases h; rfl
  · split at h
    · cases h; rfl
    · split at h
      · cases h
      · simp at h; subst h; rfl
theorem sqrt_not_nan {b r : Nat} (h : FloatKind.f64.format.sqrt b = some r) : isN .f64 r = false := isN_map_write (k := .f64) (fun _ => root_not_nan) h
theorem fsqrt_cn (b : Nat) : fsqrt (cn .f64 b) = fsqrt b := by
  by_cases h : isN .f64 b = true
  · have e : ∀ c, isN .f64 c = true → fsqrt c = nanOf .f64 := by
      intro c hc
      obtain ⟨s, t, hd⟩ := decode_nan_of hc
      have hd' : FloatKind.f64.format.read c = .nan s t := hd
      unfold fsqrt Ieee.Format.sqrt; rw [hd']; rfl
    rw [e _ h, e _ (by rw [isN_cn]; exact h)]
  · rw [cn_of_not (by simpa using h)]
theorem cn_fsqrt (b : Nat) : cn .f64 (fsqrt b) = fsqrt b := by
  unfold fsqrt
  cases h : FloatKind.f64.format.sqrt b with
  | none => simp [cn_of_nan (isN_nanOf .f64)]
  | some r => simp [cn_of_not (sqrt_not_nan h)]
theorem fsqrt_lt (b : Nat) : fsqrt b < 2 ^ FloatKind.f64.format.width := by
  unfold fsqrt
  cases h : FloatKind.f64.format.sqrt b with
  | none => exact nanOf_lt .f64
  | some r => exact Ieee.Format.sqrt_lt _ h
def sqrtBody (x : Nat) : Sem Value :=
  match FloatKind.f64.format.sqrt x with
  | some r => pure (.float .f64 r)
  | none => do pure (.float .f64 (← choose (.nanBits .f64 x x)))
theorem sqrt_body (b : Nat) : Extern.MathSqrt.sqrt #[.float .f64 b] = sqrtBody b := rfl
theorem run_sqrt {P : Program} (b : Nat) (w : World) :
    ∃ r n, (Extern.MathSqrt.sqrt #[.float .f64 b]).run P w = .ok (.float .f64 r) (w.drewN n) ∧ FR .f64 r (fsqrt b) := by
  rw [sqrt_body]
  unfold sqrtBody
  cases h : FloatKind.f64.format.sqrt b with
  | some r => exact ⟨r, 0, rfl, by rw [cn_of_not (sqrt_not_nan h)]; simp [fsqrt, h], Ieee.Format.sqrt_lt _ h⟩
  | none =>
    have hn := nan_cut .f64 b b (w.tape w.drawn (.nanBits .f64 b b))
    exact ⟨_, 1, run_choose_nan .f64 b b w, by rw [cn_of_nan hn.1]; simp [fsqrt, h], hn.2⟩

/-! ### A call of a function that the model stands in for -/
section
variable {P : Program} {ops : Array Oper} {rest : List Oper} {a : Act} {w : World} {Q : Exit → Act → World → Prop} {dst : Option Tmp} {ty : TypeId} {x : Operand} {pos : String} {after : Array Edge}
/-- THE WALK's LAW: such a call of one argument. 'R' says what the stand-in gives. -/
theorem wpList_extern1 {f : FuncId} {ats : Array TypeId} {e : Array Value → Sem Value} {v : Value} (he : ∀ args w, (callFunc f args).run P w = ((e args).run P w).andThen fun v w' => .ok (.value v) w')
    (hx : a.eval x = v) (R : Value → Prop) (hr : ∃ u n, (e #[v]).run P w = .ok u (w.drewN n) ∧ R u)
    (h : ∀ u n, R u → wpList P ops Q rest (a.put dst u) (w.drewN n)) :
    wpList P ops Q ({ dst, op := .call { callee := .value (.func f), args := #[x], argTypes := ats }, type := ty, pos, after, guard := none } :: rest) a w := by
  refine wpList_plain rfl fun K hK => ?_
  obtain ⟨u, n, hr, hf⟩ := hr
  unfold Oper.wp
  rw [execOp_call_go]
  have ea : (#[] ++ Array.map a.eval #[x] ++ #[] : Array Value) = #[v] := by simp [hx]
  rw [ea, he, hr]
  exact hK _ _ (h u n hf)
end

end Go.Proofs.Ytefjkelakecanaa
