/- What the operations on floats give, up to the bits of a NaN: plain facts about the model's floats, no function of the program. No condition. -/
import Derived.WalkKit
import Derived.WalkSpells
import Derived.WalkLawsBesides
import Derived.Deep.Draws
namespace Go.Proofs.Ytefjkelakecanaa
open Go.RowKit

/-- One NaN for all. -/
def nanOf : FloatKind → Nat
  | .f32 => 0x7fc00000
  | .f64 => 0x7ff8000000000001
def isN (k : FloatKind) (b : Nat) : Bool := (k.decode b).isNaN
/-- The bits, one NaN for all. -/
def cn (k : FloatKind) (b : Nat) : Nat := if isN k b then nanOf k else b

theorem isN_nanOf (k : FloatKind) : isN k (nanOf k) = true := by cases k <;> decide +kernel
theorem isN_cn (k : FloatKind) (b : Nat) : isN k (cn k b) = isN k b := by
  unfold cn; split
  · rename_i h; rw [h, isN_nanOf]
  · rfl
theorem cn_cn (k : FloatKind) (b : Nat) : cn k (cn k b) = cn k b := by
  rw [cn, isN_cn]; unfold cn; split <;> rfl
theorem cn_of_nan {k : FloatKind} {b : Nat} (h : isN k b = true) : cn k b = nanOf k := by simp [cn, h]
theorem cn_of_not {k : FloatKind} {b : Nat} (h : isN k b = false) : cn k b = b := by simp [cn, h]

theorem decode_nan_of {k : FloatKind} {b : Nat} (h : isN k b = true) : ∃ s t, k.decode b = .nan s t := by
  unfold isN at h
  cases hd : k.decode b with
  | number s m e => rw [hd] at h; cases h
  | infinity s => rw [hd] at h; cases h
  | nan s t => exact ⟨s, t, rfl⟩

/-- An operation's bits, one NaN for all. -/
def fop (op : BinOp) (k : FloatKind) (x y : Nat) : Nat := (floatBits op k x y).getD (nanOf k)

theorem sum_nan_left (x y : Ieee.Datum) (h : x.isNaN = true) : x.sum y = none := by
  cases x <;> simp [Ieee.Datum.isNaN] at h; cases y <;> rfl
theorem sum_nan_right (x y : Ieee.Datum) (h : y.isNaN = true) : x.sum y = none := by
  cases y <;> simp [Ieee.Datum.isNaN] at h; cases x <;> rfl
theorem product_nan_left (x y : Ieee.Datum) (h : x.isNaN = true) : x.product y = none := by
  cases x <;> simp [Ieee.Datum.isNaN] at h; cases y <;> rfl
theorem product_nan_right (x y : Ieee.Datum) (h : y.isNaN = true) : x.product y = none := by
  cases y <;> simp [Ieee.Datum.isNaN] at h; cases x <;> rfl
theorem quotient_nan_left (n : Nat) (x y : Ieee.Datum) (h : x.isNaN = true) : x.quotient n y = none := by
  cases x <;> simp [Ieee.Datum.isNaN] at h; cases y <;> rfl
theorem quotient_nan_right (n : Nat) (x y : Ieee.Datum) (h : y.isNaN = true) : x.quotient n y = none := by
  cases y <;> simp [Ieee.Datum.isNaN] at h; cases x <;> rfl
theorem order_nan_left (x y : Ieee.Datum) (h : x.isNaN = true) : x.order y = none := by
  cases x <;> simp [Ieee.Datum.isNaN] at h; cases y <;> rfl
theorem order_nan_right (x y : Ieee.Datum) (h : y.isNaN = true) : x.order y = none := by
  cases y <;> simp [Ieee.Datum.isNaN] at h; cases x <;> rfl
theorem isNaN_opposite (x : Ieee.Datum) : x.opposite.isNaN = x.isNaN := by cases x <;> rfl

theorem floatBits_nan_left (op : BinOp) (k : FloatKind) (x y : Nat) (h : isN k x = true) : floatBits op k x y = none := by
  have h' : (k.format.read x).isNaN = true := h
  unfold floatBits
  split <;> simp [Ieee.Format.add, Ieee.Format.sub, Ieee.Format.mul, Ieee.Format.div, sum_nan_left, product_nan_left, quotient_nan_left, h']
theorem floatBits_nan_right (op : BinOp) (k : FloatKind) (x y : Nat) (h : isN k y = true) : floatBits op k x y = none := by
  have h' : (k.format.read y).isNaN = true := h
  unfold floatBits
  split <;> simp [Ieee.Format.add, Ieee.Format.sub, Ieee.Format.mul, Ieee.Format.div, sum_nan_right, product_nan_right, quotient_nan_right, isNaN_opposite, h']

theorem fop_cn_left (op : BinOp) (k : FloatKind) (x y : Nat) : fop op k (cn k x) y = fop op k x y := by
  by_cases h : isN k x = true
  · unfold fop; rw [floatBits_nan_left op k x y h, floatBits_nan_left op k _ y (by rw [isN_cn]; exact h)]
  · rw [cn_of_not (by simpa using h)]
theorem fop_cn_right (op : BinOp) (k : FloatKind) (x y : Nat) : fop op k x (cn k y) = fop op k x y := by
  by_cases h : isN k y = true
  · unfold fop; rw [floatBits_nan_right op k x y h, floatBits_nan_right op k x _ (by rw [isN_cn]; exact h)]
  · rw [cn_of_not (by simpa using h)]

/-- The order of two floats' bits. -/
def ford (k : FloatKind) (x y : Nat) : Option Ordering := k.format.order x y
theorem ford_nan_left {k : FloatKind} {x : Nat} (y : Nat) (h : isN k x = true) : ford k x y = none := order_nan_left _ _ h
theorem ford_nan_right {k : FloatKind} (x : Nat) {y : Nat} (h : isN k y = true) : ford k x y = none := order_nan_right _ _ h
theorem ford_cn_left (k : FloatKind) (x y : Nat) : ford k (cn k x) y = ford k x y := by
  by_cases h : isN k x = true
  · rw [ford_nan_left _ h, ford_nan_left _ (by rw [isN_cn]; exact h)]
  · rw [cn_of_not (by simpa using h)]
theorem ford_cn_right (k : FloatKind) (x y : Nat) : ford k x (cn k y) = ford k x y := by
  by_cases h : isN k y = true
  · rw [ford_nan_right _ h, ford_nan_right _ (by rw [isN_cn]; exact h)]
  · rw [cn_of_not (by simpa using h)]

/-! ### What is written is no NaN -/
theorem word_read_neg (f : Ieee.Format) (neg : Bool) (rung : Nat) (h : rung < f.signWeight) : ((f.word neg rung) / f.signWeight % 2 == 1) = neg := by
  have hp : 0 < f.signWeight := by omega
  unfold Ieee.Format.word
  cases neg
  · simp [Nat.div_eq_of_lt h]
  · simp only [if_true]
    rw [Nat.add_div_left _ hp, Nat.div_eq_of_lt h]; rfl
theorem word_read_rung (f : Ieee.Format) (neg : Bool) (rung : Nat) (h : rung < f.signWeight) : (f.word neg rung) % f.signWeight = rung := by
  unfold Ieee.Format.word
  cases neg
  · simp [Nat.mod_eq_of_lt h]
  · simp only [if_true]
    rw [Nat.add_mod_left, Nat.mod_eq_of_lt h]
theorem read_word_not_nan (f : Ieee.Format) (neg : Bool) (rung : Nat) (h : rung ≤ f.infRung) : (f.read (f.word neg rung)).isNaN = false := by
  have hl : rung < f.signWeight := Nat.lt_of_le_of_lt h f.infRung_lt
  unfold Ieee.Format.read
  simp only [word_read_neg f neg rung hl, word_read_rung f neg rung hl]
  split
  · rfl
  · split
    · rfl
    · rw [if_pos (by omega)]; rfl
theorem read_write_not_nan (f : Ieee.Format) (d : Ieee.Datum) (h : d.isNaN = false) : (f.read (f.write d)).isNaN = false := by
  cases d with
  | number s m e =>
    simp only [Ieee.Format.write, Ieee.Format.nearest]
    split
    · exact read_word_not_nan f s 0 (Nat.zero_le _)
    · exact read_word_not_nan f s _ (Nat.min_le_right ..)
  | infinity s => exact read_word_not_nan f s _ (Nat.le_refl _)
  | nan s t => cases h
theorem sum_not_nan {x y d : Ieee.Datum} (h : x.sum y = some d) : d.isNaN = false := by
  unfold Ieee.Datum.sum at h
  split at h <;> first | (cases h; done) | skip
  · split at h
    · cases h; rfl
    · cases h
  all_goals (first | (cases h; rfl) | (simp at h; subst h; rfl))
theorem product_not_nan {x y d : Ieee.Datum} (h : x.product y = some d) : d.isNaN = false := by
  unfold Ieee.Datum.product at h
  split at h <;> first | (cases h; done) | skip
  all_goals (first | (cases h; rfl) | (split at h <;> first | (cases h; done) | (cases h; rfl)))
theorem quotient_not_nan {n : Nat} {x y d : Ieee.Datum} (h : x.quotient n y = some d) : d.isNaN = false := by
  unfold Ieee.Datum.quotient at h
  split at h <;> first | (cases h; done) | skip
  · cases h; rfl
  · cases h; rfl
  · split at h
    · split at h
      · cases h
      · cases h; rfl
    · simp at h; subst h; rfl
theorem isN_map_write {k : FloatKind} {d : Option Ieee.Datum} (hd : ∀ x, d = some x → x.isNaN = false) {r : Nat} (h : d.map k.format.write = some r) : isN k r = false := by
  cases d with
  | none => cases h
  | some x => cases h; exact read_write_not_nan _ _ (hd x rfl)
theorem floatBits_not_nan {op : BinOp} {k : FloatKind} {x y r : Nat} (h : floatBits op k x y = some r) : isN k r = false := by
  unfold floatBits at h
  split at h
  · exact isN_map_write (fun _ => sum_not_nan) h
  · exact isN_map_write (fun _ => sum_not_nan) h
  · exact isN_map_write (fun _ => product_not_nan) h
  · exact isN_map_write (fun _ => quotient_not_nan) h
  · cases h

/-! ### The relation: these bits are that float, one NaN for all -/
def FR (k : FloatKind) (r s : Nat) : Prop := cn k r = s ∧ r < 2 ^ k.format.width
theorem FR.eq {k : FloatKind} {r s : Nat} (h : FR k r s) : cn k r = s := h.1
theorem FR.lt {k : FloatKind} {r s : Nat} (h : FR k r s) : r < 2 ^ k.format.width := h.2
theorem FR.wf {k : FloatKind} {r s : Nat} (h : FR k r s) : (Lit.float k r).wf = true := wf_of_lt k r h.2
theorem nanOf_lt (k : FloatKind) : nanOf k < 2 ^ k.format.width := by cases k <;> decide +kernel
theorem cn_lt {k : FloatKind} {r : Nat} (h : r < 2 ^ k.format.width) : cn k r < 2 ^ k.format.width := by
  unfold cn; split
  · exact nanOf_lt k
  · exact h
theorem FR.refl {k : FloatKind} {r : Nat} (h : r < 2 ^ k.format.width) : FR k r (cn k r) := ⟨rfl, h⟩
/-- What an operation has given, told of what its operands are. -/
theorem FR.op {op : BinOp} {k : FloatKind} {x y r x' y' : Nat} (h : FR k r (fop op k x y)) (hx : cn k x = x') (hy : cn k y = y') : FR k r (fop op k x' y') := by
  subst hx; subst hy; rw [fop_cn_left, fop_cn_right]; exact h
theorem cn_fop (op : BinOp) (k : FloatKind) (x y : Nat) : cn k (fop op k x y) = fop op k x y := by
  unfold fop
  cases h : floatBits op k x y with
  | none => simp [cn_of_nan (isN_nanOf k)]
  | some r => simp [cn_of_not (floatBits_not_nan h)]
theorem fop_lt (op : BinOp) (k : FloatKind) (x y : Nat) : fop op k x y < 2 ^ k.format.width := by
  unfold fop
  cases h : floatBits op k x y with
  | none => exact nanOf_lt k
  | some r =>
    have hw := floatBits_wf h
    cases k <;> simp only [Lit.wf, decide_eq_true_eq] at hw <;> exact hw

theorem FR.ford {k : FloatKind} {x y x' y' : Nat} (hx : cn k x = x') (hy : cn k y = y') : Go.Proofs.Ytefjkelakecanaa.ford k x y = Go.Proofs.Ytefjkelakecanaa.ford k x' y' := by
  subst hx; subst hy; rw [ford_cn_left, ford_cn_right]

/-! ### The operations, run -/
theorem nan_cut (k : FloatKind) (x y t : Nat) : isN k ((Question.nanBits k x y).cut t) = true ∧ (Question.nanBits k x y).cut t < 2 ^ k.format.width := by
  cases k with
  | f32 =>
    have h1 : t % 2 < 2 := Nat.mod_lt _ (by decide)
    have h2 : t / 2 % (2 ^ 23 - 1) < 2 ^ 23 - 1 := Nat.mod_lt _ (by decide)
    generalize hu : t / 2 % (2 ^ 23 - 1) = u at h2
    generalize hs : t % 2 = s at h1
    have e : (Question.nanBits .f32 x y).cut t = s * 2147483648 + 2139095040 + 1 + u := by simp only [Question.cut]; rw [hu, hs]
    have hsw : FloatKind.f32.format.signWeight = 2147483648 := by decide +kernel
    have hir : FloatKind.f32.format.infRung = 2139095040 := by decide +kernel
    have hbn : FloatKind.f32.format.binade = 8388608 := by decide +kernel
    rw [e]
    refine ⟨?_, ?_⟩
    · unfold isN FloatKind.decode Ieee.Format.read
      have hm : (s * 2147483648 + 2139095040 + 1 + u) % 2147483648 = 2139095040 + 1 + u := by omega
      simp only [hsw, hir, hbn, hm]
      rw [if_neg (by omega), if_neg (by omega), if_neg (by omega)]; rfl
    · show _ < 2 ^ 32; omega
  | f64 =>
    have h1 : t % 2 < 2 := Nat.mod_lt _ (by decide)
    have h2 : t / 2 % (2 ^ 52 - 1) < 2 ^ 52 - 1 := Nat.mod_lt _ (by decide)
    generalize hu : t / 2 % (2 ^ 52 - 1) = u at h2
    generalize hs : t % 2 = s at h1
    have e : (Question.nanBits .f64 x y).cut t = s * 9223372036854775808 + 9218868437227405312 + 1 + u := by simp only [Question.cut]; rw [hu, hs]
    have hsw : FloatKind.f64.format.signWeight = 9223372036854775808 := by decide +kernel
    have hir : FloatKind.f64.format.infRung = 9218868437227405312 := by decide +kernel
    have hbn : FloatKind.f64.format.binade = 4503599627370496 := by decide +kernel
    rw [e]
    refine ⟨?_, ?_⟩
    · unfold isN FloatKind.decode Ieee.Format.read
      have hm : (s * 9223372036854775808 + 9218868437227405312 + 1 + u) % 9223372036854775808 = 9218868437227405312 + 1 + u := by omega
      simp only [hsw, hir, hbn, hm]
      rw [if_neg (by omega), if_neg (by omega), if_neg (by omega)]; rfl
    · show _ < 2 ^ 64; omega
theorem nan_cut_conv (k : FloatKind) (b t : Nat) : isN k ((Question.nanConv k b).cut t) = true ∧ (Question.nanConv k b).cut t < 2 ^ k.format.width := by
  have e : (Question.nanConv k b).cut t = (Question.nanBits k 0 0).cut t := by cases k <;> rfl
  rw [e]; exact nan_cut k 0 0 t
theorem nan_cut_mm (k : FloatKind) (m : Bool) (x y t : Nat) : isN k ((Question.nanMinMax k m x y).cut t) = true ∧ (Question.nanMinMax k m x y).cut t < 2 ^ k.format.width := by
  have e : (Question.nanMinMax k m x y).cut t = (Question.nanBits k 0 0).cut t := by cases k <;> rfl
  rw [e]; exact nan_cut k 0 0 t
def arith : BinOp → Bool
  | .add | .sub | .mul | .quo => true
  | _ => false
section
variable {P : Program}
theorem floatArith_of {op : BinOp} (ho : arith op = true) (k : FloatKind) (x y : Nat) : Op.floatArith op k x y = (match floatBits op k x y with | some r => (pure (.float k r) : Sem Value) | none => do pure (.float k (← choose (.nanBits k x y)))) := by
  cases op <;> simp only [arith] at ho <;> first | (cases ho; done) | rfl
theorem run_choose_nan (k : FloatKind) (x y : Nat) (w : World) : Sem.run P (do pure (Value.float k (← choose (.nanBits k x y)))) w = .ok (.float k ((Question.nanBits k x y).cut (w.tape w.drawn (.nanBits k x y)))) (w.drewN 1) := rfl
theorem run_farith {op : BinOp} (ho : arith op = true) (t : TypeId) (k : FloatKind) (x y : Nat) (w : World) :
    ∃ r n, (binOp op t (.float k x) (.float k y)).run P w = .ok (.float k r) (w.drewN n) ∧ FR k r (fop op k x y) := by
  have e : binOp op t (.float k x) (.float k y) = Op.floatArith op k x y := by
    cases op <;> simp only [arith] at ho <;> first | (cases ho; done) | (simp [binOp])
  rw [e, floatArith_of ho]
  cases h : floatBits op k x y with
  | some r =>
    refine ⟨r, 0, rfl, ?_, ?_⟩
    · rw [cn_of_not (floatBits_not_nan h)]; simp [fop, h]
    · have := fop_lt op k x y; simpa [fop, h] using this
  | none =>
    have hn := nan_cut k x y (w.tape w.drawn (.nanBits k x y))
    exact ⟨_, 1, run_choose_nan k x y w, by rw [cn_of_nan hn.1]; simp [fop, h], hn.2⟩

/-- THE WALK's LAW: '+', '-', '*', '/' on floats: some bits, which are that float. -/
theorem wpList_farith {ops : Array Oper} {rest : List Oper} {a : Act} {w : World} {Q : Exit → Act → World → Prop} {dst : Option Tmp} {op : BinOp} {t t' ty : TypeId} {x y : Operand} {pos : String} {after : Array Edge}
    {k : FloatKind} {u v : Nat} (ho : arith op = true) (hx : a.eval x = .float k u) (hy : a.eval y = .float k v)
    (h : ∀ r n, FR k r (fop op k (cn k u) (cn k v)) → wpList P ops Q rest (a.put dst (.float k r)) (w.drewN n)) :
    wpList P ops Q ({ dst, op := .binOp op t x y t', type := ty, pos, after, guard := none } :: rest) a w := by
  refine wpList_plain rfl fun K hK => ?_
  obtain ⟨r, n, hr, hf⟩ := run_farith (P := P) ho t k u v w
  unfold Oper.wp execOp
  simp only [hx, hy, eqGuard_at_float, Sem.run_bind, Sem.run_pure, Result.andThen_ok, hr]
  exact hK _ _ (h r n (by rw [fop_cn_left, fop_cn_right]; exact hf))
end

/-- A float is stored as any value of one cell. -/
@[go_sem] theorem run_store_float {P : Program} (w : World) (a : Addr) (m : Mode) (k : FloatKind) (b : Nat) : (store a (.float k b) m).run P w = stored P w a (.float k b) m := run_store P w a _ m rfl

/-! ### From one format to the other -/
/-- The other format's bits of a float, one NaN for all. -/
def fcv (s k : FloatKind) (b : Nat) : Nat := if isN s b then nanOf k else k.encode (s.decode b)
/-- A number too great for the other format. -/
def ovf (s k : FloatKind) (b : Nat) : Bool := !(s.decode b).isInfinity && (k.decode (k.encode (s.decode b))).isInfinity
theorem fcv_cn (s k : FloatKind) (b : Nat) : fcv s k (cn s b) = fcv s k b := by
  by_cases h : isN s b = true
  · unfold fcv; rw [isN_cn, h]; rfl
  · rw [cn_of_not (by simpa using h)]
theorem isN_fcv (s k : FloatKind) (b : Nat) : isN k (fcv s k b) = isN s b := by
  unfold fcv
  by_cases h : isN s b = true
  · rw [if_pos h, isN_nanOf, h]
  · rw [if_neg h]
    have h' : isN s b = false := by simpa using h
    rw [h']; exact read_write_not_nan _ _ h'
theorem cn_fcv (s k : FloatKind) (b : Nat) : cn k (fcv s k b) = fcv s k b := by
  by_cases h : isN s b = true
  · rw [cn_of_nan (by rw [isN_fcv]; exact h)]; unfold fcv; rw [if_pos h]
  · rw [cn_of_not (by rw [isN_fcv]; simpa using h)]
theorem encode_lt (k : FloatKind) (d : Ieee.Datum) : k.encode d < 2 ^ k.format.width := k.format.write_lt d
theorem fcv_lt (s k : FloatKind) (b : Nat) : fcv s k b < 2 ^ k.format.width := by
  unfold fcv; split
  · exact nanOf_lt k
  · exact encode_lt k _

theorem run_fcv {P : Program} {s k : FloatKind} (hne : s ≠ k) (b : Nat) (w : World) :
    ∃ r n, (Conv.floatToFloat s b k).run P w = .ok (.float k r) (w.drewN n) ∧ r < 2 ^ k.format.width ∧ (ovf s k b = false → FR k r (fcv s k b)) := by
  unfold Conv.floatToFloat
  rw [if_neg hne]
  cases hd : s.decode b with
  | nan sg t =>
    have hn := nan_cut_conv k b (w.tape w.drawn (.nanConv k b))
    have hi : isN s b = true := by unfold isN; rw [hd]; rfl
    exact ⟨_, 1, rfl, hn.2, fun _ => ⟨by rw [cn_of_nan hn.1]; unfold fcv; rw [if_pos hi], hn.2⟩⟩
  | infinity sg =>
    have hi : isN s b = false := by unfold isN; rw [hd]; rfl
    refine ⟨k.encode (.infinity sg), 0, rfl, encode_lt k _, fun _ => ?_⟩
    have e : fcv s k b = k.encode (.infinity sg) := by unfold fcv; rw [hi, hd]; rfl
    rw [← e]; exact ⟨cn_fcv s k b, fcv_lt s k b⟩
  | number sg m e =>
    have hi : isN s b = false := by unfold isN; rw [hd]; rfl
    by_cases ho : (k.decode (k.encode (.number sg m e))).isInfinity = true
    · have hov : ovf s k b = true := by unfold ovf; rw [hd, ho]; rfl
      refine ⟨(Question.floatToFloat b).cut (w.tape w.drawn (.floatToFloat b)), 1, ?_, ?_, fun h => by rw [hov] at h; cases h⟩
      · simp only [ho, if_true]; rfl
      · have : (Question.floatToFloat b).cut (w.tape w.drawn (.floatToFloat b)) < 2 ^ 32 := Nat.mod_lt _ (by decide)
        cases k
        · exact this
        · exact Nat.lt_of_lt_of_le this (by decide)
    · have eq : fcv s k b = k.encode (.number sg m e) := by unfold fcv; rw [hi, hd]; rfl
      refine ⟨k.encode (.number sg m e), 0, ?_, encode_lt k _, fun _ => ?_⟩
      · simp only [ho, if_false, Bool.false_eq_true]; rfl
      · rw [← eq]; exact ⟨cn_fcv s k b, fcv_lt s k b⟩

section
variable {P : Program} {ops : Array Oper} {rest : List Oper} {a : Act} {w : World} {Q : Exit → Act → World → Prop} {dst : Option Tmp} {ty : TypeId} {x : Operand} {pos : String} {after : Array Edge}
theorem convert_ff {src d : TypeId} {s k : FloatKind} {b : Nat} (hs : P.underlying src = some (.float s)) (hd : P.underlying d = some (.float k)) (w : World) :
    (convert src d (.float s b)).run P w = (Conv.floatToFloat s b k).run P w := by
  simp [convert, run_underlying hs, run_underlying hd]
/-- THE WALK's LAW: a float of the other format. -/
theorem wpList_fcv {src d : TypeId} {s k : FloatKind} {b : Nat} (hx : a.eval x = .float s b) (hs : P.underlying src = some (.float s)) (hd : P.underlying d = some (.float k)) (hne : s ≠ k)
    (h : ∀ r n, r < 2 ^ k.format.width → (ovf s k b = false → FR k r (fcv s k b)) → wpList P ops Q rest (a.put dst (.float k r)) (w.drewN n)) :
    wpList P ops Q ({ dst, op := .convert src d x, type := ty, pos, after, guard := none } :: rest) a w := by
  refine wpList_plain rfl fun K hK => ?_
  obtain ⟨r, n, hr, hl, hf⟩ := run_fcv (P := P) hne b w
  unfold Oper.wp execOp
  simp only [hx, Sem.run_bind, Sem.run_pure, Result.andThen_ok, convert_ff hs hd, hr]
  exact hK _ _ (h r n hl hf)
/-- An integer that stands for a float: what 'floatToIntVal' says, where it says something. -/
def F2I (s : FloatKind) (b : Nat) (k : IntKind) (m : Int) : Prop := ∀ v, floatToIntVal s b k = some v → m = v
theorem run_f2i {s : FloatKind} {k : IntKind} {b : Nat} (w : World) :
    ∃ m n, (Conv.floatToInt s b k).run P w = .ok (.int k m) (w.drewN n) ∧ F2I s b k m := by
  unfold F2I Conv.floatToInt floatToIntVal
  cases hd : (s.decode b).toInt .zero with
  | none => exact ⟨_, 1, rfl, fun v hv => by cases hv⟩
  | some i =>
    by_cases hb : k.min ≤ i ∧ i ≤ k.max
    · exact ⟨i, 0, by simp only [hb, and_self, if_true]; rfl, fun v hv => by simp only [hb, and_self, if_true] at hv; exact Option.some.inj hv⟩
    · exact ⟨_, 1, by simp only [hb, if_false]; rfl, fun v hv => by simp only [hb, if_false] at hv; cases hv⟩
theorem convert_fi {src d : TypeId} {s : FloatKind} {k : IntKind} {b : Nat} (hs : P.underlying src = some (.float s)) (hd : P.underlying d = some (.int k)) (w : World) :
    (convert src d (.float s b)).run P w = (Conv.floatToInt s b k).run P w := by
  simp [convert, run_underlying hs, run_underlying hd]
/-- THE WALK's LAW: an integer of a float: what 'floatToIntVal' says, where it says something. -/
theorem wpList_f2i {src d : TypeId} {s : FloatKind} {k : IntKind} {b : Nat} (hx : a.eval x = .float s b) (hs : P.underlying src = some (.float s)) (hd : P.underlying d = some (.int k))
    (h : ∀ m n, F2I s b k m → wpList P ops Q rest (a.put dst (.int k m)) (w.drewN n)) :
    wpList P ops Q ({ dst, op := .convert src d x, type := ty, pos, after, guard := none } :: rest) a w := by
  refine wpList_plain rfl fun K hK => ?_
  obtain ⟨m, n, hr, hf⟩ := run_f2i (P := P) (s := s) (k := k) (b := b) w
  unfold Oper.wp execOp
  simp only [hx, Sem.run_bind, Sem.run_pure, Result.andThen_ok, convert_fi hs hd, hr]
  exact hK _ _ (h m n hf)
end

end Go.Proofs.Ytefjkelakecanaa
