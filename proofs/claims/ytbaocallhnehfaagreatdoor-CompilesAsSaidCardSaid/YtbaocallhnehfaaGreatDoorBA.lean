/- What the operations on floats give, up to the bits of a NaN: plain facts about the model's floats, no function of the program. No condition. (with: FloatB, Ieee, Round, Val, Ext) -/
import Derived.WalkKit
import Derived.WalkSpells
import Derived.WalkLawsBesides
import Derived.Deep.Draws
import Derived.Test.YtbaocallhnehfaaGreatDoorProg
import Derived.Laws.Externs
import Derived.KernelRfl
import Derived.Lib.Hide
namespace Go.Proofs.YtbaocallhnehfaaGreatDoor
open Go.RowKit

/-- One NaN for all. -/
def nanOf : FloatKind → Nat
  | .f32 => 0x7fc00000
  | .f64 => 0x7ff8000000000001
def isN (k : FloatKind) (b : Nat) : Bool := (k.decode b).isNaN
/-- The bits, one NaN for all. -/
def cn (k : FloatKind) (b : Nat) : Nat := if isN k b then nanOf k else b

theorem isN_nanOf (k : FloatKind) : isN k (nanOf k) = true := by cases k <;> decide +kernel
theorem isN_cn (k : FloatKind) (b : Nat) : isN k (cn k b) = isN k b := by
  unfold cn; split
  · rename_i h; rw [h, isN_nanOf]
  · rfl
theorem cn_cn (k : FloatKind) (b : Nat) : cn k (cn k b) = cn k b := by
  rw [cn, isN_cn]; unfold cn; split <;> rfl
theorem cn_of_nan {k : FloatKind} {b : Nat} (h : isN k b = true) : cn k b = nanOf k := by simp [cn, h]
theorem cn_of_not {k : FloatKind} {b : Nat} (h : isN k b = false) : cn k b = b := by simp [cn, h]

theorem decode_nan_of {k : FloatKind} {b : Nat} (h : isN k b = true) : ∃ s t, k.decode b = .nan s t := by
  unfold isN at h
  cases hd : k.decode b with
  | number s m e => rw [hd] at h; cases h
  | infinity s => rw [hd] at h; cases h
  | nan s t => exact ⟨s, t, rfl⟩

/-- An operation's bits, one NaN for all. -/
def fop (op : BinOp) (k : FloatKind) (x y : Nat) : Nat := (floatBits op k x y).getD (nanOf k)

theorem sum_nan_left (x y : Ieee.Datum) (h : x.isNaN = true) : x.sum y = none := by
  cases x <;> simp [Ieee.Datum.isNaN] at h; cases y <;> rfl
theorem sum_nan_right (x y : Ieee.Datum) (h : y.isNaN = true) : x.sum y = none := by
  cases y <;> simp [Ieee.Datum.isNaN] at h; cases x <;> rfl
theorem product_nan_left (x y : Ieee.Datum) (h : x.isNaN = true) : x.product y = none := by
  cases x <;> simp [Ieee.Datum.isNaN] at h; cases y <;> rfl
theorem product_nan_right (x y : Ieee.Datum) (h : y.isNaN = true) : x.product y = none := by
  cases y <;> simp [Ieee.Datum.isNaN] at h; cases x <;> rfl
theorem quotient_nan_left (n : Nat) (x y : Ieee.Datum) (h : x.isNaN = true) : x.quotient n y = none := by
  cases x <;> simp [Ieee.Datum.isNaN] at h; cases y <;> rfl
theorem quotient_nan_right (n : Nat) (x y : Ieee.Datum) (h : y.isNaN = true) : x.quotient n y = none := by
  cases y <;> simp [Ieee.Datum.isNaN] at h; cases x <;> rfl
theorem order_nan_left (x y : Ieee.Datum) (h : x.isNaN = true) : x.order y = none := by
  cases x <;> simp [Ieee.Datum.isNaN] at h; cases y <;> rfl
theorem order_nan_right (x y : Ieee.Datum) (h : y.isNaN = true) : x.order y = none := by
  cases y <;> simp [Ieee.Datum.isNaN] at h; cases x <;> rfl
theorem isNaN_opposite (x : Ieee.Datum) : x.opposite.isNaN = x.isNaN := by cases x <;> rfl

theorem floatBits_nan_left (op : BinOp) (k : FloatKind) (x y : Nat) (h : isN k x = true) : floatBits op k x y = none := by
  have h' : (k.format.read x).isNaN = true := h
  unfold floatBits
  split <;> simp [Ieee.Format.add, Ieee.Format.sub, Ieee.Format.mul, Ieee.Format.div, sum_nan_left, product_nan_left, quotient_nan_left, h']
theorem floatBits_nan_right (op : BinOp) (k : FloatKind) (x y : Nat) (h : isN k y = true) : floatBits op k x y = none := by
  have h' : (k.format.read y).isNaN = true := h
  unfold floatBits
  split <;> simp [Ieee.Format.add, Ieee.Format.sub, Ieee.Format.mul, Ieee.Format.div, sum_nan_right, product_nan_right, quotient_nan_right, isNaN_opposite, h']

theorem fop_cn_left (op : BinOp) (k : FloatKind) (x y : Nat) : fop op k (cn k x) y = fop op k x y := by
  by_cases h : isN k x = true
  · unfold fop; rw [floatBits_nan_left op k x y h, floatBits_nan_left op k _ y (by rw [isN_cn]; exact h)]
  · rw [cn_of_not (by simpa using h)]
theorem fop_cn_right (op : BinOp) (k : FloatKind) (x y : Nat) : fop op k x (cn k y) = fop op k x y := by
  by_cases h : isN k y = true
  · unfold fop; rw [floatBits_nan_right op k x y h, floatBits_nan_right op k x _ (by rw [isN_cn]; exact h)]
  · rw [cn_of_not (by simpa using h)]

/-- The order of two floats' bits. -/
def ford (k : FloatKind) (x y : Nat) : Option Ordering := k.format.order x y
theorem ford_nan_left {k : FloatKind} {x : Nat} (y : Nat) (h : isN k x = true) : ford k x y = none := order_nan_left _ _ h
theorem ford_nan_right {k : FloatKind} (x : Nat) {y : Nat} (h : isN k y = true) : ford k x y = none := order_nan_right _ _ h
theorem ford_cn_left (k : FloatKind) (x y : Nat) : ford k (cn k x) y = ford k x y := by
  by_cases h : isN k x = true
  · rw [ford_nan_left _ h, ford_nan_left _ (by rw [isN_cn]; exact h)]
  · rw [cn_of_not (by simpa using h)]
theorem ford_cn_right (k : FloatKind) (x y : Nat) : ford k x (cn k y) = ford k x y := by
  by_cases h : isN k y = true
  · rw [ford_nan_right _ h, ford_nan_right _ (by rw [isN_cn]; exact h)]
  · rw [cn_of_not (by simpa using h)]

/-! ### What is written is no NaN -/
theorem word_read_neg (f : Ieee.Format) (neg : Bool) (rung : Nat) (h : rung < f.signWeight) : ((f.word neg rung) / f.signWeight % 2 == 1) = neg := by
  have hp : 0 < f.signWeight := by omega
  unfold Ieee.Format.word
  cases neg
  · simp [Nat.div_eq_of_lt h]
  · simp only [if_true]
    rw [Nat.add_div_left _ hp, Nat.div_eq_of_lt h]; rfl
theorem word_read_rung (f : Ieee.Format) (neg : Bool) (rung : Nat) (h : rung < f.signWeight) : (f.word neg rung) % f.signWeight = rung := by
  unfold Ieee.Format.word
  cases neg
  · simp [Nat.mod_eq_of_lt h]
  · simp only [if_true]
    rw [Nat.add_mod_left, Nat.mod_eq_of_lt h]
theorem read_word_not_nan (f : Ieee.Format) (neg : Bool) (rung : Nat) (h : rung ≤ f.infRung) : (f.read (f.word neg rung)).isNaN = false := by
  have hl : rung < f.signWeight := Nat.lt_of_le_of_lt h f.infRung_lt
  unfold Ieee.Format.read
  simp only [word_read_neg f neg rung hl, word_read_rung f neg rung hl]
  split
  · rfl
  · split
    · rfl
    · rw [if_pos (by omega)]; rfl
theorem read_write_not_nan (f : Ieee.Format) (d : Ieee.Datum) (h : d.isNaN = false) : (f.read (f.write d)).isNaN = false := by
  cases d with
  | number s m e =>
    simp only [Ieee.Format.write, Ieee.Format.nearest]
    split
    · exact read_word_not_nan f s 0 (Nat.zero_le _)
    · exact read_word_not_nan f s _ (Nat.min_le_right ..)
  | infinity s => exact read_word_not_nan f s _ (Nat.le_refl _)
  | nan s t => cases h
theorem sum_not_nan {x y d : Ieee.Datum} (h : x.sum y = some d) : d.isNaN = false := by
  unfold Ieee.Datum.sum at h
  split at h <;> first | (cases h; done) | skip
  · split at h
    · cases h; rfl
    · cases h
  all_goals (first | (cases h; rfl) | (simp at h; subst h; rfl))
theorem product_not_nan {x y d : Ieee.Datum} (h : x.product y = some d) : d.isNaN = false := by
  unfold Ieee.Datum.product at h
  split at h <;> first | (cases h; done) | skip
  all_goals (first | (cases h; rfl) | (split at h <;> first | (cases h; done) | (cases h; rfl)))
theorem quotient_not_nan {n : Nat} {x y d : Ieee.Datum} (h : x.quotient n y = some d) : d.isNaN = false := by
  unfold Ieee.Datum.quotient at h
  split at h <;> first | (cases h; done) | skip
  · cases h; rfl
  · cases h; rfl
  · split at h
    · split at h
      · cases h
      · cases h; rfl
    · simp at h; subst h; rfl
theorem isN_map_write {k : FloatKind} {d : Option Ieee.Datum} (hd : ∀ x, d = some x → x.isNaN = false) {r : Nat} (h : d.map k.format.write = some r) : isN k r = false := by
  cases d with
  | none => cases h
  | some x => cases h; exact read_write_not_nan _ _ (hd x rfl)
theorem floatBits_not_nan {op : BinOp} {k : FloatKind} {x y r : Nat} (h : floatBits op k x y = some r) : isN k r = false := by
  unfold floatBits at h
  split at h
  · exact isN_map_write (fun _ => sum_not_nan) h
  · exact isN_map_write (fun _ => sum_not_nan) h
  · exact isN_map_write (fun _ => product_not_nan) h
  · exact isN_map_write (fun _ => quotient_not_nan) h
  · cases h

/-! ### The relation: these bits are that float, one NaN for all -/
def FR (k : FloatKind) (r s : Nat) : Prop := cn k r = s ∧ r < 2 ^ k.format.width
theorem FR.eq {k : FloatKind} {r s : Nat} (h : FR k r s) : cn k r = s := h.1
theorem FR.lt {k : FloatKind} {r s : Nat} (h : FR k r s) : r < 2 ^ k.format.width := h.2
theorem FR.wf {k : FloatKind} {r s : Nat} (h : FR k r s) : (Lit.float k r).wf = true := wf_of_lt k r h.2
theorem nanOf_lt (k : FloatKind) : nanOf k < 2 ^ k.format.width := by cases k <;> decide +kernel
theorem cn_lt {k : FloatKind} {r : Nat} (h : r < 2 ^ k.format.width) : cn k r < 2 ^ k.format.width := by
  unfold cn; split
  · exact nanOf_lt k
  · exact h
theorem FR.refl {k : FloatKind} {r : Nat} (h : r < 2 ^ k.format.width) : FR k r (cn k r) := ⟨rfl, h⟩
/-- What an operation has given, told of what its operands are. -/
theorem FR.op {op : BinOp} {k : FloatKind} {x y r x' y' : Nat} (h : FR k r (fop op k x y)) (hx : cn k x = x') (hy : cn k y = y') : FR k r (fop op k x' y') := by
  subst hx; subst hy; rw [fop_cn_left, fop_cn_right]; exact h
theorem cn_fop (op : BinOp) (k : FloatKind) (x y : Nat) : cn k (fop op k x y) = fop op k x y := by
  unfold fop
  cases h : floatBits op k x y with
  | none => simp [cn_of_nan (isN_nanOf k)]
  | some r => simp [cn_of_not (floatBits_not_nan h)]
theorem fop_lt (op : BinOp) (k : FloatKind) (x y : Nat) : fop op k x y < 2 ^ k.format.width := by
  unfold fop
  cases h : floatBits op k x y with
  | none => exact nanOf_lt k
  | some r =>
    have hw := floatBits_wf h
    cases k <;> simp only [Lit.wf, decide_eq_true_eq] at hw <;> exact hw

theorem FR.ford {k : FloatKind} {x y x' y' : Nat} (hx : cn k x = x') (hy : cn k y = y') : Go.Proofs.YtbaocallhnehfaaGreatDoor.ford k x y = Go.Proofs.YtbaocallhnehfaaGreatDoor.ford k x' y' := by
  subst hx; subst hy; rw [ford_cn_left, ford_cn_right]

/-! ### The operations, run -/
theorem nan_cut (k : FloatKind) (x y t : Nat) : isN k ((Question.nanBits k x y).cut t) = true ∧ (Question.nanBits k x y).cut t < 2 ^ k.format.width := by
  cases k with
  | f32 =>
    have h1 : t % 2 < 2 := Nat.mod_lt _ (by decide)
    have h2 : t / 2 % (2 ^ 23 - 1) < 2 ^ 23 - 1 := Nat.mod_lt _ (by decide)
    generalize hu : t / 2 % (2 ^ 23 - 1) = u at h2
    generalize hs : t % 2 = s at h1
    have e : (Question.nanBits .f32 x y).cut t = s * 2147483648 + 2139095040 + 1 + u := by simp only [Question.cut]; rw [hu, hs]
    have hsw : FloatKind.f32.format.signWeight = 2147483648 := by decide +kernel
    have hir : FloatKind.f32.format.infRung = 2139095040 := by decide +kernel
    have hbn : FloatKind.f32.format.binade = 8388608 := by decide +kernel
    rw [e]
    refine ⟨?_, ?_⟩
    · unfold isN FloatKind.decode Ieee.Format.read
      have hm : (s * 2147483648 + 2139095040 + 1 + u) % 2147483648 = 2139095040 + 1 + u := by omega
      simp only [hsw, hir, hbn, hm]
      rw [if_neg (by omega), if_neg (by omega), if_neg (by omega)]; rfl
    · show _ < 2 ^ 32; omega
  | f64 =>
    have h1 : t % 2 < 2 := Nat.mod_lt _ (by decide)
    have h2 : t / 2 % (2 ^ 52 - 1) < 2 ^ 52 - 1 := Nat.mod_lt _ (by decide)
    generalize hu : t / 2 % (2 ^ 52 - 1) = u at h2
    generalize hs : t % 2 = s at h1
    have e : (Question.nanBits .f64 x y).cut t = s * 9223372036854775808 + 9218868437227405312 + 1 + u := by simp only [Question.cut]; rw [hu, hs]
    have hsw : FloatKind.f64.format.signWeight = 9223372036854775808 := by decide +kernel
    have hir : FloatKind.f64.format.infRung = 9218868437227405312 := by decide +kernel
    have hbn : FloatKind.f64.format.binade = 4503599627370496 := by decide +kernel
    rw [e]
    refine ⟨?_, ?_⟩
    · unfold isN FloatKind.decode Ieee.Format.read
      have hm : (s * 9223372036854775808 + 9218868437227405312 + 1 + u) % 9223372036854775808 = 9218868437227405312 + 1 + u := by omega
      simp only [hsw, hir, hbn, hm]
      rw [if_neg (by omega), if_neg (by omega), if_neg (by omega)]; rfl
    · show _ < 2 ^ 64; omega
theorem nan_cut_conv (k : FloatKind) (b t : Nat) : isN k ((Question.nanConv k b).cut t) = true ∧ (Question.nanConv k b).cut t < 2 ^ k.format.width := by
  have e : (Question.nanConv k b).cut t = (Question.nanBits k 0 0).cut t := by cases k <;> rfl
  rw [e]; exact nan_cut k 0 0 t
def arith : BinOp → Bool
  | .add | .sub | .mul | .quo => true
  | _ => false
section
variable {P : Program}
theorem floatArith_of {op : BinOp} (ho : arith op = true) (k : FloatKind) (x y : Nat) : Op.floatArith op k x y = (match floatBits op k x y with | some r => (pure (.float k r) : Sem Value) | none => do pure (.float k (← choose (.nanBits k x y)))) := by
  cases op <;> simp only [arith] at ho <;> first | (cases ho; done) | rfl
theorem run_choose_nan (k : FloatKind) (x y : Nat) (w : World) : Sem.run P (do pure (Value.float k (← choose (.nanBits k x y)))) w = .ok (.float k ((Question.nanBits k x y).cut (w.tape w.drawn (.nanBits k x y)))) (w.drewN 1) := rfl
theorem run_farith {op : BinOp} (ho : arith op = true) (t : TypeId) (k : FloatKind) (x y : Nat) (w : World) :
    ∃ r n, (binOp op t (.float k x) (.float k y)).run P w = .ok (.float k r) (w.drewN n) ∧ FR k r (fop op k x y) := by
  have e : binOp op t (.float k x) (.float k y) = Op.floatArith op k x y := by
    cases op <;> simp only [arith] at ho <;> first | (cases ho; done) | (simp [binOp])
  rw [e, floatArith_of ho]
  cases h : floatBits op k x y with
  | some r =>
    refine ⟨r, 0, rfl, ?_, ?_⟩
    · rw [cn_of_not (floatBits_not_nan h)]; simp [fop, h]
    · have := fop_lt op k x y; simpa [fop, h] using this
  | none =>
    have hn := nan_cut k x y (w.tape w.drawn (.nanBits k x y))
    exact ⟨_, 1, run_choose_nan k x y w, by rw [cn_of_nan hn.1]; simp [fop, h], hn.2⟩

/-- THE WALK's LAW: '+', '-', '*', '/' on floats: some bits, which are that float. -/
theorem wpList_farith {ops : Array Oper} {rest : List Oper} {a : Act} {w : World} {Q : Exit → Act → World → Prop} {dst : Option Tmp} {op : BinOp} {t t' ty : TypeId} {x y : Operand} {pos : String} {after : Array Edge}
    {k : FloatKind} {u v : Nat} (ho : arith op = true) (hx : a.eval x = .float k u) (hy : a.eval y = .float k v)
    (h : ∀ r n, FR k r (fop op k (cn k u) (cn k v)) → wpList P ops Q rest (a.put dst (.float k r)) (w.drewN n)) :
    wpList P ops Q ({ dst, op := .binOp op t x y t', type := ty, pos, after, guard := none } :: rest) a w := by
  refine wpList_plain rfl fun K hK => ?_
  obtain ⟨r, n, hr, hf⟩ := run_farith (P := P) ho t k u v w
  unfold Oper.wp execOp
  simp only [hx, hy, eqGuard_at_float, Sem.run_bind, Sem.run_pure, Result.andThen_ok, hr]
  exact hK _ _ (h r n (by rw [fop_cn_left, fop_cn_right]; exact hf))
end

/-- A float is stored as any value of one cell. -/
@[go_sem] theorem run_store_float {P : Program} (w : World) (a : Addr) (m : Mode) (k : FloatKind) (b : Nat) : (store a (.float k b) m).run P w = stored P w a (.float k b) m := run_store P w a _ m rfl

/-! ### From one format to the other -/
/-- The other format's bits of a float, one NaN for all. -/
def fcv (s k : FloatKind) (b : Nat) : Nat := if isN s b then nanOf k else k.encode (s.decode b)
/-- A number too great for the other format. -/
def ovf (s k : FloatKind) (b : Nat) : Bool := !(s.decode b).isInfinity && (k.decode (k.encode (s.decode b))).isInfinity
theorem fcv_cn (s k : FloatKind) (b : Nat) : fcv s k (cn s b) = fcv s k b := by
  by_cases h : isN s b = true
  · unfold fcv; rw [isN_cn, h]; rfl
  · rw [cn_of_not (by simpa using h)]
theorem isN_fcv (s k : FloatKind) (b : Nat) : isN k (fcv s k b) = isN s b := by
  unfold fcv
  by_cases h : isN s b = true
  · rw [if_pos h, isN_nanOf, h]
  · rw [if_neg h]
    have h' : isN s b = false := by simpa using h
    rw [h']; exact read_write_not_nan _ _ h'
theorem cn_fcv (s k : FloatKind) (b : Nat) : cn k (fcv s k b) = fcv s k b := by
  by_cases h : isN s b = true
  · rw [cn_of_nan (by rw [isN_fcv]; exact h)]; unfold fcv; rw [if_pos h]
  · rw [cn_of_not (by rw [isN_fcv]; simpa using h)]
theorem encode_lt (k : FloatKind) (d : Ieee.Datum) : k.encode d < 2 ^ k.format.width := k.format.write_lt d
theorem fcv_lt (s k : FloatKind) (b : Nat) : fcv s k b < 2 ^ k.format.width := by
  unfold fcv; split
  · exact nanOf_lt k
  · exact encode_lt k _

theorem run_fcv {P : Program} {s k : FloatKind} (hne : s ≠ k) (b : Nat) (w : World) :
    ∃ r n, (Conv.floatToFloat s b k).run P w = .ok (.float k r) (w.drewN n) ∧ r < 2 ^ k.format.width ∧ (ovf s k b = false → FR k r (fcv s k b)) := by
  unfold Conv.floatToFloat
  rw [if_neg hne]
  cases hd : s.decode b with
  | nan sg t =>
    have hn := nan_cut_conv k b (w.tape w.drawn (.nanConv k b))
    have hi : isN s b = true := by unfold isN; rw [hd]; rfl
    exact ⟨_, 1, rfl, hn.2, fun _ => ⟨by rw [cn_of_nan hn.1]; unfold fcv; rw [if_pos hi], hn.2⟩⟩
  | infinity sg =>
    have hi : isN s b = false := by unfold isN; rw [hd]; rfl
    refine ⟨k.encode (.infinity sg), 0, rfl, encode_lt k _, fun _ => ?_⟩
    have e : fcv s k b = k.encode (.infinity sg) := by unfold fcv; rw [hi, hd]; rfl
    rw [← e]; exact ⟨cn_fcv s k b, fcv_lt s k b⟩
  | number sg m e =>
    have hi : isN s b = false := by unfold isN; rw [hd]; rfl
    by_cases ho : (k.decode (k.encode (.number sg m e))).isInfinity = true
    · have hov : ovf s k b = true := by unfold ovf; rw [hd, ho]; rfl
      refine ⟨(Question.floatToFloat b).cut (w.tape w.drawn (.floatToFloat b)), 1, ?_, ?_, fun h => by rw [hov] at h; cases h⟩
      · simp only [ho, if_true]; rfl
      · have : (Question.floatToFloat b).cut (w.tape w.drawn (.floatToFloat b)) < 2 ^ 32 := Nat.mod_lt _ (by decide)
        cases k
        · exact this
        · exact Nat.lt_of_lt_of_le this (by decide)
    · have eq : fcv s k b = k.encode (.number sg m e) := by unfold fcv; rw [hi, hd]; rfl
      refine ⟨k.encode (.number sg m e), 0, ?_, encode_lt k _, fun _ => ?_⟩
      · simp only [ho, if_false, Bool.false_eq_true]; rfl
      · rw [← eq]; exact ⟨cn_fcv s k b, fcv_lt s k b⟩

section
variable {P : Program} {ops : Array Oper} {rest : List Oper} {a : Act} {w : World} {Q : Exit → Act → World → Prop} {dst : Option Tmp} {ty : TypeId} {x : Operand} {pos : String} {after : Array Edge}
theorem convert_ff {src d : TypeId} {s k : FloatKind} {b : Nat} (hs : P.underlying src = some (.float s)) (hd : P.underlying d = some (.float k)) (w : World) :
    (convert src d (.float s b)).run P w = (Conv.floatToFloat s b k).run P w := by
  simp [convert, run_underlying hs, run_underlying hd]
/-- THE WALK's LAW: a float of the other format. -/
theorem wpList_fcv {src d : TypeId} {s k : FloatKind} {b : Nat} (hx : a.eval x = .float s b) (hs : P.underlying src = some (.float s)) (hd : P.underlying d = some (.float k)) (hne : s ≠ k)
    (h : ∀ r n, r < 2 ^ k.format.width → (ovf s k b = false → FR k r (fcv s k b)) → wpList P ops Q rest (a.put dst (.float k r)) (w.drewN n)) :
    wpList P ops Q ({ dst, op := .convert src d x, type := ty, pos, after, guard := none } :: rest) a w := by
  refine wpList_plain rfl fun K hK => ?_
  obtain ⟨r, n, hr, hl, hf⟩ := run_fcv (P := P) hne b w
  unfold Oper.wp execOp
  simp only [hx, Sem.run_bind, Sem.run_pure, Result.andThen_ok, convert_ff hs hd, hr]
  exact hK _ _ (h r n hl hf)
/-- An integer that stands for a float: what 'floatToIntVal' says, where it says something. -/
def F2I (s : FloatKind) (b : Nat) (k : IntKind) (m : Int) : Prop := ∀ v, floatToIntVal s b k = some v → m = v
end

end Go.Proofs.YtbaocallhnehfaaGreatDoor

namespace Go.Proofs.YtbaocallhnehfaaGreatDoor
open Go.RowKit

/-! ### Whole numbers, roots -/
/-- A float made whole, one NaN for all. -/
def fwhole (way : Ieee.Toward) (b : Nat) : Nat := if isN .f64 b then nanOf .f64 else FloatKind.f64.encode ((FloatKind.f64.decode b).integral way)
/-- The stand-in's text for a whole number, at one float; q: what it asks where a NaN comes in that is not quiet. -/
def wholeBody (q : Question) (way : Ieee.Toward) (x : Nat) : Sem Value :=
  match FloatKind.f64.decode x with
  | .nan s t =>
    if FloatKind.f64.format.quiet t = t then pure (.float .f64 x) else do
      let kept ← choose q
      pure (.float .f64 (if kept == 1 then x else FloatKind.f64.encode (.nan s (FloatKind.f64.format.quiet t))))
  | d => pure (.float .f64 (FloatKind.f64.encode (d.integral way)))
/-- The square root, one NaN for all. -/
def fsqrt (b : Nat) : Nat := (FloatKind.f64.format.sqrt b).getD (nanOf .f64)
theorem root_not_nan {n : Nat} {x d : Ieee.Datum} (h : x.root n = some d) : d.isNaN = false := by
  unfold Ieee.Datum.root at h
  split at h
  · cases h
  · split at h
    · cases h
    · cases h; rfl
  · split at h
    · cases h; rfl
    · split at h
      · cases h
      · simp at h; subst h; rfl
theorem sqrt_not_nan {b r : Nat} (h : FloatKind.f64.format.sqrt b = some r) : isN .f64 r = false := isN_map_write (k := .f64) (fun _ => root_not_nan) h
theorem fsqrt_cn (b : Nat) : fsqrt (cn .f64 b) = fsqrt b := by
  by_cases h : isN .f64 b = true
  · have e : ∀ c, isN .f64 c = true → fsqrt c = nanOf .f64 := by
      intro c hc
      obtain ⟨s, t, hd⟩ := decode_nan_of hc
      have hd' : FloatKind.f64.format.read c = .nan s t := hd
      unfold fsqrt Ieee.Format.sqrt; rw [hd']; rfl
    rw [e _ h, e _ (by rw [isN_cn]; exact h)]
  · rw [cn_of_not (by simpa using h)]
def sqrtBody (x : Nat) : Sem Value :=
  match FloatKind.f64.format.sqrt x with
  | some r => pure (.float .f64 r)
  | none => do pure (.float .f64 (← choose (.nanBits .f64 x x)))
theorem sqrt_body (b : Nat) : Extern.MathSqrt.sqrt #[.float .f64 b] = sqrtBody b := rfl
theorem run_sqrt {P : Program} (b : Nat) (w : World) :
    ∃ r n, (Extern.MathSqrt.sqrt #[.float .f64 b]).run P w = .ok (.float .f64 r) (w.drewN n) ∧ FR .f64 r (fsqrt b) := by
  rw [sqrt_body]
  unfold sqrtBody
  cases h : FloatKind.f64.format.sqrt b with
  | some r => exact ⟨r, 0, rfl, by rw [cn_of_not (sqrt_not_nan h)]; simp [fsqrt, h], Ieee.Format.sqrt_lt _ h⟩
  | none =>
    have hn := nan_cut .f64 b b (w.tape w.drawn (.nanBits .f64 b b))
    exact ⟨_, 1, run_choose_nan .f64 b b w, by rw [cn_of_nan hn.1]; simp [fsqrt, h], hn.2⟩

/-! ### A call of a function that the model stands in for -/
section
variable {P : Program} {ops : Array Oper} {rest : List Oper} {a : Act} {w : World} {Q : Exit → Act → World → Prop} {dst : Option Tmp} {ty : TypeId} {x : Operand} {pos : String} {after : Array Edge}
/-- THE WALK's LAW: such a call of one argument. 'R' says what the stand-in gives. -/
theorem wpList_extern1 {f : FuncId} {ats : Array TypeId} {e : Array Value → Sem Value} {v : Value} (he : ∀ args w, (callFunc f args).run P w = ((e args).run P w).andThen fun v w' => .ok (.value v) w')
    (hx : a.eval x = v) (R : Value → Prop) (hr : ∃ u n, (e #[v]).run P w = .ok u (w.drewN n) ∧ R u)
    (h : ∀ u n, R u → wpList P ops Q rest (a.put dst u) (w.drewN n)) :
    wpList P ops Q ({ dst, op := .call { callee := .value (.func f), args := #[x], argTypes := ats }, type := ty, pos, after, guard := none } :: rest) a w := by
  refine wpList_plain rfl fun K hK => ?_
  obtain ⟨u, n, hr, hf⟩ := hr
  unfold Oper.wp
  rw [execOp_call_go]
  have ea : (#[] ++ Array.map a.eval #[x] ++ #[] : Array Value) = #[v] := by simp [hx]
  rw [ea, he, hr]
  exact hK _ _ (h u n hf)
end

end Go.Proofs.YtbaocallhnehfaaGreatDoor

namespace Go.Proofs.YtbaocallhnehfaaGreatDoor
open Go.RowKit

/-- The number of a rung, in units of the least place. -/
def vr (B rung : Nat) : Nat := if rung < B then rung else (B + rung % B) * 2 ^ (rung / B - 1)

theorem vr_lo {B r : Nat} (_hB : 0 < B) (h : B ≤ r) : B * 2 ^ (r / B - 1) ≤ vr B r := by
  unfold vr; rw [if_neg (by omega)]
  exact Nat.mul_le_mul_right _ (by omega)
theorem vr_hi {B r : Nat} (hB : 0 < B) (h : B ≤ r) : vr B r < B * 2 ^ (r / B) := by
  unfold vr; rw [if_neg (by omega)]
  have hq : 1 ≤ r / B := (Nat.le_div_iff_mul_le hB).2 (by omega)
  have hm : r % B < B := Nat.mod_lt _ hB
  have e : 2 ^ (r / B) = 2 * 2 ^ (r / B - 1) := by
    obtain ⟨q, hq'⟩ : ∃ q, r / B = q + 1 := ⟨r / B - 1, by omega⟩
    rw [hq', Nat.pow_succ, Nat.mul_comm]; rfl
  rw [e, ← Nat.mul_assoc]
  exact Nat.mul_lt_mul_of_pos_right (by omega) (Nat.two_pow_pos _)
theorem vr_lt {B r s : Nat} (hB : 0 < B) (h : r < s) : vr B r < vr B s := by
  by_cases hs : s < B
  · unfold vr; rw [if_pos (by omega), if_pos hs]; exact h
  · by_cases hr : r < B
    · have h1 : vr B r < B := by unfold vr; rw [if_pos hr]; exact hr
      have h2 := vr_lo (r := s) hB (by omega)
      have h3 : B * 1 ≤ B * 2 ^ (s / B - 1) := Nat.mul_le_mul_left _ (Nat.two_pow_pos _)
      omega
    · have hd : r / B ≤ s / B := Nat.div_le_div_right (by omega)
      rcases Nat.lt_or_eq_of_le hd with hlt | heq
      · have h1 := vr_hi (r := r) hB (by omega)
        have h2 := vr_lo (r := s) hB (by omega)
        have h3 : B * 2 ^ (r / B) ≤ B * 2 ^ (s / B - 1) := Nat.mul_le_mul_left _ (Nat.pow_le_pow_right (by decide) (by omega))
        omega
      · unfold vr; rw [if_neg hr, if_neg hs, heq]
        have e1 := Nat.div_add_mod r B
        have e2 := Nat.div_add_mod s B
        rw [heq] at e1
        exact Nat.mul_lt_mul_of_pos_right (by omega) (Nat.two_pow_pos _)
theorem vr_compare {B r s : Nat} (hB : 0 < B) : compare (vr B r) (vr B s) = compare r s := by
  rcases Nat.lt_trichotomy r s with h | h | h
  · have := vr_lt hB h
    rw [Nat.compare_eq_lt.2 h, Nat.compare_eq_lt.2 this]
  · subst h; rw [Nat.compare_eq_eq.2 rfl, Nat.compare_eq_eq.2 rfl]
  · have := vr_lt hB h
    rw [Nat.compare_eq_gt.2 h, Nat.compare_eq_gt.2 this]

section
variable (f : Ieee.Format)
def sgn (w : Nat) : Bool := w / f.signWeight % 2 == 1
def rung (w : Nat) : Nat := w % f.signWeight
/-- The bits as sign and magnitude: the place in the order of floats (both zeros at 0). -/
def key (w : Nat) : Int := if sgn f w then -(rung f w : Int) else (rung f w : Int)
theorem binade_pos : 0 < f.binade := Nat.two_pow_pos _
theorem binade_le_inf (h : 2 ≤ f.exponentBits) : f.binade ≤ f.infRung := by
  unfold Ieee.Format.infRung
  have : 2 ^ 1 ≤ 2 ^ f.exponentBits := Nat.pow_le_pow_right (by decide) (by omega)
  exact Nat.le_mul_of_pos_left _ (by omega)
/-- What a word of a number stands for, by its rung. -/
theorem read_number (w : Nat) (h : rung f w < f.infRung) : ∃ m e, ∃ up : Nat, f.read w = .number (sgn f w) m e ∧ e = f.leastPlace + up ∧ m * 2 ^ up = vr f.binade (rung f w) := by
  unfold Ieee.Format.read
  simp only []
  by_cases h1 : w % f.signWeight < f.binade
  · rw [if_pos h1]
    exact ⟨_, _, 0, rfl, by omega, by unfold vr rung; rw [if_pos h1]; omega⟩
  · have h' : w % f.signWeight < f.infRung := h
    rw [if_neg h1, if_pos h']
    refine ⟨_, _, w % f.signWeight / f.binade - 1, rfl, rfl, ?_⟩
    unfold vr rung; rw [if_neg h1]
theorem read_inf (w : Nat) (h : rung f w = f.infRung) (he : 2 ≤ f.exponentBits) : f.read w = .infinity (sgn f w) := by
  have hb := binade_le_inf f he
  unfold Ieee.Format.read
  simp only []
  have h' : w % f.signWeight = f.infRung := h
  rw [h', if_neg (by omega), if_neg (by omega), if_pos rfl]; rfl
theorem read_nan (w : Nat) (h : f.infRung < rung f w) (he : 2 ≤ f.exponentBits) : (f.read w).isNaN = true := by
  have hb := binade_le_inf f he
  have h' : f.infRung < w % f.signWeight := h
  unfold Ieee.Format.read
  simp only []
  rw [if_neg (by omega), if_neg (by omega), if_neg (by omega)]; rfl
end

theorem signed_scale (s : Bool) (m i k : Nat) : Ieee.signed s m i * (2 ^ k : Nat) = Ieee.signed s m (i + k) := by
  unfold Ieee.signed
  rw [Nat.shiftLeft_eq, Nat.shiftLeft_eq, Nat.pow_add, ← Nat.mul_assoc]
  cases s
  · simp
  · simp [Int.neg_mul]
theorem compare_scale (a b : Int) (k : Nat) : compare a b = compare (a * (2 ^ k : Nat)) (b * (2 ^ k : Nat)) := by
  have hp : (0 : Int) < (2 ^ k : Nat) := by exact_mod_cast Nat.two_pow_pos k
  rcases Int.lt_trichotomy a b with h | h | h
  · rw [Int.compare_eq_lt.2 h, Int.compare_eq_lt.2 (Int.mul_lt_mul_of_pos_right h hp)]
  · subst h; rw [Int.compare_eq_eq.2 rfl, Int.compare_eq_eq.2 rfl]
  · rw [Int.compare_eq_gt.2 h, Int.compare_eq_gt.2 (Int.mul_lt_mul_of_pos_right h hp)]
/-- The number of a word, in units of the least place. -/
def sv (f : Ieee.Format) (w : Nat) : Int := if sgn f w then -(vr f.binade (rung f w) : Int) else (vr f.binade (rung f w) : Int)
theorem signed_of (s : Bool) (m up v : Nat) (h : m * 2 ^ up = v) : Ieee.signed s m up = if s then -(v : Int) else (v : Int) := by
  unfold Ieee.signed; rw [Nat.shiftLeft_eq, h]
theorem order_number (f : Ieee.Format) (x y : Nat) (hx : rung f x < f.infRung) (hy : rung f y < f.infRung) : f.order x y = some (compare (sv f x) (sv f y)) := by
  obtain ⟨m, e, u, h1, h2, h3⟩ := read_number f x hx
  obtain ⟨n, d, t, g1, g2, g3⟩ := read_number f y hy
  unfold Ieee.Format.order
  rw [h1, g1]
  simp only [Ieee.Datum.order]
  refine congrArg some ?_
  rw [compare_scale _ _ ((min e d - f.leastPlace).toNat), signed_scale, signed_scale]
  have e1 : (e - min e d).toNat + (min e d - f.leastPlace).toNat = u := by omega
  have e2 : (d - min e d).toNat + (min e d - f.leastPlace).toNat = t := by omega
  rw [e1, e2, signed_of _ _ _ _ h3, signed_of _ _ _ _ g3]; rfl
theorem sv_key (f : Ieee.Format) (x y : Nat) : compare (sv f x) (sv f y) = compare (key f x) (key f y) := by
  have hB := binade_pos f
  have hv := vr_compare (B := f.binade) (r := rung f x) (s := rung f y) hB
  have h0 : ∀ r, vr f.binade r = 0 ↔ r = 0 := by
    intro r
    constructor
    · intro h
      rcases Nat.eq_zero_or_pos r with h' | h'
      · exact h'
      · have := vr_lt hB h'; omega
    · intro h; subst h; unfold vr; rw [if_pos hB]
  have hx0 := h0 (rung f x)
  have hy0 := h0 (rung f y)
  unfold sv key
  generalize vr f.binade (rung f x) = a at *
  generalize vr f.binade (rung f y) = b at *
  generalize rung f x = r at *
  generalize rung f y = s at *
  have hlt : a < b ↔ r < s := by rw [← Nat.compare_eq_lt, ← Nat.compare_eq_lt, hv]
  have hgt : b < a ↔ s < r := by rw [← Nat.compare_eq_gt, ← Nat.compare_eq_gt, hv]
  have key' : ∀ p q p' q' : Int, (p < q ↔ p' < q') → (q < p ↔ q' < p') → compare p q = compare p' q' := by
    intro p q p' q' i j
    rcases Int.lt_trichotomy p q with h | h | h
    · rw [Int.compare_eq_lt.2 h, Int.compare_eq_lt.2 (i.1 h)]
    · have h' : p' = q' := by
        have n1 : ¬ p' < q' := fun hh => by have := i.2 hh; omega
        have n2 : ¬ q' < p' := fun hh => by have := j.2 hh; omega
        omega
      rw [Int.compare_eq_eq.2 h, Int.compare_eq_eq.2 h']
    · rw [Int.compare_eq_gt.2 h, Int.compare_eq_gt.2 (j.1 h)]
  apply key' <;> (cases sgn f x <;> cases sgn f y <;> simp only [if_true, if_false, Bool.false_eq_true] <;> omega)
theorem order_key (f : Ieee.Format) (he : 2 ≤ f.exponentBits) (x y : Nat) (hx : rung f x ≤ f.infRung) (hy : rung f y ≤ f.infRung) : f.order x y = some (compare (key f x) (key f y)) := by
  rcases Nat.lt_or_eq_of_le hx with hx1 | hx1
  · rcases Nat.lt_or_eq_of_le hy with hy1 | hy1
    · rw [order_number f x y hx1 hy1, sv_key]
    · obtain ⟨m, e, u, h1, h2, h3⟩ := read_number f x hx1
      unfold Ieee.Format.order
      rw [h1, read_inf f y hy1 he]
      simp only [Ieee.Datum.order]
      refine congrArg some ?_
      unfold key
      rw [hy1]
      cases sgn f y
      · simp only [if_false, Bool.false_eq_true]
        exact (Int.compare_eq_lt.2 (by cases sgn f x <;> simp only [if_true, if_false, Bool.false_eq_true] <;> omega)).symm
      · simp only [if_true]
        exact (Int.compare_eq_gt.2 (by cases sgn f x <;> simp only [if_true, if_false, Bool.false_eq_true] <;> omega)).symm
  · rcases Nat.lt_or_eq_of_le hy with hy1 | hy1
    · obtain ⟨m, e, u, h1, h2, h3⟩ := read_number f y hy1
      unfold Ieee.Format.order
      rw [h1, read_inf f x hx1 he]
      simp only [Ieee.Datum.order]
      refine congrArg some ?_
      unfold key
      rw [hx1]
      cases sgn f x
      · simp only [if_false, Bool.false_eq_true]
        exact (Int.compare_eq_gt.2 (by cases sgn f y <;> simp only [if_true, if_false, Bool.false_eq_true] <;> omega)).symm
      · simp only [if_true]
        exact (Int.compare_eq_lt.2 (by cases sgn f y <;> simp only [if_true, if_false, Bool.false_eq_true] <;> omega)).symm
    · have hpos : 0 < f.infRung := Nat.lt_of_lt_of_le (binade_pos f) (binade_le_inf f he)
      unfold Ieee.Format.order
      rw [read_inf f x hx1 he, read_inf f y hy1 he]
      simp only [Ieee.Datum.order]
      refine congrArg some ?_
      unfold key
      rw [hx1, hy1]
      cases sgn f x <;> cases sgn f y <;> simp only [if_true, if_false, Bool.false_eq_true, Bool.toNat_true, Bool.toNat_false]
      · rw [Int.compare_eq_eq.2 rfl]; rfl
      · rw [Int.compare_eq_gt.2 (by omega)]; rfl
      · rw [Int.compare_eq_lt.2 (by omega)]; rfl
      · rw [Int.compare_eq_eq.2 rfl]; rfl

theorem exp_ok (k : FloatKind) : 2 ≤ k.format.exponentBits := by cases k <;> decide
/-- A NaN, by its bits. -/
theorem isN_rung (k : FloatKind) (b : Nat) : isN k b = decide (k.format.infRung < rung k.format b) := by
  have he := exp_ok k
  unfold isN FloatKind.decode
  rcases Nat.lt_trichotomy (rung k.format b) k.format.infRung with h | h | h
  · obtain ⟨m, e, u, h1, -, -⟩ := read_number k.format b h
    rw [h1, decide_eq_false (by omega)]; rfl
  · rw [read_inf k.format b h he, decide_eq_false (by omega)]; rfl
  · rw [read_nan k.format b h he, decide_eq_true h]
theorem ord_of {k : FloatKind} {x y : Nat} (hx : isN k x = false) (hy : isN k y = false) : k.format.order x y = some (compare (key k.format x) (key k.format y)) := by
  rw [isN_rung] at hx hy
  simp only [decide_eq_false_iff_not, Nat.not_lt] at hx hy
  exact order_key _ (exp_ok k) _ _ hx hy
theorem ord_nan_l {k : FloatKind} {x : Nat} (y : Nat) (h : isN k x = true) : k.format.order x y = none := ford_nan_left y h
theorem ord_self (k : FloatKind) (x : Nat) : k.format.order x x = if isN k x then none else some .eq := by
  cases h : isN k x
  · rw [ord_of h h, Int.compare_eq_eq.2 rfl]; rfl
  · rw [ord_nan_l x h]; rfl
theorem ord_self_ne (k : FloatKind) (x : Nat) : (k.format.order x x != some .eq) = isN k x := by
  rw [ord_self]; cases isN k x <;> rfl
theorem ord_self_eq (k : FloatKind) (x : Nat) : (k.format.order x x == some .eq) = !isN k x := by
  rw [ord_self]; cases isN k x <;> rfl
theorem ord_lt {k : FloatKind} {x y : Nat} (hx : isN k x = false) (hy : isN k y = false) : (k.format.order x y == some .lt) = decide (key k.format x < key k.format y) := by
  rw [ord_of hx hy]
  rcases Int.lt_trichotomy (key k.format x) (key k.format y) with h | h | h
  · rw [Int.compare_eq_lt.2 h, decide_eq_true h]; rfl
  · rw [Int.compare_eq_eq.2 h, decide_eq_false (by omega)]; rfl
  · rw [Int.compare_eq_gt.2 h, decide_eq_false (by omega)]; rfl
theorem ord_gt {k : FloatKind} {x y : Nat} (hx : isN k x = false) (hy : isN k y = false) : (k.format.order x y == some .gt) = decide (key k.format y < key k.format x) := by
  rw [ord_of hx hy]
  rcases Int.lt_trichotomy (key k.format x) (key k.format y) with h | h | h
  · rw [Int.compare_eq_lt.2 h, decide_eq_false (by omega)]; rfl
  · rw [Int.compare_eq_eq.2 h, decide_eq_false (by omega)]; rfl
  · rw [Int.compare_eq_gt.2 h, decide_eq_true h]; rfl
theorem ord_eq {k : FloatKind} {x y : Nat} (hx : isN k x = false) (hy : isN k y = false) : (k.format.order x y == some .eq) = decide (key k.format x = key k.format y) := by
  rw [ord_of hx hy]
  rcases Int.lt_trichotomy (key k.format x) (key k.format y) with h | h | h
  · rw [Int.compare_eq_lt.2 h, decide_eq_false (by omega)]; rfl
  · rw [Int.compare_eq_eq.2 h, decide_eq_true h]; rfl
  · rw [Int.compare_eq_gt.2 h, decide_eq_false (by omega)]; rfl

/-- Neither a NaN nor an infinity. -/
def isNum (k : FloatKind) (b : Nat) : Bool := decide (rung k.format b < k.format.infRung)
theorem isNum_not_nan {k : FloatKind} {b : Nat} (h : isNum k b = true) : isN k b = false := by
  unfold isNum at h; rw [isN_rung]; simp only [decide_eq_true_eq] at h; simp only [decide_eq_false_iff_not]; omega

theorem f32_sw : FloatKind.f32.format.signWeight = 2147483648 := by decide +kernel
theorem f32_ir : FloatKind.f32.format.infRung = 2139095040 := by decide +kernel
theorem f64_ir : FloatKind.f64.format.infRung = 9218868437227405312 := by decide +kernel
theorem f64_bn : FloatKind.f64.format.binade = 4503599627370496 := by decide +kernel

end Go.Proofs.YtbaocallhnehfaaGreatDoor

namespace Go.Proofs.YtbaocallhnehfaaGreatDoor
open Go.RowKit

/-- To the nearest whole number, between two the even one. -/
def cutE (n g : Nat) : Nat := n / g + (decide (g < 2 * (n % g)) || (g == 2 * (n % g) && n / g % 2 == 1)).toNat
theorem cut_even (neg : Bool) (n drop : Nat) : Ieee.Toward.even.cut neg n drop = cutE n (2 ^ drop) := by
  unfold Ieee.Toward.cut cutE
  simp only [Nat.one_shiftLeft]
  by_cases h : drop ≤ n.log2 + 2
  · rw [Nat.min_eq_left h]
  · rw [Nat.min_eq_right (by omega)]
    have h1 : n < 2 ^ (n.log2 + 1) := Nat.lt_log2_self
    have h2 : 2 ^ (n.log2 + 2) = 2 * 2 ^ (n.log2 + 1) := by rw [Nat.pow_succ, Nat.mul_comm]
    have h3 : 2 ^ (n.log2 + 2) ≤ 2 ^ drop := Nat.pow_le_pow_right (by decide) (by omega)
    rw [Nat.div_eq_of_lt (by omega), Nat.mod_eq_of_lt (show n < 2 ^ (n.log2 + 2) by omega), Nat.div_eq_of_lt (by omega), Nat.mod_eq_of_lt (show n < 2 ^ drop by omega)]
    simp only [Nat.zero_add, Nat.zero_mod]
    rw [decide_eq_false (by omega), decide_eq_false (by omega)]
    simp
theorem cutE_bounds (n : Nat) {g : Nat} (hg : 0 < g) : 2 * (cutE n g * g) ≤ 2 * n + g ∧ 2 * n ≤ 2 * (cutE n g * g) + g := by
  have h1 := Nat.div_add_mod n g
  have h2 : n % g < g := Nat.mod_lt _ hg
  have h3 : g * (n / g) = n / g * g := Nat.mul_comm _ _
  unfold cutE
  cases hb : (decide (g < 2 * (n % g)) || (g == 2 * (n % g) && n / g % 2 == 1))
  · simp only [Bool.toNat_false, Nat.add_zero]
    simp only [Bool.or_eq_false_iff, decide_eq_false_iff_not] at hb
    omega
  · simp only [Bool.toNat_true]
    have h4 : (n / g + 1) * g = n / g * g + g := by rw [Nat.add_mul, Nat.one_mul]
    rw [h4]
    simp only [Bool.or_eq_true, decide_eq_true_eq, Bool.and_eq_true, beq_iff_eq] at hb
    omega
theorem cutE_exact (q : Nat) {g : Nat} (hg : 0 < g) : cutE (q * g) g = q := by
  unfold cutE
  rw [Nat.mul_div_cancel _ hg, Nat.mul_mod_left]
  rw [decide_eq_false (by omega)]
  have : (g == 2 * 0) = false := by simp; omega
  rw [this]; rfl
theorem cutE_mono {n m : Nat} {g : Nat} (hg : 0 < g) (h : n ≤ m) : cutE n g ≤ cutE m g := by
  have h1 := Nat.div_add_mod n g
  have h2 : n % g < g := Nat.mod_lt _ hg
  have h3 := Nat.div_add_mod m g
  have h4 : m % g < g := Nat.mod_lt _ hg
  have h5 : n / g ≤ m / g := Nat.div_le_div_right h
  rcases Nat.lt_or_eq_of_le h5 with hlt | heq
  · have a : cutE n g ≤ n / g + 1 := by unfold cutE; exact Nat.add_le_add_left (Bool.toNat_le _) _
    have b : m / g ≤ cutE m g := by unfold cutE; omega
    omega
  · unfold cutE
    rw [heq] at h1 ⊢
    have h6 : n % g ≤ m % g := by omega
    cases hb : (decide (g < 2 * (n % g)) || (g == 2 * (n % g) && m / g % 2 == 1))
    · simp
    · have : (decide (g < 2 * (m % g)) || (g == 2 * (m % g) && m / g % 2 == 1)) = true := by
        simp only [Bool.or_eq_true, decide_eq_true_eq, Bool.and_eq_true, beq_iff_eq] at hb ⊢
        omega
      rw [this]; simp

/-- The number of a rung behind rounding. -/
theorem vr_round {B d kept : Nat} (hB : 2 ≤ B) (h : (d = 0 ∧ kept ≤ 2 * B) ∨ (B ≤ kept ∧ kept ≤ 2 * B)) : vr B (d * B + kept) = kept * 2 ^ d := by
  by_cases hk : kept < B
  · have hd : d = 0 := by omega
    subst hd; unfold vr; rw [if_pos (by omega)]; omega
  · unfold vr
    rw [if_neg (by omega)]
    by_cases hk2 : kept = 2 * B
    · subst hk2
      have e : d * B + 2 * B = (d + 2) * B := by rw [Nat.add_mul]
      rw [e, Nat.mul_div_cancel _ (by omega), Nat.mul_mod_left]
      have : d + 2 - 1 = d + 1 := by omega
      rw [this, Nat.pow_succ]
      have : (B + 0) * (2 ^ d * 2) = 2 * B * 2 ^ d := by rw [Nat.add_zero, Nat.mul_comm (2 ^ d) 2, ← Nat.mul_assoc, Nat.mul_comm B 2]
      exact this
    · obtain ⟨t, ht⟩ : ∃ t, kept = B + t := ⟨kept - B, by omega⟩
      have e : d * B + kept = (d + 1) * B + t := by rw [Nat.add_mul, ht]; omega
      have e1 : (d * B + kept) / B = d + 1 := by
        rw [e, Nat.add_comm, Nat.add_mul_div_right _ _ (by omega), Nat.div_eq_of_lt (by omega)]; omega
      have e2 : (d * B + kept) % B = t := by
        rw [e, Nat.add_comm, Nat.add_mul_mod_self_right, Nat.mod_eq_of_lt (by omega)]
      rw [e1, e2, ht]; rfl

/-- The number of a magnitude's rung, exactly. -/
def vq (f : Ieee.Format) (r : Nat) : Rat := (vr f.binade r : Rat) * (2 : Rat) ^ f.leastPlace
/-- Half of the last place kept. -/
def lastOf (f : Ieee.Format) (mag : Nat) (place : Int) : Int := max (place + mag.log2 - f.fractionBits) f.leastPlace

theorem two_ne : (2 : Rat) ≠ 0 := by decide
theorem two_pos : (0 : Rat) < 2 := by decide
theorem zp_pos (e : Int) : (0 : Rat) < (2 : Rat) ^ e := Rat.zpow_pos two_pos
theorem zp_add (a b : Int) : (2 : Rat) ^ (a + b) = (2 : Rat) ^ a * (2 : Rat) ^ b := Rat.zpow_add two_ne a b
theorem zp_nat (n : Nat) : (2 : Rat) ^ (n : Int) = ((2 ^ n : Nat) : Rat) := by rw [Rat.zpow_natCast]; push_cast; rfl

theorem rat_cancel {a b c : Rat} (hc : 0 < c) (h : a * c = b * c) : a = b := by
  have h1 : a * c * c⁻¹ = b * c * c⁻¹ := by rw [h]
  have h2 : c * c⁻¹ = 1 := Rat.mul_inv_cancel _ (Rat.ne_of_gt hc)
  rwa [Rat.mul_assoc, Rat.mul_assoc, h2, Rat.mul_one, Rat.mul_one] at h1
theorem nearest_spec (f : Ieee.Format) (hp : 1 ≤ f.fractionBits) (neg : Bool) (mag : Nat) (place : Int) (hm : 0 < mag) :
    ∃ r : Nat, f.nearest neg mag place = f.word neg (min r f.infRung) ∧
      2 * vq f r ≤ 2 * ((mag : Rat) * (2 : Rat) ^ place) + (2 : Rat) ^ lastOf f mag place ∧
      2 * ((mag : Rat) * (2 : Rat) ^ place) ≤ 2 * vq f r + (2 : Rat) ^ lastOf f mag place ∧
      (∀ q : Nat, (mag : Rat) * (2 : Rat) ^ place = (q : Rat) * (2 : Rat) ^ lastOf f mag place → vq f r = (mag : Rat) * (2 : Rat) ^ place) := by
  have hL1 : 2 ^ mag.log2 ≤ mag := Nat.log2_self_le (by omega)
  have hL2 : mag < 2 ^ (mag.log2 + 1) := Nat.lt_log2_self
  have hB2 : 2 ≤ f.binade := by
    have : 2 ^ 1 ≤ 2 ^ f.fractionBits := Nat.pow_le_pow_right (by decide) hp
    exact this
  have hBp : f.binade = 2 ^ f.fractionBits := rfl
  generalize hl : lastOf f mag place = last
  have hl1 : place + mag.log2 - f.fractionBits ≤ last := by rw [← hl]; unfold lastOf; omega
  have hl2 : f.leastPlace ≤ last := by rw [← hl]; unfold lastOf; omega
  have hl3 : last = place + mag.log2 - f.fractionBits ∨ last = f.leastPlace := by rw [← hl]; unfold lastOf; omega
  obtain ⟨a, ha⟩ : ∃ a, a = (place - last).toNat := ⟨_, rfl⟩
  obtain ⟨b, hb⟩ : ∃ b, b = (last - place).toNat := ⟨_, rfl⟩
  obtain ⟨d, hd⟩ : ∃ d, d = (last - f.leastPlace).toNat := ⟨_, rfl⟩
  have hg : 0 < 2 ^ b := Nat.two_pow_pos _
  -- what is kept
  have hn2 : mag * 2 ^ a ≤ 2 * f.binade * 2 ^ b := by
    have h1 : mag * 2 ^ a ≤ 2 ^ (mag.log2 + 1) * 2 ^ a := Nat.mul_le_mul_right _ (by omega)
    have h2 : 2 * f.binade * 2 ^ b = 2 ^ (f.fractionBits + 1 + b) := by rw [hBp, Nat.pow_add, Nat.pow_succ, Nat.mul_comm (2 ^ f.fractionBits) 2]
    rw [← Nat.pow_add] at h1
    have h3 : 2 ^ (mag.log2 + 1 + a) ≤ 2 ^ (f.fractionBits + 1 + b) := Nat.pow_le_pow_right (by decide) (by omega)
    omega
  have hk2 : cutE (mag * 2 ^ a) (2 ^ b) ≤ 2 * f.binade := by
    have := cutE_mono hg hn2
    rwa [cutE_exact _ hg] at this
  have hk1 : d = 0 ∨ f.binade ≤ cutE (mag * 2 ^ a) (2 ^ b) := by
    rcases hl3 with h | h
    · right
      have h1 : 2 ^ mag.log2 * 2 ^ a ≤ mag * 2 ^ a := Nat.mul_le_mul_right _ hL1
      rw [← Nat.pow_add] at h1
      have h2 : f.binade * 2 ^ b = 2 ^ (mag.log2 + a) := by
        rw [hBp, ← Nat.pow_add]; congr 1; omega
      have := cutE_mono (n := f.binade * 2 ^ b) hg (by omega : f.binade * 2 ^ b ≤ mag * 2 ^ a)
      rwa [cutE_exact _ hg] at this
    · left; omega
  have hkb := cutE_bounds (mag * 2 ^ a) hg
  have hke := fun q => cutE_exact q hg
  generalize hK : cutE (mag * 2 ^ a) (2 ^ b) = kept at hk2 hk1 hkb
  have hv : vr f.binade (d * f.binade + kept) = kept * 2 ^ d := vr_round hB2 (by omega)
  refine ⟨d * f.binade + kept, ?_, ?_⟩
  · unfold Ieee.Format.nearest
    rw [if_neg (by omega)]
    simp only []
    have e : max (place + ↑mag.log2 - ↑f.fractionBits) f.leastPlace = last := hl
    rw [e, ← ha, ← hb, ← hd, Nat.shiftLeft_eq, cut_even, hK]
  · -- in numbers
    have hc := zp_pos (last - b)
    generalize hcc : (2 : Rat) ^ (last - b) = c at hc
    have e1 : (2 : Rat) ^ last = ((2 ^ b : Nat) : Rat) * c := by
      rw [← hcc, ← zp_nat, ← zp_add]; congr 1; omega
    have e2 : (mag : Rat) * (2 : Rat) ^ place = ((mag * 2 ^ a : Nat) : Rat) * c := by
      have e3 : (2 : Rat) ^ place = ((2 ^ a : Nat) : Rat) * c := by
        rw [← hcc, ← zp_nat, ← zp_add]; congr 1; omega
      have e4 : ((mag * 2 ^ a : Nat) : Rat) = (mag : Rat) * ((2 ^ a : Nat) : Rat) := Rat.natCast_mul _ _
      rw [e3, e4, Rat.mul_assoc]
    have e5 : vq f (d * f.binade + kept) = ((kept * 2 ^ b : Nat) : Rat) * c := by
      unfold vq
      rw [hv, Rat.natCast_mul, Rat.natCast_mul, Rat.mul_assoc, Rat.mul_assoc, ← e1, ← zp_nat, ← zp_add]
      congr 2; omega
    rw [e1, e2, e5]
    have b1 : 2 * ((kept * 2 ^ b : Nat) : Rat) ≤ 2 * ((mag * 2 ^ a : Nat) : Rat) + ((2 ^ b : Nat) : Rat) := by
      have := Rat.natCast_le_natCast.2 hkb.1
      simpa [Rat.natCast_add, Rat.natCast_mul] using this
    have b2 : 2 * ((mag * 2 ^ a : Nat) : Rat) ≤ 2 * ((kept * 2 ^ b : Nat) : Rat) + ((2 ^ b : Nat) : Rat) := by
      have := Rat.natCast_le_natCast.2 hkb.2
      simpa [Rat.natCast_add, Rat.natCast_mul] using this
    refine ⟨?_, ?_, ?_⟩
    · generalize ((kept * 2 ^ b : Nat) : Rat) = x at *
      generalize ((mag * 2 ^ a : Nat) : Rat) = y at *
      have := Rat.mul_le_mul_of_nonneg_right b1 (Rat.le_of_lt hc)
      grind
    · generalize ((kept * 2 ^ b : Nat) : Rat) = x at *
      generalize ((mag * 2 ^ a : Nat) : Rat) = y at *
      have := Rat.mul_le_mul_of_nonneg_right b2 (Rat.le_of_lt hc)
      grind
    · intro q hq
      have h1 : ((mag * 2 ^ a : Nat) : Rat) = ((q * 2 ^ b : Nat) : Rat) := by
        rw [Rat.natCast_mul q]
        rw [← Rat.mul_assoc] at hq
        exact rat_cancel hc hq
      have h2 : mag * 2 ^ a = q * 2 ^ b := Rat.natCast_inj.1 h1
      have h3 : kept = q := by rw [← hK, h2]; exact hke q
      rw [h3, h1]

end Go.Proofs.YtbaocallhnehfaaGreatDoor

namespace Go.Proofs.YtbaocallhnehfaaGreatDoor
open Go.RowKit

theorem vr_mono {B r s : Nat} (hB : 0 < B) (h : r ≤ s) : vr B r ≤ vr B s := by
  rcases Nat.lt_or_eq_of_le h with h | h
  · exact Nat.le_of_lt (vr_lt hB h)
  · subst h; exact Nat.le_refl _
theorem vr_inj {B r s : Nat} (hB : 0 < B) (h : vr B r = vr B s) : r = s := by
  rcases Nat.lt_trichotomy r s with h' | h' | h'
  · have := vr_lt hB h'; omega
  · exact h'
  · have := vr_lt hB h'; omega
theorem vq_lt_iff (f : Ieee.Format) {r s : Nat} : vq f r < vq f s ↔ r < s := by
  have hB := binade_pos f
  have hc := zp_pos f.leastPlace
  unfold vq
  constructor
  · intro h
    rcases Nat.lt_or_ge r s with h' | h'
    · exact h'
    · have h1 := Rat.natCast_le_natCast.2 (vr_mono hB h')
      have := Rat.mul_le_mul_of_nonneg_right h1 (Rat.le_of_lt hc)
      grind
  · intro h
    exact Rat.mul_lt_mul_of_pos_right (Rat.natCast_lt_natCast.2 (vr_lt hB h)) hc
theorem vq_inj (f : Ieee.Format) {r s : Nat} (h : vq f r = vq f s) : r = s := by
  have hc := zp_pos f.leastPlace
  unfold vq at h
  exact vr_inj (binade_pos f) (Rat.natCast_inj.1 (rat_cancel hc h))
theorem vq_zero (f : Ieee.Format) : vq f 0 = 0 := by
  unfold vq vr; rw [if_pos (binade_pos f)]; simp
theorem vq_nonneg (f : Ieee.Format) (r : Nat) : 0 ≤ vq f r := by
  rcases Nat.eq_zero_or_pos r with h | h
  · subst h; rw [vq_zero]; exact Rat.le_refl
  · have := (vq_lt_iff f (r := 0) (s := r)).2 h; rw [vq_zero] at this; exact Rat.le_of_lt this

/-- The number that a float's bits stand for (of no use at NaNs and infinities). -/
def val (k : FloatKind) (b : Nat) : Rat := if sgn k.format b then -(vq k.format (rung k.format b)) else vq k.format (rung k.format b)
theorem sgn_word (f : Ieee.Format) (neg : Bool) {r : Nat} (h : r < f.signWeight) : sgn f (f.word neg r) = neg := word_read_neg f neg r h
theorem rung_word (f : Ieee.Format) (neg : Bool) {r : Nat} (h : r < f.signWeight) : rung f (f.word neg r) = r := word_read_rung f neg r h
theorem frac_ok (k : FloatKind) : 1 ≤ k.format.fractionBits := by cases k <;> decide

/-- A number that the format has is written exactly. -/
theorem nearest_exact (f : Ieee.Format) (hp : 1 ≤ f.fractionBits) (neg : Bool) (mag : Nat) (place : Int) (hm : 0 < mag) (h1 : mag ≤ 2 ^ (f.fractionBits + 1)) (h2 : f.leastPlace ≤ place) :
    ∃ r : Nat, f.nearest neg mag place = f.word neg (min r f.infRung) ∧ vq f r = (mag : Rat) * (2 : Rat) ^ place := by
  obtain ⟨r, hr, -, -, hx⟩ := nearest_spec f hp neg mag place hm
  refine ⟨r, hr, ?_⟩
  have hL1 : 2 ^ mag.log2 ≤ mag := Nat.log2_self_le (by omega)
  have hL : mag.log2 ≤ f.fractionBits + 1 := by
    rcases Nat.lt_or_ge (f.fractionBits + 1) mag.log2 with h | h
    · have := Nat.pow_lt_pow_right (a := 2) (by decide) h; omega
    · exact h
  by_cases hc : lastOf f mag place ≤ place
  · obtain ⟨c, hc'⟩ : ∃ c : Nat, place = lastOf f mag place + c := ⟨(place - lastOf f mag place).toNat, by omega⟩
    refine hx (mag * 2 ^ c) ?_
    rw [Rat.natCast_mul, ← zp_nat, Rat.mul_assoc, ← zp_add]
    congr 2; omega
  · have e : mag.log2 = f.fractionBits + 1 := by unfold lastOf at hc; omega
    have em : mag = 2 ^ (f.fractionBits + 1) := by rw [e] at hL1; omega
    have el : lastOf f mag place = place + 1 := by unfold lastOf at hc ⊢; omega
    refine hx (2 ^ f.fractionBits) ?_
    rw [el, zp_add, em, Nat.pow_succ, Rat.natCast_mul]
    have : (2 : Rat) ^ (1 : Int) = 2 := by decide +kernel
    rw [this]; push_cast; grind
/-- .. and is a number again. -/
theorem encode_exact (k : FloatKind) (neg : Bool) (mag : Nat) (place : Int) (h1 : mag ≤ 2 ^ (k.format.fractionBits + 1)) (h2 : k.format.leastPlace ≤ place) (h3 : (mag : Rat) * (2 : Rat) ^ place < vq k.format k.format.infRung) :
    isNum k (k.encode (.number neg mag place)) = true ∧ sgn k.format (k.encode (.number neg mag place)) = neg ∧ vq k.format (rung k.format (k.encode (.number neg mag place))) = (mag : Rat) * (2 : Rat) ^ place := by
  have hsw := k.format.infRung_lt
  rcases Nat.eq_zero_or_pos mag with h | h
  · subst h
    have e : k.encode (.number neg 0 place) = k.format.word neg 0 := rfl
    have hi : 0 < k.format.infRung := Nat.lt_of_lt_of_le (binade_pos _) (binade_le_inf _ (exp_ok k))
    rw [e]
    refine ⟨?_, ?_, ?_⟩
    · unfold isNum; rw [rung_word _ _ (by omega)]; simpa using hi
    · rw [sgn_word _ _ (by omega)]
    · rw [rung_word _ _ (by omega), vq_zero]; simp
  · obtain ⟨r, hr, hv⟩ := nearest_exact k.format (frac_ok k) neg mag place h h1 h2
    have hlt : r < k.format.infRung := by rw [← hv] at h3; exact (vq_lt_iff _).1 h3
    have e : k.encode (.number neg mag place) = k.format.word neg r := by
      show k.format.nearest neg mag place = _
      rw [hr, Nat.min_eq_left (by omega)]
    rw [e]
    refine ⟨?_, ?_, ?_⟩
    · unfold isNum; rw [rung_word _ _ (by omega)]; simpa using hlt
    · rw [sgn_word _ _ (by omega)]
    · rw [rung_word _ _ (by omega), hv]

theorem read_mag_lt (f : Ieee.Format) (w : Nat) (m : Nat) (e : Int) (s : Bool) (h : f.read w = .number s m e) : m < 2 ^ (f.fractionBits + 1) ∧ f.leastPlace ≤ e := by
  have hb : f.binade = 2 ^ f.fractionBits := rfl
  have hp := binade_pos f
  unfold Ieee.Format.read at h
  simp only [] at h
  split at h
  · cases h; rw [Nat.pow_succ]; omega
  · split at h
    · cases h
      have := Nat.mod_lt (w % f.signWeight) hp
      rw [Nat.pow_succ]; omega
    · split at h <;> cases h
/-- What a number's word stands for, in numbers. -/
theorem decode_num {k : FloatKind} {b : Nat} (h : isNum k b = true) : ∃ m e, k.decode b = .number (sgn k.format b) m e ∧ (m : Rat) * (2 : Rat) ^ e = vq k.format (rung k.format b) ∧ m < 2 ^ (k.format.fractionBits + 1) ∧ k.format.leastPlace ≤ e := by
  unfold isNum at h
  simp only [decide_eq_true_eq] at h
  obtain ⟨m, e, up, h1, h2, h3⟩ := read_number k.format b h
  have h4 := read_mag_lt _ _ _ _ _ h1
  refine ⟨m, e, h1, ?_, h4.1, h4.2⟩
  unfold vq
  rw [← h3, h2, zp_add, Rat.natCast_mul, ← zp_nat]; grind
theorem vq_inf32 : vq FloatKind.f32.format FloatKind.f32.format.infRung = (2 : Rat) ^ (128 : Int) := by decide +kernel
theorem vr_big {B r q t : Nat} (h : ¬ r < B) (hq : r / B - 1 = q) (ht : r % B = t) : vr B r = (B + t) * 2 ^ q := by
  unfold vr; rw [if_neg h, hq, ht]
theorem vq_inf64_aux (q : Nat) (h : 9218868437227405312 / 4503599627370496 - 1 = q) : vq FloatKind.f64.format FloatKind.f64.format.infRung = (2 : Rat) ^ ((52 : Int) + q + -1074) := by
  unfold vq
  rw [f64_ir, f64_bn, vr_big (t := 0) (by decide) h (by decide), Nat.add_zero, Rat.natCast_mul, ← zp_nat]
  have e2 : FloatKind.f64.format.leastPlace = -1074 := by decide
  have e3 : ((4503599627370496 : Nat) : Rat) = (2 : Rat) ^ (52 : Int) := by
    rw [show (52 : Int) = ((52 : Nat) : Int) from rfl, zp_nat]
  rw [e2, e3, ← zp_add, ← zp_add]
theorem vq_inf64 : vq FloatKind.f64.format FloatKind.f64.format.infRung = (2 : Rat) ^ (1024 : Int) := vq_inf64_aux 2046 (by decide)
theorem rlt_le {a b c : Rat} (h : a < b) (h' : b ≤ c) : a < c := by grind
theorem rle_lt {a b c : Rat} (h : a ≤ b) (h' : b < c) : a < c := by grind
theorem zp_le {a b : Int} (h : a ≤ b) : (2 : Rat) ^ a ≤ (2 : Rat) ^ b := by
  obtain ⟨n, hn⟩ : ∃ n : Nat, b = a + n := ⟨(b - a).toNat, by omega⟩
  rw [hn, zp_add, zp_nat]
  have h4 : (1 : Rat) ≤ ((2 ^ n : Nat) : Rat) := by
    have := Rat.natCast_le_natCast.2 (show 1 ≤ 2 ^ n from Nat.two_pow_pos n)
    exact this
  have h5 := Rat.mul_le_mul_of_nonneg_left h4 (Rat.le_of_lt (zp_pos a))
  rwa [Rat.mul_one] at h5
theorem zp_lt {a b : Int} (h : a < b) : (2 : Rat) ^ a < (2 : Rat) ^ b := by
  have h1 := zp_le (a := a + 1) (b := b) (by omega)
  have h2 : (2 : Rat) ^ (a + 1) = (2 : Rat) ^ a * 2 := by
    rw [zp_add]; have : (2 : Rat) ^ (1 : Int) = 2 := by decide +kernel
    rw [this]
  have := zp_pos a
  grind
/-- A single as a double: exactly. -/
theorem up_exact {b : Nat} (h : isNum .f32 b = true) : isNum .f64 (fcv .f32 .f64 b) = true ∧ sgn FloatKind.f64.format (fcv .f32 .f64 b) = sgn FloatKind.f32.format b ∧ vq FloatKind.f64.format (rung FloatKind.f64.format (fcv .f32 .f64 b)) = vq FloatKind.f32.format (rung FloatKind.f32.format b) := by
  obtain ⟨m, e, hd, hv, hm, he⟩ := decode_num h
  have hn := isNum_not_nan h
  unfold fcv
  rw [hn]
  simp only [Bool.false_eq_true, if_false]
  rw [hd, ← hv]
  have hm' : m < 2 ^ 24 := hm
  have he' : (-149 : Int) ≤ e := he
  refine encode_exact .f64 _ m e (Nat.le_of_lt (Nat.lt_of_lt_of_le hm' (by decide))) (Int.le_trans (by decide) he') ?_
  rw [hv, vq_inf64]
  have h1 : rung FloatKind.f32.format b < FloatKind.f32.format.infRung := by simpa [isNum] using h
  have h2 := (vq_lt_iff FloatKind.f32.format).2 h1
  rw [vq_inf32] at h2
  exact rlt_le h2 (zp_le (by decide))
theorem isNum_decode {k : FloatKind} {b : Nat} : isNum k b = true ↔ ∃ s m e, k.decode b = .number s m e := by
  constructor
  · intro h; obtain ⟨m, e, hd, -⟩ := decode_num h; exact ⟨_, m, e, hd⟩
  · rintro ⟨s, m, e, hd⟩
    unfold isNum
    rcases Nat.lt_trichotomy (rung k.format b) k.format.infRung with h | h | h
    · simpa using h
    · have := read_inf k.format b h (exp_ok k)
      rw [show k.decode b = k.format.read b from rfl, this] at hd; cases hd
    · have := read_nan k.format b h (exp_ok k)
      rw [show k.decode b = k.format.read b from rfl] at hd
      rw [hd] at this; cases this
theorem ovf_up (b : Nat) : ovf .f32 .f64 b = false := by
  unfold ovf
  by_cases hn : isNum .f32 b = true
  · obtain ⟨h, -, -⟩ := up_exact hn
    have hnn := isNum_not_nan hn
    unfold fcv at h
    rw [hnn] at h
    simp only [Bool.false_eq_true, if_false] at h
    obtain ⟨s, m, e, hd⟩ := isNum_decode.1 h
    rw [hd]; simp [Ieee.Datum.isInfinity]
  · cases hd : FloatKind.f32.decode b with
    | number s m e => exact absurd (isNum_decode.2 ⟨s, m, e, hd⟩) hn
    | infinity s => rfl
    | nan s t =>
      have hsw := FloatKind.f64.format.infRung_add_binade
      have hlt : FloatKind.f64.format.infRung + t % FloatKind.f64.format.binade < FloatKind.f64.format.signWeight := by
        have := Nat.mod_lt t (binade_pos FloatKind.f64.format); omega
      have e1 : FloatKind.f64.encode (.nan s t) = FloatKind.f64.format.word s (FloatKind.f64.format.infRung + t % FloatKind.f64.format.binade) := rfl
      have ht : t < 2 ^ 23 ∧ 0 < t := by
        unfold FloatKind.decode Ieee.Format.read at hd
        simp only [f32_sw, f32_ir] at hd
        have hm : b % 2147483648 < 2147483648 := Nat.mod_lt _ (by decide)
        split at hd
        · cases hd
        · split at hd
          · cases hd
          · split at hd
            · cases hd
            · cases hd; omega
      rw [e1]
      have e2 : (FloatKind.f64.decode (FloatKind.f64.format.word s (FloatKind.f64.format.infRung + t % FloatKind.f64.format.binade))).isNaN = true := by
        refine read_nan _ _ ?_ (exp_ok .f64)
        rw [rung_word _ _ hlt, f64_bn, Nat.mod_eq_of_lt (by omega)]; omega
      cases hq : FloatKind.f64.decode (FloatKind.f64.format.word s (FloatKind.f64.format.infRung + t % FloatKind.f64.format.binade)) with
      | nan => rfl
      | number => rw [hq] at e2; cases e2
      | infinity => rw [hq] at e2; cases e2

section
variable {P : Program} {ops : Array Oper} {rest : List Oper} {a : Act} {w : World} {Q : Exit → Act → World → Prop} {dst : Option Tmp} {ty : TypeId} {x : Operand} {pos : String} {after : Array Edge}
/-- THE WALK's LAW: a single as a double. -/
theorem wpList_up {src d : TypeId} {b : Nat} (hx : a.eval x = .float .f32 b) (hs : P.underlying src = some (.float .f32)) (hd : P.underlying d = some (.float .f64))
    (h : ∀ r n, FR .f64 r (fcv .f32 .f64 (cn .f32 b)) → wpList P ops Q rest (a.put dst (.float .f64 r)) (w.drewN n)) :
    wpList P ops Q ({ dst, op := .convert src d x, type := ty, pos, after, guard := none } :: rest) a w :=
  wpList_fcv hx hs hd (by decide) fun r n _ hf => h r n (by rw [fcv_cn]; exact hf (ovf_up b))
end

end Go.Proofs.YtbaocallhnehfaaGreatDoor

namespace Go.Proofs.YtbaocallhnehfaaGreatDoor
open Go.RowKit

theorem call_f32bits (args : Array Value) (w : World) : (callFunc 50 args).run Tryz.prog w = ((Extern.MathFloatBits.float32bits args).run Tryz.prog w).andThen fun v w' => .ok (.value v) w' :=
  run_callFunc_extern Tryz.func50 (by kernel_rfl) (by kernel_rfl) (by kernel_rfl) (by kernel_rfl) args w
@[go_sem ↓] theorem call_f32bits' (b : Nat) (w : World) : (callFunc 50 #[.float .f32 b]).run Tryz.prog w = .ok (.value (.int .u32 b)) w := by rw [call_f32bits]; rfl
theorem call_f64bits (args : Array Value) (w : World) : (callFunc 150 args).run Tryz.prog w = ((Extern.MathFloatBits.float64bits args).run Tryz.prog w).andThen fun v w' => .ok (.value v) w' :=
  run_callFunc_extern Tryz.func150 (by kernel_rfl) (by kernel_rfl) (by kernel_rfl) (by kernel_rfl) args w
@[go_sem ↓] theorem call_f64bits' (b : Nat) (w : World) : (callFunc 150 #[.float .f64 b]).run Tryz.prog w = .ok (.value (.int .u64 b)) w := by rw [call_f64bits]; rfl
theorem call_f32from (args : Array Value) (w : World) : (callFunc 107 args).run Tryz.prog w = ((Extern.MathFloatBits.float32frombits args).run Tryz.prog w).andThen fun v w' => .ok (.value v) w' :=
  run_callFunc_extern Tryz.func107 (by kernel_rfl) (by kernel_rfl) (by kernel_rfl) (by kernel_rfl) args w
@[go_sem ↓] theorem call_f32from' (n : Int) (w : World) : (callFunc 107 #[.int .u32 n]).run Tryz.prog w = .ok (.value (.float .f32 n.toNat)) w := by rw [call_f32from]; rfl
theorem call_f64from (args : Array Value) (w : World) : (callFunc 149 args).run Tryz.prog w = ((Extern.MathFloatBits.float64frombits args).run Tryz.prog w).andThen fun v w' => .ok (.value v) w' :=
  run_callFunc_extern Tryz.func149 (by kernel_rfl) (by kernel_rfl) (by kernel_rfl) (by kernel_rfl) args w
@[go_sem ↓] theorem call_f64from' (n : Int) (w : World) : (callFunc 149 #[.int .u64 n]).run Tryz.prog w = .ok (.value (.float .f64 n.toNat)) w := by rw [call_f64from]; rfl
section
variable {ops : Array Oper} {rest : List Oper} {a : Act} {w : World} {Q : Exit → Act → World → Prop} {dst : Option Tmp} {ty : TypeId} {x : Operand} {pos : String} {after : Array Edge} {ats : Array TypeId}
end

end Go.Proofs.YtbaocallhnehfaaGreatDoor
