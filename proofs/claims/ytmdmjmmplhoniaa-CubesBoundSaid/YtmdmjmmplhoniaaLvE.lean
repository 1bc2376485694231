/- Float operations that give numbers, as equations. Conditions: what each theorem names. -/
import Derived.Test.YtmdmjmmplhoniaaBA
import Derived.Test.YtmdmjmmplhoniaaBB
import Derived.Test.YtmdmjmmplhoniaaBH
namespace Go.Proofs.Ytmdmjmmplhoniaa
open Go Go.RowKit
theorem lv_farith {P : Program} {op : BinOp} (ho : arith op = true) (t : TypeId) (k : FloatKind) (x y : Nat) (hn : isN k (fop op k x y) = false) (w : World) :
    (binOp op t (.float k x) (.float k y)).run P w = .ok (.float k (fop op k x y)) w := by
  have e : binOp op t (.float k x) (.float k y) = Op.floatArith op k x y := by
    cases op <;> simp only [arith] at ho <;> first | (cases ho; done) | (simp [binOp])
  rw [e, floatArith_of ho]
  cases h : floatBits op k x y with
  | some r =>
    have e2 : fop op k x y = r := by simp [fop, h]
    rw [e2]; rfl
  | none =>
    exfalso
    have e2 : fop op k x y = nanOf k := by simp [fop, h]
    rw [e2] at hn
    revert hn
    cases k <;> decide +kernel
theorem lv_up {P : Program} {s d : TypeId} (hs : P.underlying s = some (.float .f32)) (hd : P.underlying d = some (.float .f64)) {b : Nat} (hn : isNum .f32 b = true) (w : World) :
    (convert s d (.float .f32 b)).run P w = .ok (.float .f64 (fcv .f32 .f64 b)) w := by
  have e : (Conv.floatToFloat .f32 b .f64).run P w = .ok (.float .f64 (fcv .f32 .f64 b)) w := by
    obtain ⟨m, j, hdc, -, -, -⟩ := decode_num hn
    have ho := ovf_up b
    have hi : isN .f32 b = false := isNum_not_nan hn
    unfold Conv.floatToFloat
    rw [if_neg (by decide), hdc]
    have hov : (FloatKind.f64.decode (FloatKind.f64.encode (.number (sgn FloatKind.f32.format b) m j))).isInfinity = false := by
      unfold ovf at ho; rw [hdc] at ho; exact ho
    simp only [hov]
    rw [fcv_dec hi hdc]
    generalize FloatKind.f64.encode (.number (sgn FloatKind.f32.format b) m j) = X
    rfl
  simp only [convert_ff hs hd, e]
end Go.Proofs.Ytmdmjmmplhoniaa
