/- math.Ldexp of a positive number, where number and result are plain (neither small nor infinite). Conditions: those. -/
import Derived.Test.YthphcnchbogheaaAbsA
import Derived.Test.YthphcnchbogheaaBD
namespace Go.Proofs.Ythphcnchbogheaa
open Go.RowKit
section
variable {P : Program} {ops : Array Oper} {rest : List Oper} {a : Act} {w : World} {Q : Exit → Act → World → Prop} {dst : Option Tmp} {ty : TypeId} {x y : Operand} {pos : String} {after : Array Edge}
theorem wpList_flit {op : BinOp} {t t' : TypeId} {k : FloatKind} {u v c : Nat} (ho : arith op = true) (hx : a.eval x = .float k u) (hy : a.eval y = .float k v) (hc : fop op k (cn k u) (cn k v) = c) (hn : isN k c = false)
    (h : ∀ n, wpList P ops Q rest (a.put dst (.float k c)) (w.drewN n)) :
    wpList P ops Q ({ dst, op := .binOp op t x y t', type := ty, pos, after, guard := none } :: rest) a w :=
  wpList_farith ho hx hy fun r n hr => by rw [hc] at hr; rw [FR.exact hr hn]; exact h n
theorem wpList_clit {src d : TypeId} {s k : FloatKind} {b c : Nat} (hx : a.eval x = .float s b) (hs : P.underlying src = some (.float s)) (hd : P.underlying d = some (.float k)) (hne : s ≠ k) (ho : ovf s k b = false) (hc : fcv s k b = c) (hn : isN k c = false)
    (h : ∀ n, wpList P ops Q rest (a.put dst (.float k c)) (w.drewN n)) :
    wpList P ops Q ({ dst, op := .convert src d x, type := ty, pos, after, guard := none } :: rest) a w :=
  wpList_fcv hx hs hd hne fun r n _ hf => by have h1 := hf ho; rw [hc] at h1; rw [FR.exact h1 hn]; exact h n
end
/-- A plain positive double: its word, by exponent and fraction. -/
theorem plain64 {E f : Nat} (h1 : 1 ≤ E) (h2 : E ≤ 2046) (hf : f < 2 ^ 52) : E * 2 ^ 52 + f < 2 ^ 63 ∧ isNum .f64 (E * 2 ^ 52 + f) = true ∧ sgn FloatKind.f64.format (E * 2 ^ 52 + f) = false ∧ rung FloatKind.f64.format (E * 2 ^ 52 + f) = E * 2 ^ 52 + f ∧
    val .f64 (E * 2 ^ 52 + f) = ((2 ^ 52 + f : Nat) : Rat) * (2 : Rat) ^ ((E : Int) - 1075) := by
  have hl : E * 2 ^ 52 + f < 2047 * 2 ^ 52 := by omega
  have hlt : E * 2 ^ 52 + f < 2 ^ 63 := by omega
  have hr : rung FloatKind.f64.format (E * 2 ^ 52 + f) = E * 2 ^ 52 + f := by unfold rung; rw [sw64]; exact Nat.mod_eq_of_lt hlt
  have hs : sgn FloatKind.f64.format (E * 2 ^ 52 + f) = false := by unfold sgn; rw [sw64, Nat.div_eq_of_lt hlt]; rfl
  refine ⟨hlt, ?_, hs, hr, ?_⟩
  · unfold isNum; rw [hr, f64_ir]; simp only [decide_eq_true_eq]; omega
  · rw [val_sg, hs, hr]
    show vq FloatKind.f64.format _ = _
    unfold vq
    have hB : FloatKind.f64.format.binade = 2 ^ 52 := by decide
    have hL : FloatKind.f64.format.leastPlace = -1074 := by decide
    rw [hB, hL, vr_big (B := 2 ^ 52) (q := E - 1) (t := f) (by omega) (by omega) (by omega), Rat.natCast_mul, ← zp_nat, Rat.mul_assoc, ← zp_add]
    congr 2; omega
theorem ord_lt_val {x y : Nat} (hx : isNum .f64 x = true) (hy : isNum .f64 y = true) : (FloatKind.f64.format.order x y == some .lt) = decide (key FloatKind.f64.format x < key FloatKind.f64.format y) := ord_lt (isNum_not_nan hx) (isNum_not_nan hy)
theorem key_pos {b : Nat} (h : b < 2 ^ 63) : key FloatKind.f64.format b = b := by
  unfold key sgn rung; rw [sw64, Nat.div_eq_of_lt h, Nat.mod_eq_of_lt h]; rfl
theorem bits_andNot_mask {E f : Nat} (h2 : E < 2048) (hf : f < 2 ^ 52) : bits .andNot .u64 ((E * 2 ^ 52 + f : Nat) : Int) 9218868437227405312 = (f : Int) := by
  have hx : E * 2 ^ 52 + f < 2 ^ 63 := by omega
  have e : (BitVec.ofInt 64 ((E * 2 ^ 52 + f : Nat) : Int) &&& ~~~ BitVec.ofInt 64 9218868437227405312).toNat = f := by
    have h1 : (~~~ BitVec.ofInt 64 9218868437227405312).toNat = 2 ^ 63 ||| (2 ^ 52 - 1) := by decide
    have h2 : (E * 2 ^ 52 + f) &&& 2 ^ 63 = 0 := by
      apply Nat.eq_of_testBit_eq
      intro i
      rw [Nat.testBit_and, Nat.testBit_two_pow]
      by_cases h : 63 = i
      · subst h; simp [Nat.testBit_lt_two_pow hx]
      · simp [h]
    rw [BitVec.toNat_and, h1, BitVec.ofInt_natCast, BitVec.toNat_ofNat, Nat.mod_eq_of_lt (by omega), Nat.and_or_distrib_left, h2, Nat.and_two_pow_sub_one_eq_mod, Nat.zero_or]
    omega
  show IntKind.u64.wrap (((BitVec.ofInt 64 ((E * 2 ^ 52 + f : Nat) : Int) &&& ~~~ BitVec.ofInt 64 9218868437227405312).toNat : Nat) : Int) = _
  rw [e, IntKind.wrap_u64]
  omega
theorem bits_or_exp {E f : Nat} (h2 : E < 2048) (hf : f < 2 ^ 52) : bits .or .u64 (f : Int) ((E * 2 ^ 52 : Nat) : Int) = ((E * 2 ^ 52 + f : Nat) : Int) := by
  have e : (BitVec.ofInt 64 (f : Int) ||| BitVec.ofInt 64 ((E * 2 ^ 52 : Nat) : Int)).toNat = E * 2 ^ 52 + f := by
    rw [BitVec.toNat_or, BitVec.ofInt_natCast, BitVec.toNat_ofNat, BitVec.ofInt_natCast, BitVec.toNat_ofNat, Nat.mod_eq_of_lt (by omega), Nat.mod_eq_of_lt (by omega), Nat.or_comm, ← Nat.shiftLeft_eq, ← Nat.shiftLeft_add_eq_or_of_lt hf]
  show IntKind.u64.wrap (((BitVec.ofInt 64 (f : Int) ||| BitVec.ofInt 64 ((E * 2 ^ 52 : Nat) : Int)).toNat : Nat) : Int) = _
  rw [e, IntKind.wrap_u64]
  omega
theorem bits_and_exp {E : Nat} (h2 : E < 2048) : bits .and .i64 (E : Int) 2047 = (E : Int) := by
  have e : (BitVec.ofInt 64 (E : Int) &&& BitVec.ofInt 64 2047).toNat = E := by
    have h1 : (BitVec.ofInt 64 2047).toNat = 2 ^ 11 - 1 := by decide
    rw [BitVec.toNat_and, h1, BitVec.ofInt_natCast, BitVec.toNat_ofNat, Nat.mod_eq_of_lt (by omega), Nat.and_two_pow_sub_one_eq_mod]
    omega
  show IntKind.i64.wrap (((BitVec.ofInt 64 (E : Int) &&& BitVec.ofInt 64 2047).toNat : Nat) : Int) = _
  rw [e, IntKind.wrap_i64]
  omega
theorem one_mul64 {Y : Nat} (hY : isNum .f64 Y = true) (h0 : 0 < val .f64 Y) (hl : Y < 2 ^ FloatKind.f64.format.width) (h1 : val .f64 Y < (2 : Rat) ^ (1023 : Int)) : fop .mul .f64 4607182418800017408 Y = Y := by
  have o1 : isNum .f64 4607182418800017408 = true := by decide +kernel
  have o2 : val .f64 4607182418800017408 = 1 := by decide +kernel
  have hp := zp_pos 1023
  have r := fop_mul_num o1 hY 1023 (by decide) (by decide) (by rw [o2, Rat.one_mul]; grind) (by rw [o2, Rat.one_mul]; exact h1)
  rw [o2, Rat.one_mul] at r
  obtain ⟨m, e, -, v1, b1, b2⟩ := decode_num hY
  have hv := r.exact (sgn FloatKind.f64.format Y) m e b1 b2 (by rw [v1]; rfl)
  exact bits_of_val (fop_lt _ _ _ _) hl hv (by rw [hv]; grind)
end Go.Proofs.Ythphcnchbogheaa
