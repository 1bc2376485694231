/- math.Ldexp of a positive number, for the rows of num (out of LdA by wip/pick.py). Conditions: those named. -/
import Derived.Test.YtokmjboaeamogaaNH
namespace Go.Proofs.Ytokmjboaeamogaa
open Go.RowKit
/-- A plain positive double: its word, by exponent and fraction. -/
theorem plain64 {E f : Nat} (h1 : 1 ≤ E) (h2 : E ≤ 2046) (hf : f < 2 ^ 52) : E * 2 ^ 52 + f < 2 ^ 63 ∧ isNum .f64 (E * 2 ^ 52 + f) = true ∧ sgn FloatKind.f64.format (E * 2 ^ 52 + f) = false ∧ rung FloatKind.f64.format (E * 2 ^ 52 + f) = E * 2 ^ 52 + f ∧
    val .f64 (E * 2 ^ 52 + f) = ((2 ^ 52 + f : Nat) : Rat) * (2 : Rat) ^ ((E : Int) - 1075) := by
  have hl : E * 2 ^ 52 + f < 2047 * 2 ^ 52 := by omega
  have hlt : E * 2 ^ 52 + f < 2 ^ 63 := by omega
  have hr : rung FloatKind.f64.format (E * 2 ^ 52 + f) = E * 2 ^ 52 + f := by unfold rung; rw [sw64]; exact Nat.mod_eq_of_lt hlt
  have hs : sgn FloatKind.f64.format (E * 2 ^ 52 + f) = false := by unfold sgn; rw [sw64, Nat.div_eq_of_lt hlt]; rfl
  refine ⟨hlt, ?_, hs, hr, ?_⟩
  · unfold isNum; rw [hr, f64_ir]; simp only [decide_eq_true_eq]; omega
  · rw [val_sg, hs, hr]
    show vq FloatKind.f64.format _ = _
    unfold vq
    have hB : FloatKind.f64.format.binade = 2 ^ 52 := by decide
    have hL : FloatKind.f64.format.leastPlace = -1074 := by decide
    rw [hB, hL, vr_big (B := 2 ^ 52) (q := E - 1) (t := f) (by omega) (by omega) (by omega), Rat.natCast_mul, ← zp_nat, Rat.mul_assoc, ← zp_add]
    congr 2; omega
theorem ord_lt_val {x y : Nat} (hx : isNum .f64 x = true) (hy : isNum .f64 y = true) : (FloatKind.f64.format.order x y == some .lt) = decide (key FloatKind.f64.format x < key FloatKind.f64.format y) := ord_lt (isNum_not_nan hx) (isNum_not_nan hy)
theorem key_pos {b : Nat} (h : b < 2 ^ 63) : key FloatKind.f64.format b = b := by
  unfold key sgn rung; rw [sw64, Nat.div_eq_of_lt h, Nat.mod_eq_of_lt h]; rfl
theorem bits_andNot_mask {E f : Nat} (h2 : E < 2048) (hf : f < 2 ^ 52) : bits .andNot .u64 ((E * 2 ^ 52 + f : Nat) : Int) 9218868437227405312 = (f : Int) := by
  have hx : E * 2 ^ 52 + f < 2 ^ 63 := by omega
  have e : (BitVec.ofInt 64 ((E * 2 ^ 52 + f : Nat) : Int) &&& ~~~ BitVec.ofInt 64 9218868437227405312).toNat = f := by
    have h1 : (~~~ BitVec.ofInt 64 9218868437227405312).toNat = 2 ^ 63 ||| (2 ^ 52 - 1) := by decide
    have h2 : (E * 2 ^ 52 + f) &&& 2 ^ 63 = 0 := by
      apply Nat.eq_of_testBit_eq
      intro i
      rw [Nat.testBit_and, Nat.testBit_two_pow]
      by_cases h : 63 = i
      · subst h; simp [Nat.testBit_lt_two_pow hx]
      · simp [h]
    rw [BitVec.toNat_and, h1, BitVec.ofInt_natCast, BitVec.toNat_ofNat, Nat.mod_eq_of_lt (by omega), Nat.and_or_distrib_left, h2, Nat.and_two_pow_sub_one_eq_mod, Nat.zero_or]
    omega
  show IntKind.u64.wrap (((BitVec.ofInt 64 ((E * 2 ^ 52 + f : Nat) : Int) &&& ~~~ BitVec.ofInt 64 9218868437227405312).toNat : Nat) : Int) = _
  rw [e, IntKind.wrap_u64]
  omega
theorem bits_or_exp {E f : Nat} (h2 : E < 2048) (hf : f < 2 ^ 52) : bits .or .u64 (f : Int) ((E * 2 ^ 52 : Nat) : Int) = ((E * 2 ^ 52 + f : Nat) : Int) := by
  have e : (BitVec.ofInt 64 (f : Int) ||| BitVec.ofInt 64 ((E * 2 ^ 52 : Nat) : Int)).toNat = E * 2 ^ 52 + f := by
    rw [BitVec.toNat_or, BitVec.ofInt_natCast, BitVec.toNat_ofNat, BitVec.ofInt_natCast, BitVec.toNat_ofNat, Nat.mod_eq_of_lt (by omega), Nat.mod_eq_of_lt (by omega), Nat.or_comm, ← Nat.shiftLeft_eq, ← Nat.shiftLeft_add_eq_or_of_lt hf]
  show IntKind.u64.wrap (((BitVec.ofInt 64 (f : Int) ||| BitVec.ofInt 64 ((E * 2 ^ 52 : Nat) : Int)).toNat : Nat) : Int) = _
  rw [e, IntKind.wrap_u64]
  omega
theorem bits_and_exp {E : Nat} (h2 : E < 2048) : bits .and .i64 (E : Int) 2047 = (E : Int) := by
  have e : (BitVec.ofInt 64 (E : Int) &&& BitVec.ofInt 64 2047).toNat = E := by
    have h1 : (BitVec.ofInt 64 2047).toNat = 2 ^ 11 - 1 := by decide
    rw [BitVec.toNat_and, h1, BitVec.ofInt_natCast, BitVec.toNat_ofNat, Nat.mod_eq_of_lt (by omega), Nat.and_two_pow_sub_one_eq_mod]
    omega
  show IntKind.i64.wrap (((BitVec.ofInt 64 (E : Int) &&& BitVec.ofInt 64 2047).toNat : Nat) : Int) = _
  rw [e, IntKind.wrap_i64]
  omega
theorem one_mul64 {Y : Nat} (hY : isNum .f64 Y = true) (h0 : 0 < val .f64 Y) (hl : Y < 2 ^ FloatKind.f64.format.width) (h1 : val .f64 Y < (2 : Rat) ^ (1023 : Int)) : fop .mul .f64 4607182418800017408 Y = Y := by
  have o1 : isNum .f64 4607182418800017408 = true := by decide +kernel
  have o2 : val .f64 4607182418800017408 = 1 := by decide +kernel
  have hp := zp_pos 1023
  have r := fop_mul_num o1 hY 1023 (by decide) (by decide) (by rw [o2, Rat.one_mul]; grind) (by rw [o2, Rat.one_mul]; exact h1)
  rw [o2, Rat.one_mul] at r
  obtain ⟨m, e, -, v1, b1, b2⟩ := decode_num hY
  have hv := r.exact (sgn FloatKind.f64.format Y) m e b1 b2 (by rw [v1]; rfl)
  exact bits_of_val (fop_lt _ _ _ _) hl hv (by rw [hv]; grind)
set_option maxRecDepth 100000 in
set_option maxHeartbeats 1600000 in
theorem ldexp_plain (E f : Nat) (n : Int) (w : World) (h1 : 1 ≤ E) (h2 : E ≤ 2046) (hf : f < 4503599627370496) (h3 : 1 ≤ (E : Int) + n) (h4 : (E : Int) + n ≤ 2045) :
    Calls Try.prog 22 #[.float .f64 (E * 4503599627370496 + f), .int .i64 n] w fun e w' => e = .returned (.float .f64 (((E : Int) + n).toNat * 4503599627370496 + f)) ∧ ∃ m, w' = w.drewN m := by
  obtain ⟨a1, a2, a3, a4, a5⟩ := plain64 h1 h2 hf
  obtain ⟨X, hX⟩ : ∃ X, X = E * 4503599627370496 + f := ⟨_, rfl⟩
  obtain ⟨E', hE'⟩ : ∃ E' : Nat, (E : Int) + n = E' := ⟨((E : Int) + n).toNat, by omega⟩
  have ew : ((E : Int) + n).toNat = E' := by omega
  rw [ew]
  obtain ⟨c1, c2, c3, c4, c5⟩ := plain64 (E := E') (f := f) (by omega) (by omega) hf
  have z1 : isNum .f64 0 = true := by decide +kernel
  have e2 : (2 : Nat) ^ 52 = 4503599627370496 := by decide
  rw [e2] at a1 a2 a3 a4 c1 c2 c3 c4
  rw [← hX] at a1 a2 a3 a4 ⊢
  have ax : absF X = X := by rw [absF_eq (Nat.lt_of_lt_of_le a1 (by decide))]; exact Nat.mod_eq_of_lt a1
  have o1 : (FloatKind.f64.format.order X 0 == some .eq) = false := by
    rw [ord_eq (isNum_not_nan a2) (isNum_not_nan z1), decide_eq_false_iff_not, key_pos a1, key_pos (by decide)]; omega
  have o2 : (FloatKind.f64.format.order (absF X) 9218868437227405311 == some .gt) = false := by
    rw [ax, ord_gt (isNum_not_nan a2) (by decide +kernel), decide_eq_false_iff_not, key_pos a1, key_pos (by decide)]; omega
  have o3 : (FloatKind.f64.format.order X X != some .eq) = false := by rw [ord_self_ne]; exact isNum_not_nan a2
  have o4 : (FloatKind.f64.format.order (absF X) 4503599627370496 == some .lt) = false := by
    rw [ax, ord_lt (isNum_not_nan a2) (by decide +kernel), decide_eq_false_iff_not, key_pos a1, key_pos (by decide)]; omega
  have b1 : (X : Int) / 4503599627370496 = E := by omega
  have b2 := bits_and_exp (E := E) (by omega)
  have b3 := bits_andNot_mask (E := E) (f := f) (by omega) hf
  have b4 := bits_or_exp (E := E') (f := f) (by omega) hf
  have b5 : (n + ((E : Int) - 1023) + 1023) * 4503599627370496 = (E' : Int) * 4503599627370496 := by omega
  have b6 : ((E' * 2 ^ 52 : Nat) : Int) = (E' : Int) * 4503599627370496 := by omega
  rw [b6] at b4
  clear b6
  have fm : fop .mul .f64 (cn .f64 4607182418800017408) (cn .f64 (E' * 4503599627370496 + f)) = E' * 4503599627370496 + f := by
    rw [cn_of_not (isNum_not_nan c2), cn_of_not (by decide +kernel)]
    refine one_mul64 c2 ?_ (Nat.lt_of_lt_of_le c1 (by decide)) ?_
    · rw [← e2, c5]
      have := zp_pos ((E' : Int) - 1075)
      have h0 : (0 : Rat) < ((2 ^ 52 + f : Nat) : Rat) := by have := Rat.natCast_lt_natCast.2 (show 0 < 2 ^ 52 + f by omega); simpa using this
      exact Rat.mul_pos h0 this
    · rw [← e2, c5]
      have h1 : ((2 ^ 52 + f : Nat) : Rat) < ((2 ^ 53 : Nat) : Rat) := Rat.natCast_lt_natCast.2 (by omega)
      have h2 := Rat.mul_lt_mul_of_pos_right h1 (zp_pos ((E' : Int) - 1075))
      rw [← zp_nat, ← zp_add] at h2
      have h3 : (2 : Rat) ^ (((53 : Nat) : Int) + ((E' : Int) - 1075)) ≤ (2 : Rat) ^ (1023 : Int) := zp_le (by omega)
      exact rlt_le h2 h3
  rw [e2, ← hX] at b3
  rw [e2] at b4
  have nn := isNum_not_nan c2
  have HX := Lib.hid hX; clear hX a5 c5 ax
  go_enter Try.func22, Try.ntmps22
  go_wp2_with (first | ((with_reducible apply wpList_flit); rfl; rfl; rfl; assumption; (first | assumption | (decide +kernel)); intro _) | (go_at_call 41; refine (IsInf_any _ _).mono ?_; rintro e w' ⟨rfl, rfl⟩) | (go_at_call 42; refine (IsNaN_any _ _).mono ?_; rintro e w' ⟨rfl, rfl⟩) | (go_at_call 43; refine (normalize_big _ _ o4).mono ?_; rintro e w' ⟨rfl, rfl⟩))
  go_ret
  exact ⟨rfl, _, rfl⟩
set_option maxHeartbeats 800000 in
theorem Ldexp_of (X Y : Nat) (n : Int) (w : World) (H : ∀ w, Calls Try.prog 22 #[.float .f64 X, .int .i64 n] w fun e w' => e = .returned (.float .f64 Y) ∧ ∃ m, w' = w.drewN m) :
    Calls Try.prog 9 #[.float .f64 X, .int .i64 n] w fun e w' => e = .returned (.float .f64 Y) ∧ ∃ m, w' = w.drewN m := by
  have H' := Lib.hid H; clear H
  go_enter Try.func9, Try.ntmps9
  go_wp2_with (first | (go_at_call 22; refine (H'.out _).mono ?_; rintro e w' ⟨rfl, m, rfl⟩))
  go_ret
  exact ⟨rfl, _, rfl⟩
theorem Ldexp_plain (E f : Nat) (n : Int) (w : World) (h1 : 1 ≤ E) (h2 : E ≤ 2046) (hf : f < 4503599627370496) (h3 : 1 ≤ (E : Int) + n) (h4 : (E : Int) + n ≤ 2045) :
    Calls Try.prog 9 #[.float .f64 (E * 4503599627370496 + f), .int .i64 n] w fun e w' => e = .returned (.float .f64 (((E : Int) + n).toNat * 4503599627370496 + f)) ∧ ∃ m, w' = w.drewN m :=
  Ldexp_of _ _ n w (fun w => ldexp_plain E f n w h1 h2 hf h3 h4)
/-- In numbers: of a positive plain double. -/
theorem Ldexp_val {b : Nat} (n : Int) (w : World) (hb : isNum .f64 b = true) (hs : sgn FloatKind.f64.format b = false) (hl : b < 2 ^ FloatKind.f64.format.width) (hE : 1 ≤ b / 4503599627370496) (h3 : 1 ≤ ((b / 4503599627370496 : Nat) : Int) + n) (h4 : ((b / 4503599627370496 : Nat) : Int) + n ≤ 2045) :
    Calls Try.prog 9 #[.float .f64 b, .int .i64 n] w fun e w' => ∃ r, e = .returned (.float .f64 r) ∧ (isNum .f64 r = true ∧ sgn FloatKind.f64.format r = false ∧ val .f64 r = val .f64 b * (2 : Rat) ^ n) ∧ ∃ m, w' = w.drewN m := by
  have hb2 : b < 2 ^ 63 := by
    unfold sgn at hs; rw [sw64] at hs
    have hl : b < 2 ^ 64 := hl
    simp only [beq_eq_false_iff_ne] at hs
    omega
  have hE2 : b / 4503599627370496 ≤ 2046 := by
    unfold isNum rung at hb
    rw [sw64, f64_ir, Nat.mod_eq_of_lt hb2] at hb
    simp only [decide_eq_true_eq] at hb
    omega
  have hf : b % 4503599627370496 < 4503599627370496 := Nat.mod_lt _ (by decide)
  have e : b = b / 4503599627370496 * 4503599627370496 + b % 4503599627370496 := by omega
  have e2 : (2 : Nat) ^ 52 = 4503599627370496 := by decide
  obtain ⟨-, -, -, -, a5⟩ := plain64 (E := b / 4503599627370496) (f := b % 4503599627370496) hE hE2 hf
  obtain ⟨-, c2, c3, -, c5⟩ := plain64 (E := (((b / 4503599627370496 : Nat) : Int) + n).toNat) (f := b % 4503599627370496) (by omega) (by omega) hf
  rw [e2] at a5 c2 c3 c5
  have h := Ldexp_plain (b / 4503599627370496) (b % 4503599627370496) n w hE hE2 hf h3 h4
  rw [← e] at h a5
  refine h.mono ?_
  rintro e w' ⟨rfl, m, rfl⟩
  refine ⟨_, rfl, ⟨c2, c3, ?_⟩, m, rfl⟩
  rw [c5, a5, Rat.mul_assoc, ← zp_add]
  congr 2; omega
end Go.Proofs.Ytokmjboaeamogaa
