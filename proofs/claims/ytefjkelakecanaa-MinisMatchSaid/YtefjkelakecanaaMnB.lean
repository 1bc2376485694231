/- Small floats: whether there is such a format; the number of a small float. Conditions: those named. -/
import Derived.Test.YtefjkelakecanaaMnA
import Derived.Deep.DeepCutAuto
import Derived.BigQuiet
namespace Go.Proofs.Ytefjkelakecanaa
open Go.RowKit
def faultB (X F : Int) : Bool := decide (X < 2) || (decide (8 < X) || (decide (F < 1) || decide (23 < F)))
set_option maxHeartbeats 1600000 in
theorem miniFault_any (X F : Int) (w : World) : Calls Try.prog 38 #[.int .i64 X, .int .i64 F] w fun e w' => e = .returned (.bool (faultB X F)) ∧ w = w' := by
  by_cases h1 : X < 2
  · go_enter Try.func38, Try.ntmps38
    go_wp2
    go_ret
    exact ⟨ret_b (by simp [faultB, h1]), rfl⟩
  · by_cases h2 : 8 < X
    · go_enter Try.func38, Try.ntmps38
      go_wp2
      go_ret
      exact ⟨ret_b (by simp [faultB, h2]), rfl⟩
    · by_cases h3 : F < 1
      · go_enter Try.func38, Try.ntmps38
        go_wp2
        go_ret
        exact ⟨ret_b (by simp [faultB, h3]), rfl⟩
      · by_cases h4 : 23 < F
        · go_enter Try.func38, Try.ntmps38
          go_wp2
          go_ret
          exact ⟨ret_b (by simp [faultB, h4]), rfl⟩
        · go_enter Try.func38, Try.ntmps38
          go_wp2
          go_ret
          exact ⟨ret_b (by simp [faultB, h1, h2, h3, h4]), rfl⟩
theorem sp_exit {next : Act → World → Prop} {Q : Exit → Act → World → Prop} {e : Exit} {a : Act} {w : World} (h : ∀ W, W = w → Exit.then next Q e a W) : Exit.then next Q e a w := h w rfl
theorem two_pow_le {a b : Nat} (h : a ≤ b) : (2 : Int) ^ a ≤ 2 ^ b := by
  have := Nat.pow_le_pow_right (n := 2) (by decide) h
  exact_mod_cast this
theorem and_mask (k F : Nat) (hk : k < 2 ^ 32) (hF : F ≤ 31) : bits .and .i64 (k : Int) (2 ^ F - 1) = ((k % 2 ^ F : Nat) : Int) := by
  have h1 : (2 : Nat) ^ F ≤ 2 ^ 31 := Nat.pow_le_pow_right (by decide) hF
  have h2 : 1 ≤ (2 : Nat) ^ F := Nat.pow_pos (by decide)
  have e : (2 : Int) ^ F - 1 = ((2 ^ F - 1 : Nat) : Int) := by rw [Int.ofNat_sub h2]; push_cast; rfl
  rw [e, and_nat .i64 (.inl rfl) k (2 ^ F - 1) hk (by omega), Nat.and_two_pow_sub_one_eq_mod]
def svI (F k : Nat) : Nat := if k / 2 ^ F = 0 then k % 2 ^ F else 2 ^ F + k % 2 ^ F
def svP (X F k : Nat) : Int := if k / 2 ^ F = 0 then 1 - (2 ^ (X - 1) - 1) - F else (k / 2 ^ F : Nat) - (2 ^ (X - 1) - 1) - F
/-- The number of a small float. -/
def svQ (X F k : Nat) : Rat := (svI F k : Rat) * (2 : Rat) ^ svP X F k
theorem int_place {n : Nat} (h1 : 1 ≤ n) (h2 : n < 2 ^ 25) : isNum .f64 (floatOfInt .f64 n) = true ∧ sgn FloatKind.f64.format (floatOfInt .f64 n) = false ∧ floatOfInt .f64 n < 2 ^ FloatKind.f64.format.width ∧ val .f64 (floatOfInt .f64 n) = n ∧ 1023 ≤ floatOfInt .f64 n / 4503599627370496 ∧ floatOfInt .f64 n / 4503599627370496 ≤ 1048 := by
  obtain ⟨a, b⟩ := ofInt_exact64 n (by omega)
  have hv : val .f64 (floatOfInt .f64 n) = (n : Rat) := by rw [b]; rfl
  have k1 : key FloatKind.f64.format 4607182418800017408 ≤ key FloatKind.f64.format (floatOfInt .f64 n) := val_le_key.1 (by
    rw [hv, show val .f64 4607182418800017408 = 1 by decide +kernel]; exact_mod_cast h1)
  have k2 : key FloatKind.f64.format (floatOfInt .f64 n) < key FloatKind.f64.format 4719772409484279808 := val_lt_key.1 (by
    rw [hv, show val .f64 4719772409484279808 = ((2 ^ 25 : Nat) : Rat) by decide +kernel]; exact_mod_cast h2)
  rw [show key FloatKind.f64.format 4607182418800017408 = 4607182418800017408 by decide +kernel] at k1
  rw [show key FloatKind.f64.format 4719772409484279808 = 4719772409484279808 by decide +kernel] at k2
  have hw : floatOfInt .f64 n < 2 ^ FloatKind.f64.format.width := by unfold floatOfInt FloatKind.nearest; exact encode_lt _ _
  generalize floatOfInt .f64 n = x at *
  have hw2 : x < 2 ^ 64 := hw
  have hs : sgn FloatKind.f64.format x = false := by
    rcases h : sgn FloatKind.f64.format x with _ | _
    · rfl
    · unfold key at k1; rw [h] at k1; simp only [if_true] at k1; omega
  have hb2 : x < 2 ^ 63 := by
    unfold sgn at hs; rw [sw64] at hs
    simp only [beq_eq_false_iff_ne] at hs
    omega
  rw [key_pos hb2] at k1 k2
  refine ⟨a, hs, hw, hv, ?_, ?_⟩ <;> omega
theorem Ldexp_lt {b : Nat} (n : Int) (w : World) (hb : isNum .f64 b = true) (hs : sgn FloatKind.f64.format b = false) (hl : b < 2 ^ FloatKind.f64.format.width) (hE : 1 ≤ b / 4503599627370496) (h3 : 1 ≤ ((b / 4503599627370496 : Nat) : Int) + n) (h4 : ((b / 4503599627370496 : Nat) : Int) + n ≤ 2045) :
    Calls Try.prog 9 #[.float .f64 b, .int .i64 n] w fun e w' => ∃ r, e = .returned (.float .f64 r) ∧ (isNum .f64 r = true ∧ sgn FloatKind.f64.format r = false ∧ r < 2 ^ 63 ∧ val .f64 r = val .f64 b * (2 : Rat) ^ n) ∧ ∃ m, w' = w.drewN m := by
  have hb2 : b < 2 ^ 63 := by
    unfold sgn at hs; rw [sw64] at hs
    have hl : b < 2 ^ 64 := hl
    simp only [beq_eq_false_iff_ne] at hs
    omega
  have hE2 : b / 4503599627370496 ≤ 2046 := by
    unfold isNum rung at hb
    rw [sw64, f64_ir, Nat.mod_eq_of_lt hb2] at hb
    simp only [decide_eq_true_eq] at hb
    omega
  have hf : b % 4503599627370496 < 4503599627370496 := Nat.mod_lt _ (by decide)
  have e : b = b / 4503599627370496 * 4503599627370496 + b % 4503599627370496 := by omega
  have e2 : (2 : Nat) ^ 52 = 4503599627370496 := by decide
  obtain ⟨-, -, -, -, a5⟩ := plain64 (E := b / 4503599627370496) (f := b % 4503599627370496) hE hE2 hf
  obtain ⟨c1, c2, c3, -, c5⟩ := plain64 (E := (((b / 4503599627370496 : Nat) : Int) + n).toNat) (f := b % 4503599627370496) (by omega) (by omega) hf
  rw [e2] at a5 c1 c2 c3 c5
  have h := Ldexp_plain (b / 4503599627370496) (b % 4503599627370496) n w hE hE2 hf h3 h4
  rw [← e] at h a5
  refine h.mono ?_
  rintro e w' ⟨rfl, m, rfl⟩
  refine ⟨_, rfl, ⟨c2, c3, c1, ?_⟩, m, rfl⟩
  rw [c5, a5, Rat.mul_assoc, ← zp_add]
  congr 2; omega
set_option maxHeartbeats 1600000 in
theorem ldexp_zero (n : Int) (w : World) : Calls Try.prog 27 #[.float .f64 0, .int .i64 n] w fun e w' => e = .returned (.float .f64 0) ∧ ∃ m, w' = w.drewN m := by
  go_enter Try.func27, Try.ntmps27
  go_wp2
  go_ret
  exact ⟨rfl, 0, rfl⟩
theorem Ldexp_zero (n : Int) (w : World) : Calls Try.prog 9 #[.float .f64 0, .int .i64 n] w fun e w' => e = .returned (.float .f64 0) ∧ ∃ m, w' = w.drewN m := Ldexp_of _ _ n w (fun w => ldexp_zero n w)
theorem Ldexp_int (n : Nat) (p : Int) (w : World) (hn : n < 2 ^ 25) (h1 : -200 ≤ p) (h2 : p ≤ 300) : Calls Try.prog 9 #[.float .f64 (floatOfInt .f64 n), .int .i64 p] w fun e w' => ∃ r, e = .returned (.float .f64 r) ∧ (isNum .f64 r = true ∧ sgn FloatKind.f64.format r = false ∧ val .f64 r = (n : Rat) * (2 : Rat) ^ p ∧ r < 2 ^ 63) ∧ ∃ m, w' = w.drewN m := by
  rcases Nat.eq_zero_or_pos n with rfl | h0
  · rw [show floatOfInt .f64 ((0 : Nat) : Int) = 0 by decide +kernel]
    refine (Ldexp_zero p w).mono ?_
    rintro e w' ⟨rfl, hm⟩
    exact ⟨0, rfl, ⟨by decide +kernel, by decide +kernel, by rw [show val .f64 0 = 0 by decide +kernel]; simp [Rat.zero_mul], by decide⟩, hm⟩
  · obtain ⟨a, b, c, d, e1, e2⟩ := int_place h0 hn
    refine (Ldexp_lt p w a b c (by omega) (by omega) (by omega)).mono ?_
    rintro e w' ⟨r, rfl, ⟨i1, i2, i4, i3⟩, hm⟩
    exact ⟨r, rfl, ⟨i1, i2, by rw [i3, d], i4⟩, hm⟩
set_option maxHeartbeats 3200000 in
theorem small_any (k X F : Nat) (w : World) (hX : 2 ≤ X ∧ X ≤ 8) (hF : 1 ≤ F ∧ F ≤ 23) (hk : k ≤ (2 ^ X - 1) * 2 ^ F) : Calls Try.prog 43 #[.int .i64 k, .int .i64 X, .int .i64 F] w fun e w' => ∃ r, e = .returned (.float .f64 r) ∧ (isNum .f64 r = true ∧ sgn FloatKind.f64.format r = false ∧ val .f64 r = svQ X F k ∧ r < 2 ^ 63) ∧ ∃ m, w' = w.drewN m := by
  have x1 : (2 : Nat) ^ X ≤ 256 := Nat.pow_le_pow_right (n := 2) (by decide) (show X ≤ 8 by omega)
  have f1 : (2 : Nat) ^ F ≤ 8388608 := Nat.pow_le_pow_right (n := 2) (by decide) (show F ≤ 23 by omega)
  have f0 : 0 < (2 : Nat) ^ F := Nat.pow_pos (by decide)
  have he : k / 2 ^ F ≤ 255 := by
    have : k / 2 ^ F ≤ 2 ^ X - 1 := Nat.div_le_of_le_mul (by rw [Nat.mul_comm]; exact hk)
    omega
  have hk32 : k < 2 ^ 32 := by
    have : (2 ^ X - 1) * 2 ^ F ≤ 255 * 8388608 := Nat.mul_le_mul (by omega) f1
    omega
  have hm := Nat.mod_lt k f0
  have hd : (k : Int) / 2 ^ F = ((k / 2 ^ F : Nat) : Int) := by push_cast; rfl
  have ha := and_mask k F hk32 (by omega)
  have p1 : (2 : Int) ≤ 2 ^ (X - 1) := two_pow_le (a := 1) (by omega)
  have p2 : (2 : Int) ^ (X - 1) ≤ 128 := two_pow_le (b := 7) (by omega)
  have q1 : (2 : Int) ≤ 2 ^ F := two_pow_le (a := 1) (by omega)
  have q2 : (2 : Int) ^ F ≤ 8388608 := two_pow_le (b := 23) (by omega)
  have hp : wrap64 ((2 : Int) ^ (X - 1)) = 2 ^ (X - 1) := by unfold wrap64; omega
  have hq : wrap64 ((2 : Int) ^ F) = 2 ^ F := by unfold wrap64; omega
  have hF0 : (0 : Int) ≤ F := by omega
  have hF1 : ¬ ((F : Int) < 0) := by omega
  have HQ := Lib.hid (And.intro (show svQ X F k = (svI F k : Rat) * (2 : Rat) ^ svP X F k from rfl) (And.intro (show svI F k = if k / 2 ^ F = 0 then k % 2 ^ F else 2 ^ F + k % 2 ^ F from rfl) (show svP X F k = (if k / 2 ^ F = 0 then (1 : Int) - ((2 : Int) ^ (X - 1) - 1) - (F : Int) else ((k / 2 ^ F : Nat) : Int) - ((2 : Int) ^ (X - 1) - 1) - (F : Int)) from rfl)))
  have hc : (((2 : Nat) ^ F : Nat) : Int) = (2 : Int) ^ F := by push_cast; rfl
  generalize (2 : Nat) ^ F = N at *
  generalize k / N = e at *
  generalize k % N = m at *
  go_enter Try.func43, Try.ntmps43
  go_upto_region 2 with fail
  go_quiet (fail)
  refine sp_exit (fun W1 hW1 => ?_)
  have HW := Lib.hid hW1
  clear hW1
  by_cases h0 : e = 0
  · subst h0
    go_wp2_with fail
    refine (Ldexp_int m _ _ (by omega) (by omega) (by omega)).mono ?_
    rintro e' w2 ⟨r, rfl, hr, mm, rfl⟩
    have HR := Lib.hid hr
    clear hr
    go_wp2_with fail
    go_ret
    refine ⟨r, rfl, ⟨HR.out.1, HR.out.2.1, ?_, HR.out.2.2.2⟩, by rw [HW.out]; exact ⟨_, World.drewN_drewN _ _ _⟩⟩
    rw [HR.out.2.2.1, HQ.out.1, HQ.out.2.1, HQ.out.2.2]; simp
  · have h0' : ¬ ((e : Int) = 0) := by omega
    go_wp2_with fail
    rw [show (2 : Int) ^ F + (m : Int) = ((N + m : Nat) : Int) by rw [← hc]; push_cast; rfl]
    refine (Ldexp_int (N + m) _ _ (by omega) (by omega) (by omega)).mono ?_
    rintro e' w2 ⟨r, rfl, hr, mm, rfl⟩
    have HR := Lib.hid hr
    clear hr
    go_wp2_with fail
    go_ret
    refine ⟨r, rfl, ⟨HR.out.1, HR.out.2.1, ?_, HR.out.2.2.2⟩, by rw [HW.out]; exact ⟨_, World.drewN_drewN _ _ _⟩⟩
    rw [HR.out.2.2.1, HQ.out.1, HQ.out.2.1, HQ.out.2.2, if_neg h0, if_neg h0]
end Go.Proofs.Ytefjkelakecanaa
