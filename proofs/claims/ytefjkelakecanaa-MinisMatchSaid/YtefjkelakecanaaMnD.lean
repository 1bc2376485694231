/- Small floats: the single of a code. num.FromMini and dyeref2.WholeOf. Conditions: those named. -/
import Derived.Test.YtefjkelakecanaaMnY
import Derived.Test.YtefjkelakecanaaNv
import Derived.Test.YtefjkelakecanaaDn
namespace Go.Proofs.Ytefjkelakecanaa
open Go.RowKit
set_option maxHeartbeats 800000 in
theorem Inf_any (w : World) : Calls Try.prog 41 #[.int .i64 1] w fun e w' => e = .returned (.float .f64 9218868437227405312) ∧ w = w' := by
  go_enter Try.func41, Try.ntmps41
  go_wp2_with fail
  go_ret
  exact ⟨rfl, rfl⟩
@[go_sem] theorem run_neg_f {P : Program} (k : FloatKind) (b : Nat) (w : World) : (Op.unary .neg (.float k b)).run P w = .ok (.float k (Op.negFloat k b)) w := rfl
theorem neg_low {x : Nat} (h : x < 2 ^ 63) : Op.negFloat .f64 x = 2 ^ 63 + x := by
  show x ^^^ 2 ^ 63 = _
  have h63 : 2 ^ 63 + x = 2 ^ 63 ||| x := by
    have h := Nat.two_pow_add_eq_or_of_lt h 1
    rw [Nat.mul_one] at h; exact h
  rw [h63]
  refine Nat.eq_of_testBit_eq fun i => ?_
  rw [Nat.testBit_xor, Nat.testBit_or, Nat.testBit_two_pow]
  by_cases hi : 63 = i
  · subst hi; rw [Nat.testBit_lt_two_pow h]; simp
  · simp [hi]
theorem neg_facts {x : Nat} (h : x < 2 ^ 63) (hn : isNum .f64 x = true) : isNum .f64 (2 ^ 63 + x) = true ∧ sgn FloatKind.f64.format (2 ^ 63 + x) = true ∧ rung FloatKind.f64.format (2 ^ 63 + x) = x := by
  have e : rung FloatKind.f64.format (2 ^ 63 + x) = x := by
    unfold rung; rw [sw64]; omega
  have e2 : rung FloatKind.f64.format x = x := by unfold rung; rw [sw64]; exact Nat.mod_eq_of_lt h
  refine ⟨?_, ?_, e⟩
  · unfold isNum at hn ⊢; rw [e]; rw [e2] at hn; exact hn
  · unfold sgn; rw [sw64]
    have : (2 ^ 63 + x) / 2 ^ 63 = 1 := by omega
    rw [this]; rfl
/-- The single of a code below infinity's. -/
def wholeR (X F k : Nat) (s : Bool) (r : Nat) : Prop := r < 2 ^ 32 ∧ isNum .f32 r = true ∧ sgn FloatKind.f32.format r = s ∧ vq FloatKind.f32.format (rung FloatKind.f32.format r) = svQ X F k
theorem wholeR_one {X F k : Nat} {s : Bool} {r t : Nat} (hr : wholeR X F k s r) (ht : wholeR X F k s t) : r = t := by
  obtain ⟨a1, -, a3, a4⟩ := hr
  obtain ⟨b1, -, b3, b4⟩ := ht
  have h1 : rung FloatKind.f32.format r = rung FloatKind.f32.format t := vq_inj _ (by rw [a4, b4])
  rw [← b3] at a3
  unfold sgn at a3; unfold rung at h1
  rw [f32_sw] at a3 h1
  have e1 : r / 2147483648 % 2 = 1 ↔ t / 2147483648 % 2 = 1 := by
    constructor
    · intro h
      rw [h] at a3
      simpa using a3.symm
    · intro h
      rw [h] at a3
      simpa using a3
  omega
theorem svQ_fits {X F k : Nat} (hX : 2 ≤ X ∧ X ≤ 8) (hF : 1 ≤ F ∧ F ≤ 23) (hk : k < allK X F) : svI F k < 2 ^ 24 ∧ -149 ≤ svP X F k ∧ svQ X F k < (2 : Rat) ^ (128 : Int) := by
  obtain ⟨⟨p1, p2⟩, -⟩ := mini_pows hX hF
  have f0 : 0 < 2 ^ F := Nat.pow_pos (by decide)
  have f1 : (2 : Nat) ^ F ≤ 8388608 := Nat.pow_le_pow_right (n := 2) (by decide) (show F ≤ 23 by omega)
  have hm := Nat.mod_lt k f0
  have he : k / 2 ^ F < 2 ^ X - 1 := (Nat.div_lt_iff_lt_mul f0).2 hk
  have x0 : (2 : Nat) ^ X = 2 * 2 ^ (X - 1) := by rw [Nat.mul_comm, ← Nat.pow_succ]; congr 1; omega
  have x1 : (((2 ^ (X - 1) : Nat)) : Int) = (2 : Int) ^ (X - 1) := by push_cast; rfl
  have a1 : svI F k < 2 ^ (F + 1) := by rw [Nat.pow_succ]; unfold svI; split <;> omega
  have a2 : (2 : Nat) ^ (F + 1) ≤ 2 ^ 24 := Nat.pow_le_pow_right (by decide) (by omega)
  have a34 : -149 ≤ svP X F k ∧ svP X F k ≤ 2 ^ (X - 1) - 1 - F := by
    unfold svP
    clear hm a1 hk
    generalize k / 2 ^ F = e at *
    split <;> omega
  obtain ⟨a3, a4⟩ := a34
  refine ⟨by omega, a3, ?_⟩
  unfold svQ
  have h1 : (svI F k : Rat) < ((2 ^ (F + 1) : Nat) : Rat) := Rat.natCast_lt_natCast.2 a1
  have h2 := Rat.mul_lt_mul_of_pos_right h1 (zp_pos (svP X F k))
  rw [← zp_nat, ← zp_add] at h2
  exact rlt_le h2 (zp_le (by omega))
/-- A double that is a code's number makes the single of it. -/
theorem down_code {X F k y : Nat} {s : Bool} (hX : 2 ≤ X ∧ X ≤ 8) (hF : 1 ≤ F ∧ F ≤ 23) (hk : k < allK X F) (hy : isNum .f64 y = true) (hs : sgn FloatKind.f64.format y = s) (hv : vq FloatKind.f64.format (rung FloatKind.f64.format y) = svQ X F k) :
    (isNum .f64 y = true → ovf .f64 .f32 y = false) ∧ ∀ r, FR .f32 r (fcv .f64 .f32 y) → wholeR X F k s r := by
  obtain ⟨a1, a2, a3⟩ := svQ_fits hX hF hk
  obtain ⟨m, e, hd, hm, -, -⟩ := decode_num hy
  rw [hs] at hd
  rw [hv] at hm
  obtain ⟨b1, b2, b3⟩ := nearest_val .f32 s m e (svI F k) (svP X F k) (by rw [hm]; rfl) a1 (by show (-149 : Int) ≤ _; exact a2) (by rw [vq_inf32]; exact a3)
  have hf : fcv .f64 .f32 y = FloatKind.f32.encode (.number s m e) := fcv_dec (isNum_not_nan hy) hd
  refine ⟨fun _ => ?_, fun r hr => ?_⟩
  · unfold ovf
    rw [hd]
    obtain ⟨m', e', h', -, -, -⟩ := decode_num b1
    rw [h']; rfl
  · rw [hf] at hr
    have hr1 := hr.exact (isNum_not_nan b1)
    exact ⟨hr.lt, by rw [hr1]; exact b1, by rw [hr1]; exact b2, by rw [hr1]; exact b3⟩
/-- The single of any code. -/
def codeW (X F n r : Nat) : Prop := (allK X F < n % 2 ^ (X + F) → r = 2143289344) ∧ (n % 2 ^ (X + F) = allK X F → r = if n / 2 ^ (X + F) = 1 then 4286578688 else 2139095040) ∧ (n % 2 ^ (X + F) < allK X F → wholeR X F (n % 2 ^ (X + F)) (decide (n / 2 ^ (X + F) = 1)) r)
theorem codeW_one {X F n r t : Nat} (hr : codeW X F n r) (ht : codeW X F n t) : r = t := by
  obtain ⟨a1, a2, a3⟩ := hr
  obtain ⟨b1, b2, b3⟩ := ht
  rcases Nat.lt_trichotomy (n % 2 ^ (X + F)) (allK X F) with h | h | h
  · exact wholeR_one (a3 h) (b3 h)
  · rw [a2 h, b2 h]
  · rw [a1 h, b1 h]
theorem inf_down : fcv .f64 .f32 9218868437227405312 = 2139095040 ∧ fcv .f64 .f32 18442240474082181120 = 4286578688 ∧ Op.negFloat .f64 9218868437227405312 = 18442240474082181120 := by decide +kernel
theorem inf_ovf : (isNum .f64 9218868437227405312 = true → ovf .f64 .f32 9218868437227405312 = false) ∧ (isNum .f64 18442240474082181120 = true → ovf .f64 .f32 18442240474082181120 = false) := by decide +kernel
/-- The parts of a code's word. -/
theorem code_parts (X F n : Nat) : n % 2 ^ (X + F) / 2 ^ F = n / 2 ^ F % 2 ^ X ∧ n % 2 ^ (X + F) % 2 ^ F = n % 2 ^ F ∧ n % 2 ^ (X + F) = 2 ^ F * (n / 2 ^ F % 2 ^ X) + n % 2 ^ F := by
  have f0 : 0 < 2 ^ F := Nat.pow_pos (by decide)
  have h := Nat.mod_mul (x := n) (a := 2 ^ F) (b := 2 ^ X)
  have e : n % 2 ^ (X + F) = 2 ^ F * (n / 2 ^ F % 2 ^ X) + n % 2 ^ F := by rw [Nat.pow_add, Nat.mul_comm (2 ^ X), h, Nat.add_comm]
  have hm := Nat.mod_lt n f0
  refine ⟨?_, ?_, e⟩
  · rw [e, Nat.mul_add_div f0, Nat.div_eq_of_lt hm, Nat.add_zero]
  · rw [e, Nat.mul_add_mod, Nat.mod_eq_of_lt hm]
end Go.Proofs.Ytefjkelakecanaa
