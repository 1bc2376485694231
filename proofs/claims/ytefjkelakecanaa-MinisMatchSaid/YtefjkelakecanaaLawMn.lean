/- dyelaw2.MinisMatch: small floats. Conditions: those named. -/
import Derived.Test.YtefjkelakecanaaMnW
import Derived.Test.YtefjkelakecanaaMnX
import Derived.Test.YtefjkelakecanaaMnF
namespace Go.Proofs.Ytefjkelakecanaa
open Go.RowKit
/-- What is said of the small float of any single. -/
def miniC (X F v c : Nat) : Prop := (isN .f32 v = true → c = allK X F + 2 ^ (F - 1)) ∧ (isN .f32 v = false → ∃ k, c = sgK X F v + k ∧ miniK X F v k)
theorem miniC_one {X F v a b : Nat} (ha : miniC X F v a) (hb : miniC X F v b) : a = b := by
  cases h : isN .f32 v
  · obtain ⟨k, rfl, h1⟩ := ha.2 h
    obtain ⟨j, rfl, h2⟩ := hb.2 h
    rw [mini_one h1 h2]
  · rw [ha.1 h, hb.1 h]
theorem Mini_any (v X F : Nat) (w : World) (hX : 2 ≤ X ∧ X ≤ 8) (hF : 1 ≤ F ∧ F ≤ 23) (hl : v < 2 ^ FloatKind.f32.format.width) : Calls Try.prog 14 #[.float .f32 v, .int .i64 X, .int .i64 F] w fun e w' => ∃ c : Nat, e = .returned (.tuple #[.int .i64 c, .int .i64 0]) ∧ miniC X F v c ∧ ∃ m, w' = w.drewN m := by
  cases hv : isN .f32 v with
  | true =>
    refine (Mini_nan v X F w hX hF hv).mono ?_
    rintro e w' ⟨rfl, rfl⟩
    exact ⟨_, rfl, ⟨fun _ => rfl, fun h => by rw [hv] at h; cases h⟩, 0, rfl⟩
  | false =>
    cases hn : isNum .f32 v with
    | false =>
      refine (Mini_inf v X F w hX hF hl hv hn).mono ?_
      rintro e w' ⟨rfl, rfl⟩
      exact ⟨_, rfl, ⟨fun h => (by rw [hv] at h; cases h), fun _ => ⟨_, rfl, fun _ => rfl, fun h => by rw [hn] at h; cases h⟩⟩, 0, rfl⟩
    | true =>
      by_cases hz : magF v = 0
      · refine (Mini_zero v X F w hX hF hl hn hz).mono ?_
        rintro e w' ⟨rfl, rfl⟩
        refine ⟨_, rfl, ⟨fun h => (by rw [hv] at h; cases h), fun _ => ⟨0, rfl, fun h => (by rw [hn] at h; cases h), fun _ => ?_⟩⟩, 0, rfl⟩
        rw [show rung FloatKind.f32.format v = magF v from rfl, hz, vq_zero]
        exact code_zero X F
      · refine (Mini_num v X F w hX hF hl hn hz).mono ?_
        rintro e w' ⟨k, rfl, hk, m, rfl⟩
        exact ⟨_, rfl, ⟨fun h => (by rw [hv] at h; cases h), fun _ => ⟨k, rfl, fun h => (by rw [hn] at h; cases h), fun _ => hk⟩⟩, m, rfl⟩
theorem MiniOf_any (v X F : Nat) (w : World) (hX : 2 ≤ X ∧ X ≤ 8) (hF : 1 ≤ F ∧ F ≤ 23) (hl : v < 2 ^ FloatKind.f32.format.width) : Calls Try.prog 16 #[.float .f32 v, .int .i64 X, .int .i64 F] w fun e w' => ∃ c : Nat, e = .returned (.int .i64 c) ∧ miniC X F v c ∧ ∃ m, w' = w.drewN m := by
  cases hv : isN .f32 v with
  | true =>
    refine (MiniOf_nan v X F w hX hF hv).mono ?_
    rintro e w' ⟨rfl, rfl⟩
    exact ⟨_, rfl, ⟨fun _ => rfl, fun h => by rw [hv] at h; cases h⟩, 0, rfl⟩
  | false =>
    refine (MiniOf_not v X F w hX hF hl hv).mono ?_
    rintro e w' ⟨k, rfl, hk, m, rfl⟩
    exact ⟨_, rfl, ⟨fun h => (by rw [hv] at h; cases h), fun _ => ⟨k, rfl, hk⟩⟩, m, rfl⟩
theorem codeW_lt {X F n r : Nat} (hr : codeW X F n r) : r < 2 ^ 32 := by
  obtain ⟨a1, a2, a3⟩ := hr
  rcases Nat.lt_trichotomy (n % 2 ^ (X + F)) (allK X F) with h | h | h
  · exact (a3 h).1
  · rw [a2 h]; split <;> decide
  · rw [a1 h]; decide
/-- A code's single leads back to the code. -/
theorem back_code {X F n r c : Nat} (hn : n < 2 ^ (1 + X + F)) (hr : codeW X F n r) (hv : isN .f32 r = false) (hc : miniC X F r c) : c = n := by
  obtain ⟨k, rfl, hk⟩ := hc.2 hv
  obtain ⟨a1, a2, a3⟩ := hr
  have t0 : 0 < 2 ^ (X + F) := Nat.pow_pos (by decide)
  have hT : (2 : Nat) ^ (1 + X + F) = 2 * 2 ^ (X + F) := by rw [Nat.add_assoc, Nat.pow_add]
  have hd := Nat.div_add_mod n (2 ^ (X + F))
  have hq : n / 2 ^ (X + F) < 2 := (Nat.div_lt_iff_lt_mul t0).2 (by rw [← hT]; exact hn)
  generalize n / 2 ^ (X + F) = s at *
  generalize n % 2 ^ (X + F) = j at *
  have hs : (s = 1 → 2 ^ (X + F) * s = 2 ^ (X + F)) ∧ (s = 0 → 2 ^ (X + F) * s = 0) := ⟨fun h => by rw [h, Nat.mul_one], fun h => by rw [h, Nat.mul_zero]⟩
  generalize hTT : 2 ^ (X + F) = T at *
  rcases Nat.lt_trichotomy j (allK X F) with h | h | h
  · obtain ⟨b1, b2, b3, b4⟩ := a3 h
    have e1 := hk.2 b2
    rw [b4] at e1
    have e2 := code_one e1 (code_self X F j (Nat.le_of_lt h))
    have e3 : sgK X F r = T * s := by
      unfold sgK
      unfold sgn at b3
      rw [f32_sw] at b3
      rcases Nat.lt_or_ge r 2147483648 with h1 | h1
      · rw [Nat.div_eq_of_lt h1] at b3
        have : ¬ s = 1 := by intro h2; rw [h2] at b3; simp at b3
        rw [if_pos h1, hs.2 (by omega)]
      · have : r / 2147483648 = 1 := by omega
        rw [this] at b3
        have : s = 1 := by simpa using b3.symm
        rw [if_neg (by omega), hs.1 this, hTT]
    rw [e3, e2, hd]
  · have e1 := a2 h
    have e2 : isNum .f32 r = false := by rw [e1]; split <;> decide +kernel
    rw [hk.1 e2, ← h]
    by_cases h2 : s = 1
    · rw [if_pos h2] at e1
      unfold sgK
      rw [e1, if_neg (by decide), hTT, ← hs.1 h2, hd]
    · rw [if_neg h2] at e1
      unfold sgK
      rw [e1, if_pos (by decide), ← hs.2 (by omega), hd]
  · rw [a1 h] at hv
    exact absurd hv (by decide +kernel)
set_option maxRecDepth 100000 in
set_option maxHeartbeats 6400000 in
theorem mn_fault (v : Nat) (n X F : Int) (w : World) (h : faultB X F = true) :
    Calls Try.prog 4 #[.float .f32 v, .int .i64 n, .int .i64 X, .int .i64 F] w fun e w' => e = .returned (.bool true) ∧ Below w.heap.size w w' := by
  have H := Lib.hid h
  have hb : inB X 2 8 = true → inB F 1 23 = false := by
    intro h1
    unfold faultB at h; unfold inB at h1 ⊢
    simp only [Bool.and_eq_true, Bool.or_eq_true, decide_eq_true_eq, Bool.and_eq_false_iff, decide_eq_false_iff_not] at *
    omega
  clear h
  cases h1 : inB X 2 8 with
  | true =>
    have h2 := hb h1
    clear hb
    go_enter Try.func4, Try.ntmps4
    go_wp2_with (first | (go_at_call 14; refine (Mini_fault _ _ _ _ H.out).mono ?_; rintro e w' ⟨rfl, rfl⟩) | (go_at_call 15; refine (FromMini_fault _ _ _ _ H.out).mono ?_; rintro e w' ⟨rfl, rfl⟩) | (go_at_call 7; refine (In_any _ _ _ _).mono ?_; rintro e w' ⟨rfl, rfl⟩; first | rw [h1] | rw [h2]) | (go_at_call 6; refine (counts_any _).mono ?_; rintro e w' ⟨rfl, m, rfl⟩))
    go_ret
    refine ⟨ret_b (by simp), ?_⟩
    (repeat (first | exact Below.refl _ _ | assumption | (refine Below.setCell ?_ (by first | (simp; done) | (simp; omega) | omega) _) | (refine Below.drew ?_) | (refine below_drewN ?_ _) | (refine Below.alloc ?_ (by first | (simp; done) | (simp; omega) | omega) _) | (refine Below.trans ?_ (Below.mono (by assumption) (by first | (simp; done) | (simp; omega) | omega)))))
  | false =>
    clear hb
    go_enter Try.func4, Try.ntmps4
    go_wp2_with (first | (go_at_call 14; refine (Mini_fault _ _ _ _ H.out).mono ?_; rintro e w' ⟨rfl, rfl⟩) | (go_at_call 15; refine (FromMini_fault _ _ _ _ H.out).mono ?_; rintro e w' ⟨rfl, rfl⟩) | (go_at_call 7; refine (In_any _ _ _ _).mono ?_; rintro e w' ⟨rfl, rfl⟩; rw [h1]) | (go_at_call 6; refine (counts_any _).mono ?_; rintro e w' ⟨rfl, m, rfl⟩))
    go_ret
    refine ⟨ret_b (by simp), ?_⟩
    (repeat (first | exact Below.refl _ _ | assumption | (refine Below.setCell ?_ (by first | (simp; done) | (simp; omega) | omega) _) | (refine Below.drew ?_) | (refine below_drewN ?_ _) | (refine Below.alloc ?_ (by first | (simp; done) | (simp; omega) | omega) _) | (refine Below.trans ?_ (Below.mono (by assumption) (by first | (simp; done) | (simp; omega) | omega)))))
theorem inB_2 {X F : Nat} (hX : 2 ≤ X ∧ X ≤ 8) (hF : 1 ≤ F ∧ F ≤ 23) : inB X 2 8 = true ∧ inB F 1 23 = true := ⟨inB_t (by omega), inB_t (by omega)⟩
set_option maxRecDepth 100000 in
set_option maxHeartbeats 6400000 in
theorem mn_out (v : Nat) (n : Int) (X F : Nat) (w : World) (hv : v < 2 ^ FloatKind.f32.format.width) (hX : 2 ≤ X ∧ X ≤ 8) (hF : 1 ≤ F ∧ F ≤ 23) (hn : n < 0 ∨ (2 : Int) ^ (1 + X + F) ≤ n) :
    Calls Try.prog 4 #[.float .f32 v, .int .i64 n, .int .i64 X, .int .i64 F] w fun e w' => e = .returned (.bool true) ∧ Below w.heap.size w w' := by
  obtain ⟨i1, i2⟩ := inB_2 hX hF
  have hT : (2 : Int) ^ (1 + X + F) ≤ 4294967296 ∧ (2 : Int) ≤ 2 ^ (1 + X + F) := ⟨two_pow_le (b := 32) (by omega), two_pow_le (a := 1) (by omega)⟩
  obtain ⟨t1, t2⟩ := hT
  have i3 : inB n 0 ((2 : Int) ^ (1 + X + F) - 1) = false := inB_f (by omega)
  have HV := Lib.hid hv
  have HFM : Hid (∀ w, Calls Try.prog 15 #[.int .i64 n, .int .i64 X, .int .i64 F] w fun e w' => e = .returned (.tuple #[.float .f32 0, .int .i64 3]) ∧ w = w') := Lib.hid (fun w => by
    rcases hn with h | h
    · exact FromMini_low n X F w hX hF h
    · exact FromMini_high n X F w hX hF h)
  clear hn hv
  go_enter Try.func4, Try.ntmps4
  go_wp2_with (first | (go_at_call 14; refine (Mini_any v X F _ hX hF HV.out).mono ?_; rintro e w' ⟨c1, rfl, hc1, m1, rfl⟩; have HC1 := Lib.hid hc1; clear hc1) | (go_at_call 16; refine (MiniOf_any v X F _ hX hF HV.out).mono ?_; rintro e w' ⟨c2, rfl, hc2, m2, rfl⟩; obtain rfl := miniC_one HC1.out hc2; clear hc2) | (go_at_call 15; refine (HFM.out _).mono ?_; rintro e w' ⟨rfl, rfl⟩) | (go_at_call 7; refine (In_any _ _ _ _).mono ?_; rintro e w' ⟨rfl, rfl⟩; first | rw [i1] | rw [i2] | rw [i3]) | (go_at_call 6; refine (counts_any _).mono ?_; rintro e w' ⟨rfl, m, rfl⟩))
  go_ret
  refine ⟨ret_b (by simp), ?_⟩
  (repeat (first | exact Below.refl _ _ | assumption | (refine Below.setCell ?_ (by first | (simp; done) | (simp; omega) | omega) _) | (refine Below.drew ?_) | (refine below_drewN ?_ _) | (refine Below.alloc ?_ (by first | (simp; done) | (simp; omega) | omega) _) | (refine Below.trans ?_ (Below.mono (by assumption) (by first | (simp; done) | (simp; omega) | omega)))))
end Go.Proofs.Ytefjkelakecanaa
