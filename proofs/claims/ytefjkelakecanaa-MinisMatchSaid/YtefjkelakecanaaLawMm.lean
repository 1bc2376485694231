/- dyelaw2.MinisMatch where the format and the code are right. Conditions: those named. -/
import Derived.Test.YtefjkelakecanaaLawMn
namespace Go.Proofs.Ytefjkelakecanaa
open Go.RowKit
set_option maxRecDepth 100000 in
set_option maxHeartbeats 6400000 in
theorem mn_in (v n X F : Nat) (w : World) (hv : v < 2 ^ FloatKind.f32.format.width) (hX : 2 ≤ X ∧ X ≤ 8) (hF : 1 ≤ F ∧ F ≤ 23) (hn : n < 2 ^ (1 + X + F)) :
    Calls Try.prog 4 #[.float .f32 v, .int .i64 n, .int .i64 X, .int .i64 F] w fun e w' => e = .returned (.bool true) ∧ Below w.heap.size w w' := by
  obtain ⟨i1, i2⟩ := inB_2 hX hF
  have hT : (2 : Int) ^ (1 + X + F) ≤ 4294967296 ∧ (2 : Int) ≤ 2 ^ (1 + X + F) := ⟨two_pow_le (b := 32) (by omega), two_pow_le (a := 1) (by omega)⟩
  obtain ⟨t1, t2⟩ := hT
  have hn2 : (n : Int) < 2 ^ (1 + X + F) := by exact_mod_cast hn
  have i3 : inB n 0 ((2 : Int) ^ (1 + X + F) - 1) = true := inB_t (by omega)
  have HV := Lib.hid hv
  have HN := Lib.hid hn
  clear hn hv hn2
  go_enter Try.func4, Try.ntmps4
  go_upto_region 12 with (first | (go_at_call 14; refine (Mini_any _ X F _ hX hF (by first | exact HV.out | exact codeW_lt HR1.out)).mono ?_; rintro e w' ⟨c1, rfl, hc1, m1, rfl⟩; have HC1 := Lib.hid hc1; clear hc1) | (go_at_call 16; refine (MiniOf_any v X F _ hX hF HV.out).mono ?_; rintro e w' ⟨c2, rfl, hc2, m2, rfl⟩; obtain rfl := miniC_one HC1.out hc2; clear hc2) | (go_at_call 15; refine (FromMini_ok n X F _ hX hF HN.out).mono ?_; rintro e w' ⟨r1, rfl, hr1, m3, rfl⟩; have HR1 := Lib.hid hr1; clear hr1) | (go_at_call 17; refine (WholeOf_ok n X F _ hX hF HN.out).mono ?_; rintro e w' ⟨r2, rfl, hr2, m4, rfl⟩; obtain rfl := codeW_one HR1.out hr2; clear hr2) | (go_at_call 7; refine (In_any _ _ _ _).mono ?_; rintro e w' ⟨rfl, rfl⟩; first | rw [i1] | rw [i2] | rw [i3]) | (go_at_call 12; refine (same_any _ _ _).mono ?_; rintro e w' ⟨rfl, rfl⟩; rw [decide_eq_true rfl]) | (go_at_call 6; refine (counts_any _).mono ?_; rintro e w' ⟨rfl, m, rfl⟩))
  cases hN : isN .f32 r1 with
  | true =>
    have ho : (FloatKind.f32.format.order r1 r1 != some .eq) = true := by rw [ord_self_ne]; exact hN
    clear hN
    go_wp2_with fail
    go_ret
    refine ⟨ret_b (by simp), ?_⟩
    (repeat (first | exact Below.refl _ _ | assumption | (refine Below.setCell ?_ (by first | (simp; done) | (simp; omega) | omega) _) | (refine Below.drew ?_) | (refine below_drewN ?_ _) | (refine Below.alloc ?_ (by first | (simp; done) | (simp; omega) | omega) _) | (refine Below.trans ?_ (Below.mono (by assumption) (by first | (simp; done) | (simp; omega) | omega)))))
  | false =>
    have ho : (FloatKind.f32.format.order r1 r1 != some .eq) = false := by rw [ord_self_ne]; exact hN
    obtain rfl := back_code HN.out HR1.out hN HC1.out
    clear hN
    go_wp2_with fail
    go_ret
    refine ⟨ret_b (by simp), ?_⟩
    (repeat (first | exact Below.refl _ _ | assumption | (refine Below.setCell ?_ (by first | (simp; done) | (simp; omega) | omega) _) | (refine Below.drew ?_) | (refine below_drewN ?_ _) | (refine Below.alloc ?_ (by first | (simp; done) | (simp; omega) | omega) _) | (refine Below.trans ?_ (Below.mono (by assumption) (by first | (simp; done) | (simp; omega) | omega)))))
theorem mn_walk (v : Nat) (n X F : Int) (w : World) (hv : v < 2 ^ FloatKind.f32.format.width) (_ : IntKind.i64.min ≤ n ∧ n ≤ IntKind.i64.max) (_ : IntKind.i64.min ≤ X ∧ X ≤ IntKind.i64.max) (_ : IntKind.i64.min ≤ F ∧ F ≤ IntKind.i64.max) :
    Calls Try.prog 4 #[.float .f32 v, .int .i64 n, .int .i64 X, .int .i64 F] w fun e w' => e = .returned (.bool true) ∧ Below w.heap.size w w' := by
  cases h : faultB X F with
  | true => exact mn_fault v n X F w h
  | false =>
    have hXF : 2 ≤ X ∧ X ≤ 8 ∧ 1 ≤ F ∧ F ≤ 23 := by
      unfold faultB at h
      simp only [Bool.or_eq_false_iff, decide_eq_false_iff_not] at h
      omega
    obtain ⟨a, rfl⟩ : ∃ a : Nat, X = a := ⟨X.toNat, by omega⟩
    obtain ⟨b, rfl⟩ : ∃ b : Nat, F = b := ⟨F.toNat, by omega⟩
    by_cases hn : n < 0 ∨ (2 : Int) ^ (1 + a + b) ≤ n
    · exact mn_out v n a b w hv (by omega) (by omega) hn
    · obtain ⟨c, rfl⟩ : ∃ c : Nat, n = c := ⟨n.toNat, by omega⟩
      have h2 : (c : Int) < 2 ^ (1 + a + b) := by omega
      have hc : c < 2 ^ (1 + a + b) := by exact_mod_cast h2
      exact mn_in v c a b w hv (by omega) (by omega) hc
end Go.Proofs.Ytefjkelakecanaa
