/- What is wrong with a cube: cube.Check, dyeref2.CubeError; no cube. No condition. (with: CuB, CuC, CuE) -/
import Derived.Test.YtmdmjmmplhoniaaBG
namespace Go.Proofs.Ytmdmjmmplhoniaa
open Go.RowKit
def cubFar (lo hi : Nat) : Bool := (FloatKind.f32.format.order lo 1233125376 == some .gt) || (FloatKind.f32.format.order lo 3380609024 == some .lt) || (FloatKind.f32.format.order hi 1233125376 == some .gt) || (FloatKind.f32.format.order hi 3380609024 == some .lt)
/-- The error of a cube. -/
def cubErr (size : Int) (lo hi n : Nat) : Int :=
  if inB size 2 17 then (if (n : Int) = 3 * size * size * size then (if allNum [lo, hi] then (if FloatKind.f32.format.order hi lo == some .gt then (if cubFar lo hi then 3 else 0) else 8) else 2) else 2) else 3
theorem cub_bd {size : Int} (h : 2 ≤ size ∧ size ≤ 17) : 8 ≤ size * size * size ∧ size * size * size ≤ 4913 ∧ 3 * size * size * size = 3 * (size * size * size) ∧ 4 ≤ size * size ∧ size * size ≤ 289 := by
  obtain ⟨S, rfl⟩ : ∃ S : Nat, size = S := ⟨size.toNat, by omega⟩
  have h1 : 2 ≤ S := by omega
  have h2 : S ≤ 17 := by omega
  have a1 : 2 * 2 ≤ S * S := Nat.mul_le_mul h1 h1
  have a2 : S * S ≤ 17 * 17 := Nat.mul_le_mul h2 h2
  have a3 : 2 * 2 * 2 ≤ S * S * S := Nat.mul_le_mul a1 h1
  have a4 : S * S * S ≤ 17 * 17 * 17 := Nat.mul_le_mul a2 h2
  refine ⟨?_, ?_, by rw [Int.mul_assoc 3, Int.mul_assoc 3], ?_, ?_⟩ <;> (simp only [← Int.natCast_mul]; omega)
theorem cubErr_ok {size : Int} {lo hi n : Nat} (h : cubErr size lo hi n = 0) : (2 ≤ size ∧ size ≤ 17) ∧ (n : Int) = 3 * size * size * size ∧ allNum [lo, hi] = true ∧ (FloatKind.f32.format.order hi lo == some .gt) = true ∧ cubFar lo hi = false := by
  unfold cubErr at h
  by_cases h1 : inB size 2 17 = true
  · rw [if_pos h1] at h
    by_cases h2 : (n : Int) = 3 * size * size * size
    · rw [if_pos h2] at h
      cases h3 : allNum [lo, hi]
      · rw [h3] at h; cases h
      · rw [h3, if_pos rfl] at h
        cases h4 : (FloatKind.f32.format.order hi lo == some .gt)
        · rw [h4] at h; cases h
        · rw [h4, if_pos rfl] at h
          cases h5 : cubFar lo hi
          · exact ⟨inB_iff.1 h1, h2, rfl, rfl, rfl⟩
          · rw [h5] at h; cases h
    · rw [if_neg h2] at h; cases h
  · rw [if_neg h1] at h; cases h
theorem wrap_cub {size : Int} (h : 2 ≤ size ∧ size ≤ 17) : IntKind.i64.wrap (3 * size) = 3 * size ∧ IntKind.i64.wrap (3 * size * size) = 3 * size * size ∧ IntKind.i64.wrap (3 * size * size * size) = 3 * size * size * size := by
  obtain ⟨a1, a2, a3, a4, a5⟩ := cub_bd h
  have e : 3 * size * size = 3 * (size * size) := by rw [Int.mul_assoc]
  rw [a3, e]
  refine ⟨?_, ?_, ?_⟩ <;> (rw [IntKind.wrap_i64]; omega)
set_option maxRecDepth 100000 in
set_option maxHeartbeats 3200000 in
theorem CuCheck_any (size : Int) (lo hi : Nat) (a : Option Addr) (n cap : Nat) (w : World) : Calls Try.prog 18 #[.agg #[.int .i64 size, .float .f32 lo, .float .f32 hi, .slice a n cap]] w fun e w' => e = .returned (.int .i64 (cubErr size lo hi n)) ∧ Below w.heap.size w w' := by
  by_cases hs : 2 ≤ size ∧ size ≤ 17
  · have hi' := Lib.hid (inB_t hs)
    obtain ⟨u1, u2, u3⟩ := wrap_cub hs
    obtain ⟨s1, s2⟩ := hs
    by_cases hn : (n : Int) = 3 * size * size * size
    · have hne : ((n : Int) != 3 * size * size * size) = false := by simpa using hn
      have hn' := Lib.hid hn; clear hn
      cases hA : allNum [lo, hi]
      case false =>
        have hE : cubErr size lo hi n = 2 := by unfold cubErr; rw [hi'.out, if_pos rfl, if_pos hn'.out, hA]; rfl
        rw [hE]; clear hE
        go_enter Try.func18, Try.ntmps18
        go_wp2_with (first | (go_at_call 28; refine (All2_any _ _ _ lo hi _ (by simp [go_sem]) (by simp [go_sem])).mono ?_; rintro e w' ⟨rfl, rfl⟩; rw [hA]))
        go_ret
        refine ⟨rfl, ?_⟩
        (repeat (first | exact Below.refl _ _ | assumption | (refine Below.setCell ?_ (by first | (simp; done) | (simp; omega) | omega) _) | (refine Below.drew ?_) | (refine below_drewN ?_ _) | (refine Below.alloc ?_ (by first | (simp; done) | (simp; omega) | omega) _) | (refine Below.trans ?_ (Below.mono (by assumption) (by first | (simp; done) | (simp; omega) | omega)))))
      case true =>
        cases hO : (FloatKind.f32.format.order hi lo == some .gt)
        case false =>
          have hE : cubErr size lo hi n = 8 := by unfold cubErr; rw [hi'.out, if_pos rfl, if_pos hn'.out, hA, if_pos rfl, hO]; rfl
          rw [hE]; clear hE
          go_enter Try.func18, Try.ntmps18
          go_wp2_with (first | (go_at_call 28; refine (All2_any _ _ _ lo hi _ (by simp [go_sem]) (by simp [go_sem])).mono ?_; rintro e w' ⟨rfl, rfl⟩; rw [hA]))
          go_ret
          refine ⟨rfl, ?_⟩
          (repeat (first | exact Below.refl _ _ | assumption | (refine Below.setCell ?_ (by first | (simp; done) | (simp; omega) | omega) _) | (refine Below.drew ?_) | (refine below_drewN ?_ _) | (refine Below.alloc ?_ (by first | (simp; done) | (simp; omega) | omega) _) | (refine Below.trans ?_ (Below.mono (by assumption) (by first | (simp; done) | (simp; omega) | omega)))))
        case true =>
          have hE : cubErr size lo hi n = if cubFar lo hi then 3 else 0 := by unfold cubErr; rw [hi'.out, if_pos rfl, if_pos hn'.out, hA, if_pos rfl, hO, if_pos rfl]
          rw [hE]; clear hE
          unfold cubFar
          cases h1 : (FloatKind.f32.format.order lo 1233125376 == some .gt) <;> cases h2 : (FloatKind.f32.format.order lo 3380609024 == some .lt) <;> cases h3 : (FloatKind.f32.format.order hi 1233125376 == some .gt) <;> cases h4 : (FloatKind.f32.format.order hi 3380609024 == some .lt)
          all_goals
            simp only [Bool.or_self, Bool.or_true, Bool.or_false, Bool.false_eq_true, if_false, if_true]
            go_enter Try.func18, Try.ntmps18
            go_wp2_with (first | (go_at_call 28; refine (All2_any _ _ _ lo hi _ (by simp [go_sem]) (by simp [go_sem])).mono ?_; rintro e w' ⟨rfl, rfl⟩; rw [hA]))
            go_ret
            refine ⟨rfl, ?_⟩
            (repeat (first | exact Below.refl _ _ | assumption | (refine Below.setCell ?_ (by first | (simp; done) | (simp; omega) | omega) _) | (refine Below.drew ?_) | (refine below_drewN ?_ _) | (refine Below.alloc ?_ (by first | (simp; done) | (simp; omega) | omega) _) | (refine Below.trans ?_ (Below.mono (by assumption) (by first | (simp; done) | (simp; omega) | omega)))))
    · have hne : ((n : Int) != 3 * size * size * size) = true := by simpa using hn
      have hE : cubErr size lo hi n = 2 := by unfold cubErr; rw [hi'.out, if_pos rfl, if_neg hn]
      rw [hE]; clear hE hn
      go_enter Try.func18, Try.ntmps18
      go_wp2_with fail
      go_ret
      refine ⟨rfl, ?_⟩
      (repeat (first | exact Below.refl _ _ | assumption | (refine Below.setCell ?_ (by first | (simp; done) | (simp; omega) | omega) _) | (refine Below.drew ?_) | (refine below_drewN ?_ _) | (refine Below.alloc ?_ (by first | (simp; done) | (simp; omega) | omega) _) | (refine Below.trans ?_ (Below.mono (by assumption) (by first | (simp; done) | (simp; omega) | omega)))))
  · have hi' : inB size 2 17 = false := inB_f (by omega)
    have hE : cubErr size lo hi n = 3 := by unfold cubErr; rw [hi']; rfl
    rw [hE]
    clear hi' hE
    by_cases h1 : size < 2
    · go_enter Try.func18, Try.ntmps18
      go_wp2_with fail
      go_ret
      refine ⟨rfl, ?_⟩
      (repeat (first | exact Below.refl _ _ | assumption | (refine Below.setCell ?_ (by first | (simp; done) | (simp; omega) | omega) _) | (refine Below.drew ?_) | (refine below_drewN ?_ _) | (refine Below.alloc ?_ (by first | (simp; done) | (simp; omega) | omega) _) | (refine Below.trans ?_ (Below.mono (by assumption) (by first | (simp; done) | (simp; omega) | omega)))))
    · have h2 : 17 < size := by omega
      go_enter Try.func18, Try.ntmps18
      go_wp2_with fail
      go_ret
      refine ⟨rfl, ?_⟩
      (repeat (first | exact Below.refl _ _ | assumption | (refine Below.setCell ?_ (by first | (simp; done) | (simp; omega) | omega) _) | (refine Below.drew ?_) | (refine below_drewN ?_ _) | (refine Below.alloc ?_ (by first | (simp; done) | (simp; omega) | omega) _) | (refine Below.trans ?_ (Below.mono (by assumption) (by first | (simp; done) | (simp; omega) | omega)))))
set_option maxRecDepth 100000 in
set_option maxHeartbeats 3200000 in
theorem CubeError_any (size : Int) (lo hi : Nat) (a : Option Addr) (n cap : Nat) (w : World) : Calls Try.prog 5 #[.agg #[.int .i64 size, .float .f32 lo, .float .f32 hi, .slice a n cap]] w fun e w' => e = .returned (.int .i64 (cubErr size lo hi n)) ∧ Below w.heap.size w w' := by
  cases hi' : inB size 2 17
  case true =>
    have hs := inB_iff.1 hi'
    obtain ⟨u1, u2, u3⟩ := wrap_cub hs
    have HI := Lib.hid hi'
    clear hs
    by_cases hn : (n : Int) = 3 * size * size * size
    · have hne : ((n : Int) != 3 * size * size * size) = false := by simpa using hn
      have hn' := Lib.hid hn; clear hn
      have hAe : allNum [lo, hi] = (isNum .f32 lo && isNum .f32 hi) := by simp [allNum]
      cases k1 : isNum .f32 lo
      case false =>
        have hE : cubErr size lo hi n = 2 := by unfold cubErr; rw [HI.out, if_pos rfl, if_pos hn'.out, hAe, k1]; rfl
        rw [hE]; clear hE hAe
        go_enter Try.func5, Try.ntmps5
        go_wp2_with (first | ((go_at_call 13; refine (In_any _ _ _ _).mono ?_; rintro e w' ⟨rfl, rfl⟩); rw [HI.out]) | (go_at_call 7; refine (IsNumberR_any _ _).mono ?_; rintro e w' ⟨rfl, m, rfl⟩))
        go_ret
        refine ⟨rfl, ?_⟩
        (repeat (first | exact Below.refl _ _ | assumption | (refine Below.setCell ?_ (by first | (simp; done) | (simp; omega) | omega) _) | (refine Below.drew ?_) | (refine below_drewN ?_ _) | (refine Below.alloc ?_ (by first | (simp; done) | (simp; omega) | omega) _) | (refine Below.trans ?_ (Below.mono (by assumption) (by first | (simp; done) | (simp; omega) | omega)))))
      case true =>
       cases k2 : isNum .f32 hi
       case false =>
        have hE : cubErr size lo hi n = 2 := by unfold cubErr; rw [HI.out, if_pos rfl, if_pos hn'.out, hAe, k1, k2]; rfl
        rw [hE]; clear hE hAe
        go_enter Try.func5, Try.ntmps5
        go_wp2_with (first | ((go_at_call 13; refine (In_any _ _ _ _).mono ?_; rintro e w' ⟨rfl, rfl⟩); rw [HI.out]) | (go_at_call 7; refine (IsNumberR_any _ _).mono ?_; rintro e w' ⟨rfl, m, rfl⟩))
        go_ret
        refine ⟨rfl, ?_⟩
        (repeat (first | exact Below.refl _ _ | assumption | (refine Below.setCell ?_ (by first | (simp; done) | (simp; omega) | omega) _) | (refine Below.drew ?_) | (refine below_drewN ?_ _) | (refine Below.alloc ?_ (by first | (simp; done) | (simp; omega) | omega) _) | (refine Below.trans ?_ (Below.mono (by assumption) (by first | (simp; done) | (simp; omega) | omega)))))
       case true =>
        have hA : allNum [lo, hi] = true := by rw [hAe, k1, k2]; rfl
        clear hAe
        have HA := Lib.hid hA; clear hA
        cases hO : (FloatKind.f32.format.order hi lo == some .gt)
        case false =>
          have hE : cubErr size lo hi n = 8 := by unfold cubErr; rw [HI.out, if_pos rfl, if_pos hn'.out, HA.out, if_pos rfl, hO]; rfl
          rw [hE]; clear hE
          go_enter Try.func5, Try.ntmps5
          go_wp2_with (first | ((go_at_call 13; refine (In_any _ _ _ _).mono ?_; rintro e w' ⟨rfl, rfl⟩); rw [HI.out]) | (go_at_call 7; refine (IsNumberR_any _ _).mono ?_; rintro e w' ⟨rfl, m, rfl⟩))
          go_ret
          refine ⟨rfl, ?_⟩
          (repeat (first | exact Below.refl _ _ | assumption | (refine Below.setCell ?_ (by first | (simp; done) | (simp; omega) | omega) _) | (refine Below.drew ?_) | (refine below_drewN ?_ _) | (refine Below.alloc ?_ (by first | (simp; done) | (simp; omega) | omega) _) | (refine Below.trans ?_ (Below.mono (by assumption) (by first | (simp; done) | (simp; omega) | omega)))))
        case true =>
          have hE : cubErr size lo hi n = if cubFar lo hi then 3 else 0 := by unfold cubErr; rw [HI.out, if_pos rfl, if_pos hn'.out, HA.out, if_pos rfl, hO, if_pos rfl]
          rw [hE]; clear hE
          unfold cubFar
          cases h1 : (FloatKind.f32.format.order lo 1233125376 == some .gt) <;> cases h2 : (FloatKind.f32.format.order lo 3380609024 == some .lt) <;> cases h3 : (FloatKind.f32.format.order hi 1233125376 == some .gt) <;> cases h4 : (FloatKind.f32.format.order hi 3380609024 == some .lt)
          all_goals
            simp only [Bool.or_self, Bool.or_true, Bool.or_false, Bool.false_eq_true, if_false, if_true]
            go_enter Try.func5, Try.ntmps5
            go_wp2_with (first | ((go_at_call 13; refine (In_any _ _ _ _).mono ?_; rintro e w' ⟨rfl, rfl⟩); rw [HI.out]) | (go_at_call 7; refine (IsNumberR_any _ _).mono ?_; rintro e w' ⟨rfl, m, rfl⟩))
            go_ret
            refine ⟨rfl, ?_⟩
            (repeat (first | exact Below.refl _ _ | assumption | (refine Below.setCell ?_ (by first | (simp; done) | (simp; omega) | omega) _) | (refine Below.drew ?_) | (refine below_drewN ?_ _) | (refine Below.alloc ?_ (by first | (simp; done) | (simp; omega) | omega) _) | (refine Below.trans ?_ (Below.mono (by assumption) (by first | (simp; done) | (simp; omega) | omega)))))
    · have hne : ((n : Int) != 3 * size * size * size) = true := by simpa using hn
      have hE : cubErr size lo hi n = 2 := by unfold cubErr; rw [HI.out, if_pos rfl, if_neg hn]
      rw [hE]; clear hE hn
      go_enter Try.func5, Try.ntmps5
      go_wp2_with (first | ((go_at_call 13; refine (In_any _ _ _ _).mono ?_; rintro e w' ⟨rfl, rfl⟩); rw [HI.out]))
      go_ret
      refine ⟨rfl, ?_⟩
      (repeat (first | exact Below.refl _ _ | assumption | (refine Below.setCell ?_ (by first | (simp; done) | (simp; omega) | omega) _) | (refine Below.drew ?_) | (refine below_drewN ?_ _) | (refine Below.alloc ?_ (by first | (simp; done) | (simp; omega) | omega) _) | (refine Below.trans ?_ (Below.mono (by assumption) (by first | (simp; done) | (simp; omega) | omega)))))
  case false =>
    have hE : cubErr size lo hi n = 3 := by unfold cubErr; rw [hi']; rfl
    rw [hE]
    clear hE
    go_enter Try.func5, Try.ntmps5
    go_wp2_with (first | ((go_at_call 13; refine (In_any _ _ _ _).mono ?_; rintro e w' ⟨rfl, rfl⟩); rw [hi']))
    go_ret
    refine ⟨rfl, ?_⟩
    (repeat (first | exact Below.refl _ _ | assumption | (refine Below.setCell ?_ (by first | (simp; done) | (simp; omega) | omega) _) | (refine Below.drew ?_) | (refine below_drewN ?_ _) | (refine Below.alloc ?_ (by first | (simp; done) | (simp; omega) | omega) _) | (refine Below.trans ?_ (Below.mono (by assumption) (by first | (simp; done) | (simp; omega) | omega)))))
/-- No cube. -/
def noCubeB (size : Int) (lo hi n : Nat) : Bool := decide (size = 0) && (FloatKind.f32.format.order lo 0 == some .eq) && (FloatKind.f32.format.order hi 0 == some .eq) && decide (n = 0)
end Go.Proofs.Ytmdmjmmplhoniaa

namespace Go.Proofs.Ytmdmjmmplhoniaa
open Go.RowKit
/-- The number of an entry. -/
def enI (S i j k : Nat) : Nat := i + S * (j + S * k)
theorem enI_lt {S i j k : Nat} (hi : i < S) (hj : j < S) (hk : k < S) : enI S i j k < S * S * S := by
  unfold enI
  have h1 : S * k + S ≤ S * S := by have := Nat.mul_le_mul_left S (show k + 1 ≤ S by omega); rwa [Nat.mul_add, Nat.mul_one] at this
  have h2 : S * (j + S * k) + S ≤ S * (S * S) := by have := Nat.mul_le_mul_left S (show j + S * k + 1 ≤ S * S by omega); rwa [Nat.mul_add _ _ 1, Nat.mul_one] at this
  rw [Nat.mul_assoc]; omega
theorem cub_nat {S : Nat} (h : S ≤ 17) : S * S ≤ 289 ∧ S * S * S ≤ 4913 := by
  have a2 : S * S ≤ 17 * 17 := Nat.mul_le_mul h h
  exact ⟨by omega, by have := Nat.mul_le_mul a2 h; omega⟩
theorem en_wraps {S i j k : Nat} (hS : S ≤ 17) (hi : i < S) (hj : j < S) (hk : k < S) :
    ∃ A B C D E : Nat, IntKind.i64.wrap ((S : Int) * (k : Int)) = (A : Int) ∧ IntKind.i64.wrap ((j : Int) + (A : Int)) = (B : Int) ∧ IntKind.i64.wrap ((S : Int) * (B : Int)) = (C : Int) ∧ IntKind.i64.wrap ((i : Int) + (C : Int)) = (D : Int) ∧ IntKind.i64.wrap (3 * (D : Int)) = (E : Int) ∧ E = 3 * enI S i j k ∧ E + 3 ≤ 3 * (S * S * S) ∧ E + 3 ≤ 14739 := by
  obtain ⟨b1, b2⟩ := cub_nat hS
  have h := enI_lt hi hj hk
  have h1 : S * k ≤ S * S := Nat.mul_le_mul_left S (by omega)
  have h2 : S * (j + S * k) ≤ S * S * S + S := by unfold enI at h; omega
  refine ⟨S * k, j + S * k, S * (j + S * k), i + S * (j + S * k), 3 * enI S i j k, ?_, ?_, ?_, ?_, ?_, rfl, by omega, by omega⟩
  · rw [← Int.natCast_mul, IntKind.wrap_i64]; omega
  · rw [← Int.natCast_add, IntKind.wrap_i64]; omega
  · rw [← Int.natCast_mul, IntKind.wrap_i64]; omega
  · rw [← Int.natCast_add, IntKind.wrap_i64]; omega
  · unfold enI at *; rw [IntKind.wrap_i64]; omega
def tri (q : Nat → Nat) : Value := .agg #[.float .f32 (q 0), .float .f32 (q 1), .float .f32 (q 2)]
theorem array3_at (b o c : Nat) (w : World) : (Instr.arrayAt 47 (.slice (some ⟨b, o, none⟩) 3 c)).run Try.prog w = .ok (.pointer (some ⟨b, o, none⟩)) w := by kernel_rfl
set_option maxRecDepth 100000 in
set_option maxHeartbeats 1600000 in
theorem entry_any (S i j k : Nat) (lo hi b off n cap : Nat) (fs : Nat → Nat) (w : World) (hS : S ≤ 17) (h1 : i < S) (h2 : j < S) (h3 : k < S) (hn : n = 3 * (S * S * S)) (hcap : n ≤ cap) (hc : Row w b off n fs) :
    Calls Try.prog 31 #[.agg #[.int .i64 S, .float .f32 lo, .float .f32 hi, .slice (some ⟨b, off, none⟩) n cap], .int .i64 i, .int .i64 j, .int .i64 k] w fun e w' =>
      e = .returned (.agg #[.float .f32 (fs (3 * enI S i j k)), .float .f32 (fs (3 * enI S i j k + 1)), .float .f32 (fs (3 * enI S i j k + 2))]) ∧ Below w.heap.size w w' := by
  obtain ⟨A, B, C, D, E, e1, e2, e3, e4, e5, e6, e7, e8⟩ := en_wraps hS h1 h2 h3
  rw [← e6]
  have hn3 : E + 3 ≤ n := by omega
  have c0 := hc E (by omega)
  have c1 := hc (E + 1) (by omega)
  have c2 := hc (E + 2) (by omega)
  rw [← Nat.add_assoc] at c1 c2
  have hbw : b < w.heap.size := cell_lt c0
  have j1 : (E : Int) + 3 ≤ (cap : Int) := by omega
  have sa := array3_at
  generalize fs E = v0 at *
  generalize fs (E + 1) = v1 at *
  generalize fs (E + 2) = v2 at *
  clear hc e6 e7 hn hS h1 h2 h3
  go_enter Try.func31, Try.ntmps31
  go_wp2_with fail
  refine bodyPost_ret (v := .agg #[.float .f32 v0, .float .f32 v1, .float .f32 v2]) (by simp [results, Try.results31, go_sem]) rfl ⟨rfl, ?_⟩
  (repeat (first | exact Below.refl _ _ | assumption | (refine Below.setCell ?_ (by first | (simp; done) | (simp; omega) | omega) _) | (refine Below.drew ?_) | (refine below_drewN ?_ _) | (refine Below.alloc ?_ (by first | (simp; done) | (simp; omega) | omega) _) | (refine Below.trans ?_ (Below.mono (by assumption) (by first | (simp; done) | (simp; omega) | omega)))))
set_option maxRecDepth 100000 in
set_option maxHeartbeats 1600000 in
theorem cleaned_any (v0 v1 v2 : Nat) (w : World) :
    Calls Try.prog 36 #[.agg #[.float .f32 v0, .float .f32 v1, .float .f32 v2]] w fun e w' =>
      e = .returned (.agg #[.float .f32 (cn .f32 v0), .float .f32 (cn .f32 v1), .float .f32 (cn .f32 v2)]) ∧ Below w.heap.size w w' := by
  go_enter Try.func36, Try.ntmps36
  go_wp2_with fail
  refine wp_world (fun W hW => ?_)
  have CB : Blk W w.heap.size [.float .f32 v0, .float .f32 v1, .float .f32 v2] := by rw [hW]; exact (Blk.new _ _ _ _ rfl).alloc _
  have RB : Blk W (w.heap.size + 1) [.float .f32 0, .float .f32 0, .float .f32 0] := by rw [hW]; exact Blk.new _ _ _ _ (by simp)
  have BW : Below w.heap.size w W := by rw [hW]; (repeat (first | exact Below.refl _ _ | assumption | (refine Below.setCell ?_ (by first | (simp; done) | (simp; omega) | omega) _) | (refine Below.drew ?_) | (refine below_drewN ?_ _) | (refine Below.alloc ?_ (by first | (simp; done) | (simp; omega) | omega) _) | (refine Below.trans ?_ (Below.mono (by assumption) (by first | (simp; done) | (simp; omega) | omega)))))
  have g0 := CB.c 0 _ rfl; have g1 := CB.c 1 _ rfl; have g2 := CB.c 2 _ rfl
  have lw := CB.lt
  have HR := Lib.hid RB; have HB := Lib.hid BW
  clear hW CB RB BW
  refine wp_region_loose 9 (fun _ args u => u = .float .f32 (cn .f32 (argF args 0))) (by kernel_rfl) (by kernel_rfl) ?_
  simp only [List.take_succ_cons, List.take_zero, List.drop_succ_cons, List.drop_zero]
  iterate 2 (refine loose_wanted rfl (fun K hK => ?_); go_simp; refine hK _ ?_; clear hK K)
  refine loose_wanted rfl (fun K1 hK => ?_)
  go_simp
  refine ⟨fun p => (Clean_any _ _).mono ?_, ?_⟩
  · rintro e w' ⟨rfl, rfl⟩
    exact ⟨_, rfl, by first | rfl | simp, p.h⟩
  refine hK _ ?_
  clear hK K1
  iterate 2 (refine loose_wanted rfl (fun K hK => ?_); go_simp; refine hK _ ?_; clear hK K)
  refine loose_wanted rfl (fun K1 hK => ?_)
  go_simp
  refine ⟨fun p => (Clean_any _ _).mono ?_, ?_⟩
  · rintro e w' ⟨rfl, rfl⟩
    exact ⟨_, rfl, by first | rfl | simp, p.h⟩
  refine hK _ ?_
  clear hK K1
  iterate 2 (refine loose_wanted rfl (fun K hK => ?_); go_simp; refine hK _ ?_; clear hK K)
  refine loose_wanted rfl (fun K1 hK => ?_)
  go_simp
  refine ⟨fun p => (Clean_any _ _).mono ?_, ?_⟩
  · rintro e w' ⟨rfl, rfl⟩
    exact ⟨_, rfl, by first | rfl | simp, p.h⟩
  refine hK _ ?_
  clear hK K1
  refine loose_nil (fun w5 hb5 => ?_)
  have RB := HR.out.past hb5
  have B5 := HB.out.trans (hb5.mono HB.out.size)
  have r0 := RB.c 0 _ rfl; have r1 := RB.c 1 _ rfl; have r2 := RB.c 2 _ rfl; have rf := RB.f
  clear hb5 RB g0 g1 g2
  go_wp2_with fail
  refine bodyPost_ret (v := .agg #[.float .f32 (cn .f32 v0), .float .f32 (cn .f32 v1), .float .f32 (cn .f32 v2)]) (by simp [results, Try.results36, go_sem, r0, r1, r2]) rfl ⟨rfl, ?_⟩
  exact ((B5.setCell (by first | (simp; done) | (simp; omega) | omega) _).setCell (by first | (simp; done) | (simp; omega) | omega) _).setCell (by first | (simp; done) | (simp; omega) | omega) _
theorem cub_ok_nat {S : Nat} {lo hi n : Nat} (he : cubErr S lo hi n = 0) : S ≤ 17 ∧ 2 ≤ S ∧ n = 3 * (S * S * S) ∧ 8 ≤ S * S * S ∧ n ≤ 14739 := by
  obtain ⟨⟨s1, s2⟩, hn', -⟩ := cubErr_ok he
  have hS : S ≤ 17 := by omega
  have hn : n = 3 * (S * S * S) := by
    have := (cub_bd (size := (S : Int)) ⟨by omega, by omega⟩).2.2.1
    rw [this] at hn'; simp only [← Int.natCast_mul] at hn'; omega
  have hpos : 8 ≤ S * S * S := by
    have := (cub_bd (size := (S : Int)) ⟨by omega, by omega⟩).1
    simp only [← Int.natCast_mul] at this; omega
  have := (cub_nat hS).2
  exact ⟨hS, by omega, hn, hpos, by omega⟩
end Go.Proofs.Ytmdmjmmplhoniaa

namespace Go.Proofs.Ytmdmjmmplhoniaa
open Go.RowKit
theorem own_form {w : World} {base : Nat} {e : TypeId} {size : Nat} {v : Value} {n : Nat} {xs : List Value} (h : w.ownsRow base e size v n xs) (hn : 0 < n) : ∃ g cap, v = .slice (some ⟨g, 0, none⟩) n cap ∧ base ≤ g ∧ g < w.heap.size ∧ n ≤ cap ∧ cap ≤ 9223372036854775807 := by
  rcases h.2 with ⟨-, h0⟩ | ⟨g, cap, cur, h1, h2, h3, h4, h5, -⟩
  · omega
  · refine ⟨g, cap, h1, h2, ?_, h4, by unfold maxLen at h5; omega⟩
    rcases Nat.lt_or_ge g w.heap.size with h' | h'
    · exact h'
    · rw [Array.getElem?_eq_none h'] at h3; cases h3
/-- What a maker of entries gives within the size. -/
def EntOK (K : Nat) (caps : Array Value) (w : World) (S : Nat) (G : Nat → Nat → Nat) : Prop :=
  ∀ (i j k : Nat) w', i < S → j < S → k < S → Below w.heap.size w w' → Calls Try.prog K (#[.int .i64 i, .int .i64 j, .int .i64 k] ++ caps) w' fun e w'' =>
    (∃ q : Nat → Nat, e = .returned (.agg #[.float .f32 (q 0), .float .f32 (q 1), .float .f32 (q 2)]) ∧ ∀ c, c < 3 → cn .f32 (q c) = G (enI S i j k) c) ∧ Below w'.heap.size w' w''
def made3L (G : Nat → Nat → Nat) (N : Nat) : List Value := (List.range (3 * N)).map fun j => .float .f32 (G (j / 3) (j % 3))
theorem made3_succ (G : Nat → Nat → Nat) (N : Nat) : made3L G (N + 1) = made3L G N ++ [.float .f32 (G N 0), .float .f32 (G N 1), .float .f32 (G N 2)] := by
  unfold made3L
  rw [show 3 * (N + 1) = 3 * N + 1 + 1 + 1 by omega, List.range_succ, List.range_succ, List.range_succ]
  simp only [List.map_append, List.map_cons, List.map_nil, List.append_assoc, List.cons_append, List.nil_append]
  rw [show 3 * N / 3 = N by omega, show 3 * N % 3 = 0 by omega, show (3 * N + 1) / 3 = N by omega, show (3 * N + 1) % 3 = 1 by omega, show (3 * N + 1 + 1) / 3 = N by omega, show (3 * N + 1 + 1) % 3 = 2 by omega]
/-- What stands behind N entries: the cube's variable at nc, the result's at nr. -/
structure CubR (w wr : World) (nr nc base : Nat) (S lo hi : Nat) (G : Nat → Nat → Nat) (N : Nat) (s : Value) : Prop where
  cub : Blk wr nc [.int .i64 S, .float .f32 lo, .float .f32 hi, s]
  own : wr.ownsRow base 22 1 s (3 * N) (made3L G N)
  res : Blk wr nr [.int .i64 0, .float .f32 0, .float .f32 0, .slice none 0 0]
  bel : Below w.heap.size w wr
  lay : w.heap.size ≤ nr ∧ w.heap.size ≤ nc ∧ nr < base ∧ nc < base ∧ nr ≠ nc
theorem CubR.past {w wr w2 : World} {nr nc base S lo hi : Nat} {G : Nat → Nat → Nat} {N : Nat} {s : Value} (k : CubR w wr nr nc base S lo hi G N s) (hb : Below wr.heap.size wr w2) : CubR w w2 nr nc base S lo hi G N s :=
  ⟨k.cub.past hb, own_past k.own hb, k.res.past hb, k.bel.trans (hb.mono k.bel.size), k.lay⟩
theorem CubR.step {w wa w1 : World} {nr nc base S lo hi : Nat} {G : Nat → Nat → Nat} {N : Nat} {s s' : Value} (k : CubR w wa nr nc base S lo hi G N s) (hown : w1.ownsRow base 22 1 s' (3 * N + 3) (made3L G N ++ [.float .f32 (G N 0), .float .f32 (G N 1), .float .f32 (G N 2)])) (hg : wa.grownBy w1 s.ownBlock) :
    CubR w (w1.setCell ⟨nc, 3, none⟩ s') nr nc base S lo hi G (N + 1) s' := by
  obtain ⟨l1, l2, l3, l4, l5⟩ := k.lay
  have fc := hg.block _ k.cub.lt (own_block k.own l4)
  have fr := hg.block _ k.res.lt (own_block k.own l3)
  refine ⟨(k.cub.block hg.size fc).set 3 s', ?_, (k.res.block hg.size fr).far _ _ (Ne.symm l5), ?_, k.lay⟩
  · rw [made3_succ]; exact own_far hown _ _ l4
  · refine (k.bel.grown hg (by have := k.cub.lt; omega) (fun j hj => ?_)).setCell l2 _
    have := k.own.lt j hj
    omega
theorem CubR.app {w wr wa w1 : World} {nr nc base S lo hi : Nat} {G : Nat → Nat → Nat} {N : Nat} {s s' : Value} {v0 v1 v2 : Nat} (k0 : CubR w wr nr nc base S lo hi G N s) (hb : Below wr.heap.size wr wa) (hown : w1.ownsRow base 22 1 s' (3 * N + 3) (made3L G N ++ [.float .f32 v0, .float .f32 v1, .float .f32 v2])) (h0 : v0 = G N 0) (h1 : v1 = G N 1) (h2 : v2 = G N 2) (hg : wa.grownBy w1 s.ownBlock) :
    w1.cell? ⟨nc, 3, none⟩ = some s ∧ w1.frozen? ⟨nc, 3, none⟩ = false ∧ CubR w (w1.setCell ⟨nc, 3, none⟩ s') nr nc base S lo hi G (N + 1) s' := by
  have k := k0.past hb
  obtain ⟨l1, l2, l3, l4, l5⟩ := k.lay
  have blk := hg.block nc k.cub.lt (own_block k.own l4)
  exact ⟨(World.cell?_of_block blk).trans (k.cub.c 3 _ rfl), (World.frozen?_of_block blk).trans (k.cub.f _), k.step (by subst h0 h1 h2; exact hown) hg⟩
set_option maxRecDepth 100000 in
set_option maxHeartbeats 3200000 in
theorem made_any (K : Nat) (caps : Array Value) (S lo hi : Nat) (G : Nat → Nat → Nat) (w : World) (hS : S ≤ 17) (hS0 : 0 < S)
    (hent : ∀ args w, (callFunc K args).run Try.prog w = .ok (.enter K args) w) (hk : EntOK K caps w S G) :
    Calls Try.prog 21 #[.int .i64 S, .float .f32 lo, .float .f32 hi, .func (.func K) #[] caps] w fun e w' =>
      ∃ g cap : Nat, e = .returned (.agg #[.int .i64 S, .float .f32 lo, .float .f32 hi, .slice (some ⟨g, 0, none⟩) (3 * (S * S * S)) cap]) ∧ w.heap.size ≤ g ∧ g < w'.heap.size ∧ 3 * (S * S * S) ≤ cap ∧ cap ≤ 9223372036854775807 ∧ Row w' g 0 (3 * (S * S * S)) (fun i => G (i / 3) (i % 3)) ∧ Below w.heap.size w w' := by
  obtain ⟨b1, b2⟩ := cub_nat hS
  have hk' := Lib.hid hk; clear hk
  obtain ⟨i0, hi0, hz0, hz1, hz2⟩ := info_parts infoF32
  go_enter Try.func21, Try.ntmps21
  go_wp2_with fail
  refine wp_world (fun W hW => ?_)
  have M0 : CubR w W w.heap.size (w.heap.size + 1) (w.heap.size + 2) S lo hi G 0 (.slice none 0 0) := by
    rw [hW]
    exact ⟨by first | exact Blk.new _ _ _ _ (by simp) | exact (((((Blk.new _ _ _ _ (by simp)).set 0 _).set 1 _).set 2 _).set 3 _), World.ownsRow_nil _ _ _ _, by first | exact (Blk.new _ _ _ _ rfl).alloc _ | exact (((((Blk.new _ _ _ _ rfl).alloc _).far _ _ (by simp)).far _ _ (by simp)).far _ _ (by simp)).far _ _ (by simp), by (repeat (first | exact Below.refl _ _ | assumption | (refine Below.setCell ?_ (by first | (simp; done) | (simp; omega) | omega) _) | (refine Below.drew ?_) | (refine below_drewN ?_ _) | (refine Below.alloc ?_ (by first | (simp; done) | (simp; omega) | omega) _) | (refine Below.trans ?_ (Below.mono (by assumption) (by first | (simp; done) | (simp; omega) | omega))))), by omega, by omega, by omega, by omega, by omega⟩
  clear hW
  go_loopw [19] (fun s wr => ∃ k : Nat, k ≤ S ∧ s = .int .i64 k ∧ ∃ s, CubR w wr w.heap.size (w.heap.size + 1) (w.heap.size + 2) S lo hi G (S * (S * k)) s) (fun s _ => S - (intOf s).toNat)
  case atStart => exact ⟨0, Nat.zero_le _, rfl, _, by simpa using M0⟩
  case round =>
    obtain ⟨k, hk, rfl, s, M⟩ := hrel
    have HM := Lib.hid M
    clear M M0
    by_cases hkS : k < S
    · go_wp2_with fail
      go_loopw [23] (fun s wr => ∃ j : Nat, j ≤ S ∧ s = .int .i64 j ∧ ∃ s, CubR w wr w.heap.size (w.heap.size + 1) (w.heap.size + 2) S lo hi G (S * (j + S * k)) s) (fun s _ => S - (intOf s).toNat)
      case atStart => exact ⟨0, Nat.zero_le _, rfl, s, by rw [Nat.zero_add]; exact HM.out⟩
      case round =>
        obtain ⟨j, hj, rfl, t, M⟩ := hrel
        have HM2 := Lib.hid M
        clear M HM
        by_cases hjS : j < S
        · go_wp2_with fail
          go_loopw [27] (fun s wr => ∃ i : Nat, i ≤ S ∧ s = .int .i64 i ∧ ∃ s, CubR w wr w.heap.size (w.heap.size + 1) (w.heap.size + 2) S lo hi G (i + S * (j + S * k)) s) (fun s _ => S - (intOf s).toNat)
          case atStart => exact ⟨0, Nat.zero_le _, rfl, t, by rw [Nat.zero_add]; exact HM2.out⟩
          case round =>
            obtain ⟨i, hi, rfl, u, M⟩ := hrel
            have HM3 := Lib.hid M
            clear M HM2
            by_cases hiS : i < S
            · have hlt := enI_lt hiS hjS hkS
              obtain ⟨N, hN⟩ : ∃ N, N = enI S i j k := ⟨_, rfl⟩
              have hN2 : i + S * (j + S * k) = N := by rw [hN]; rfl
              rw [hN2] at HM3
              rw [← hN] at hlt
              have HN := Lib.hid (And.intro hN hN2)
              clear hN hN2
              go_wp2_with fail
              refine (hk'.out i j k _ hiS hjS hkS HM3.out.bel).mono ?_
              rintro e w1 ⟨⟨q, rfl, hq⟩, hb1⟩
              rw [← HN.out.1] at hq
              have M1 := HM3.out.past hb1
              clear hb1
              have q0 := Lib.hid (hq 0 (by omega)); have q1 := Lib.hid (hq 1 (by omega)); have q2 := Lib.hid (hq 2 (by omega))
              have HM1 := Lib.hid M1
              clear hq M1
              go_wp2_with (first | (go_at_call 36; refine (cleaned_any _ _ _ _).mono ?_; rintro e w2 ⟨rfl, hb2⟩; have M2 := HM1.out.past hb2; have HM2 := Lib.hid M2; clear hb2 M2))
              refine wp_world (fun W3 hW3 => ?_)
              have VB : Blk W3 w2.heap.size [.float .f32 (cn .f32 (q 0)), .float .f32 (cn .f32 (q 1)), .float .f32 (cn .f32 (q 2))] := by rw [hW3]; exact Blk.new _ _ _ _ rfl
              have M3 := HM2.out.past (show Below w2.heap.size w2 W3 by rw [hW3]; (repeat (first | exact Below.refl _ _ | assumption | (refine Below.setCell ?_ (by first | (simp; done) | (simp; omega) | omega) _) | (refine Below.drew ?_) | (refine below_drewN ?_ _) | (refine Below.alloc ?_ (by first | (simp; done) | (simp; omega) | omega) _) | (refine Below.trans ?_ (Below.mono (by assumption) (by first | (simp; done) | (simp; omega) | omega))))))
              have c3 := M3.cub.c 3 _ rfl
              have cf := M3.cub.f
              have lc := M3.cub.lt
              have v0 := VB.c 0 _ rfl; have v1 := VB.c 1 _ rfl; have v2 := VB.c 2 _ rfl
              have hbs := M3.bel.size
              have lv := VB.lt
              have HM4 := Lib.hid M3
              clear hW3 HM2 HM1 HM3 M3 VB
              go_region_law (refine step_append_lies _ rfl (.tmp 37) (.tmp 38) 23 rfl (w.heap.size + 2) 22 i0 (.float .f32 0) 1 4 Try.underlying23 hi0 hz0 hz1 hz2 rfl (by decide) u (3 * N) (made3L G N) rfl (by first | exact HM4.out.own | exact own_past HM4.out.own (by (repeat (first | exact Below.refl _ _ | assumption | (refine Below.setCell ?_ (by first | (simp; done) | (simp; omega) | omega) _) | (refine Below.drew ?_) | (refine below_drewN ?_ _) | (refine Below.alloc ?_ (by first | (simp; done) | (simp; omega) | omega) _) | (refine Below.trans ?_ (Below.mono (by assumption) (by first | (simp; done) | (simp; omega) | omega))))))) ⟨w2.heap.size, 0, none⟩ 3 3 [.float .f32 (cn .f32 (q 0)), .float .f32 (cn .f32 (q 1)), .float .f32 (cn .f32 (q 2))] rfl rfl (by intro j u hj; match j, hj with | 0, hj => (simp at hj; subst hj; simpa [Addr.add] using v0) | 1, hj => (simp at hj; subst hj; simpa [Addr.add] using v1) | 2, hj => (simp at hj; subst hj; simpa [Addr.add] using v2)) (by intro u hu; simp at hu; rcases hu with rfl | rfl | rfl <;> rfl) (by decide) (by unfold maxLen; omega) (by omega) (by simp; omega) _ rfl ?_; intro g cap w1 hown hgrow hat hlt; obtain ⟨f4w, ffw, MS0⟩ := CubR.app HM4.out (by (repeat (first | exact Below.refl _ _ | assumption | (refine Below.setCell ?_ (by first | (simp; done) | (simp; omega) | omega) _) | (refine Below.drew ?_) | (refine below_drewN ?_ _) | (refine Below.alloc ?_ (by first | (simp; done) | (simp; omega) | omega) _) | (refine Below.trans ?_ (Below.mono (by assumption) (by first | (simp; done) | (simp; omega) | omega)))))) hown q0.out q1.out q2.out hgrow; have MS := Lib.hid MS0; clear MS0 hown hgrow)
              all_goals
                go_wp2_with fail
                go_roundw
                case rel => exact ⟨i + 1, by omega, by go_num, _, by rw [show i + 1 + S * (j + S * k) = N + 1 by have := HN.out.2; omega]; exact MS.out⟩
                case measure => simp [intOf]; omega
            · have hie : i = S := by omega
              subst hie
              go_wp2_with fail
              go_roundw
              case rel => exact ⟨j + 1, by omega, by go_num, u, by rw [show i * (j + 1 + i * k) = i + i * (j + i * k) by rw [show j + 1 + i * k = (j + i * k) + 1 by omega, Nat.mul_add, Nat.mul_one, Nat.add_comm]]; exact HM3.out⟩
              case measure => simp [intOf]; omega
        · have hje : j = S := by omega
          subst hje
          go_wp2_with fail
          go_roundw
          case rel => exact ⟨k + 1, by omega, by go_num, t, by rw [show j * (k + 1) = j + j * k by rw [Nat.mul_add, Nat.mul_one, Nat.add_comm]]; exact HM2.out⟩
          case measure => simp [intOf]; omega
    · have hke : k = S := by omega
      subst hke
      have e0 : k * (k * k) = k * k * k := by rw [Nat.mul_assoc]
      rw [e0] at HM
      have hpos : 0 < k * k * k := Nat.mul_pos (Nat.mul_pos hS0 hS0) hS0
      obtain ⟨g, cap, rfl, hg1, hg2, hg3, hg4⟩ := own_form HM.out.own (by omega)
      have hcells := HM.out.own.cells (g := g) rfl
      have HC := Lib.hid hcells; clear hcells
      have c0 := HM.out.cub.c 0 _ rfl; have c1 := HM.out.cub.c 1 _ rfl; have c2 := HM.out.cub.c 2 _ rfl; have c3 := HM.out.cub.c 3 _ rfl
      have z0 := HM.out.res.c 0 _ rfl; have z1 := HM.out.res.c 1 _ rfl; have z2 := HM.out.res.c 2 _ rfl; have z3 := HM.out.res.c 3 _ rfl
      have zf := HM.out.res.f
      have zl := HM.out.res.lt
      go_wp2_with fail
      refine bodyPost_ret (v := .agg #[.int .i64 k, .float .f32 lo, .float .f32 hi, .slice (some ⟨g, 0, none⟩) (3 * (k * k * k)) cap]) (by simp [results, Try.results21, go_sem, z0, z1, z2, z3]) rfl ⟨g, cap, rfl, by omega, by simp; omega, hg3, hg4, fun x hx => ?_, ?_⟩
      · have := HC.out x (.float .f32 (G (x / 3) (x % 3))) (by simp [made3L, hx])
        rw [Go.WideShapes.add_plain] at this
        rw [Nat.zero_add, ← this]
        simp [go_sem]
      · exact (((HM.out.bel.setCell (by simp) _).setCell (by simp) _).setCell (by simp) _).setCell (by simp) _
end Go.Proofs.Ytmdmjmmplhoniaa

namespace Go.Proofs.Ytmdmjmmplhoniaa
open Go.RowKit
/-- A place's share of its axis. -/
def partF (n S : Nat) : Nat := fop .quo .f32 (floatOfInt .f32 (n : Int)) (floatOfInt .f32 ((S : Int) - 1))
set_option maxHeartbeats 800000 in
theorem part_any (n S : Nat) (w : World) (hS : S ≤ 17) : Calls Try.prog 23 #[.int .i64 n, .int .i64 S] w fun e w' => (∃ r, e = .returned (.float .f32 r) ∧ FR .f32 r (partF n S)) ∧ ∃ m, w' = w.drewN m := by
  have e1 : IntKind.i64.wrap ((S : Int) - 1) = (S : Int) - 1 := by rw [IntKind.wrap_i64]; omega
  go_enter Try.func23, Try.ntmps23
  go_wp2_with (first | ((with_reducible apply wpList_farith); rfl; rfl; rfl; intro _ _ _) | ((with_reducible apply wpList_up); rfl; exact Try.underlying22; exact Try.underlying31; intro _ _ _))
  rename_i r m hr
  go_ret
  refine ⟨⟨r, rfl, ?_⟩, _, rfl⟩
  rw [fop_cn_left, fop_cn_right] at hr
  exact hr
theorem enI_dec {S i j k : Nat} (hi : i < S) (hj : j < S) : enI S i j k % S = i ∧ enI S i j k / S % S = j ∧ enI S i j k / S / S = k := by
  unfold enI
  have h0 : 0 < S := by omega
  have e1 : (i + S * (j + S * k)) / S = j + S * k := by rw [Nat.add_mul_div_left _ _ h0, Nat.div_eq_of_lt hi, Nat.zero_add]
  have e2 : (j + S * k) / S = k := by rw [Nat.add_mul_div_left _ _ h0, Nat.div_eq_of_lt hj, Nat.zero_add]
  refine ⟨by rw [Nat.add_mul_mod_self_left, Nat.mod_eq_of_lt hi], ?_, ?_⟩
  · rw [e1, Nat.add_mul_mod_self_left, Nat.mod_eq_of_lt hj]
  · rw [e1, e2]
/-- The identity's entries. -/
def idG (S e m : Nat) : Nat := match m with
  | 0 => partF (e % S) S
  | 1 => partF (e / S % S) S
  | _ => partF (e / S / S) S
theorem idG_cn (S e m : Nat) : cn .f32 (idG S e m) = idG S e m := by
  unfold idG; split <;> exact cn_fop _ _ _ _
def IdPsi (S : Nat) (args : Array Value) (u : Value) : Prop := ∃ n : Nat, args = #[.int .i64 n, .int .i64 S] ∧ ∃ r, u = .float .f32 r ∧ FR .f32 r (partF n S)
theorem id_psi {S n : Nat} {u : Value} (h : IdPsi S #[.int .i64 n, .int .i64 S] u) : ∃ r, u = .float .f32 r ∧ FR .f32 r (partF n S) := by
  obtain ⟨n', h1, r, rfl, hr⟩ := h
  simp at h1
  obtain rfl : n' = n := by omega
  exact ⟨r, rfl, hr⟩
set_option maxRecDepth 100000 in
set_option maxHeartbeats 1600000 in
theorem Identity_closure (S i j k ps : Nat) (w : World) (hS : S ≤ 17) (hi : i < S) (hj : j < S) (hp : w.cell? ⟨ps, 0, none⟩ = some (.int .i64 S)) :
    Calls Try.prog 22 #[.int .i64 i, .int .i64 j, .int .i64 k, .pointer (some ⟨ps, 0, none⟩)] w fun e w' =>
      (∃ q : Nat → Nat, e = .returned (.agg #[.float .f32 (q 0), .float .f32 (q 1), .float .f32 (q 2)]) ∧ ∀ c, c < 3 → cn .f32 (q c) = idG S (enI S i j k) c) ∧ Below w.heap.size w w' := by
  have HE := Lib.hid (enI_dec (k := k) hi hj)
  have lp := cell_lt hp
  simp only at lp
  have HP := Lib.hid hp
  clear hi hj hp
  go_enter Try.func22, Try.ntmps22
  go_wp2_with fail
  refine wp_world (fun W hW => ?_)
  have B0 : Below w.heap.size w W := by rw [hW]; (repeat (first | exact Below.refl _ _ | assumption | (refine Below.setCell ?_ (by first | (simp; done) | (simp; omega) | omega) _) | (refine Below.drew ?_) | (refine below_drewN ?_ _) | (refine Below.alloc ?_ (by first | (simp; done) | (simp; omega) | omega) _) | (refine Below.trans ?_ (Below.mono (by assumption) (by first | (simp; done) | (simp; omega) | omega)))))
  have R0 : Blk W w.heap.size [.float .f32 0, .float .f32 0, .float .f32 0] := by rw [hW]; exact Blk.new _ _ _ _ rfl
  have g0 := (B0.cell (p := ⟨ps, 0, none⟩) lp).trans HP.out
  have l1 : ps < W.heap.size := by have := B0.size; omega
  have R := Lib.hid R0; have B := Lib.hid B0
  clear hW R0 B0 lp
  refine wp_region_loose 9 (fun _ args u => IdPsi S args u) (by kernel_rfl) (by kernel_rfl) ?_
  simp only [List.take_succ_cons, List.take_zero, List.drop_succ_cons, List.drop_zero]
  iterate 2 (refine loose_wanted rfl (fun K hK => ?_); go_simp; refine hK _ ?_; clear hK K)
  refine loose_wanted rfl (fun K1 hK => ?_)
  go_simp
  refine ⟨fun p => (part_any _ _ p.w hS).mono ?_, ?_⟩
  · rintro e w' ⟨⟨r, rfl, hr⟩, m, rfl⟩
    exact ⟨_, rfl, ⟨_, rfl, r, rfl, hr⟩, below_drewN p.h m⟩
  intro u hu
  obtain ⟨r0, rfl, hr0⟩ := id_psi hu
  refine hK _ ?_
  clear hK K1 hu
  iterate 2 (refine loose_wanted rfl (fun K hK => ?_); go_simp; refine hK _ ?_; clear hK K)
  refine loose_wanted rfl (fun K1 hK => ?_)
  go_simp
  refine ⟨fun p => (part_any _ _ p.w hS).mono ?_, ?_⟩
  · rintro e w' ⟨⟨r, rfl, hr⟩, m, rfl⟩
    exact ⟨_, rfl, ⟨_, rfl, r, rfl, hr⟩, below_drewN p.h m⟩
  intro u hu
  obtain ⟨r1, rfl, hr1⟩ := id_psi hu
  refine hK _ ?_
  clear hK K1 hu
  iterate 2 (refine loose_wanted rfl (fun K hK => ?_); go_simp; refine hK _ ?_; clear hK K)
  refine loose_wanted rfl (fun K1 hK => ?_)
  go_simp
  refine ⟨fun p => (part_any _ _ p.w hS).mono ?_, ?_⟩
  · rintro e w' ⟨⟨r, rfl, hr⟩, m, rfl⟩
    exact ⟨_, rfl, ⟨_, rfl, r, rfl, hr⟩, below_drewN p.h m⟩
  intro u hu
  obtain ⟨r2, rfl, hr2⟩ := id_psi hu
  refine hK _ ?_
  clear hK K1 hu
  refine loose_nil (fun w5 hb5 => ?_)
  have H0 := Lib.hid hr0; have H1 := Lib.hid hr1; have H2 := Lib.hid hr2
  have R5 := R.out.past hb5
  have B5 := B.out.trans (hb5.mono B.out.size)
  clear hb5 g0 l1 hr0 hr1 hr2
  have d0 := R5.c 0 _ rfl; have d1 := R5.c 1 _ rfl; have d2 := R5.c 2 _ rfl; have df := R5.f
  clear R5
  go_wp2_with fail
  refine bodyPost_ret (v := .agg #[.float .f32 r0, .float .f32 r1, .float .f32 r2]) (by simp [results, Try.results22, go_sem, d0, d1, d2]) rfl ⟨⟨fun c => match c with | 0 => r0 | 1 => r1 | _ => r2, rfl, fun c hc => ?_⟩, ?_⟩
  · obtain ⟨e1, e2, e3⟩ := HE.out
    rcases (show c = 0 ∨ c = 1 ∨ c = 2 by omega) with rfl | rfl | rfl
    · show cn .f32 r0 = partF (enI S i j k % S) S; rw [e1]; exact H0.out.eq
    · show cn .f32 r1 = partF (enI S i j k / S % S) S; rw [e2]; exact H1.out.eq
    · show cn .f32 r2 = partF (enI S i j k / S / S) S; rw [e3]; exact H2.out.eq
  · exact ((B5.setCell (by first | (simp; done) | (simp; omega) | omega) _).setCell (by first | (simp; done) | (simp; omega) | omega) _).setCell (by first | (simp; done) | (simp; omega) | omega) _
set_option maxRecDepth 100000 in
set_option maxHeartbeats 1600000 in
theorem Identity_yes (S : Nat) (w : World) (hS : 2 ≤ S ∧ S ≤ 17) : Calls Try.prog 12 #[.int .i64 S] w fun e w' =>
    ∃ g cap : Nat, e = .returned (.tuple #[.agg #[.int .i64 S, .float .f32 0, .float .f32 1065353216, .slice (some ⟨g, 0, none⟩) (3 * (S * S * S)) cap], .int .i64 0]) ∧ w.heap.size ≤ g ∧ g < w'.heap.size ∧ 3 * (S * S * S) ≤ cap ∧ cap ≤ 9223372036854775807 ∧ Row w' g 0 (3 * (S * S * S)) (fun i => idG S (i / 3) (i % 3)) ∧ Below w.heap.size w w' := by
  obtain ⟨s1, s2⟩ := hS
  have HS := Lib.hid (And.intro s1 s2)
  go_enter Try.func12, Try.ntmps12
  go_wp2_with fail
  refine calls_world (fun W hW => ?_)
  have B0 : Below w.heap.size w W := by rw [hW]; (repeat (first | exact Below.refl _ _ | assumption | (refine Below.setCell ?_ (by first | (simp; done) | (simp; omega) | omega) _) | (refine Below.drew ?_) | (refine below_drewN ?_ _) | (refine Below.alloc ?_ (by first | (simp; done) | (simp; omega) | omega) _) | (refine Below.trans ?_ (Below.mono (by assumption) (by first | (simp; done) | (simp; omega) | omega)))))
  have P0 : Blk W w.heap.size [.int .i64 S] := by rw [hW]; exact (Blk.new _ _ _ _ rfl).alloc _
  have Z0 : Blk W (w.heap.size + 1) [.int .i64 0, .float .f32 0, .float .f32 0, .slice none 0 0] := by rw [hW]; exact Blk.new _ _ _ _ (by simp)
  have HP := Lib.hid P0; have HZ := Lib.hid Z0; have HB := Lib.hid B0
  clear hW P0 Z0 B0
  refine (made_any 22 #[.pointer (some ⟨w.heap.size, 0, none⟩)] S 0 1065353216 (idG S) W s2 (by omega) (body_enters Try.func22 (by kernel_rfl) rfl) (fun i j k w' hi hj _ hb => Identity_closure S i j k w.heap.size w' HS.out.2 hi hj ((HP.out.past hb).c 0 _ rfl))).mono ?_
  rintro e w3 ⟨g, cap, rfl, hg1, hg2, hg3, hg4, hrow, hb3⟩
  have Z3 := HZ.out.past hb3
  have B3 := HB.out.trans (hb3.mono HB.out.size)
  have HR := Lib.hid (And.intro hg3 (And.intro hg4 hrow))
  have hsz := HB.out.size
  clear hb3 hrow hg3 hg4
  have z0 := Z3.c 0 _ rfl; have z1 := Z3.c 1 _ rfl; have z2 := Z3.c 2 _ rfl; have z3 := Z3.c 3 _ rfl; have zf := Z3.f
  have lz := HZ.out.lt
  clear Z3
  go_wp2_with fail
  refine bodyPost_ret (v := .tuple #[.agg #[.int .i64 S, .float .f32 0, .float .f32 1065353216, .slice (some ⟨g, 0, none⟩) (3 * (S * S * S)) cap], .int .i64 0]) (by simp [results, Try.results12, go_sem, z0, z1, z2, z3]) rfl ⟨g, cap, rfl, by omega, by simp; omega, HR.out.1, HR.out.2.1, fun i hi => ?_, ?_⟩
  · rw [← HR.out.2.2 i hi]
    simp [go_sem]
  · exact (((B3.setCell (by first | (simp; done) | (simp; omega) | omega) _).setCell (by first | (simp; done) | (simp; omega) | omega) _).setCell (by first | (simp; done) | (simp; omega) | omega) _).setCell (by first | (simp; done) | (simp; omega) | omega) _
theorem idG_one : idG 2 1 0 = 1065353216 := by decide +kernel
theorem id_row3 {w : World} {g : Nat} (h : Row w g 0 (3 * (2 * 2 * 2)) (fun i => idG 2 (i / 3) (i % 3))) : w.cell? ⟨g, 3, none⟩ = some (.float .f32 1065353216) := by
  have := h 3 (by decide)
  rw [← idG_one]
  exact this
set_option maxRecDepth 100000 in
set_option maxHeartbeats 1600000 in
theorem cubes_any (w : World) : Calls Try.prog 4 #[] w fun e w' => e = .returned (.bool true) ∧ Below w.heap.size w w' := by
  have h1 : (FloatKind.f32.format.order 1065353216 1065353216 == some .eq) = true := by decide +kernel
  go_enter Try.func4, Try.ntmps4
  go_wp2_with (first | (go_at_call 12; refine (Identity_yes 2 _ (by decide)).mono ?_; rintro e w2 ⟨g, cap, rfl, hg1, hg2, hg3, hg4, hrow, hb2⟩; have c3 := id_row3 hrow; have hs2 := hb2.size; clear hrow))
  go_ret
  refine ⟨rfl, ?_⟩
  (repeat (first | exact Below.refl _ _ | assumption | (refine Below.setCell ?_ (by first | (simp; done) | (simp; omega) | omega) _) | (refine Below.drew ?_) | (refine below_drewN ?_ _) | (refine Below.alloc ?_ (by first | (simp; done) | (simp; omega) | omega) _) | (refine Below.trans ?_ (Below.mono (by assumption) (by first | (simp; done) | (simp; omega) | omega)))))
end Go.Proofs.Ytmdmjmmplhoniaa
