/- What is wrong with a cube: cube.Check, dyeref2.CubeError; no cube. No condition. (with: CuB, CuC, CuE) -/
import Derived.Test.YthlomgbchmhjiaaGreatDoorBG
namespace Go.Proofs.YthlomgbchmhjiaaGreatDoor
open Go.RowKit
def cubFar (lo hi : Nat) : Bool := (FloatKind.f32.format.order lo 1233125376 == some .gt) || (FloatKind.f32.format.order lo 3380609024 == some .lt) || (FloatKind.f32.format.order hi 1233125376 == some .gt) || (FloatKind.f32.format.order hi 3380609024 == some .lt)
/-- The error of a cube. -/
def cubErr (size : Int) (lo hi n : Nat) : Int :=
  if inB size 2 17 then (if (n : Int) = 3 * size * size * size then (if allNum [lo, hi] then (if FloatKind.f32.format.order hi lo == some .gt then (if cubFar lo hi then 3 else 0) else 8) else 2) else 2) else 3
theorem cub_bd {size : Int} (h : 2 ≤ size ∧ size ≤ 17) : 8 ≤ size * size * size ∧ size * size * size ≤ 4913 ∧ 3 * size * size * size = 3 * (size * size * size) ∧ 4 ≤ size * size ∧ size * size ≤ 289 := by
  obtain ⟨S, rfl⟩ : ∃ S : Nat, size = S := ⟨size.toNat, by omega⟩
  have h1 : 2 ≤ S := by omega
  have h2 : S ≤ 17 := by omega
  have a1 : 2 * 2 ≤ S * S := Nat.mul_le_mul h1 h1
  have a2 : S * S ≤ 17 * 17 := Nat.mul_le_mul h2 h2
  have a3 : 2 * 2 * 2 ≤ S * S * S := Nat.mul_le_mul a1 h1
  have a4 : S * S * S ≤ 17 * 17 * 17 := Nat.mul_le_mul a2 h2
  refine ⟨?_, ?_, by rw [Int.mul_assoc 3, Int.mul_assoc 3], ?_, ?_⟩ <;> (simp only [← Int.natCast_mul]; omega)
theorem cubErr_ok {size : Int} {lo hi n : Nat} (h : cubErr size lo hi n = 0) : (2 ≤ size ∧ size ≤ 17) ∧ (n : Int) = 3 * size * size * size ∧ allNum [lo, hi] = true ∧ (FloatKind.f32.format.order hi lo == some .gt) = true ∧ cubFar lo hi = false := by
  unfold cubErr at h
  by_cases h1 : inB size 2 17 = true
  · rw [if_pos h1] at h
    by_cases h2 : (n : Int) = 3 * size * size * size
    · rw [if_pos h2] at h
      cases h3 : allNum [lo, hi]
      · rw [h3] at h; cases h
      · rw [h3, if_pos rfl] at h
        cases h4 : (FloatKind.f32.format.order hi lo == some .gt)
        · rw [h4] at h; cases h
        · rw [h4, if_pos rfl] at h
          cases h5 : cubFar lo hi
          · exact ⟨inB_iff.1 h1, h2, rfl, rfl, rfl⟩
          · rw [h5] at h; cases h
    · rw [if_neg h2] at h; cases h
  · rw [if_neg h1] at h; cases h
theorem wrap_cub {size : Int} (h : 2 ≤ size ∧ size ≤ 17) : IntKind.i64.wrap (3 * size) = 3 * size ∧ IntKind.i64.wrap (3 * size * size) = 3 * size * size ∧ IntKind.i64.wrap (3 * size * size * size) = 3 * size * size * size := by
  obtain ⟨a1, a2, a3, a4, a5⟩ := cub_bd h
  have e : 3 * size * size = 3 * (size * size) := by rw [Int.mul_assoc]
  rw [a3, e]
  refine ⟨?_, ?_, ?_⟩ <;> (rw [IntKind.wrap_i64]; omega)
set_option maxRecDepth 100000 in
set_option maxHeartbeats 3200000 in
theorem CuCheck_any (size : Int) (lo hi : Nat) (a : Option Addr) (n cap : Nat) (w : World) : Calls Tryz.prog 4 #[.agg #[.int .i64 size, .float .f32 lo, .float .f32 hi, .slice a n cap]] w fun e w' => e = .returned (.int .i64 (cubErr size lo hi n)) ∧ Below w.heap.size w w' := by
  by_cases hs : 2 ≤ size ∧ size ≤ 17
  · have hi' := Lib.hid (inB_t hs)
    obtain ⟨u1, u2, u3⟩ := wrap_cub hs
    obtain ⟨s1, s2⟩ := hs
    by_cases hn : (n : Int) = 3 * size * size * size
    · have hne : ((n : Int) != 3 * size * size * size) = false := by simpa using hn
      have hn' := Lib.hid hn; clear hn
      cases hA : allNum [lo, hi]
      case false =>
        have hE : cubErr size lo hi n = 2 := by unfold cubErr; rw [hi'.out, if_pos rfl, if_pos hn'.out, hA]; rfl
        rw [hE]; clear hE
        go_enter Tryz.func4, Tryz.ntmps4
        go_wp2_with (first | (go_at_call 9; refine (All2_any _ _ _ lo hi _ (by simp [go_sem]) (by simp [go_sem])).mono ?_; rintro e w' ⟨rfl, rfl⟩; rw [hA]))
        go_ret
        refine ⟨rfl, ?_⟩
        (repeat (first | exact Below.refl _ _ | assumption | (refine Below.setCell ?_ (by first | (simp; done) | (simp; omega) | omega) _) | (refine Below.drew ?_) | (refine below_drewN ?_ _) | (refine Below.alloc ?_ (by first | (simp; done) | (simp; omega) | omega) _) | (refine Below.trans ?_ (Below.mono (by assumption) (by first | (simp; done) | (simp; omega) | omega)))))
      case true =>
        cases hO : (FloatKind.f32.format.order hi lo == some .gt)
        case false =>
          have hE : cubErr size lo hi n = 8 := by unfold cubErr; rw [hi'.out, if_pos rfl, if_pos hn'.out, hA, if_pos rfl, hO]; rfl
          rw [hE]; clear hE
          go_enter Tryz.func4, Tryz.ntmps4
          go_wp2_with (first | (go_at_call 9; refine (All2_any _ _ _ lo hi _ (by simp [go_sem]) (by simp [go_sem])).mono ?_; rintro e w' ⟨rfl, rfl⟩; rw [hA]))
          go_ret
          refine ⟨rfl, ?_⟩
          (repeat (first | exact Below.refl _ _ | assumption | (refine Below.setCell ?_ (by first | (simp; done) | (simp; omega) | omega) _) | (refine Below.drew ?_) | (refine below_drewN ?_ _) | (refine Below.alloc ?_ (by first | (simp; done) | (simp; omega) | omega) _) | (refine Below.trans ?_ (Below.mono (by assumption) (by first | (simp; done) | (simp; omega) | omega)))))
        case true =>
          have hE : cubErr size lo hi n = if cubFar lo hi then 3 else 0 := by unfold cubErr; rw [hi'.out, if_pos rfl, if_pos hn'.out, hA, if_pos rfl, hO, if_pos rfl]
          rw [hE]; clear hE
          unfold cubFar
          cases h1 : (FloatKind.f32.format.order lo 1233125376 == some .gt) <;> cases h2 : (FloatKind.f32.format.order lo 3380609024 == some .lt) <;> cases h3 : (FloatKind.f32.format.order hi 1233125376 == some .gt) <;> cases h4 : (FloatKind.f32.format.order hi 3380609024 == some .lt)
          all_goals
            simp only [Bool.or_self, Bool.or_true, Bool.or_false, Bool.false_eq_true, if_false, if_true]
            go_enter Tryz.func4, Tryz.ntmps4
            go_wp2_with (first | (go_at_call 9; refine (All2_any _ _ _ lo hi _ (by simp [go_sem]) (by simp [go_sem])).mono ?_; rintro e w' ⟨rfl, rfl⟩; rw [hA]))
            go_ret
            refine ⟨rfl, ?_⟩
            (repeat (first | exact Below.refl _ _ | assumption | (refine Below.setCell ?_ (by first | (simp; done) | (simp; omega) | omega) _) | (refine Below.drew ?_) | (refine below_drewN ?_ _) | (refine Below.alloc ?_ (by first | (simp; done) | (simp; omega) | omega) _) | (refine Below.trans ?_ (Below.mono (by assumption) (by first | (simp; done) | (simp; omega) | omega)))))
    · have hne : ((n : Int) != 3 * size * size * size) = true := by simpa using hn
      have hE : cubErr size lo hi n = 2 := by unfold cubErr; rw [hi'.out, if_pos rfl, if_neg hn]
      rw [hE]; clear hE hn
      go_enter Tryz.func4, Tryz.ntmps4
      go_wp2_with fail
      go_ret
      refine ⟨rfl, ?_⟩
      (repeat (first | exact Below.refl _ _ | assumption | (refine Below.setCell ?_ (by first | (simp; done) | (simp; omega) | omega) _) | (refine Below.drew ?_) | (refine below_drewN ?_ _) | (refine Below.alloc ?_ (by first | (simp; done) | (simp; omega) | omega) _) | (refine Below.trans ?_ (Below.mono (by assumption) (by first | (simp; done) | (simp; omega) | omega)))))
  · have hi' : inB size 2 17 = false := inB_f (by omega)
    have hE : cubErr size lo hi n = 3 := by unfold cubErr; rw [hi']; rfl
    rw [hE]
    clear hi' hE
    by_cases h1 : size < 2
    · go_enter Tryz.func4, Tryz.ntmps4
      go_wp2_with fail
      go_ret
      refine ⟨rfl, ?_⟩
      (repeat (first | exact Below.refl _ _ | assumption | (refine Below.setCell ?_ (by first | (simp; done) | (simp; omega) | omega) _) | (refine Below.drew ?_) | (refine below_drewN ?_ _) | (refine Below.alloc ?_ (by first | (simp; done) | (simp; omega) | omega) _) | (refine Below.trans ?_ (Below.mono (by assumption) (by first | (simp; done) | (simp; omega) | omega)))))
    · have h2 : 17 < size := by omega
      go_enter Tryz.func4, Tryz.ntmps4
      go_wp2_with fail
      go_ret
      refine ⟨rfl, ?_⟩
      (repeat (first | exact Below.refl _ _ | assumption | (refine Below.setCell ?_ (by first | (simp; done) | (simp; omega) | omega) _) | (refine Below.drew ?_) | (refine below_drewN ?_ _) | (refine Below.alloc ?_ (by first | (simp; done) | (simp; omega) | omega) _) | (refine Below.trans ?_ (Below.mono (by assumption) (by first | (simp; done) | (simp; omega) | omega)))))
set_option maxRecDepth 100000 in
set_option maxHeartbeats 3200000 in
theorem CubeError_any (size : Int) (lo hi : Nat) (a : Option Addr) (n cap : Nat) (w : World) : Calls Tryz.prog 5 #[.agg #[.int .i64 size, .float .f32 lo, .float .f32 hi, .slice a n cap]] w fun e w' => e = .returned (.int .i64 (cubErr size lo hi n)) ∧ Below w.heap.size w w' := by
  cases hi' : inB size 2 17
  case true =>
    have hs := inB_iff.1 hi'
    obtain ⟨u1, u2, u3⟩ := wrap_cub hs
    have HI := Lib.hid hi'
    clear hs
    by_cases hn : (n : Int) = 3 * size * size * size
    · have hne : ((n : Int) != 3 * size * size * size) = false := by simpa using hn
      have hn' := Lib.hid hn; clear hn
      have hAe : allNum [lo, hi] = (isNum .f32 lo && isNum .f32 hi) := by simp [allNum]
      cases k1 : isNum .f32 lo
      case false =>
        have hE : cubErr size lo hi n = 2 := by unfold cubErr; rw [HI.out, if_pos rfl, if_pos hn'.out, hAe, k1]; rfl
        rw [hE]; clear hE hAe
        go_enter Tryz.func5, Tryz.ntmps5
        go_wp2_with (first | ((go_at_call 10; refine (In_any _ _ _ _).mono ?_; rintro e w' ⟨rfl, rfl⟩); rw [HI.out]) | (go_at_call 11; refine (IsNumberR_any _ _).mono ?_; rintro e w' ⟨rfl, m, rfl⟩))
        go_ret
        refine ⟨rfl, ?_⟩
        (repeat (first | exact Below.refl _ _ | assumption | (refine Below.setCell ?_ (by first | (simp; done) | (simp; omega) | omega) _) | (refine Below.drew ?_) | (refine below_drewN ?_ _) | (refine Below.alloc ?_ (by first | (simp; done) | (simp; omega) | omega) _) | (refine Below.trans ?_ (Below.mono (by assumption) (by first | (simp; done) | (simp; omega) | omega)))))
      case true =>
       cases k2 : isNum .f32 hi
       case false =>
        have hE : cubErr size lo hi n = 2 := by unfold cubErr; rw [HI.out, if_pos rfl, if_pos hn'.out, hAe, k1, k2]; rfl
        rw [hE]; clear hE hAe
        go_enter Tryz.func5, Tryz.ntmps5
        go_wp2_with (first | ((go_at_call 10; refine (In_any _ _ _ _).mono ?_; rintro e w' ⟨rfl, rfl⟩); rw [HI.out]) | (go_at_call 11; refine (IsNumberR_any _ _).mono ?_; rintro e w' ⟨rfl, m, rfl⟩))
        go_ret
        refine ⟨rfl, ?_⟩
        (repeat (first | exact Below.refl _ _ | assumption | (refine Below.setCell ?_ (by first | (simp; done) | (simp; omega) | omega) _) | (refine Below.drew ?_) | (refine below_drewN ?_ _) | (refine Below.alloc ?_ (by first | (simp; done) | (simp; omega) | omega) _) | (refine Below.trans ?_ (Below.mono (by assumption) (by first | (simp; done) | (simp; omega) | omega)))))
       case true =>
        have hA : allNum [lo, hi] = true := by rw [hAe, k1, k2]; rfl
        clear hAe
        have HA := Lib.hid hA; clear hA
        cases hO : (FloatKind.f32.format.order hi lo == some .gt)
        case false =>
          have hE : cubErr size lo hi n = 8 := by unfold cubErr; rw [HI.out, if_pos rfl, if_pos hn'.out, HA.out, if_pos rfl, hO]; rfl
          rw [hE]; clear hE
          go_enter Tryz.func5, Tryz.ntmps5
          go_wp2_with (first | ((go_at_call 10; refine (In_any _ _ _ _).mono ?_; rintro e w' ⟨rfl, rfl⟩); rw [HI.out]) | (go_at_call 11; refine (IsNumberR_any _ _).mono ?_; rintro e w' ⟨rfl, m, rfl⟩))
          go_ret
          refine ⟨rfl, ?_⟩
          (repeat (first | exact Below.refl _ _ | assumption | (refine Below.setCell ?_ (by first | (simp; done) | (simp; omega) | omega) _) | (refine Below.drew ?_) | (refine below_drewN ?_ _) | (refine Below.alloc ?_ (by first | (simp; done) | (simp; omega) | omega) _) | (refine Below.trans ?_ (Below.mono (by assumption) (by first | (simp; done) | (simp; omega) | omega)))))
        case true =>
          have hE : cubErr size lo hi n = if cubFar lo hi then 3 else 0 := by unfold cubErr; rw [HI.out, if_pos rfl, if_pos hn'.out, HA.out, if_pos rfl, hO, if_pos rfl]
          rw [hE]; clear hE
          unfold cubFar
          cases h1 : (FloatKind.f32.format.order lo 1233125376 == some .gt) <;> cases h2 : (FloatKind.f32.format.order lo 3380609024 == some .lt) <;> cases h3 : (FloatKind.f32.format.order hi 1233125376 == some .gt) <;> cases h4 : (FloatKind.f32.format.order hi 3380609024 == some .lt)
          all_goals
            simp only [Bool.or_self, Bool.or_true, Bool.or_false, Bool.false_eq_true, if_false, if_true]
            go_enter Tryz.func5, Tryz.ntmps5
            go_wp2_with (first | ((go_at_call 10; refine (In_any _ _ _ _).mono ?_; rintro e w' ⟨rfl, rfl⟩); rw [HI.out]) | (go_at_call 11; refine (IsNumberR_any _ _).mono ?_; rintro e w' ⟨rfl, m, rfl⟩))
            go_ret
            refine ⟨rfl, ?_⟩
            (repeat (first | exact Below.refl _ _ | assumption | (refine Below.setCell ?_ (by first | (simp; done) | (simp; omega) | omega) _) | (refine Below.drew ?_) | (refine below_drewN ?_ _) | (refine Below.alloc ?_ (by first | (simp; done) | (simp; omega) | omega) _) | (refine Below.trans ?_ (Below.mono (by assumption) (by first | (simp; done) | (simp; omega) | omega)))))
    · have hne : ((n : Int) != 3 * size * size * size) = true := by simpa using hn
      have hE : cubErr size lo hi n = 2 := by unfold cubErr; rw [HI.out, if_pos rfl, if_neg hn]
      rw [hE]; clear hE hn
      go_enter Tryz.func5, Tryz.ntmps5
      go_wp2_with (first | ((go_at_call 10; refine (In_any _ _ _ _).mono ?_; rintro e w' ⟨rfl, rfl⟩); rw [HI.out]))
      go_ret
      refine ⟨rfl, ?_⟩
      (repeat (first | exact Below.refl _ _ | assumption | (refine Below.setCell ?_ (by first | (simp; done) | (simp; omega) | omega) _) | (refine Below.drew ?_) | (refine below_drewN ?_ _) | (refine Below.alloc ?_ (by first | (simp; done) | (simp; omega) | omega) _) | (refine Below.trans ?_ (Below.mono (by assumption) (by first | (simp; done) | (simp; omega) | omega)))))
  case false =>
    have hE : cubErr size lo hi n = 3 := by unfold cubErr; rw [hi']; rfl
    rw [hE]
    clear hE
    go_enter Tryz.func5, Tryz.ntmps5
    go_wp2_with (first | ((go_at_call 10; refine (In_any _ _ _ _).mono ?_; rintro e w' ⟨rfl, rfl⟩); rw [hi']))
    go_ret
    refine ⟨rfl, ?_⟩
    (repeat (first | exact Below.refl _ _ | assumption | (refine Below.setCell ?_ (by first | (simp; done) | (simp; omega) | omega) _) | (refine Below.drew ?_) | (refine below_drewN ?_ _) | (refine Below.alloc ?_ (by first | (simp; done) | (simp; omega) | omega) _) | (refine Below.trans ?_ (Below.mono (by assumption) (by first | (simp; done) | (simp; omega) | omega)))))
/-- No cube. -/
def noCubeB (size : Int) (lo hi n : Nat) : Bool := decide (size = 0) && (FloatKind.f32.format.order lo 0 == some .eq) && (FloatKind.f32.format.order hi 0 == some .eq) && decide (n = 0)
end Go.Proofs.YthlomgbchmhjiaaGreatDoor

namespace Go.Proofs.YthlomgbchmhjiaaGreatDoor
open Go.RowKit
/-- The number of an entry. -/
def enI (S i j k : Nat) : Nat := i + S * (j + S * k)
theorem enI_lt {S i j k : Nat} (hi : i < S) (hj : j < S) (hk : k < S) : enI S i j k < S * S * S := by
  unfold enI
  have h1 : S * k + S ≤ S * S := by have := Nat.mul_le_mul_left S (show k + 1 ≤ S by omega); rwa [Nat.mul_add, Nat.mul_one] at this
  have h2 : S * (j + S * k) + S ≤ S * (S * S) := by have := Nat.mul_le_mul_left S (show j + S * k + 1 ≤ S * S by omega); rwa [Nat.mul_add _ _ 1, Nat.mul_one] at this
  rw [Nat.mul_assoc]; omega
theorem cub_nat {S : Nat} (h : S ≤ 17) : S * S ≤ 289 ∧ S * S * S ≤ 4913 := by
  have a2 : S * S ≤ 17 * 17 := Nat.mul_le_mul h h
  exact ⟨by omega, by have := Nat.mul_le_mul a2 h; omega⟩
theorem en_wraps {S i j k : Nat} (hS : S ≤ 17) (hi : i < S) (hj : j < S) (hk : k < S) :
    ∃ A B C D E : Nat, IntKind.i64.wrap ((S : Int) * (k : Int)) = (A : Int) ∧ IntKind.i64.wrap ((j : Int) + (A : Int)) = (B : Int) ∧ IntKind.i64.wrap ((S : Int) * (B : Int)) = (C : Int) ∧ IntKind.i64.wrap ((i : Int) + (C : Int)) = (D : Int) ∧ IntKind.i64.wrap (3 * (D : Int)) = (E : Int) ∧ E = 3 * enI S i j k ∧ E + 3 ≤ 3 * (S * S * S) ∧ E + 3 ≤ 14739 := by
  obtain ⟨b1, b2⟩ := cub_nat hS
  have h := enI_lt hi hj hk
  have h1 : S * k ≤ S * S := Nat.mul_le_mul_left S (by omega)
  have h2 : S * (j + S * k) ≤ S * S * S + S := by unfold enI at h; omega
  refine ⟨S * k, j + S * k, S * (j + S * k), i + S * (j + S * k), 3 * enI S i j k, ?_, ?_, ?_, ?_, ?_, rfl, by omega, by omega⟩
  · rw [← Int.natCast_mul, IntKind.wrap_i64]; omega
  · rw [← Int.natCast_add, IntKind.wrap_i64]; omega
  · rw [← Int.natCast_mul, IntKind.wrap_i64]; omega
  · rw [← Int.natCast_add, IntKind.wrap_i64]; omega
  · unfold enI at *; rw [IntKind.wrap_i64]; omega
def tri (q : Nat → Nat) : Value := .agg #[.float .f32 (q 0), .float .f32 (q 1), .float .f32 (q 2)]
theorem array3_at (b o c : Nat) (w : World) : (Instr.arrayAt 50 (.slice (some ⟨b, o, none⟩) 3 c)).run Tryz.prog w = .ok (.pointer (some ⟨b, o, none⟩)) w := by kernel_rfl
theorem cub_ok_nat {S : Nat} {lo hi n : Nat} (he : cubErr S lo hi n = 0) : S ≤ 17 ∧ 2 ≤ S ∧ n = 3 * (S * S * S) ∧ 8 ≤ S * S * S ∧ n ≤ 14739 := by
  obtain ⟨⟨s1, s2⟩, hn', -⟩ := cubErr_ok he
  have hS : S ≤ 17 := by omega
  have hn : n = 3 * (S * S * S) := by
    have := (cub_bd (size := (S : Int)) ⟨by omega, by omega⟩).2.2.1
    rw [this] at hn'; simp only [← Int.natCast_mul] at hn'; omega
  have hpos : 8 ≤ S * S * S := by
    have := (cub_bd (size := (S : Int)) ⟨by omega, by omega⟩).1
    simp only [← Int.natCast_mul] at this; omega
  have := (cub_nat hS).2
  exact ⟨hS, by omega, hn, hpos, by omega⟩
end Go.Proofs.YthlomgbchmhjiaaGreatDoor

namespace Go.Proofs.YthlomgbchmhjiaaGreatDoor
open Go.RowKit
theorem own_form {w : World} {base : Nat} {e : TypeId} {size : Nat} {v : Value} {n : Nat} {xs : List Value} (h : w.ownsRow base e size v n xs) (hn : 0 < n) : ∃ g cap, v = .slice (some ⟨g, 0, none⟩) n cap ∧ base ≤ g ∧ g < w.heap.size ∧ n ≤ cap ∧ cap ≤ 9223372036854775807 := by
  rcases h.2 with ⟨-, h0⟩ | ⟨g, cap, cur, h1, h2, h3, h4, h5, -⟩
  · omega
  · refine ⟨g, cap, h1, h2, ?_, h4, by unfold maxLen at h5; omega⟩
    rcases Nat.lt_or_ge g w.heap.size with h' | h'
    · exact h'
    · rw [Array.getElem?_eq_none h'] at h3; cases h3
/-- What a maker of entries gives within the size. -/
def EntOK (K : Nat) (caps : Array Value) (w : World) (S : Nat) (G : Nat → Nat → Nat) : Prop :=
  ∀ (i j k : Nat) w', i < S → j < S → k < S → Below w.heap.size w w' → Calls Tryz.prog K (#[.int .i64 i, .int .i64 j, .int .i64 k] ++ caps) w' fun e w'' =>
    (∃ q : Nat → Nat, e = .returned (.agg #[.float .f32 (q 0), .float .f32 (q 1), .float .f32 (q 2)]) ∧ ∀ c, c < 3 → cn .f32 (q c) = G (enI S i j k) c) ∧ Below w'.heap.size w' w''
def made3L (G : Nat → Nat → Nat) (N : Nat) : List Value := (List.range (3 * N)).map fun j => .float .f32 (G (j / 3) (j % 3))
theorem made3_succ (G : Nat → Nat → Nat) (N : Nat) : made3L G (N + 1) = made3L G N ++ [.float .f32 (G N 0), .float .f32 (G N 1), .float .f32 (G N 2)] := by
  unfold made3L
  rw [show 3 * (N + 1) = 3 * N + 1 + 1 + 1 by omega, List.range_succ, List.range_succ, List.range_succ]
  simp only [List.map_append, List.map_cons, List.map_nil, List.append_assoc, List.cons_append, List.nil_append]
  rw [show 3 * N / 3 = N by omega, show 3 * N % 3 = 0 by omega, show (3 * N + 1) / 3 = N by omega, show (3 * N + 1) % 3 = 1 by omega, show (3 * N + 1 + 1) / 3 = N by omega, show (3 * N + 1 + 1) % 3 = 2 by omega]
/-- What stands behind N entries: the cube's variable at nc, the result's at nr. -/
structure CubR (w wr : World) (nr nc base : Nat) (S lo hi : Nat) (G : Nat → Nat → Nat) (N : Nat) (s : Value) : Prop where
  cub : Blk wr nc [.int .i64 S, .float .f32 lo, .float .f32 hi, s]
  own : wr.ownsRow base 27 1 s (3 * N) (made3L G N)
  res : Blk wr nr [.int .i64 0, .float .f32 0, .float .f32 0, .slice none 0 0]
  bel : Below w.heap.size w wr
  lay : w.heap.size ≤ nr ∧ w.heap.size ≤ nc ∧ nr < base ∧ nc < base ∧ nr ≠ nc
theorem CubR.past {w wr w2 : World} {nr nc base S lo hi : Nat} {G : Nat → Nat → Nat} {N : Nat} {s : Value} (k : CubR w wr nr nc base S lo hi G N s) (hb : Below wr.heap.size wr w2) : CubR w w2 nr nc base S lo hi G N s :=
  ⟨k.cub.past hb, own_past k.own hb, k.res.past hb, k.bel.trans (hb.mono k.bel.size), k.lay⟩
theorem CubR.step {w wa w1 : World} {nr nc base S lo hi : Nat} {G : Nat → Nat → Nat} {N : Nat} {s s' : Value} (k : CubR w wa nr nc base S lo hi G N s) (hown : w1.ownsRow base 27 1 s' (3 * N + 3) (made3L G N ++ [.float .f32 (G N 0), .float .f32 (G N 1), .float .f32 (G N 2)])) (hg : wa.grownBy w1 s.ownBlock) :
    CubR w (w1.setCell ⟨nc, 3, none⟩ s') nr nc base S lo hi G (N + 1) s' := by
  obtain ⟨l1, l2, l3, l4, l5⟩ := k.lay
  have fc := hg.block _ k.cub.lt (own_block k.own l4)
  have fr := hg.block _ k.res.lt (own_block k.own l3)
  refine ⟨(k.cub.block hg.size fc).set 3 s', ?_, (k.res.block hg.size fr).far _ _ (Ne.symm l5), ?_, k.lay⟩
  · rw [made3_succ]; exact own_far hown _ _ l4
  · refine (k.bel.grown hg (by have := k.cub.lt; omega) (fun j hj => ?_)).setCell l2 _
    have := k.own.lt j hj
    omega
theorem CubR.app {w wr wa w1 : World} {nr nc base S lo hi : Nat} {G : Nat → Nat → Nat} {N : Nat} {s s' : Value} {v0 v1 v2 : Nat} (k0 : CubR w wr nr nc base S lo hi G N s) (hb : Below wr.heap.size wr wa) (hown : w1.ownsRow base 27 1 s' (3 * N + 3) (made3L G N ++ [.float .f32 v0, .float .f32 v1, .float .f32 v2])) (h0 : v0 = G N 0) (h1 : v1 = G N 1) (h2 : v2 = G N 2) (hg : wa.grownBy w1 s.ownBlock) :
    w1.cell? ⟨nc, 3, none⟩ = some s ∧ w1.frozen? ⟨nc, 3, none⟩ = false ∧ CubR w (w1.setCell ⟨nc, 3, none⟩ s') nr nc base S lo hi G (N + 1) s' := by
  have k := k0.past hb
  obtain ⟨l1, l2, l3, l4, l5⟩ := k.lay
  have blk := hg.block nc k.cub.lt (own_block k.own l4)
  exact ⟨(World.cell?_of_block blk).trans (k.cub.c 3 _ rfl), (World.frozen?_of_block blk).trans (k.cub.f _), k.step (by subst h0 h1 h2; exact hown) hg⟩
end Go.Proofs.YthlomgbchmhjiaaGreatDoor

namespace Go.Proofs.YthlomgbchmhjiaaGreatDoor
open Go.RowKit
/-- A place's share of its axis. -/
def partF (n S : Nat) : Nat := fop .quo .f32 (floatOfInt .f32 (n : Int)) (floatOfInt .f32 ((S : Int) - 1))
theorem enI_dec {S i j k : Nat} (hi : i < S) (hj : j < S) : enI S i j k % S = i ∧ enI S i j k / S % S = j ∧ enI S i j k / S / S = k := by
  unfold enI
  have h0 : 0 < S := by omega
  have e1 : (i + S * (j + S * k)) / S = j + S * k := by rw [Nat.add_mul_div_left _ _ h0, Nat.div_eq_of_lt hi, Nat.zero_add]
  have e2 : (j + S * k) / S = k := by rw [Nat.add_mul_div_left _ _ h0, Nat.div_eq_of_lt hj, Nat.zero_add]
  refine ⟨by rw [Nat.add_mul_mod_self_left, Nat.mod_eq_of_lt hi], ?_, ?_⟩
  · rw [e1, Nat.add_mul_mod_self_left, Nat.mod_eq_of_lt hj]
  · rw [e1, e2]
/-- The identity's entries. -/
def idG (S e m : Nat) : Nat := match m with
  | 0 => partF (e % S) S
  | 1 => partF (e / S % S) S
  | _ => partF (e / S / S) S
theorem idG_cn (S e m : Nat) : cn .f32 (idG S e m) = idG S e m := by
  unfold idG; split <;> exact cn_fop _ _ _ _
def IdPsi (S : Nat) (args : Array Value) (u : Value) : Prop := ∃ n : Nat, args = #[.int .i64 n, .int .i64 S] ∧ ∃ r, u = .float .f32 r ∧ FR .f32 r (partF n S)
theorem id_psi {S n : Nat} {u : Value} (h : IdPsi S #[.int .i64 n, .int .i64 S] u) : ∃ r, u = .float .f32 r ∧ FR .f32 r (partF n S) := by
  obtain ⟨n', h1, r, rfl, hr⟩ := h
  simp at h1
  obtain rfl : n' = n := by omega
  exact ⟨r, rfl, hr⟩
theorem idG_one : idG 2 1 0 = 1065353216 := by decide +kernel
theorem id_row3 {w : World} {g : Nat} (h : Row w g 0 (3 * (2 * 2 * 2)) (fun i => idG 2 (i / 3) (i % 3))) : w.cell? ⟨g, 3, none⟩ = some (.float .f32 1065353216) := by
  have := h 3 (by decide)
  rw [← idG_one]
  exact this
end Go.Proofs.YthlomgbchmhjiaaGreatDoor
