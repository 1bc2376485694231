/- What is wrong with a cube: cube.Check, dyeref2.CubeError; no cube. No condition. -/
import Derived.Test.YtalgepfammpmbaaKit
import Derived.Test.YtalgepfammpmbaaFrF
namespace Go.Proofs.Ytalgepfammpmbaa
open Go.RowKit
def cubFar (lo hi : Nat) : Bool := (FloatKind.f32.format.order lo 1233125376 == some .gt) || (FloatKind.f32.format.order lo 3380609024 == some .lt) || (FloatKind.f32.format.order hi 1233125376 == some .gt) || (FloatKind.f32.format.order hi 3380609024 == some .lt)
/-- The error of a cube. -/
def cubErr (size : Int) (lo hi n : Nat) : Int :=
  if inB size 2 17 then (if (n : Int) = 3 * size * size * size then (if allNum [lo, hi] then (if FloatKind.f32.format.order hi lo == some .gt then (if cubFar lo hi then 3 else 0) else 8) else 2) else 2) else 3
theorem cub_bd {size : Int} (h : 2 ≤ size ∧ size ≤ 17) : 8 ≤ size * size * size ∧ size * size * size ≤ 4913 ∧ 3 * size * size * size = 3 * (size * size * size) ∧ 4 ≤ size * size ∧ size * size ≤ 289 := by
  obtain ⟨S, rfl⟩ : ∃ S : Nat, size = S := ⟨size.toNat, by omega⟩
  have h1 : 2 ≤ S := by omega
  have h2 : S ≤ 17 := by omega
  have a1 : 2 * 2 ≤ S * S := Nat.mul_le_mul h1 h1
  have a2 : S * S ≤ 17 * 17 := Nat.mul_le_mul h2 h2
  have a3 : 2 * 2 * 2 ≤ S * S * S := Nat.mul_le_mul a1 h1
  have a4 : S * S * S ≤ 17 * 17 * 17 := Nat.mul_le_mul a2 h2
  refine ⟨?_, ?_, by rw [Int.mul_assoc 3, Int.mul_assoc 3], ?_, ?_⟩ <;> (simp only [← Int.natCast_mul]; omega)
theorem cubErr_ok {size : Int} {lo hi n : Nat} (h : cubErr size lo hi n = 0) : (2 ≤ size ∧ size ≤ 17) ∧ (n : Int) = 3 * size * size * size ∧ allNum [lo, hi] = true ∧ (FloatKind.f32.format.order hi lo == some .gt) = true ∧ cubFar lo hi = false := by
  unfold cubErr at h
  by_cases h1 : inB size 2 17 = true
  · rw [if_pos h1] at h
    by_cases h2 : (n : Int) = 3 * size * size * size
    · rw [if_pos h2] at h
      cases h3 : allNum [lo, hi]
      · rw [h3] at h; cases h
      · rw [h3, if_pos rfl] at h
        cases h4 : (FloatKind.f32.format.order hi lo == some .gt)
        · rw [h4] at h; cases h
        · rw [h4, if_pos rfl] at h
          cases h5 : cubFar lo hi
          · exact ⟨inB_iff.1 h1, h2, rfl, rfl, rfl⟩
          · rw [h5] at h; cases h
    · rw [if_neg h2] at h; cases h
  · rw [if_neg h1] at h; cases h
theorem wrap_cub {size : Int} (h : 2 ≤ size ∧ size ≤ 17) : IntKind.i64.wrap (3 * size) = 3 * size ∧ IntKind.i64.wrap (3 * size * size) = 3 * size * size ∧ IntKind.i64.wrap (3 * size * size * size) = 3 * size * size * size := by
  obtain ⟨a1, a2, a3, a4, a5⟩ := cub_bd h
  have e : 3 * size * size = 3 * (size * size) := by rw [Int.mul_assoc]
  rw [a3, e]
  refine ⟨?_, ?_, ?_⟩ <;> (rw [IntKind.wrap_i64]; omega)
set_option maxRecDepth 100000 in
set_option maxHeartbeats 3200000 in
theorem CuCheck_any (size : Int) (lo hi : Nat) (a : Option Addr) (n cap : Nat) (w : World) : Calls Try.prog 82 #[.agg #[.int .i64 size, .float .f32 lo, .float .f32 hi, .slice a n cap]] w fun e w' => e = .returned (.int .i64 (cubErr size lo hi n)) ∧ Below w.heap.size w w' := by
  by_cases hs : 2 ≤ size ∧ size ≤ 17
  · have hi' := Lib.hid (inB_t hs)
    obtain ⟨u1, u2, u3⟩ := wrap_cub hs
    obtain ⟨s1, s2⟩ := hs
    by_cases hn : (n : Int) = 3 * size * size * size
    · have hne : ((n : Int) != 3 * size * size * size) = false := by simpa using hn
      have hn' := Lib.hid hn; clear hn
      cases hA : allNum [lo, hi]
      case false =>
        have hE : cubErr size lo hi n = 2 := by unfold cubErr; rw [hi'.out, if_pos rfl, if_pos hn'.out, hA]; rfl
        rw [hE]; clear hE
        go_enter Try.func82, Try.ntmps82
        go_wp2_with (first | (go_at_call 114; refine (All2_any _ _ _ lo hi _ (by simp [go_sem]) (by simp [go_sem])).mono ?_; rintro e w' ⟨rfl, rfl⟩; rw [hA]))
        go_ret
        refine ⟨rfl, ?_⟩
        (repeat (first | exact Below.refl _ _ | assumption | (refine Below.setCell ?_ (by first | (simp; done) | (simp; omega) | omega) _) | (refine Below.drew ?_) | (refine below_drewN ?_ _) | (refine Below.alloc ?_ (by first | (simp; done) | (simp; omega) | omega) _) | (refine Below.trans ?_ (Below.mono (by assumption) (by first | (simp; done) | (simp; omega) | omega)))))
      case true =>
        cases hO : (FloatKind.f32.format.order hi lo == some .gt)
        case false =>
          have hE : cubErr size lo hi n = 8 := by unfold cubErr; rw [hi'.out, if_pos rfl, if_pos hn'.out, hA, if_pos rfl, hO]; rfl
          rw [hE]; clear hE
          go_enter Try.func82, Try.ntmps82
          go_wp2_with (first | (go_at_call 114; refine (All2_any _ _ _ lo hi _ (by simp [go_sem]) (by simp [go_sem])).mono ?_; rintro e w' ⟨rfl, rfl⟩; rw [hA]))
          go_ret
          refine ⟨rfl, ?_⟩
          (repeat (first | exact Below.refl _ _ | assumption | (refine Below.setCell ?_ (by first | (simp; done) | (simp; omega) | omega) _) | (refine Below.drew ?_) | (refine below_drewN ?_ _) | (refine Below.alloc ?_ (by first | (simp; done) | (simp; omega) | omega) _) | (refine Below.trans ?_ (Below.mono (by assumption) (by first | (simp; done) | (simp; omega) | omega)))))
        case true =>
          have hE : cubErr size lo hi n = if cubFar lo hi then 3 else 0 := by unfold cubErr; rw [hi'.out, if_pos rfl, if_pos hn'.out, hA, if_pos rfl, hO, if_pos rfl]
          rw [hE]; clear hE
          unfold cubFar
          cases h1 : (FloatKind.f32.format.order lo 1233125376 == some .gt) <;> cases h2 : (FloatKind.f32.format.order lo 3380609024 == some .lt) <;> cases h3 : (FloatKind.f32.format.order hi 1233125376 == some .gt) <;> cases h4 : (FloatKind.f32.format.order hi 3380609024 == some .lt)
          all_goals
            simp only [Bool.or_self, Bool.or_true, Bool.or_false, Bool.false_eq_true, if_false, if_true]
            go_enter Try.func82, Try.ntmps82
            go_wp2_with (first | (go_at_call 114; refine (All2_any _ _ _ lo hi _ (by simp [go_sem]) (by simp [go_sem])).mono ?_; rintro e w' ⟨rfl, rfl⟩; rw [hA]))
            go_ret
            refine ⟨rfl, ?_⟩
            (repeat (first | exact Below.refl _ _ | assumption | (refine Below.setCell ?_ (by first | (simp; done) | (simp; omega) | omega) _) | (refine Below.drew ?_) | (refine below_drewN ?_ _) | (refine Below.alloc ?_ (by first | (simp; done) | (simp; omega) | omega) _) | (refine Below.trans ?_ (Below.mono (by assumption) (by first | (simp; done) | (simp; omega) | omega)))))
    · have hne : ((n : Int) != 3 * size * size * size) = true := by simpa using hn
      have hE : cubErr size lo hi n = 2 := by unfold cubErr; rw [hi'.out, if_pos rfl, if_neg hn]
      rw [hE]; clear hE hn
      go_enter Try.func82, Try.ntmps82
      go_wp2_with fail
      go_ret
      refine ⟨rfl, ?_⟩
      (repeat (first | exact Below.refl _ _ | assumption | (refine Below.setCell ?_ (by first | (simp; done) | (simp; omega) | omega) _) | (refine Below.drew ?_) | (refine below_drewN ?_ _) | (refine Below.alloc ?_ (by first | (simp; done) | (simp; omega) | omega) _) | (refine Below.trans ?_ (Below.mono (by assumption) (by first | (simp; done) | (simp; omega) | omega)))))
  · have hi' : inB size 2 17 = false := inB_f (by omega)
    have hE : cubErr size lo hi n = 3 := by unfold cubErr; rw [hi']; rfl
    rw [hE]
    clear hi' hE
    by_cases h1 : size < 2
    · go_enter Try.func82, Try.ntmps82
      go_wp2_with fail
      go_ret
      refine ⟨rfl, ?_⟩
      (repeat (first | exact Below.refl _ _ | assumption | (refine Below.setCell ?_ (by first | (simp; done) | (simp; omega) | omega) _) | (refine Below.drew ?_) | (refine below_drewN ?_ _) | (refine Below.alloc ?_ (by first | (simp; done) | (simp; omega) | omega) _) | (refine Below.trans ?_ (Below.mono (by assumption) (by first | (simp; done) | (simp; omega) | omega)))))
    · have h2 : 17 < size := by omega
      go_enter Try.func82, Try.ntmps82
      go_wp2_with fail
      go_ret
      refine ⟨rfl, ?_⟩
      (repeat (first | exact Below.refl _ _ | assumption | (refine Below.setCell ?_ (by first | (simp; done) | (simp; omega) | omega) _) | (refine Below.drew ?_) | (refine below_drewN ?_ _) | (refine Below.alloc ?_ (by first | (simp; done) | (simp; omega) | omega) _) | (refine Below.trans ?_ (Below.mono (by assumption) (by first | (simp; done) | (simp; omega) | omega)))))
set_option maxRecDepth 100000 in
set_option maxHeartbeats 3200000 in
theorem CubeError_any (size : Int) (lo hi : Nat) (a : Option Addr) (n cap : Nat) (w : World) : Calls Try.prog 63 #[.agg #[.int .i64 size, .float .f32 lo, .float .f32 hi, .slice a n cap]] w fun e w' => e = .returned (.int .i64 (cubErr size lo hi n)) ∧ Below w.heap.size w w' := by
  cases hi' : inB size 2 17
  case true =>
    have hs := inB_iff.1 hi'
    obtain ⟨u1, u2, u3⟩ := wrap_cub hs
    have HI := Lib.hid hi'
    clear hs
    by_cases hn : (n : Int) = 3 * size * size * size
    · have hne : ((n : Int) != 3 * size * size * size) = false := by simpa using hn
      have hn' := Lib.hid hn; clear hn
      have hAe : allNum [lo, hi] = (isNum .f32 lo && isNum .f32 hi) := by simp [allNum]
      cases k1 : isNum .f32 lo
      case false =>
        have hE : cubErr size lo hi n = 2 := by unfold cubErr; rw [HI.out, if_pos rfl, if_pos hn'.out, hAe, k1]; rfl
        rw [hE]; clear hE hAe
        go_enter Try.func63, Try.ntmps63
        go_wp2_with (first | ((go_at_call 35; refine (In_any _ _ _ _).mono ?_; rintro e w' ⟨rfl, rfl⟩); rw [HI.out]) | (go_at_call 44; refine (IsNumberR_any _ _).mono ?_; rintro e w' ⟨rfl, m, rfl⟩))
        go_ret
        refine ⟨rfl, ?_⟩
        (repeat (first | exact Below.refl _ _ | assumption | (refine Below.setCell ?_ (by first | (simp; done) | (simp; omega) | omega) _) | (refine Below.drew ?_) | (refine below_drewN ?_ _) | (refine Below.alloc ?_ (by first | (simp; done) | (simp; omega) | omega) _) | (refine Below.trans ?_ (Below.mono (by assumption) (by first | (simp; done) | (simp; omega) | omega)))))
      case true =>
       cases k2 : isNum .f32 hi
       case false =>
        have hE : cubErr size lo hi n = 2 := by unfold cubErr; rw [HI.out, if_pos rfl, if_pos hn'.out, hAe, k1, k2]; rfl
        rw [hE]; clear hE hAe
        go_enter Try.func63, Try.ntmps63
        go_wp2_with (first | ((go_at_call 35; refine (In_any _ _ _ _).mono ?_; rintro e w' ⟨rfl, rfl⟩); rw [HI.out]) | (go_at_call 44; refine (IsNumberR_any _ _).mono ?_; rintro e w' ⟨rfl, m, rfl⟩))
        go_ret
        refine ⟨rfl, ?_⟩
        (repeat (first | exact Below.refl _ _ | assumption | (refine Below.setCell ?_ (by first | (simp; done) | (simp; omega) | omega) _) | (refine Below.drew ?_) | (refine below_drewN ?_ _) | (refine Below.alloc ?_ (by first | (simp; done) | (simp; omega) | omega) _) | (refine Below.trans ?_ (Below.mono (by assumption) (by first | (simp; done) | (simp; omega) | omega)))))
       case true =>
        have hA : allNum [lo, hi] = true := by rw [hAe, k1, k2]; rfl
        clear hAe
        have HA := Lib.hid hA; clear hA
        cases hO : (FloatKind.f32.format.order hi lo == some .gt)
        case false =>
          have hE : cubErr size lo hi n = 8 := by unfold cubErr; rw [HI.out, if_pos rfl, if_pos hn'.out, HA.out, if_pos rfl, hO]; rfl
          rw [hE]; clear hE
          go_enter Try.func63, Try.ntmps63
          go_wp2_with (first | ((go_at_call 35; refine (In_any _ _ _ _).mono ?_; rintro e w' ⟨rfl, rfl⟩); rw [HI.out]) | (go_at_call 44; refine (IsNumberR_any _ _).mono ?_; rintro e w' ⟨rfl, m, rfl⟩))
          go_ret
          refine ⟨rfl, ?_⟩
          (repeat (first | exact Below.refl _ _ | assumption | (refine Below.setCell ?_ (by first | (simp; done) | (simp; omega) | omega) _) | (refine Below.drew ?_) | (refine below_drewN ?_ _) | (refine Below.alloc ?_ (by first | (simp; done) | (simp; omega) | omega) _) | (refine Below.trans ?_ (Below.mono (by assumption) (by first | (simp; done) | (simp; omega) | omega)))))
        case true =>
          have hE : cubErr size lo hi n = if cubFar lo hi then 3 else 0 := by unfold cubErr; rw [HI.out, if_pos rfl, if_pos hn'.out, HA.out, if_pos rfl, hO, if_pos rfl]
          rw [hE]; clear hE
          unfold cubFar
          cases h1 : (FloatKind.f32.format.order lo 1233125376 == some .gt) <;> cases h2 : (FloatKind.f32.format.order lo 3380609024 == some .lt) <;> cases h3 : (FloatKind.f32.format.order hi 1233125376 == some .gt) <;> cases h4 : (FloatKind.f32.format.order hi 3380609024 == some .lt)
          all_goals
            simp only [Bool.or_self, Bool.or_true, Bool.or_false, Bool.false_eq_true, if_false, if_true]
            go_enter Try.func63, Try.ntmps63
            go_wp2_with (first | ((go_at_call 35; refine (In_any _ _ _ _).mono ?_; rintro e w' ⟨rfl, rfl⟩); rw [HI.out]) | (go_at_call 44; refine (IsNumberR_any _ _).mono ?_; rintro e w' ⟨rfl, m, rfl⟩))
            go_ret
            refine ⟨rfl, ?_⟩
            (repeat (first | exact Below.refl _ _ | assumption | (refine Below.setCell ?_ (by first | (simp; done) | (simp; omega) | omega) _) | (refine Below.drew ?_) | (refine below_drewN ?_ _) | (refine Below.alloc ?_ (by first | (simp; done) | (simp; omega) | omega) _) | (refine Below.trans ?_ (Below.mono (by assumption) (by first | (simp; done) | (simp; omega) | omega)))))
    · have hne : ((n : Int) != 3 * size * size * size) = true := by simpa using hn
      have hE : cubErr size lo hi n = 2 := by unfold cubErr; rw [HI.out, if_pos rfl, if_neg hn]
      rw [hE]; clear hE hn
      go_enter Try.func63, Try.ntmps63
      go_wp2_with (first | ((go_at_call 35; refine (In_any _ _ _ _).mono ?_; rintro e w' ⟨rfl, rfl⟩); rw [HI.out]))
      go_ret
      refine ⟨rfl, ?_⟩
      (repeat (first | exact Below.refl _ _ | assumption | (refine Below.setCell ?_ (by first | (simp; done) | (simp; omega) | omega) _) | (refine Below.drew ?_) | (refine below_drewN ?_ _) | (refine Below.alloc ?_ (by first | (simp; done) | (simp; omega) | omega) _) | (refine Below.trans ?_ (Below.mono (by assumption) (by first | (simp; done) | (simp; omega) | omega)))))
  case false =>
    have hE : cubErr size lo hi n = 3 := by unfold cubErr; rw [hi']; rfl
    rw [hE]
    clear hE
    go_enter Try.func63, Try.ntmps63
    go_wp2_with (first | ((go_at_call 35; refine (In_any _ _ _ _).mono ?_; rintro e w' ⟨rfl, rfl⟩); rw [hi']))
    go_ret
    refine ⟨rfl, ?_⟩
    (repeat (first | exact Below.refl _ _ | assumption | (refine Below.setCell ?_ (by first | (simp; done) | (simp; omega) | omega) _) | (refine Below.drew ?_) | (refine below_drewN ?_ _) | (refine Below.alloc ?_ (by first | (simp; done) | (simp; omega) | omega) _) | (refine Below.trans ?_ (Below.mono (by assumption) (by first | (simp; done) | (simp; omega) | omega)))))
/-- No cube. -/
def noCubeB (size : Int) (lo hi n : Nat) : Bool := decide (size = 0) && (FloatKind.f32.format.order lo 0 == some .eq) && (FloatKind.f32.format.order hi 0 == some .eq) && decide (n = 0)
set_option maxHeartbeats 800000 in
theorem noCube_zero (a : Option Addr) (cap : Nat) (w : World) : Calls Try.prog 65 #[.agg #[.int .i64 0, .float .f32 0, .float .f32 0, .slice a 0 cap]] w fun e w' => e = .returned (.bool true) ∧ Below w.heap.size w w' := by
  have h0 : (FloatKind.f32.format.order 0 0 == some .eq) = true := by decide +kernel
  go_enter Try.func65, Try.ntmps65
  go_wp2_with fail
  go_ret
  refine ⟨rfl, ?_⟩
  (repeat (first | exact Below.refl _ _ | assumption | (refine Below.setCell ?_ (by first | (simp; done) | (simp; omega) | omega) _) | (refine Below.drew ?_) | (refine below_drewN ?_ _) | (refine Below.alloc ?_ (by first | (simp; done) | (simp; omega) | omega) _) | (refine Below.trans ?_ (Below.mono (by assumption) (by first | (simp; done) | (simp; omega) | omega)))))
end Go.Proofs.Ytalgepfammpmbaa
