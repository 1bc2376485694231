/- Levels and their values (finish.value, Value, dyeref2.ValueOf), and small comparisons of the statements. No condition. -/
import Derived.Test.YtalgepfammpmbaaErrB
import Derived.Test.YtalgepfammpmbaaVal
namespace Go.Proofs.Ytalgepfammpmbaa
open Go.RowKit

theorem pow_bd {d : Int} (h : 1 ≤ d ∧ d ≤ 16) : 2 ≤ (2 : Int) ^ d.toNat ∧ (2 : Int) ^ d.toNat ≤ 65536 := by
  obtain ⟨n, rfl⟩ := Int.eq_ofNat_of_zero_le (show 0 ≤ d by omega)
  have h1 : 2 ^ 1 ≤ 2 ^ n := Nat.pow_le_pow_right (by decide) (by omega)
  have h2 : 2 ^ n ≤ 2 ^ 16 := Nat.pow_le_pow_right (by decide) (by omega)
  have e : (2 : Int) ^ (Int.toNat (n : Int)) = ((2 ^ n : Nat) : Int) := by simp
  rw [e]; omega
/-- A quotient of numbers, the divisor not 0, is no NaN. -/
theorem quo_not_nan {k : FloatKind} {x y : Nat} (hx : isNum k x = true) (hy : isNum k y = true) (h0 : rung k.format y ≠ 0) : isN k (fop .quo k x y) = false := by
  obtain ⟨m, e, h1, -, -, -⟩ := decode_num hx
  obtain ⟨n, d, h2, h3, -, -⟩ := decode_num hy
  have hn : n ≠ 0 := by
    intro h
    rw [h] at h3
    simp at h3
    exact h0 (vq_inj k.format (by rw [← h3, vq_zero]))
  have hq : ∃ r, floatBits .quo k x y = some r := by
    have g1 : k.format.read x = _ := h1
    have g2 : k.format.read y = _ := h2
    unfold floatBits Ieee.Format.div
    simp only []
    rw [g1, g2]
    unfold Ieee.Datum.quotient
    simp only []
    rw [if_neg hn]
    exact ⟨_, rfl⟩
  obtain ⟨r, hr⟩ := hq
  unfold fop; rw [hr]; exact floatBits_not_nan hr
theorem FR.exact {k : FloatKind} {r s : Nat} (h : FR k r s) (hs : isN k s = false) : r = s := by
  have h1 := h.eq
  by_cases hr : isN k r = true
  · rw [cn_of_nan hr] at h1; rw [← h1, isN_nanOf] at hs; cases hs
  · rw [cn_of_not (by simpa using hr)] at h1; exact h1
theorem ofInt_nz32 {n : Int} (h : n.natAbs ≤ 2 ^ 24) (h0 : n ≠ 0) : rung FloatKind.f32.format (floatOfInt .f32 n) ≠ 0 := by
  intro hr
  have h1 := (ofInt_exact32 n h).2
  unfold val at h1
  rw [hr, vq_zero] at h1
  have h2 : ((0 : Int) : Rat) = (n : Rat) := by rw [← h1]; simp
  exact h0 (Rat.intCast_inj.1 h2).symm
/-- The value of a level. -/
def valueF (n d : Int) : Nat := fop .quo .f32 (floatOfInt .f32 n) (floatOfInt .f32 (2 ^ d.toNat - 1))
theorem valueF_not_nan {n d : Int} (hd : 1 ≤ d ∧ d ≤ 16) (hn : n.natAbs ≤ 2 ^ 24) : isN .f32 (valueF n d) = false := by
  have hb := pow_bd hd
  have h2 : ((2 : Int) ^ d.toNat - 1).natAbs ≤ 2 ^ 24 := by
    generalize (2 : Int) ^ d.toNat = q at *; omega
  refine quo_not_nan (ofInt_exact32 n hn).1 (ofInt_exact32 _ h2).1 (ofInt_nz32 h2 ?_)
  generalize (2 : Int) ^ d.toNat = q at *; omega

set_option maxHeartbeats 400000 in
theorem value_any (n d : Int) (w : World) (hd : 1 ≤ d ∧ d ≤ 16) (hn : n.natAbs ≤ 2 ^ 24) : Calls Try.prog 125 #[.int .i64 n, .int .i64 d] w fun e w' => ∃ m, e = .returned (.float .f32 (valueF n d)) ∧ w' = w.drewN m := by
  have hv := valueF_not_nan hd hn
  have hb := pow_bd hd
  obtain ⟨h1, h2⟩ := hd
  obtain ⟨h3, h4⟩ := hb
  clear hn
  go_enter Try.func125, Try.ntmps125
  go_wp2_with (first | ((with_reducible apply wpList_farith); rfl; rfl; rfl; intro _ _ _) | ((with_reducible apply wpList_up); rfl; exact Try.underlying27; exact Try.underlying151; intro _ _ _))
  rename_i r m hr
  rw [fop_cn_left, fop_cn_right] at hr
  have e := FR.exact hr hv
  go_ret
  exact ⟨m, by rw [e]; rfl, rfl⟩
set_option maxHeartbeats 400000 in
theorem ValueOf_any (n d : Int) (w : World) (hd : 1 ≤ d ∧ d ≤ 16) (hn : n.natAbs ≤ 2 ^ 24) : Calls Try.prog 39 #[.int .i64 n, .int .i64 d] w fun e w' => ∃ m, e = .returned (.float .f32 (valueF n d)) ∧ w' = w.drewN m := by
  have hv := valueF_not_nan hd hn
  have hb := pow_bd hd
  obtain ⟨h1, h2⟩ := hd
  obtain ⟨h3, h4⟩ := hb
  clear hn
  go_enter Try.func39, Try.ntmps39
  go_wp2_with (first | ((with_reducible apply wpList_farith); rfl; rfl; rfl; intro _ _ _) | ((with_reducible apply wpList_up); rfl; exact Try.underlying27; exact Try.underlying151; intro _ _ _))
  rename_i r m hr
  rw [fop_cn_left, fop_cn_right] at hr
  have e := FR.exact hr hv
  go_ret
  exact ⟨m, by rw [e]; rfl, rfl⟩
set_option maxHeartbeats 400000 in
theorem same_any (a b : Nat) (w : World) : Calls Try.prog 36 #[.float .f32 a, .float .f32 b] w fun e w' => e = .returned (.bool (decide (a = b))) ∧ w = w' := by
  go_enter Try.func36, Try.ntmps36
  go_wp2
  go_ret
  refine ⟨ret_b ?_, rfl⟩
  rw [Bool.eq_iff_iff]; simp; omega
/-- No frame: a region of zeros and no values. -/
def noneB (x y v h : Int) (l : Nat) : Bool := decide (x = 0 ∧ y = 0 ∧ v = 0 ∧ h = 0 ∧ l = 0)
@[go_sem] theorem noneB_zero : noneB 0 0 0 0 0 = true := rfl
set_option maxHeartbeats 400000 in
theorem none_any (x y v h : Int) (a : Option Addr) (l c : Nat) (w : World) : Calls Try.prog 23 #[.agg #[.int .i64 x, .int .i64 y, .int .i64 v, .int .i64 h, .slice a l c]] w fun e w' => e = .returned (.bool (noneB x y v h l)) ∧ Below w.heap.size w w' := by
  go_enter Try.func23, Try.ntmps23
  go_wp2
  all_goals
    go_ret
    refine ⟨ret_b ?_, by first | exact (Below.refl _ _).alloc (Nat.le_refl _) _⟩
    rw [Bool.eq_iff_iff]; unfold noneB; simp [*] <;> omega
end Go.Proofs.Ytalgepfammpmbaa
