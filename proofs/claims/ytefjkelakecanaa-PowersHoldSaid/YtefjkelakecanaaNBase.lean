/- What the rows of num need of the lemmas of the other seats: errors, hashes, units, what Clean and Limit hand back. Printed by wip/pick.py. No condition. -/
import Derived.Test.YtefjkelakecanaaNearC
import Derived.Test.YtefjkelakecanaaNearB
import Derived.Test.YtefjkelakecanaaLooseB
namespace Go.Proofs.Ytefjkelakecanaa
open Go.RowKit
def inB (n lo hi : Int) : Bool := decide (lo ≤ n) && decide (n ≤ hi)
theorem inB_t {n lo hi : Int} (h : lo ≤ n ∧ n ≤ hi) : inB n lo hi = true := by unfold inB; rw [decide_eq_true h.1, decide_eq_true h.2]; rfl
theorem inB_f {n lo hi : Int} (h : n < lo ∨ hi < n) : inB n lo hi = false := by
  unfold inB; rcases h with h | h
  · rw [decide_eq_false (by omega)]; rfl
  · rw [decide_eq_false (show ¬ n ≤ hi by omega), Bool.and_false]
theorem inB_iff {n lo hi : Int} : inB n lo hi = true ↔ lo ≤ n ∧ n ≤ hi := by unfold inB; simp
theorem ret_i {k : IntKind} {a b : Int} (h : a = b) : Ending.returned (.int k a) = .returned (.int k b) := by rw [h]
theorem ret_b {a b : Bool} (h : a = b) : Ending.returned (.bool a) = .returned (.bool b) := by rw [h]
set_option maxHeartbeats 400000 in
theorem In_any (n lo hi : Int) (w : World) : Calls Try.prog 7 #[.int .i64 n, .int .i64 lo, .int .i64 hi] w fun e w' => e = .returned (.bool (inB n lo hi)) ∧ w = w' := by
  go_enter Try.func7, Try.ntmps7
  go_wp2
  all_goals (go_ret; refine ⟨ret_b ?_, rfl⟩; unfold inB; rw [Bool.eq_iff_iff]; simp; try omega)
theorem FR.exact {k : FloatKind} {r s : Nat} (h : FR k r s) (hs : isN k s = false) : r = s := by
  have h1 := h.eq
  by_cases hr : isN k r = true
  · rw [cn_of_nan hr] at h1; rw [← h1, isN_nanOf] at hs; cases hs
  · rw [cn_of_not (by simpa using hr)] at h1; exact h1
set_option maxHeartbeats 400000 in
theorem same_any (a b : Nat) (w : World) : Calls Try.prog 12 #[.float .f32 a, .float .f32 b] w fun e w' => e = .returned (.bool (decide (a = b))) ∧ w = w' := by
  go_enter Try.func12, Try.ntmps12
  go_wp2
  go_ret
  refine ⟨ret_b ?_, rfl⟩
  rw [Bool.eq_iff_iff]; simp; omega
/-- One round of the hash. -/
def hmix (h i : Int) : Int :=
  let a := (h + i) % 4294967296 * 2246822507 % 4294967296
  let b := bits .xor .u32 a (a / 8192) * 3266489909 % 4294967296
  bits .xor .u32 b (b / 65536)
/-- The hash of a seed and three integers. -/
def hashZ (s x y n : Int) : Int := hmix (hmix (hmix (bits .xor .u32 s 2654435769) x) y) n
theorem xor_bd (a b : Int) : 0 ≤ bits .xor .u32 a b ∧ bits .xor .u32 a b < 4294967296 := by
  unfold bits; simp only [IntKind.wrap_u32]; omega
theorem hashZ_bd (s x y n : Int) : 0 ≤ hashZ s x y n ∧ hashZ s x y n < 4294967296 := by
  unfold hashZ hmix; exact xor_bd _ _
theorem ret_u {a b : Int} (h : a = b) : Ending.returned (.int .u32 a) = .returned (.int .u32 b) := by rw [h]
theorem addsub_not_nan {k : FloatKind} {x y : Nat} (hx : isNum k x = true) (hy : isNum k y = true) : isN k (fop .add k x y) = false ∧ isN k (fop .sub k x y) = false := by
  obtain ⟨m, e, d1, -, -, -⟩ := decode_num hx
  obtain ⟨n, j, d2, -, -, -⟩ := decode_num hy
  have d3 : (k.decode y).opposite = .number (!sgn k.format y) n j := by rw [d2]; rfl
  constructor
  · obtain ⟨neg, mag, place, g, -⟩ := sum_word (k := k) d1 d2
    have h : floatBits .add k x y = some (k.format.nearest neg mag place) := g
    unfold fop; rw [h]; exact floatBits_not_nan h
  · obtain ⟨neg, mag, place, g, -⟩ := sum_word (k := k) d1 d3
    have h : floatBits .sub k x y = some (k.format.nearest neg mag place) := g
    unfold fop; rw [h]; exact floatBits_not_nan h
/-- Bits of one value that is not 0 are one. -/
theorem bits_of_val {k : FloatKind} {b c : Nat} (hb : b < 2 ^ k.format.width) (hc : c < 2 ^ k.format.width) (h : val k b = val k c) (h0 : val k b ≠ 0) : b = c := by
  have hsw : 2 ^ k.format.width = 2 * k.format.signWeight := by cases k <;> decide +kernel
  have hp : 0 < k.format.signWeight := Nat.two_pow_pos _
  have e1 := val_le_key (k := k) (x := b) (y := c)
  have e2 := val_le_key (k := k) (x := c) (y := b)
  have k1 := e1.1 (by rw [h]; exact Rat.le_refl)
  have k2 := e2.1 (by rw [h]; exact Rat.le_refl)
  have hk : key k.format b = key k.format c := by omega
  have hnz : rung k.format b ≠ 0 := by
    intro hr
    apply h0
    rw [val_sg, hr, vq_zero]; unfold sg; split <;> simp
  unfold key at hk
  have r1 : rung k.format b = rung k.format c ∧ sgn k.format b = sgn k.format c := by
    cases h1 : sgn k.format b <;> cases h2 : sgn k.format c <;> rw [h1, h2] at hk <;> simp at hk ⊢ <;> omega
  obtain ⟨r1, r2⟩ := r1
  unfold rung at r1
  unfold sgn at r2
  have q1 : b / k.format.signWeight < 2 := by rw [Nat.div_lt_iff_lt_mul hp]; omega
  have q2 : c / k.format.signWeight < 2 := by rw [Nat.div_lt_iff_lt_mul hp]; omega
  have r3 : b / k.format.signWeight = c / k.format.signWeight := by
    rw [Nat.mod_eq_of_lt q1, Nat.mod_eq_of_lt q2] at r2
    generalize b / k.format.signWeight = i at *
    generalize c / k.format.signWeight = j at *
    rcases (show i = 0 ∨ i = 1 by omega) with rfl | rfl <;> rcases (show j = 0 ∨ j = 1 by omega) with rfl | rfl <;> simp at r2 ⊢
  rw [← Nat.div_add_mod b k.format.signWeight, ← Nat.div_add_mod c k.format.signWeight, r1, r3]
/-- The single of a hash. -/
def unitF (h : Int) : Nat := fop .mul .f32 (floatOfInt .f32 (h / 256)) 864026624
theorem c24 : isNum .f32 864026624 = true ∧ val .f32 864026624 = (2 : Rat) ^ (-24 : Int) ∧ isNum .f32 1266679808 = true ∧ val .f32 1266679808 = (2 : Rat) ^ (24 : Int) := by
  refine ⟨by decide +kernel, by decide +kernel, by decide +kernel, by decide +kernel⟩
theorem lp32 : FloatKind.f32.format.leastPlace = -149 := by decide
theorem fb32 : FloatKind.f32.format.fractionBits = 23 := rfl
theorem unit_val {n : Nat} (hn : n < 2 ^ 24) :
    Rn .f32 ((n : Rat) * (2 : Rat) ^ (-24 : Int)) (fop .mul .f32 (floatOfInt .f32 n) 864026624) ∧ Rq .f32 ((n : Rat) * (2 : Rat) ^ (-24 : Int)) (fop .quo .f32 (floatOfInt .f32 n) 1266679808) := by
  obtain ⟨a1, a2⟩ := ofInt_exact32 n (by omega)
  obtain ⟨b1, b2, b3, b4⟩ := c24
  rw [Rat.intCast_natCast] at a2
  have h0 := mag_nonneg n (-24)
  have h1 : (n : Rat) * (2 : Rat) ^ (-24 : Int) < (2 : Rat) ^ (0 : Int) := by
    have := Rat.mul_lt_mul_of_pos_right (Rat.natCast_lt_natCast.2 hn) (zp_pos (-24))
    have e : ((2 ^ 24 : Nat) : Rat) * (2 : Rat) ^ (-24 : Int) = (2 : Rat) ^ (0 : Int) := by decide +kernel
    rwa [e] at this
  have h2 : -((2 : Rat) ^ (0 : Int)) < (n : Rat) * (2 : Rat) ^ (-24 : Int) := by
    have := zp_pos 0; grind
  constructor
  · have := fop_mul_num a1 b1 0 (by decide) (by decide) (by rw [a2, b2]; exact h2) (by rw [a2, b2]; exact h1)
    rwa [a2, b2] at this
  · refine fop_quo_num a1 b3 (by rw [b4]; decide +kernel) ?_ 0 (by decide) (by decide) h2 h1
    rw [a2, b4, Rat.mul_assoc, ← zp_add]
    have e : (2 : Rat) ^ ((-24 : Int) + 24) = 1 := by decide +kernel
    rw [e, Rat.mul_one]
theorem unit_same {h : Int} (h0 : 0 ≤ h) (h1 : h < 4294967296) : fop .quo .f32 (floatOfInt .f32 (h / 256)) 1266679808 = unitF h ∧ isNum .f32 (unitF h) = true := by
  obtain ⟨n, hn⟩ : ∃ n : Nat, h / 256 = (n : Int) := ⟨(h / 256).toNat, by omega⟩
  have hlt : n < 2 ^ 24 := by omega
  unfold unitF
  rw [hn]
  obtain ⟨r1, r2⟩ := unit_val hlt
  refine ⟨?_, r1.num⟩
  rcases Nat.eq_zero_or_pos n with h | h
  · subst h; decide +kernel
  · have e1 := r1.exact false n (-24) (by rw [fb32]; exact hlt) (by decide) rfl
    have e2 := r2.exact false n (-24) (by rw [fb32]; exact hlt) (by decide) rfl
    refine (bits_of_val (fop_lt _ _ _ _) (fop_lt _ _ _ _) (by rw [e1, e2]) ?_).symm
    rw [e1]
    have : (0 : Rat) < (n : Rat) := by have := Rat.natCast_lt_natCast.2 h; simpa using this
    have := Rat.mul_pos this (zp_pos (-24))
    grind
theorem unit_not_nan {h : Int} (h0 : 0 ≤ h) (h1 : h < 4294967296) : isN .f32 (unitF h) = false := isNum_not_nan (unit_same h0 h1).2
theorem ret_f {k : FloatKind} {a b : Nat} (h : a = b) : Ending.returned (.float k a) = .returned (.float k b) := by rw [h]
theorem nan32 : nanOf .f32 = 2143289344 := by decide +kernel
theorem cn_ne {v : Nat} (h : (FloatKind.f32.format.order v v != some .eq) = true) : (2143289344 : Nat) = cn .f32 v := by
  rw [ord_self_ne] at h; rw [cn_of_nan h, nan32]
theorem cn_nn {v : Nat} (h : (FloatKind.f32.format.order v v != some .eq) = false) : v = cn .f32 v := by
  rw [ord_self_ne] at h; rw [cn_of_not h]
set_option maxHeartbeats 400000 in
theorem Clean_any (v : Nat) (w : World) : Calls Try.prog 37 #[.float .f32 v] w fun e w' => e = .returned (.float .f32 (cn .f32 v)) ∧ w = w' := by
  go_enter Try.func37, Try.ntmps37
  go_wp2
  · go_ret; exact ⟨ret_f (cn_ne (by assumption)), rfl⟩
  · go_ret; exact ⟨ret_f (cn_nn (by assumption)), rfl⟩
set_option maxHeartbeats 400000 in
theorem TheNaN_any (w : World) : Calls Try.prog 44 #[] w fun e w' => e = .returned (.float .f32 2143289344) ∧ w = w' := by
  go_enter Try.func44, Try.ntmps44
  go_wp2
  go_ret
  exact ⟨rfl, rfl⟩
set_option maxHeartbeats 400000 in
theorem Fix_any (v : Nat) (w : World) : Calls Try.prog 22 #[.float .f32 v] w fun e w' => e = .returned (.float .f32 (cn .f32 v)) ∧ w = w' := by
  go_enter Try.func22, Try.ntmps22
  go_wp2_with (first | (go_at_call 44; refine (TheNaN_any _).mono ?_; rintro e w' ⟨rfl, rfl⟩))
  · go_ret; exact ⟨ret_f (cn_ne (by assumption)), rfl⟩
  · go_ret; exact ⟨ret_f (cn_nn (by assumption)), rfl⟩
theorem ret_u32 {a b : Int} (h : a = b) : Ending.returned (.int .u32 a) = .returned (.int .u32 b) := by rw [h]
/-- A value within bounds. -/
def limF (v lo hi : Nat) : Nat := if FloatKind.f32.format.order v lo == some .lt then cn .f32 lo else if FloatKind.f32.format.order v hi == some .gt then cn .f32 hi else cn .f32 v
end Go.Proofs.Ytefjkelakecanaa
