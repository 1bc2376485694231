/- The ordered matrix (finish.Ordered, dyeref2.OrderedOf). No condition. -/
import Derived.BigQuiet
import Derived.Test.YtalgepfammpmbaaLevB
import Derived.Test.YtalgepfammpmbaaLooseB
namespace Go.Proofs.Ytalgepfammpmbaa
open Go.RowKit
theorem and_low (k : IntKind) (x : Int) (n : Nat) (hn : (2 : Int) ^ n ≤ 2 ^ 31) (hk : k = .i64 ∨ k = .u64 ∨ k = .u32 ∨ k = .u8) (hx : n ≤ 7) : bits .and k x ((2 : Int) ^ n - 1) = x % 2 ^ n := by
  have key : ∀ W : Nat, n ≤ W → ((BitVec.ofInt W x &&& BitVec.ofInt W ((2 : Int) ^ n - 1)).toNat : Int) = x % 2 ^ n := fun W hW => by
    have hp : (0 : Int) < 2 ^ n := Int.pow_pos (by decide)
    have e1 : (BitVec.ofInt W ((2 : Int) ^ n - 1)).toNat = 2 ^ n - 1 := by
      have h1 : ((2 ^ n : Nat) : Int) = (2 : Int) ^ n := by simp
      have h2 : ((2 ^ W : Nat) : Int) = (2 : Int) ^ W := by simp
      have h3 : (2 : Nat) ^ n ≤ 2 ^ W := Nat.pow_le_pow_right (by decide) hW
      rw [BitVec.toNat_ofInt, Int.emod_eq_of_lt (by omega) (by omega)]
      omega
    rw [BitVec.toNat_and, e1, Nat.and_two_pow_sub_one_eq_mod, BitVec.toNat_ofInt]
    have hd : (2 : Int) ^ n ∣ 2 ^ W := by
      obtain ⟨c, rfl⟩ := Nat.exists_eq_add_of_le hW
      exact ⟨2 ^ c, by rw [Int.pow_add]⟩
    have hw : (0 : Int) < 2 ^ W := Int.pow_pos (by decide)
    have h2 : ((2 ^ W : Nat) : Int) = (2 : Int) ^ W := by simp
    rw [h2]
    have := Int.emod_nonneg x (Int.ne_of_gt hw)
    rw [Int.natCast_emod, Int.toNat_of_nonneg this]
    simp only [Int.natCast_pow, Int.cast_ofNat_Int]
    exact Int.emod_emod_of_dvd _ hd
  have h128 : (2 : Int) ^ n ≤ 128 := by
    have : (2 : Nat) ^ n ≤ 2 ^ 7 := Nat.pow_le_pow_right (by decide) hx
    have h1 : ((2 ^ n : Nat) : Int) = (2 : Int) ^ n := by simp
    omega
  have hp : (0 : Int) < 2 ^ n := Int.pow_pos (by decide)
  have l0 := Int.emod_nonneg x (Int.ne_of_gt hp)
  have l1 := Int.emod_lt_of_pos x hp
  rcases hk with rfl | rfl | rfl | rfl <;> unfold bits <;> simp only <;> rw [key _ (by show n ≤ _; simp [IntKind.bits]; omega)] <;> simp only [IntKind.wrap_i64, IntKind.wrap_u64, IntKind.wrap_u32, IntKind.wrap_u8] <;> omega
theorem and7 (x : Int) : bits .and .i64 x 7 = x % 8 := and_low .i64 x 3 (by decide) (.inl rfl) (by decide)
theorem mod_mod8 (x : Int) : (wrap64 (x.tmod 8 + 8)).tmod 8 = x % 8 := by
  have h1 : -8 < x.tmod 8 ∧ x.tmod 8 < 8 ∧ (x.tmod 8 + 8) % 8 = x % 8 := by
    rcases Int.le_total 0 x with h | h
    · rw [Int.tmod_eq_emod_of_nonneg h]; omega
    · have e : x.tmod 8 = -((-x).tmod 8) := by rw [Int.neg_tmod, Int.neg_neg]
      rw [e, Int.tmod_eq_emod_of_nonneg (show 0 ≤ -x by omega)]; omega
  have h2 : wrap64 (x.tmod 8 + 8) = x.tmod 8 + 8 := by simp only [wrap64]; omega
  rw [h2, Int.tmod_eq_emod_of_nonneg (by omega), h1.2.2]
/-- The rank of a place of the ordered matrix, of remainders by 8. -/
def ordZ (a b : Int) : Int :=
  bits .and .i64 (bits .xor .i64 a b) 1 * 32 + bits .and .i64 b 1 * 16 + bits .and .i64 (bits .xor .i64 a b / 2) 1 * 8 + bits .and .i64 (b / 2) 1 * 4 + bits .and .i64 (bits .xor .i64 a b / 4) 1 * 2 + bits .and .i64 (b / 4) 1
theorem ord8 {p : Int → Int → Prop} (h : ∀ a b : Fin 8, p a.val b.val) (x y : Int) : p (x % 8) (y % 8) := by
  have := h ⟨(x % 8).toNat, by omega⟩ ⟨(y % 8).toNat, by omega⟩
  simp only at this
  rw [show (((x % 8).toNat : Nat) : Int) = x % 8 by omega, show (((y % 8).toNat : Nat) : Int) = y % 8 by omega] at this
  exact this
theorem ordZ_bd (x y : Int) : 0 ≤ ordZ (x % 8) (y % 8) ∧ ordZ (x % 8) (y % 8) < 64 :=
  ord8 (p := fun a b => 0 ≤ ordZ a b ∧ ordZ a b < 64) (by decide +kernel) x y
set_option maxHeartbeats 400000 in
theorem Ordered_any (x y : Int) (w : World) : Calls Try.prog 33 #[.int .i64 x, .int .i64 y] w fun e w' => e = .returned (.int .i64 (ordZ (x % 8) (y % 8))) ∧ w = w' := by
  go_enter Try.func33, Try.ntmps33
  go_wp2
  go_ret
  refine ⟨ret_i ?_, rfl⟩
  rw [and7 x, and7 y]
  refine ord8 (p := fun a b => wrap64 (wrap64 (wrap64 (wrap64 (wrap64 (wrap64 (bits .and .i64 (bits .xor .i64 a b) 1 * 32) + wrap64 (bits .and .i64 b 1 * 16)) + wrap64 (bits .and .i64 (bits .xor .i64 a b / 2) 1 * 8)) + wrap64 (bits .and .i64 (b / 2) 1 * 4)) + wrap64 (bits .and .i64 (bits .xor .i64 a b / 4) 1 * 2)) + bits .and .i64 (b / 4) 1) = ordZ a b) ?_ x y
  decide +kernel
set_option maxHeartbeats 800000 in
theorem OrderedOf_any (x y : Int) (w : World) : Calls Try.prog 34 #[.int .i64 x, .int .i64 y] w fun e w' => e = .returned (.int .i64 (ordZ (x % 8) (y % 8))) ∧ ∃ n, w' = w.drewN n := by
  go_enter Try.func34, Try.ntmps34
  go_wp2
  refine wp_loop_rounds 4 ?_
  rw [mod_mod8, mod_mod8]
  go_wp2_with (simp only [rounds_succ])
  go_quiet (fail)
  go_wp2_with (simp only [rounds_succ])
  go_quiet (fail)
  go_wp2_with (simp only [rounds_succ])
  go_quiet (fail)
  go_wp2_with (simp only [rounds_succ])
  go_ret
  refine ⟨ret_i ?_, _, rfl⟩
  refine ord8 (p := fun a b => wrap64 (wrap64 (wrap64 (wrap64 (wrap64 (wrap64 (wrap64 (wrap64 (wrap64 (2 * bits .and .i64 (bits .xor .i64 a b) 1)) + bits .and .i64 b 1) * 4) + wrap64 (2 * bits .and .i64 (bits .xor .i64 a b / 2) 1)) + bits .and .i64 (b / 2) 1) * 4) + wrap64 (2 * bits .and .i64 (bits .xor .i64 a b / 4) 1)) + bits .and .i64 (b / 4) 1) = ordZ a b) ?_ x y
  decide +kernel
end Go.Proofs.Ytalgepfammpmbaa
