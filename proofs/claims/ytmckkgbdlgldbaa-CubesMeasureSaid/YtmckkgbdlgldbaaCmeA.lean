/- Differences as roughness counts them: cube.gap, dyeref2.gap; the greater of two singles. No condition but what each theorem names. -/
import Derived.Test.YtmckkgbdlgldbaaCsB
namespace Go.Proofs.Ytmckkgbdlgldbaa
open Go Go.RowKit
/-- The magnitude of a difference. -/
def gapF (a b : Nat) : Nat := if cn .f32 a = cn .f32 b then 0 else if isN .f32 (fop .sub .f32 a b) then 2139095040 else fop .sub .f32 a b % 2147483648
theorem gapF_cn (a b : Nat) : gapF (cn .f32 a) (cn .f32 b) = gapF a b := by unfold gapF; rw [cn_cn, cn_cn, fop_cn_left, fop_cn_right]
set_option maxHeartbeats 800000 in
theorem Inf_any (w : World) : Calls Try.prog 192 #[.int .i64 1] w fun e w' => e = .returned (.float .f64 9218868437227405312) ∧ w = w' := by
  go_enter Try.func192, Try.ntmps192
  go_wp2_with fail
  go_ret
  exact ⟨rfl, rfl⟩
theorem meNot32 (x : Nat) (hx : x < 2 ^ 32) : bits .andNot .u32 (x : Int) 2147483648 = ((x % 2147483648 : Nat) : Int) := by
  have e : (BitVec.ofInt 32 (x : Int) &&& ~~~ BitVec.ofInt 32 2147483648).toNat = x % 2 ^ 31 := by
    have h1 : (~~~ BitVec.ofInt 32 2147483648).toNat = 2 ^ 31 - 1 := by decide
    rw [BitVec.toNat_and, h1, Nat.and_two_pow_sub_one_eq_mod, BitVec.ofInt_natCast, BitVec.toNat_ofNat, Nat.mod_eq_of_lt hx]
  show IntKind.u32.wrap (((BitVec.ofInt 32 (x : Int) &&& ~~~ BitVec.ofInt 32 2147483648).toNat : Nat) : Int) = _
  rw [e, IntKind.wrap_u32]
  omega
set_option maxHeartbeats 800000 in
theorem meAbs_any (v : Nat) (w : World) (hv : v < 2 ^ FloatKind.f32.format.width) : Calls Try.prog 155 #[.float .f32 v] w fun e w' => e = .returned (.float .f32 (v % 2147483648)) ∧ w = w' := by
  have b := meNot32 v hv
  go_enter Try.func155, Try.ntmps155
  go_wp2
  go_ret
  exact ⟨ret_f (by first | rfl | (rw [b]; rfl) | omega), rfl⟩
theorem meNan_mod (x : Nat) : isN .f32 (x % 2147483648) = isN .f32 x := by
  rw [isN_rung, isN_rung]
  have e : ∀ y, rung FloatKind.f32.format y = y % 2147483648 := fun _ => rfl
  rw [e, e, Nat.mod_mod]
theorem inf_down : fcv .f64 .f32 9218868437227405312 = 2139095040 := by decide +kernel
theorem inf_ovf : isNum .f64 9218868437227405312 = true → ovf .f64 .f32 9218868437227405312 = false := by decide +kernel
theorem inf_exact {r : Nat} (h : FR .f32 r (fcv .f64 .f32 9218868437227405312)) : r = 2139095040 := by
  have h1 := h.eq
  rw [inf_down] at h1
  have h2 : isN .f32 r = false := by rw [← isN_cn, h1]; decide +kernel
  rw [← h1]; unfold cn; rw [h2]; rfl
theorem sub_exact {a b r : Nat} (h : FR .f32 r (fop .sub .f32 (cn .f32 a) (cn .f32 b))) (hn : isN .f32 r = false) : r = fop .sub .f32 a b := by
  have h1 := h.eq
  rw [fop_cn_left, fop_cn_right] at h1
  rw [← h1]; unfold cn; rw [hn]; rfl
set_option maxHeartbeats 1600000 in
theorem gapOf_any (a b : Nat) (w : World) : Calls Try.prog 148 #[.float .f32 a, .float .f32 b] w fun e w' => e = .returned (.float .f32 (gapF a b)) ∧ ∃ m, w' = w.drewN m := by
  by_cases hab : cn .f32 a = cn .f32 b
  · have hd : decide (cn .f32 a = cn .f32 b) = true := by simpa using hab
    have HG := Lib.hid (show gapF a b = 0 by unfold gapF; rw [if_pos hab])
    clear hab
    go_enter Try.func148, Try.ntmps148
    go_wp2_with (first | (go_at_call 50; refine (Bit_any _ _ _).mono ?_; rintro e w' ⟨rfl, rfl⟩; rw [hd]))
    go_ret
    exact ⟨ret_f HG.out.symm, 0, rfl⟩
  · have hd : decide (cn .f32 a = cn .f32 b) = false := by simpa using hab
    have HAB := Lib.hid hab
    clear hab
    go_enter Try.func148, Try.ntmps148
    go_wp2_with (first | (go_at_call 50; refine (Bit_any _ _ _).mono ?_; rintro e w' ⟨rfl, rfl⟩; rw [hd]) | ((with_reducible apply wpList_farith); rfl; rfl; rfl; intro _ _ _) | ((with_reducible apply wpList_up); rfl; exact Try.underlying38; exact Try.underlying113; intro _ _ _) | (go_at_call 155; rename_i r n hr _ _; refine (meAbs_any _ _ hr.lt).mono ?_; rintro e w' ⟨rfl, rfl⟩) | (go_at_call 192; refine (Inf_any _).mono ?_; rintro e w' ⟨rfl, rfl⟩) | ((with_reducible apply wpList_down); rfl; exact Try.underlying113; exact Try.underlying38; exact inf_ovf; intro ri ni hri))
    · rename_i hq
      rw [ord_self_ne, meNan_mod] at hq
      have hN : isN .f32 (fop .sub .f32 a b) = true := by
        have h1 := hr.eq
        rw [fop_cn_left, fop_cn_right] at h1
        rw [← h1, isN_cn]; exact hq
      go_ret
      exact ⟨ret_f (by unfold gapF; rw [if_neg HAB.out, if_pos hN]; exact inf_exact hri), _, rfl⟩
    · rename_i hq
      rw [ord_self_ne, meNan_mod] at hq
      have hx := sub_exact hr hq
      have hN : isN .f32 (fop .sub .f32 a b) = false := by rw [← hx]; exact hq
      go_ret
      exact ⟨ret_f (by unfold gapF; rw [if_neg HAB.out, if_neg (by rw [hN]; decide), ← hx]), _, rfl⟩
/-- What cube.gap hands back: the magnitude, or -0 for 0. -/
def GapR (a b r : Nat) : Prop := r = gapF a b ∨ (r = 2147483648 ∧ gapF a b = 0)
@[go_sem] theorem run_neg_f {P : Program} (k : FloatKind) (b : Nat) (w : World) : (Op.unary .neg (.float k b)).run P w = .ok (.float k (Op.negFloat k b)) w := rfl
theorem neg_top {d : Nat} (h1 : 2147483648 ≤ d) (h2 : d < 4294967296) : Op.negFloat .f32 d = d % 2147483648 := by
  obtain ⟨m, rfl⟩ : ∃ m, d = 2 ^ 31 + m := ⟨d - 2147483648, by omega⟩
  have hm : m < 2 ^ 31 := by omega
  show (2 ^ 31 + m) ^^^ 2 ^ 31 = _
  have h31 : 2 ^ 31 + m = 2 ^ 31 ||| m := by
    have h := Nat.two_pow_add_eq_or_of_lt hm 1
    rw [Nat.mul_one] at h; exact h
  rw [show (2 ^ 31 + m) % 2147483648 = m by omega, h31]
  refine Nat.eq_of_testBit_eq fun i => ?_
  rw [Nat.testBit_xor, Nat.testBit_or, Nat.testBit_two_pow]
  by_cases hi : 31 = i
  · subst hi; rw [Nat.testBit_lt_two_pow hm]; simp
  · simp [hi]
theorem lt_zero_sgn {d : Nat} (hd : d < 2 ^ FloatKind.f32.format.width) (hN : isN .f32 d = false) (h : (FloatKind.f32.format.order d 0 == some .lt) = true) : 2147483648 ≤ d := by
  rw [ord_lt hN (by decide +kernel), decide_eq_true_eq] at h
  have kz : key FloatKind.f32.format 0 = 0 := by decide
  rw [kz] at h
  have hd : d < 4294967296 := hd
  unfold key at h
  cases hs : sgn FloatKind.f32.format d
  · rw [hs] at h; simp at h; omega
  · have : (d / 2147483648 % 2 == 1) = true := hs
    simp at this; omega
theorem not_lt_sgn {d : Nat} (hd : d < 2 ^ FloatKind.f32.format.width) (hN : isN .f32 d = false) (h : (FloatKind.f32.format.order d 0 == some .lt) = false) : d < 2147483648 ∨ d = 2147483648 := by
  rw [ord_lt hN (by decide +kernel), decide_eq_false_iff_not] at h
  have kz : key FloatKind.f32.format 0 = 0 := by decide
  rw [kz] at h
  have hd : d < 4294967296 := hd
  cases hs : sgn FloatKind.f32.format d
  · left
    have : (d / 2147483648 % 2 == 1) = false := hs
    simp at this; omega
  · right
    have h3 : (d / 2147483648 % 2 == 1) = true := hs
    have e : rung FloatKind.f32.format d = d % 2147483648 := rfl
    unfold key at h
    rw [hs, e] at h
    simp at h h3; omega
set_option maxHeartbeats 1600000 in
theorem gap_any (a b : Nat) (w : World) : Calls Try.prog 144 #[.float .f32 a, .float .f32 b] w fun e w' => (∃ r, e = .returned (.float .f32 r) ∧ GapR a b r) ∧ ∃ m, w' = w.drewN m := by
  by_cases hab : cn .f32 a = cn .f32 b
  · have HG := Lib.hid (show gapF a b = 0 by unfold gapF; rw [if_pos hab])
    have hab' : ((cn .f32 a : Nat) : Int) = ((cn .f32 b : Nat) : Int) := by rw [hab]
    clear hab
    go_enter Try.func144, Try.ntmps144
    go_wp2_with (first | (go_at_call 140; refine (Bits_any _ _).mono ?_; rintro e w' ⟨rfl, rfl⟩))
    go_ret
    exact ⟨⟨_, rfl, .inl HG.out.symm⟩, 0, rfl⟩
  · have HAB := Lib.hid hab
    have hab' : ¬ ((cn .f32 a : Nat) : Int) = ((cn .f32 b : Nat) : Int) := by intro h; exact hab (by omega)
    clear hab
    go_enter Try.func144, Try.ntmps144
    go_wp2_with (first | (go_at_call 140; refine (Bits_any _ _).mono ?_; rintro e w' ⟨rfl, rfl⟩) | ((with_reducible apply wpList_farith); rfl; rfl; rfl; intro r n hr) | (go_at_call 192; refine (Inf_any _).mono ?_; rintro e w' ⟨rfl, rfl⟩) | ((with_reducible apply wpList_down); rfl; exact Try.underlying113; exact Try.underlying38; exact inf_ovf; intro ri ni hri))
    · rename_i hq
      rw [ord_self_ne] at hq
      have hN : isN .f32 (fop .sub .f32 a b) = true := by
        have h1 := hr.eq
        rw [fop_cn_left, fop_cn_right] at h1
        rw [← h1, isN_cn]; exact hq
      go_ret
      exact ⟨⟨_, rfl, .inl (by unfold gapF; rw [if_neg HAB.out, if_pos hN]; exact inf_exact hri)⟩, _, rfl⟩
    · rename_i hq hl
      rw [ord_self_ne] at hq
      have hx := sub_exact hr hq
      have hN : isN .f32 (fop .sub .f32 a b) = false := by rw [← hx]; exact hq
      go_ret
      exact ⟨⟨_, rfl, .inl (by unfold gapF; rw [if_neg HAB.out, if_neg (by rw [hN]; decide), ← hx]; exact neg_top (lt_zero_sgn hr.lt hq hl) hr.lt)⟩, _, rfl⟩
    · rename_i hq hl
      rw [ord_self_ne] at hq
      have hx := sub_exact hr hq
      have hN : isN .f32 (fop .sub .f32 a b) = false := by rw [← hx]; exact hq
      have hg : gapF a b = r % 2147483648 := by unfold gapF; rw [if_neg HAB.out, if_neg (by rw [hN]; decide), ← hx]
      go_ret
      refine ⟨⟨_, rfl, ?_⟩, _, rfl⟩
      rcases not_lt_sgn hr.lt hq hl with h | h
      · left; rw [hg]; omega
      · right; rw [hg]; omega
end Go.Proofs.Ytmckkgbdlgldbaa
