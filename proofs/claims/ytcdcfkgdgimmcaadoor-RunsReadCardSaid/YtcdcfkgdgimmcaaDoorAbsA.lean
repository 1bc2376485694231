/- Magnitudes of singles: math.Abs, dyeref2.AbsOf. No condition. -/
import Derived.Test.YtcdcfkgdgimmcaaDoorBG
import Derived.Test.YtcdcfkgdgimmcaaDoorBH
namespace Go.Proofs.YtcdcfkgdgimmcaaDoor
open Go Go.RowKit
def absF (b : Nat) : Nat := (bits .andNot .u64 (b : Int) 9223372036854775808).toNat
theorem andNot_top (x : Nat) (hx : x < 2 ^ 64) : bits .andNot .u64 (x : Int) 9223372036854775808 = ((x % 2 ^ 63 : Nat) : Int) := by
  have e : (BitVec.ofInt 64 (x : Int) &&& ~~~ BitVec.ofInt 64 9223372036854775808).toNat = x % 2 ^ 63 := by
    have h1 : (~~~ BitVec.ofInt 64 9223372036854775808).toNat = 2 ^ 63 - 1 := by decide
    rw [BitVec.toNat_and, h1, Nat.and_two_pow_sub_one_eq_mod, BitVec.ofInt_natCast, BitVec.toNat_ofNat, Nat.mod_eq_of_lt hx]
  have h : x % 2 ^ 63 < 2 ^ 63 := Nat.mod_lt _ (by decide)
  show IntKind.u64.wrap (((BitVec.ofInt 64 (x : Int) &&& ~~~ BitVec.ofInt 64 9223372036854775808).toNat : Nat) : Int) = _
  rw [e, IntKind.wrap_u64]
  omega
theorem absF_eq {r : Nat} (hr : r < 2 ^ FloatKind.f64.format.width) : absF r = r % 2 ^ 63 := by
  have hr : r < 2 ^ 64 := hr
  unfold absF; rw [andNot_top r hr]; rfl
theorem sw64 : FloatKind.f64.format.signWeight = 2 ^ 63 := by decide
theorem abs_rung {r : Nat} (hr : r < 2 ^ FloatKind.f64.format.width) : rung FloatKind.f64.format (absF r) = rung FloatKind.f64.format r ∧ key FloatKind.f64.format (absF r) = (rung FloatKind.f64.format r : Int) := by
  rw [absF_eq hr]
  unfold key sgn rung
  rw [sw64]
  have h : r % 2 ^ 63 < 2 ^ 63 := Nat.mod_lt _ (by decide)
  rw [Nat.mod_eq_of_lt h, Nat.div_eq_of_lt h]
  exact ⟨rfl, rfl⟩
/-- The magnitude of a single, one NaN for all. -/
def absN (x : Nat) : Nat := if isN .f32 x then 2143289344 else x % 2147483648
theorem absN_cn (x : Nat) : absN (cn .f32 x) = absN x := by
  by_cases h : isN .f32 x = true
  · unfold absN; rw [isN_cn, h]; rfl
  · rw [cn_of_not (by simpa using h)]
theorem abs_nan32 (x : Nat) : isN .f32 (x % 2147483648) = isN .f32 x := by
  rw [isN_rung, isN_rung]
  have e : ∀ y, rung FloatKind.f32.format y = y % 2147483648 := fun _ => rfl
  rw [e, e, Nat.mod_mod]
theorem word_eq {x y : Nat} (hx : x < 2 ^ FloatKind.f32.format.width) (hs : sgn FloatKind.f32.format x = false) (hr : rung FloatKind.f32.format x = rung FloatKind.f32.format y) : x = y % 2147483648 := by
  have hx : x < 4294967296 := hx
  have e : ∀ y, rung FloatKind.f32.format y = y % 2147483648 := fun _ => rfl
  rw [e, e] at hr
  have h2 : (x / 2147483648 % 2 == 1) = false := hs
  simp only [beq_eq_false_iff_ne] at h2
  omega
theorem mag_back {v r : Nat} (hv : v < 2 ^ FloatKind.f32.format.width) (h1 : FR .f64 r (fcv .f32 .f64 (cn .f32 v))) : (isNum .f64 (absF r) = true → ovf .f64 .f32 (absF r) = false) ∧ fcv .f64 .f32 (absF r) = absN v := by
  rw [fcv_cn] at h1
  obtain ⟨a1, a2⟩ := abs_rung h1.lt
  cases hN : isN .f32 v with
  | true =>
    have hr : isN .f64 r = true := by rw [← isN_cn, h1.eq, isN_fcv]; exact hN
    have ha : isN .f64 (absF r) = true := by rw [isN_rung, a1, ← isN_rung]; exact hr
    refine ⟨fun h => (by rw [isNum_not_nan h] at ha; cases ha), ?_⟩
    unfold absN fcv; rw [hN, ha]; exact nan32
  | false =>
    have e : r = fcv .f32 .f64 v := FR.exact h1 (by rw [isN_fcv]; exact hN)
    have eN : absN v = v % 2147483648 := by unfold absN; rw [hN]; rfl
    rw [eN]
    cases hn : isNum .f32 v with
    | true =>
      obtain ⟨u1, u2, u3⟩ := up_exact hn
      have n1 : isNum .f64 (absF r) = true := by unfold isNum; rw [a1, e]; exact u1
      obtain ⟨m, p, hd, hm, -, -⟩ := decode_num n1
      obtain ⟨m', e', -, hm', hb', he'⟩ := decode_num hn
      rw [a1, e, u3, ← hm'] at hm
      obtain ⟨x1, x2, x3⟩ := nearest_val .f32 (sgn FloatKind.f64.format (absF r)) m p m' e' hm hb' he' (by rw [hm']; exact (vq_lt_iff _).2 (by unfold isNum at hn; simpa using hn))
      have hf : fcv .f64 .f32 (absF r) = FloatKind.f32.encode (.number (sgn FloatKind.f64.format (absF r)) m p) := fcv_dec (isNum_not_nan n1) hd
      have hs : sgn FloatKind.f64.format (absF r) = false := by
        rw [absF_eq h1.lt]
        have h : r % 2 ^ 63 < 2 ^ 63 := Nat.mod_lt _ (by decide)
        unfold sgn; rw [sw64, Nat.div_eq_of_lt h]; rfl
      refine ⟨fun _ => ?_, ?_⟩
      · obtain ⟨s, a, b, hnn⟩ := isNum_decode.1 x1
        unfold ovf; rw [hd, hnn]; rfl
      · rw [hf]
        refine word_eq (encode_lt _ _) (by rw [x2]; exact hs) (vq_inj FloatKind.f32.format ?_)
        rw [x3, hm']
    | false =>
      have h : v < 4294967296 := hv
      rw [isN_rung] at hN
      unfold isNum at hn
      rw [f32_ir] at hN hn
      have er : rung FloatKind.f32.format v = v % 2147483648 := rfl
      rw [er] at hN hn
      simp only [decide_eq_false_iff_not] at hN hn
      subst e
      rcases (show v = 2139095040 ∨ v = 4286578688 by omega) with rfl | rfl
      · refine ⟨?_, ?_⟩ <;> decide +kernel
      · refine ⟨?_, ?_⟩ <;> decide +kernel
theorem cn_absN (v : Nat) : cn .f32 (absN v) = absN v := by
  unfold absN
  cases h : isN .f32 v with
  | true => rw [if_pos rfl]; decide +kernel
  | false => exact cn_of_not (by rw [if_neg (by decide), abs_nan32]; exact h)
theorem andNot32 (x : Nat) (hx : x < 2 ^ 32) : bits .andNot .u32 (x : Int) 2147483648 = ((x % 2147483648 : Nat) : Int) := by
  have e : (BitVec.ofInt 32 (x : Int) &&& ~~~ BitVec.ofInt 32 2147483648).toNat = x % 2 ^ 31 := by
    have h1 : (~~~ BitVec.ofInt 32 2147483648).toNat = 2 ^ 31 - 1 := by decide
    rw [BitVec.toNat_and, h1, Nat.and_two_pow_sub_one_eq_mod, BitVec.ofInt_natCast, BitVec.toNat_ofNat, Nat.mod_eq_of_lt hx]
  show IntKind.u32.wrap (((BitVec.ofInt 32 (x : Int) &&& ~~~ BitVec.ofInt 32 2147483648).toNat : Nat) : Int) = _
  rw [e, IntKind.wrap_u32]
  omega
theorem cn_mod (v : Nat) : cn .f32 (v % 2147483648) = absN v := by
  unfold absN
  cases h : isN .f32 v with
  | true => rw [cn_of_nan (by rw [abs_nan32]; exact h), nan32]; rfl
  | false => rw [cn_of_not (by rw [abs_nan32]; exact h)]; rfl
end Go.Proofs.YtcdcfkgdgimmcaaDoor
