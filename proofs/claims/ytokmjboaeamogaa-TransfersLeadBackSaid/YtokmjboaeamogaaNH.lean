/- Kinds of singles and magnitudes as doubles. No condition. -/
import Derived.Test.YtokmjboaeamogaaPlace
import Derived.Test.YtokmjboaeamogaaBF
namespace Go.Proofs.Ytokmjboaeamogaa
open Go.RowKit
theorem andNot_top (x : Nat) (hx : x < 2 ^ 64) : bits .andNot .u64 (x : Int) 9223372036854775808 = ((x % 2 ^ 63 : Nat) : Int) := by
  have e : (BitVec.ofInt 64 (x : Int) &&& ~~~ BitVec.ofInt 64 9223372036854775808).toNat = x % 2 ^ 63 := by
    have h1 : (~~~ BitVec.ofInt 64 9223372036854775808).toNat = 2 ^ 63 - 1 := by decide
    rw [BitVec.toNat_and, h1, Nat.and_two_pow_sub_one_eq_mod, BitVec.ofInt_natCast, BitVec.toNat_ofNat, Nat.mod_eq_of_lt hx]
  have h : x % 2 ^ 63 < 2 ^ 63 := Nat.mod_lt _ (by decide)
  show IntKind.u64.wrap (((BitVec.ofInt 64 (x : Int) &&& ~~~ BitVec.ofInt 64 9223372036854775808).toNat : Nat) : Int) = _
  rw [e, IntKind.wrap_u64]
  omega
theorem absF_eq {r : Nat} (hr : r < 2 ^ FloatKind.f64.format.width) : absF r = r % 2 ^ 63 := by
  have hr : r < 2 ^ 64 := hr
  unfold absF; rw [andNot_top r hr]; rfl
theorem sw64 : FloatKind.f64.format.signWeight = 2 ^ 63 := by decide
theorem abs_rung {r : Nat} (hr : r < 2 ^ FloatKind.f64.format.width) : rung FloatKind.f64.format (absF r) = rung FloatKind.f64.format r ∧ key FloatKind.f64.format (absF r) = (rung FloatKind.f64.format r : Int) := by
  rw [absF_eq hr]
  unfold key sgn rung
  rw [sw64]
  have h : r % 2 ^ 63 < 2 ^ 63 := Nat.mod_lt _ (by decide)
  rw [Nat.mod_eq_of_lt h, Nat.div_eq_of_lt h]
  exact ⟨rfl, rfl⟩
/-- The magnitude of a single. -/
def magF (v : Nat) : Nat := rung FloatKind.f32.format v
theorem mag_eq (v : Nat) : magF v = v % 2147483648 := rfl
theorem inf32 : FloatKind.f32.format.infRung = 2139095040 := by decide
theorem abs_nan {v r : Nat} (hr : FR .f64 r (fcv .f32 .f64 (cn .f32 v))) (hn : isN .f32 v = false) : r = fcv .f32 .f64 v ∧ isN .f64 (absF r) = false := by
  rw [fcv_cn] at hr
  have h1 : isN .f64 (fcv .f32 .f64 v) = false := by rw [isN_fcv]; exact hn
  have e := FR.exact hr h1
  refine ⟨e, ?_⟩
  rw [isN_rung, (abs_rung hr.lt).1, ← isN_rung, e]; exact h1
theorem up_lit {b c : Nat} (hn : isNum .f32 b = true) (h : fcv .f32 .f64 b = c) : vq FloatKind.f64.format (rung FloatKind.f64.format c) = vq FloatKind.f32.format (rung FloatKind.f32.format b) := by
  rw [← h]; exact (up_exact hn).2.2
/-- Magnitudes of singles and their doubles are in the same order. -/
theorem mag_lt {v b c : Nat} (hv : isNum .f32 v = true) (hb : isNum .f32 b = true) (h : fcv .f32 .f64 b = c) : (rung FloatKind.f64.format (fcv .f32 .f64 v) < rung FloatKind.f64.format c ↔ magF v < magF b) ∧ (rung FloatKind.f64.format c < rung FloatKind.f64.format (fcv .f32 .f64 v) ↔ magF b < magF v) := by
  have e1 := (up_exact hv).2.2
  have e2 := up_lit hb h
  unfold magF
  exact ⟨(vq_lt_iff FloatKind.f64.format).symm.trans (by rw [e1, e2]; exact vq_lt_iff _), (vq_lt_iff FloatKind.f64.format).symm.trans (by rw [e1, e2]; exact vq_lt_iff _)⟩
theorem lits : isNum .f32 0 = true ∧ fcv .f32 .f64 0 = 0 ∧ isNum .f32 8388608 = true ∧ fcv .f32 .f64 8388608 = 4039728865751334912 ∧ isNum .f32 2139095039 = true ∧ fcv .f32 .f64 2139095039 = 5183643170566569984 := by
  refine ⟨?_, ?_, ?_, ?_, ?_, ?_⟩ <;> decide +kernel
theorem lit_nan : isN .f64 0 = false ∧ isN .f64 4039728865751334912 = false ∧ isN .f64 5183643170566569984 = false := by
  refine ⟨?_, ?_, ?_⟩ <;> decide +kernel
theorem lit_key : key FloatKind.f64.format 0 = 0 ∧ key FloatKind.f64.format 4039728865751334912 = 4039728865751334912 ∧ key FloatKind.f64.format 5183643170566569984 = 5183643170566569984 ∧ rung FloatKind.f64.format 0 = 0 ∧ rung FloatKind.f64.format 4039728865751334912 = 4039728865751334912 ∧ rung FloatKind.f64.format 5183643170566569984 = 5183643170566569984 := by
  refine ⟨?_, ?_, ?_, ?_, ?_, ?_⟩ <;> decide
/-- What is told of a magnitude as a double is told of the single. -/
theorem abs_facts {v r : Nat} (hr : FR .f64 r (fcv .f32 .f64 (cn .f32 v))) (hn : isNum .f32 v = true) :
    (FloatKind.f64.format.order (absF r) 0 == some .eq) = decide (magF v = 0) ∧ (FloatKind.f64.format.order (absF r) 4039728865751334912 == some .lt) = decide (magF v < 8388608) ∧ (FloatKind.f64.format.order (absF r) 5183643170566569984 == some .gt) = false := by
  obtain ⟨e, hN⟩ := abs_nan hr (isNum_not_nan hn)
  obtain ⟨-, hk⟩ := abs_rung hr.lt
  obtain ⟨l1, l2, l3, l4, l5, l6⟩ := lits
  obtain ⟨n1, n2, n3⟩ := lit_nan
  obtain ⟨k1, k2, k3, k4, k5, k6⟩ := lit_key
  have a1 := mag_lt hn l1 l2
  have a2 := mag_lt hn l3 l4
  have a3 := mag_lt hn l5 l6
  have m1 : magF 0 = 0 := rfl
  have m2 : magF 8388608 = 8388608 := rfl
  have m3 : magF 2139095039 = 2139095039 := rfl
  have hb : magF v < 2139095040 := by
    unfold isNum at hn; rw [inf32] at hn; simpa [magF] using hn
  rw [ord_eq hN n1, ord_lt hN n2, ord_gt hN n3, hk, k1, k2, k3, e]
  rw [k4, m1] at a1
  rw [k5, m2] at a2
  rw [k6, m3] at a3
  generalize rung FloatKind.f64.format (fcv .f32 .f64 v) = R at *
  generalize magF v = M at *
  refine ⟨?_, ?_, ?_⟩
  · rw [decide_eq_decide]; omega
  · rw [decide_eq_decide]; omega
  · rw [decide_eq_false_iff_not]; omega
theorem inf_of {v : Nat} (hv : v < 2 ^ FloatKind.f32.format.width) (hN : isN .f32 v = false) (hn : isNum .f32 v = false) : magF v = 2139095040 ∧ (v = 2139095040 ∨ v = 4286578688) := by
  have hv : v < 4294967296 := hv
  rw [isN_rung, inf32] at hN
  unfold isNum at hn
  rw [inf32] at hn
  have e : rung FloatKind.f32.format v = v % 2147483648 := rfl
  rw [e] at hN hn
  simp only [decide_eq_false_iff_not] at hN hn
  unfold magF
  rw [e]
  omega
theorem inf_facts {v r : Nat} (hv : v < 2 ^ FloatKind.f32.format.width) (hr : FR .f64 r (fcv .f32 .f64 (cn .f32 v))) (hN : isN .f32 v = false) (hn : isNum .f32 v = false) :
    (FloatKind.f64.format.order (absF r) 0 == some .eq) = false ∧ (FloatKind.f64.format.order (absF r) 4039728865751334912 == some .lt) = false ∧ (FloatKind.f64.format.order (absF r) 5183643170566569984 == some .gt) = true := by
  obtain ⟨e, -⟩ := abs_nan hr hN
  obtain ⟨-, rfl | rfl⟩ := inf_of hv hN hn
  · have e2 : r = 9218868437227405312 := by rw [e]; decide +kernel
    subst e2
    refine ⟨?_, ?_, ?_⟩ <;> decide +kernel
  · have e2 : r = 18442240474082181120 := by rw [e]; decide +kernel
    subst e2
    refine ⟨?_, ?_, ?_⟩ <;> decide +kernel
/-- The kind of a single. -/
def kindZ (v : Nat) : Int := if isN .f32 v then 4 else if magF v = 0 then 0 else if isNum .f32 v then (if magF v < 8388608 then 1 else 2) else 3
theorem and_exp {v : Nat} (hv : v < 2 ^ FloatKind.f32.format.width) : (bits .and .u32 (v : Int) 2139095040 = 0) ↔ magF v < 8388608 := by
  have hv : v < 2 ^ 32 := hv
  have h := and_nat .u32 (.inr (.inr rfl)) v 2139095040 hv (by decide)
  rw [show ((2139095040 : Nat) : Int) = 2139095040 from rfl] at h
  have d : (v &&& 2139095040) / 2 ^ 23 = (v / 2 ^ 23) % 2 ^ 8 := by
    rw [Nat.and_div_two_pow, show 2139095040 / 2 ^ 23 = 2 ^ 8 - 1 from rfl, Nat.and_two_pow_sub_one_eq_mod]
  have m : (v &&& 2139095040) % 2 ^ 23 = 0 := by
    rw [Nat.and_mod_two_pow, show 2139095040 % 2 ^ 23 = 0 from rfl, Nat.and_zero]
  rw [h, mag_eq]
  omega
theorem ord_zero {v : Nat} (hN : isN .f32 v = false) : (FloatKind.f32.format.order v 0 == some .eq) = decide (magF v = 0) := by
  rw [ord_eq hN (by decide +kernel)]
  have e : key FloatKind.f32.format 0 = 0 := by decide
  rw [e, decide_eq_decide]
  unfold key magF
  split <;> omega
set_option maxRecDepth 100000 in
set_option maxHeartbeats 1600000 in
theorem ldexp_small (w : World) : Calls Try.prog 22 #[.float .f64 4607182418800017408, .int .i64 (-126)] w fun e w' => e = .returned (.float .f64 4039728865751334912) ∧ ∃ m, w' = w.drewN m := by
  have b2 : bits .and .i64 1023 2047 = 1023 := by decide +kernel
  have b3 : bits .andNot .u64 4607182418800017408 9218868437227405312 = 0 := by decide +kernel
  have b4 : bits .or .u64 0 4039728865751334912 = 4039728865751334912 := by decide +kernel
  have o1 : (FloatKind.f64.format.order 4607182418800017408 0 == some .eq) = false := by decide +kernel
  have o2 : (FloatKind.f64.format.order (absF 4607182418800017408) 9218868437227405311 == some .gt) = false := by decide +kernel
  have o3 : (FloatKind.f64.format.order 4607182418800017408 4607182418800017408 != some .eq) = false := by decide +kernel
  have o4 : (FloatKind.f64.format.order (absF 4607182418800017408) 4503599627370496 == some .lt) = false := by decide +kernel
  have f1 : fop .mul .f64 (cn .f64 4607182418800017408) (cn .f64 4039728865751334912) = 4039728865751334912 := by decide +kernel
  go_enter Try.func22, Try.ntmps22
  go_wp2_with (first | ((with_reducible apply wpList_flit); rfl; rfl; rfl; assumption; (first | assumption | (decide +kernel)); intro _) | (go_at_call 41; refine (IsInf_any _ _).mono ?_; rintro e w' ⟨rfl, rfl⟩) | (go_at_call 42; refine (IsNaN_any _ _).mono ?_; rintro e w' ⟨rfl, rfl⟩) | (go_at_call 43; refine (normalize_big _ _ o4).mono ?_; rintro e w' ⟨rfl, rfl⟩))
  go_ret
  exact ⟨rfl, _, rfl⟩
set_option maxHeartbeats 800000 in
theorem Ldexp_small (w : World) : Calls Try.prog 9 #[.float .f64 4607182418800017408, .int .i64 (-126)] w fun e w' => e = .returned (.float .f64 4039728865751334912) ∧ ∃ m, w' = w.drewN m := by
  go_enter Try.func9, Try.ntmps9
  go_wp2_with (first | (go_at_call 22; refine (ldexp_small _).mono ?_; rintro e w' ⟨rfl, m, rfl⟩))
  go_ret
  exact ⟨rfl, _, rfl⟩
end Go.Proofs.Ytokmjboaeamogaa
