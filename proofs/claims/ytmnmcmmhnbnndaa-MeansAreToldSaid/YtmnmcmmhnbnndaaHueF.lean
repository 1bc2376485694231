/- How far hues are apart: colour.HueApart, dyeref2.HuesApart; magnitudes. No condition. -/
import Derived.Test.YtmnmcmmhnbnndaaFloB
namespace Go.Proofs.Ytmnmcmmhnbnndaa
open Go.RowKit
def absF (b : Nat) : Nat := (bits .andNot .u64 (b : Int) 9223372036854775808).toNat
set_option maxHeartbeats 800000 in
theorem Abs_any (b : Nat) (w : World) : Calls Try.prog 78 #[.float .f64 b] w fun e w' => e = .returned (.float .f64 (absF b)) ∧ w = w' := by
  go_enter Try.func78, Try.ntmps78
  go_wp2
  go_ret
  exact ⟨rfl, rfl⟩
theorem andNot_top (x : Nat) (hx : x < 2 ^ 64) : bits .andNot .u64 (x : Int) 9223372036854775808 = ((x % 2 ^ 63 : Nat) : Int) := by
  have e : (BitVec.ofInt 64 (x : Int) &&& ~~~ BitVec.ofInt 64 9223372036854775808).toNat = x % 2 ^ 63 := by
    have h1 : (~~~ BitVec.ofInt 64 9223372036854775808).toNat = 2 ^ 63 - 1 := by decide
    rw [BitVec.toNat_and, h1, Nat.and_two_pow_sub_one_eq_mod, BitVec.ofInt_natCast, BitVec.toNat_ofNat, Nat.mod_eq_of_lt hx]
  have h : x % 2 ^ 63 < 2 ^ 63 := Nat.mod_lt _ (by decide)
  show IntKind.u64.wrap (((BitVec.ofInt 64 (x : Int) &&& ~~~ BitVec.ofInt 64 9223372036854775808).toNat : Nat) : Int) = _
  rw [e, IntKind.wrap_u64]
  omega
theorem absF_eq {r : Nat} (hr : r < 2 ^ FloatKind.f64.format.width) : absF r = r % 2 ^ 63 := by
  have hr : r < 2 ^ 64 := hr
  unfold absF; rw [andNot_top r hr]; rfl
theorem sw64 : FloatKind.f64.format.signWeight = 2 ^ 63 := by decide
theorem abs_rung {r : Nat} (hr : r < 2 ^ FloatKind.f64.format.width) : rung FloatKind.f64.format (absF r) = rung FloatKind.f64.format r ∧ key FloatKind.f64.format (absF r) = (rung FloatKind.f64.format r : Int) := by
  rw [absF_eq hr]
  unfold key sgn rung
  rw [sw64]
  have h : r % 2 ^ 63 < 2 ^ 63 := Nat.mod_lt _ (by decide)
  rw [Nat.mod_eq_of_lt h, Nat.div_eq_of_lt h]
  exact ⟨rfl, rfl⟩
/-- The magnitude of a single, one NaN for all. -/
def absN (x : Nat) : Nat := if isN .f32 x then 2143289344 else x % 2147483648
theorem absN_cn (x : Nat) : absN (cn .f32 x) = absN x := by
  by_cases h : isN .f32 x = true
  · unfold absN; rw [isN_cn, h]; rfl
  · rw [cn_of_not (by simpa using h)]
theorem abs_nan32 (x : Nat) : isN .f32 (x % 2147483648) = isN .f32 x := by
  rw [isN_rung, isN_rung]
  have e : ∀ y, rung FloatKind.f32.format y = y % 2147483648 := fun _ => rfl
  rw [e, e, Nat.mod_mod]
theorem word_eq {x y : Nat} (hx : x < 2 ^ FloatKind.f32.format.width) (hs : sgn FloatKind.f32.format x = false) (hr : rung FloatKind.f32.format x = rung FloatKind.f32.format y) : x = y % 2147483648 := by
  have hx : x < 4294967296 := hx
  have e : ∀ y, rung FloatKind.f32.format y = y % 2147483648 := fun _ => rfl
  rw [e, e] at hr
  have h2 : (x / 2147483648 % 2 == 1) = false := hs
  simp only [beq_eq_false_iff_ne] at h2
  omega
theorem mag_back {v r : Nat} (hv : v < 2 ^ FloatKind.f32.format.width) (h1 : FR .f64 r (fcv .f32 .f64 (cn .f32 v))) : (isNum .f64 (absF r) = true → ovf .f64 .f32 (absF r) = false) ∧ fcv .f64 .f32 (absF r) = absN v := by
  rw [fcv_cn] at h1
  obtain ⟨a1, a2⟩ := abs_rung h1.lt
  cases hN : isN .f32 v with
  | true =>
    have hr : isN .f64 r = true := by rw [← isN_cn, h1.eq, isN_fcv]; exact hN
    have ha : isN .f64 (absF r) = true := by rw [isN_rung, a1, ← isN_rung]; exact hr
    refine ⟨fun h => (by rw [isNum_not_nan h] at ha; cases ha), ?_⟩
    unfold absN fcv; rw [hN, ha]; exact nan32
  | false =>
    have e : r = fcv .f32 .f64 v := FR.exact h1 (by rw [isN_fcv]; exact hN)
    have eN : absN v = v % 2147483648 := by unfold absN; rw [hN]; rfl
    rw [eN]
    cases hn : isNum .f32 v with
    | true =>
      obtain ⟨u1, u2, u3⟩ := up_exact hn
      have n1 : isNum .f64 (absF r) = true := by unfold isNum; rw [a1, e]; exact u1
      obtain ⟨m, p, hd, hm, -, -⟩ := decode_num n1
      obtain ⟨m', e', -, hm', hb', he'⟩ := decode_num hn
      rw [a1, e, u3, ← hm'] at hm
      obtain ⟨x1, x2, x3⟩ := nearest_val .f32 (sgn FloatKind.f64.format (absF r)) m p m' e' hm hb' he' (by rw [hm']; exact (vq_lt_iff _).2 (by unfold isNum at hn; simpa using hn))
      have hf : fcv .f64 .f32 (absF r) = FloatKind.f32.encode (.number (sgn FloatKind.f64.format (absF r)) m p) := fcv_dec (isNum_not_nan n1) hd
      have hs : sgn FloatKind.f64.format (absF r) = false := by
        rw [absF_eq h1.lt]
        have h : r % 2 ^ 63 < 2 ^ 63 := Nat.mod_lt _ (by decide)
        unfold sgn; rw [sw64, Nat.div_eq_of_lt h]; rfl
      refine ⟨fun _ => ?_, ?_⟩
      · obtain ⟨s, a, b, hnn⟩ := isNum_decode.1 x1
        unfold ovf; rw [hd, hnn]; rfl
      · rw [hf]
        refine word_eq (encode_lt _ _) (by rw [x2]; exact hs) (vq_inj FloatKind.f32.format ?_)
        rw [x3, hm']
    | false =>
      have h : v < 4294967296 := hv
      rw [isN_rung] at hN
      unfold isNum at hn
      rw [f32_ir] at hN hn
      have er : rung FloatKind.f32.format v = v % 2147483648 := rfl
      rw [er] at hN hn
      simp only [decide_eq_false_iff_not] at hN hn
      subst e
      rcases (show v = 2139095040 ∨ v = 4286578688 by omega) with rfl | rfl
      · refine ⟨?_, ?_⟩ <;> decide +kernel
      · refine ⟨?_, ?_⟩ <;> decide +kernel
theorem cn_absN (v : Nat) : cn .f32 (absN v) = absN v := by
  unfold absN
  cases h : isN .f32 v with
  | true => rw [if_pos rfl]; decide +kernel
  | false => exact cn_of_not (by rw [if_neg (by decide), abs_nan32]; exact h)
set_option maxHeartbeats 800000 in
theorem magnitude_any (v : Nat) (w : World) (hv : v < 2 ^ FloatKind.f32.format.width) : Calls Try.prog 177 #[.float .f32 v] w fun e w' => e = .returned (.float .f32 (absN v)) ∧ ∃ m, w' = w.drewN m := by
  have hv' := Lib.hid hv; clear hv
  go_enter Try.func177, Try.ntmps177
  go_wp2_with (first | ((with_reducible apply wpList_up); rfl; exact Try.underlying38; exact Try.underlying51; intro r n hr; obtain ⟨ho, hb⟩ := mag_back hv'.out hr) | (go_at_call 78; refine (Abs_any _ _).mono ?_; rintro e w' ⟨rfl, rfl⟩) | ((with_reducible apply wpList_down); rfl; exact Try.underlying51; exact Try.underlying38; exact ho; intro t n2 ht) | (go_at_call 174; refine (Clean_any _ _).mono ?_; rintro e w' ⟨rfl, rfl⟩))
  go_ret
  exact ⟨ret_f (by rw [ht.eq, hb]), _, rfl⟩
theorem andNot32 (x : Nat) (hx : x < 2 ^ 32) : bits .andNot .u32 (x : Int) 2147483648 = ((x % 2147483648 : Nat) : Int) := by
  have e : (BitVec.ofInt 32 (x : Int) &&& ~~~ BitVec.ofInt 32 2147483648).toNat = x % 2 ^ 31 := by
    have h1 : (~~~ BitVec.ofInt 32 2147483648).toNat = 2 ^ 31 - 1 := by decide
    rw [BitVec.toNat_and, h1, Nat.and_two_pow_sub_one_eq_mod, BitVec.ofInt_natCast, BitVec.toNat_ofNat, Nat.mod_eq_of_lt hx]
  show IntKind.u32.wrap (((BitVec.ofInt 32 (x : Int) &&& ~~~ BitVec.ofInt 32 2147483648).toNat : Nat) : Int) = _
  rw [e, IntKind.wrap_u32]
  omega
set_option maxHeartbeats 800000 in
theorem AbsOf_any (v : Nat) (w : World) (hv : v < 2 ^ FloatKind.f32.format.width) : Calls Try.prog 166 #[.float .f32 v] w fun e w' => e = .returned (.float .f32 (v % 2147483648)) ∧ w = w' := by
  have b := andNot32 v hv
  go_enter Try.func166, Try.ntmps166
  go_wp2
  go_ret
  exact ⟨ret_f (by first | rfl | (rw [b]; rfl) | omega), rfl⟩
theorem cn_mod (v : Nat) : cn .f32 (v % 2147483648) = absN v := by
  unfold absN
  cases h : isN .f32 v with
  | true => rw [cn_of_nan (by rw [abs_nan32]; exact h), nan32]; rfl
  | false => rw [cn_of_not (by rw [abs_nan32]; exact h)]; rfl
theorem flF_cn (v : Nat) : flF (cn .f32 v) = flF v := by unfold flF; rw [fcv_cn]
/-- How far hues are apart. -/
def apF (a b : Nat) : Nat := absN (fop .sub .f32 (fop .sub .f32 (cn .f32 a) (cn .f32 b)) (flF (fop .add .f32 (fop .sub .f32 (cn .f32 a) (cn .f32 b)) (cn .f32 1056964608))))
theorem ap_FR {a b d s t u : Nat} (h1 : FR .f32 d (fop .sub .f32 (cn .f32 a) (cn .f32 b))) (h2 : FR .f32 s (fop .add .f32 (cn .f32 d) (cn .f32 1056964608))) (h3 : FR .f32 t (flF s)) (h4 : FR .f32 u (fop .sub .f32 (cn .f32 d) (cn .f32 t))) : absN u = apF a b := by
  unfold apF
  rw [← absN_cn u, h4.eq, h3.eq, ← flF_cn s, h2.eq, h1.eq]
set_option maxRecDepth 100000 in
set_option maxHeartbeats 1600000 in
theorem HueApart_any (a b : Nat) (w : World) : Calls Try.prog 91 #[.float .f32 a, .float .f32 b] w fun e w' => e = .returned (.float .f32 (if allNum [a, b] then apF a b else 2143289344)) ∧ Below w.heap.size w w' := by
  cases hn : allNum [a, b] with
  | false =>
    go_enter Try.func91, Try.ntmps91
    go_wp2_with (first | (go_at_call 144; refine (All2_any _ _ _ a b _ (by simp [go_sem]) (by simp [go_sem])).mono ?_; rintro e w' ⟨rfl, rfl⟩) | (go_at_call 173; refine (noneC_any _).mono ?_; rintro e w' ⟨rfl, rfl⟩))
    go_ret
    exact ⟨rfl, by (repeat (first | exact Below.refl _ _ | assumption | (refine Below.setCell ?_ (by first | (simp; done) | (simp; omega) | omega) _) | (refine Below.drew ?_) | (refine below_drewN ?_ _) | (refine Below.alloc ?_ (by first | (simp; done) | (simp; omega) | omega) _) | (refine Below.trans ?_ (Below.mono (by assumption) (by first | (simp; done) | (simp; omega) | omega)))))⟩
  | true =>
    go_enter Try.func91, Try.ntmps91
    go_wp2_with (first | (go_at_call 144; refine (All2_any _ _ _ a b _ (by simp [go_sem]) (by simp [go_sem])).mono ?_; rintro e w' ⟨rfl, rfl⟩) | (go_at_call 175; refine (Floor_any _ _ (FR.lt (by assumption))).mono ?_; rintro e w' ⟨⟨t, rfl, ht⟩, m, rfl⟩) | (go_at_call 177; refine (magnitude_any _ _ (FR.lt (by assumption))).mono ?_; rintro e w' ⟨rfl, m, rfl⟩) | ((with_reducible apply wpList_farith); rfl; rfl; rfl; intro _ _ _) | ((with_reducible apply wpList_up); rfl; exact Try.underlying38; exact Try.underlying51; intro _ _ _))
    go_ret
    rename_i d _ h1 s _ h2 _ u _ h4
    exact ⟨ret_f (ap_FR h1 h2 ht h4), by (repeat (first | exact Below.refl _ _ | assumption | (refine Below.setCell ?_ (by first | (simp; done) | (simp; omega) | omega) _) | (refine Below.drew ?_) | (refine below_drewN ?_ _) | (refine Below.alloc ?_ (by first | (simp; done) | (simp; omega) | omega) _) | (refine Below.trans ?_ (Below.mono (by assumption) (by first | (simp; done) | (simp; omega) | omega)))))⟩
set_option maxRecDepth 100000 in
set_option maxHeartbeats 1600000 in
theorem HuesApart_any (a b : Nat) (w : World) : Calls Try.prog 92 #[.float .f32 a, .float .f32 b] w fun e w' => e = .returned (.float .f32 (if allNum [a, b] then apF a b else 2143289344)) ∧ Below w.heap.size w w' := by
  have e : allNum [a, b] = (isNum .f32 a && isNum .f32 b) := by simp [allNum]
  rw [e]
  cases ha : isNum .f32 a <;> cases hb : isNum .f32 b
  case true.true =>
    go_enter Try.func92, Try.ntmps92
    go_wp2_with (first | (go_at_call 52; refine (IsNumberR_any _ _).mono ?_; rintro e w' ⟨rfl, m, rfl⟩) | ((with_reducible apply wpList_up); rfl; exact Try.underlying38; exact Try.underlying51; intro r n hr) | (go_at_call 176; refine (FloorD_any _ _ hr.lt).mono ?_; rintro e w' ⟨⟨s, rfl, hs⟩, m, rfl⟩; obtain ⟨ho, hb⟩ := fl_back (FR.lt h2) hr hs) | ((with_reducible apply wpList_down); rfl; exact Try.underlying51; exact Try.underlying38; exact ho; intro t n2 ht) | (go_at_call 166; refine (AbsOf_any _ _ (FR.lt h2)).mono ?_; rintro e w' ⟨rfl, rfl⟩) | (go_at_call 55; refine (Fix_any _ _).mono ?_; rintro e w' ⟨rfl, rfl⟩) | ((with_reducible apply wpList_farith); rfl; rfl; rfl; intro d n h2))
    go_ret
    rename_i d1 _ e1 s1 _ e2 _
    exact ⟨ret_f (by rw [cn_mod]; exact ap_FR e1 e2 (hb _ ht) h2), by (repeat (first | exact Below.refl _ _ | assumption | (refine Below.setCell ?_ (by first | (simp; done) | (simp; omega) | omega) _) | (refine Below.drew ?_) | (refine below_drewN ?_ _) | (refine Below.alloc ?_ (by first | (simp; done) | (simp; omega) | omega) _) | (refine Below.trans ?_ (Below.mono (by assumption) (by first | (simp; done) | (simp; omega) | omega)))))⟩
  all_goals
    go_enter Try.func92, Try.ntmps92
    go_wp2_with (first | (go_at_call 52; refine (IsNumberR_any _ _).mono ?_; rintro e w' ⟨rfl, m, rfl⟩) | (go_at_call 152; refine (TheNaN_any _).mono ?_; rintro e w' ⟨rfl, rfl⟩))
    go_ret
    exact ⟨rfl, by (repeat (first | exact Below.refl _ _ | assumption | (refine Below.setCell ?_ (by first | (simp; done) | (simp; omega) | omega) _) | (refine Below.drew ?_) | (refine below_drewN ?_ _) | (refine Below.alloc ?_ (by first | (simp; done) | (simp; omega) | omega) _) | (refine Below.trans ?_ (Below.mono (by assumption) (by first | (simp; done) | (simp; omega) | omega)))))⟩
end Go.Proofs.Ytmnmcmmhnbnndaa
