/- num.Mini of a number that is not 0. Conditions: those named. -/
import Derived.Test.YtefjkelakecanaaMnV
namespace Go.Proofs.Ytefjkelakecanaa
open Go.RowKit
/-- What the rounded quotient is. -/
theorem mini_round {X F b r2 r3 : Nat} {q : Rat} {E g : Int} (hF : 1 ≤ F ∧ F ≤ 23) (hb : val .f64 b = q) (hE1 : (2 : Rat) ^ E ≤ val .f64 b) (hE2 : val .f64 b < (2 : Rat) ^ (E + 1)) (hg : g = max E (1 - (2 ^ (X - 1) - 1)))
    (h1 : isNum .f64 r2 = true) (h2 : sgn FloatKind.f64.format r2 = false) (h3 : val .f64 r2 = val .f64 b * (2 : Rat) ^ ((F : Int) - g)) (hr : FR .f64 r3 (fwhole .even (cn .f64 r2))) :
    ∃ n j : Nat, floatToIntVal .f64 r3 .i64 = some (n : Int) ∧ n ≤ 2 ^ (F + 1) ∧ g = (j : Int) + (1 - (2 ^ (X - 1) - 1)) ∧ (n < 2 ^ F → j = 0) ∧ codeK X F q (min (j * 2 ^ F + n) (allK X F)) := by
  have t1 : val .f64 r2 < ((2 ^ (F + 1) : Nat) : Rat) := by
    have a := Rat.mul_lt_mul_of_pos_right hE2 (zp_pos ((F : Int) - g))
    rw [← h3, ← zp_add] at a
    rw [← zp_nat]
    exact rlt_le a (zp_le (by omega))
  have f24 : (2 : Nat) ^ (F + 1) ≤ 2 ^ 40 := Nat.pow_le_pow_right (by decide) (by omega)
  obtain ⟨n, n1, n2, n3, n4, n5⟩ := whole_even h1 h2 (Rat.le_trans (Rat.le_of_lt t1) (Rat.natCast_le_natCast.2 f24))
  rw [hb] at hE1 hE2 h3
  obtain ⟨-, -, c3, j, c4, c5, c6⟩ := mini_code (n := n) hF.1 hE1 hE2 hg h3 n3 n4 n5
  rw [cn_of_not (isNum_not_nan h1)] at hr
  obtain rfl := hr.exact (isNum_not_nan n1)
  refine ⟨n, j, f2i_int n1 (by rw [n2, Rat.intCast_natCast]) ?_, c3, c4, c5, c6⟩
  have : (2 : Nat) ^ 40 ≤ 2 ^ 60 := by decide
  omega
set_option maxHeartbeats 6400000 in
theorem Mini_num (v X F : Nat) (w : World) (hX : 2 ≤ X ∧ X ≤ 8) (hF : 1 ≤ F ∧ F ≤ 23) (hl : v < 2 ^ FloatKind.f32.format.width) (hn : isNum .f32 v = true) (hz : magF v ≠ 0) : Calls Try.prog 14 #[.float .f32 v, .int .i64 X, .int .i64 F] w fun e w' => ∃ k : Nat, e = .returned (.tuple #[.int .i64 ((sgK X F v + k : Nat) : Int), .int .i64 0]) ∧ codeK X F (vq FloatKind.f32.format (rung FloatKind.f32.format v)) k ∧ ∃ m, w' = w.drewN m := by
  have h := faultB_no hX hF
  have hv := isNum_not_nan hn
  have h1 : (FloatKind.f32.format.order v v != some .eq) = false := by rw [ord_self_ne]; exact hv
  obtain ⟨⟨p1, p2⟩, ⟨q1, q2⟩, ⟨x1, x2⟩, -, ⟨e1, e2⟩, f1, hA, hA1, hs1, -, hs3⟩ := mini_pows hX hF
  have h3 := isNum_code v
  rw [ord_self_eq, hv, hn] at h3
  have h6 : ((FloatKind.f32.format.order v 2139095039 == some .gt) || (FloatKind.f32.format.order v 4286578687 == some .lt)) = false := by
    revert h3; cases ((FloatKind.f32.format.order v 2139095039 == some .gt) || (FloatKind.f32.format.order v 4286578687 == some .lt)) <;> simp
  have h2 := ord_zero hv
  rw [decide_eq_false hz] at h2
  have hb := and_sign v hl
  clear h3
  obtain ⟨b, hbe⟩ : ∃ b, b = absF (fcv .f32 .f64 v) := ⟨_, rfl⟩
  obtain ⟨b1, b2, b3, b4, b5, b6, b7, b8⟩ := abs_place hn hz b hbe
  have HB := Lib.hid (And.intro b1 (And.intro b2 (And.intro b3 (And.intro b4 (And.intro b5 (And.intro b6 (And.intro b7 b8)))))))
  have HE := Lib.hid hbe
  clear b1 b2 b3 b4 b7 b8 hbe
  obtain ⟨E, hE⟩ : ∃ E : Int, E = ((b / 4503599627370496 : Nat) : Int) - 1023 := ⟨_, rfl⟩
  have hE0 : ((b / 4503599627370496 : Nat) : Int) - 1022 = E + 1 := by omega
  have hE1 : -149 ≤ E ∧ E ≤ 127 := by omega
  obtain ⟨hE2, hE3⟩ := hE1
  have HEe := Lib.hid (And.intro b5 (And.intro b6 hE))
  clear b5 b6 hE
  obtain ⟨g, hg⟩ : ∃ g : Int, g = max E (1 - (2 ^ (X - 1) - 1)) := ⟨_, rfl⟩
  have hg1 : (if E < 1 - ((2 : Int) ^ (X - 1) - 1) then 1 - ((2 : Int) ^ (X - 1) - 1) else E) = g := by rw [hg]; split <;> omega
  have hg2 : -149 ≤ g ∧ g ≤ 127 := by omega
  obtain ⟨hg3, hg4⟩ := hg2
  have HG := Lib.hid hg
  clear hg
  by_cases hs : v < 2147483648
  · rw [if_pos hs] at hb
    have hS : sgK X F v = 0 := by unfold sgK; rw [if_pos hs]
    rw [hS]
    go_enter Try.func14, Try.ntmps14
    go_upto_region 18 with (first | ((with_reducible apply wpList_up); rfl; exact Try.underlying22; exact Try.underlying26; intro r nr hr; obtain rfl := (abs_nan hr hv).1; clear hr) | (go_at_call 38; refine (miniFault_any _ _ _).mono ?_; rintro e w' ⟨rfl, rfl⟩; rw [h]) | (go_at_call 36; refine (infinite_any _ _).mono ?_; rintro e w' ⟨rfl, rfl⟩; rw [h6]) | (go_at_call 11; refine (Abs_any _ _).mono ?_; rintro e w' ⟨rfl, rfl⟩; rw [← HE.out]) | (go_at_call 39; refine (Frexp_plain b _ HB.out.1 HB.out.2.1 (Nat.lt_of_lt_of_le HB.out.2.2.1 (by decide)) (by have := HEe.out.1; omega)).mono ?_; rintro e w' ⟨⟨z, rfl⟩, rfl⟩; rw [hE0]) | (go_at_call 9; refine (Ldexp_lt ((F : Int) - g) _ HB.out.1 HB.out.2.1 (Nat.lt_of_lt_of_le HB.out.2.2.1 (by decide)) (by have := HEe.out.1; omega) (by have := HEe.out; have := HG.out; omega) (by have := HEe.out; have := HG.out; omega)).mono ?_; rintro e w' ⟨r2, rfl, hr2, m2, rfl⟩; have HR := Lib.hid hr2; clear hr2) | ((with_reducible apply wpList_even); rfl; exact Nat.lt_of_lt_of_le HR.out.2.2.1 (by decide); intro r3 n3 hr3) | ((with_reducible apply wpList_f2i); rfl; exact Try.underlying26; exact Try.underlying3; intro mi ni hmi; obtain ⟨n, j, i1, i2, i3, i4, i5⟩ := mini_round hF HB.out.2.2.2.1 (E := E) (by rw [HEe.out.2.2]; exact HB.out.2.2.2.2.2.2.1) (by rw [HEe.out.2.2]; have h9 := HB.out.2.2.2.2.2.2.2; rw [show ((b / 4503599627370496 : Nat) : Int) - 1023 + 1 = ((b / 4503599627370496 : Nat) : Int) - 1022 by omega]; exact h9) HG.out HR.out.1 HR.out.2.1 HR.out.2.2.2 hr3; obtain rfl := hmi _ i1; have HC := Lib.hid (And.intro i3 (And.intro i4 i5)); clear i1 i3 i4 i5 hr3 hmi))
    obtain ⟨HC1, HC2, HC3⟩ := HC.out
    obtain ⟨k, hk⟩ : ∃ k, k = min (j * 2 ^ F + n) (allK X F) := ⟨_, rfl⟩
    rw [← hk] at HC3
    have hor := or_sg (v := v) (k := k) hX hF (by omega)
    rw [hS] at hor
    have hor' : bits .or .i64 (0 : Int) (k : Int) = ((0 + k : Nat) : Int) := hor
    have HK := Lib.hid HC3
    have hc : (((2 : Nat) ^ F : Nat) : Int) = (2 : Int) ^ F := by push_cast; rfl
    have i2' : (n : Int) ≤ 2 ^ (F + 1) := by exact_mod_cast i2
    rw [f1] at i2'
    clear hor HC HC3
    rcases Nat.lt_or_ge n (2 ^ F) with hn1 | hn1
    · have hj := HC2 hn1
      subst hj
      have hn2 : (n : Int) < 2 ^ F := by rw [← hc]; exact_mod_cast hn1
      have hne : ¬ ((n : Int) = 2 ^ (F + 1)) := by omega
      have hk2 : (k : Int) = min (n : Int) (allK X F : Int) := by rw [Nat.zero_mul, Nat.zero_add] at hk; omega
      clear hn1 i2 HC1 HC2 hk hc hs1 hs3
      by_cases hm : (n : Int) ≤ (allK X F : Int)
      · obtain rfl : k = n := by omega
        clear hk2
        go_wp2_with fail
        exact bodyPost_ret (v := .tuple #[.int .i64 ((0 + k : Nat) : Int), .int .i64 0]) (by simp [results, Try.results14, go_sem, *]) rfl ⟨_, by rw [Nat.zero_add], HK.out, _, rfl⟩
      · obtain rfl : k = allK X F := by omega
        clear hk2
        go_wp2_with fail
        exact bodyPost_ret (v := .tuple #[.int .i64 ((0 + allK X F : Nat) : Int), .int .i64 0]) (by simp [results, Try.results14, go_sem, *]) rfl ⟨_, by rw [Nat.zero_add], HK.out, _, rfl⟩
    · have hn2 : (2 : Int) ^ F ≤ n := by rw [← hc]; exact_mod_cast hn1
      rcases Nat.lt_or_ge n (2 ^ (F + 1)) with hn3 | hn3
      · have hn4 : (n : Int) < 2 ^ (F + 1) := by exact_mod_cast hn3
        have hne : ¬ ((n : Int) = 2 ^ (F + 1)) := by omega
        obtain ⟨P, hP⟩ : ∃ P : Int, P = (((j + 1) * 2 ^ F : Nat) : Int) := ⟨_, rfl⟩
        have hj : j ≤ 254 := by omega
        have hP0 : 0 ≤ P := by omega
        have hP1 : P ≤ 2139095040 := by
          have h8 : (j + 1) * 2 ^ F ≤ 255 * 8388608 := Nat.mul_le_mul (by omega) (Nat.pow_le_pow_right (n := 2) (by decide) (show F ≤ 23 by omega))
          rw [hP]; omega
        have hPw : wrap64 ((g + ((2 : Int) ^ (X - 1) - 1)) * 2 ^ F) = P := by
          rw [show g + ((2 : Int) ^ (X - 1) - 1) = ((j + 1 : Nat) : Int) by omega, ← hc, ← Int.natCast_mul, ← hP]
          unfold wrap64; omega
        have hk2 : (k : Int) = min (P + n - 2 ^ F) (allK X F : Int) := by
          rw [hP, ← hc, hk, Nat.add_mul, Nat.one_mul]; omega
        clear hn1 hn3 i2 HC1 HC2 hk hc hs1 hs3 hP hj
        by_cases hm : P + n - 2 ^ F ≤ (allK X F : Int)
        · have hk3 : P + n - 2 ^ F = (k : Int) := by omega
          have HK3 := Lib.hid hk3
          clear hk2 hk3
          go_upto_region 22 with fail
          go_quiet (fail)
          refine sp_exit (fun W1 hW1 => ?_)
          have HW := Lib.hid hW1
          clear hW1
          rw [HK3.out]
          have hm' : (k : Int) ≤ (allK X F : Int) := by have := HK3.out; omega
          clear hm
          go_wp2_with fail
          exact bodyPost_ret (v := .tuple #[.int .i64 ((0 + k : Nat) : Int), .int .i64 0]) (by simp [results, Try.results14, go_sem, *]) rfl ⟨_, by rw [Nat.zero_add], HK.out, by rw [HW.out]; exact ⟨_, World.drewN_drewN _ _ _⟩⟩
        · obtain rfl : k = allK X F := by omega
          clear hk2
          go_upto_region 22 with fail
          go_quiet (fail)
          refine sp_exit (fun W1 hW1 => ?_)
          have HW := Lib.hid hW1
          clear hW1
          obtain ⟨V, hV⟩ : ∃ V : Int, V = P + n - 2 ^ F := ⟨_, rfl⟩
          rw [← hV]
          have hm' : ¬ V ≤ (allK X F : Int) := by omega
          clear hm hV
          go_wp2_with fail
          exact bodyPost_ret (v := .tuple #[.int .i64 ((0 + allK X F : Nat) : Int), .int .i64 0]) (by simp [results, Try.results14, go_sem, *]) rfl ⟨_, by rw [Nat.zero_add], HK.out, by rw [HW.out]; exact ⟨_, World.drewN_drewN _ _ _⟩⟩
      · obtain rfl : n = 2 ^ (F + 1) := Nat.le_antisymm i2 hn3
        have hn4 : ((2 ^ (F + 1) : Nat) : Int) = (2 : Int) ^ (F + 1) := by push_cast; rfl
        obtain ⟨P, hP⟩ : ∃ P : Int, P = (((j + 2) * 2 ^ F : Nat) : Int) := ⟨_, rfl⟩
        have hj : j ≤ 254 := by omega
        have hP0 : 0 ≤ P := by omega
        have hP1 : P ≤ 2147483648 := by
          have h8 : (j + 2) * 2 ^ F ≤ 256 * 8388608 := Nat.mul_le_mul (by omega) (Nat.pow_le_pow_right (n := 2) (by decide) (show F ≤ 23 by omega))
          rw [hP]; omega
        have hPw : wrap64 ((g + 1 + ((2 : Int) ^ (X - 1) - 1)) * 2 ^ F) = P := by
          rw [show g + 1 + ((2 : Int) ^ (X - 1) - 1) = ((j + 2 : Nat) : Int) by omega, ← hc, ← Int.natCast_mul, ← hP]
          unfold wrap64; omega
        have hk2 : (k : Int) = min P (allK X F : Int) := by
          rw [hP, hk, Nat.add_mul, Nat.pow_succ, Nat.mul_comm 2 (2 ^ F)]; omega
        rw [hn4]
        clear hn1 hn3 i2 HC1 HC2 hk hc hs1 hs3 hP hj hn2 i2'
        by_cases hm : P ≤ (allK X F : Int)
        · obtain rfl : P = (k : Int) := by omega
          clear hk2
          go_upto_region 22 with fail
          go_quiet (fail)
          refine sp_exit (fun W1 hW1 => ?_)
          have HW := Lib.hid hW1
          clear hW1
          go_wp2_with fail
          exact bodyPost_ret (v := .tuple #[.int .i64 ((0 + k : Nat) : Int), .int .i64 0]) (by simp [results, Try.results14, go_sem, *]) rfl ⟨_, by rw [Nat.zero_add], HK.out, by rw [HW.out]; exact ⟨_, World.drewN_drewN _ _ _⟩⟩
        · obtain rfl : k = allK X F := by omega
          clear hk2
          go_upto_region 22 with fail
          go_quiet (fail)
          refine sp_exit (fun W1 hW1 => ?_)
          have HW := Lib.hid hW1
          clear hW1
          go_wp2_with fail
          exact bodyPost_ret (v := .tuple #[.int .i64 ((0 + allK X F : Nat) : Int), .int .i64 0]) (by simp [results, Try.results14, go_sem, *]) rfl ⟨_, by rw [Nat.zero_add], HK.out, by rw [HW.out]; exact ⟨_, World.drewN_drewN _ _ _⟩⟩
  · rw [if_neg hs] at hb
    have hS : sgK X F v = 2 ^ (X + F) := by unfold sgK; rw [if_neg hs]
    rw [hS]
    go_enter Try.func14, Try.ntmps14
    go_upto_region 18 with (first | ((with_reducible apply wpList_up); rfl; exact Try.underlying22; exact Try.underlying26; intro r nr hr; obtain rfl := (abs_nan hr hv).1; clear hr) | (go_at_call 38; refine (miniFault_any _ _ _).mono ?_; rintro e w' ⟨rfl, rfl⟩; rw [h]) | (go_at_call 36; refine (infinite_any _ _).mono ?_; rintro e w' ⟨rfl, rfl⟩; rw [h6]) | (go_at_call 11; refine (Abs_any _ _).mono ?_; rintro e w' ⟨rfl, rfl⟩; rw [← HE.out]) | (go_at_call 39; refine (Frexp_plain b _ HB.out.1 HB.out.2.1 (Nat.lt_of_lt_of_le HB.out.2.2.1 (by decide)) (by have := HEe.out.1; omega)).mono ?_; rintro e w' ⟨⟨z, rfl⟩, rfl⟩; rw [hE0]) | (go_at_call 9; refine (Ldexp_lt ((F : Int) - g) _ HB.out.1 HB.out.2.1 (Nat.lt_of_lt_of_le HB.out.2.2.1 (by decide)) (by have := HEe.out.1; omega) (by have := HEe.out; have := HG.out; omega) (by have := HEe.out; have := HG.out; omega)).mono ?_; rintro e w' ⟨r2, rfl, hr2, m2, rfl⟩; have HR := Lib.hid hr2; clear hr2) | ((with_reducible apply wpList_even); rfl; exact Nat.lt_of_lt_of_le HR.out.2.2.1 (by decide); intro r3 n3 hr3) | ((with_reducible apply wpList_f2i); rfl; exact Try.underlying26; exact Try.underlying3; intro mi ni hmi; obtain ⟨n, j, i1, i2, i3, i4, i5⟩ := mini_round hF HB.out.2.2.2.1 (E := E) (by rw [HEe.out.2.2]; exact HB.out.2.2.2.2.2.2.1) (by rw [HEe.out.2.2]; have h9 := HB.out.2.2.2.2.2.2.2; rw [show ((b / 4503599627370496 : Nat) : Int) - 1023 + 1 = ((b / 4503599627370496 : Nat) : Int) - 1022 by omega]; exact h9) HG.out HR.out.1 HR.out.2.1 HR.out.2.2.2 hr3; obtain rfl := hmi _ i1; have HC := Lib.hid (And.intro i3 (And.intro i4 i5)); clear i1 i3 i4 i5 hr3 hmi))
    obtain ⟨HC1, HC2, HC3⟩ := HC.out
    obtain ⟨k, hk⟩ : ∃ k, k = min (j * 2 ^ F + n) (allK X F) := ⟨_, rfl⟩
    rw [← hk] at HC3
    have hor := or_sg (v := v) (k := k) hX hF (by omega)
    rw [hS] at hor
    have hor' : bits .or .i64 ((2 : Int) ^ (X + F)) (k : Int) = ((2 ^ (X + F) + k : Nat) : Int) := by rw [← hor]; push_cast; rfl
    have HK := Lib.hid HC3
    have hc : (((2 : Nat) ^ F : Nat) : Int) = (2 : Int) ^ F := by push_cast; rfl
    have i2' : (n : Int) ≤ 2 ^ (F + 1) := by exact_mod_cast i2
    rw [f1] at i2'
    clear hor HC HC3
    rcases Nat.lt_or_ge n (2 ^ F) with hn1 | hn1
    · have hj := HC2 hn1
      subst hj
      have hn2 : (n : Int) < 2 ^ F := by rw [← hc]; exact_mod_cast hn1
      have hne : ¬ ((n : Int) = 2 ^ (F + 1)) := by omega
      have hk2 : (k : Int) = min (n : Int) (allK X F : Int) := by rw [Nat.zero_mul, Nat.zero_add] at hk; omega
      clear hn1 i2 HC1 HC2 hk hc hs1 hs3
      by_cases hm : (n : Int) ≤ (allK X F : Int)
      · obtain rfl : k = n := by omega
        clear hk2
        go_wp2_with fail
        exact bodyPost_ret (v := .tuple #[.int .i64 ((2 ^ (X + F) + k : Nat) : Int), .int .i64 0]) (by simp [results, Try.results14, go_sem, *]) rfl ⟨_, rfl, HK.out, _, rfl⟩
      · obtain rfl : k = allK X F := by omega
        clear hk2
        go_wp2_with fail
        exact bodyPost_ret (v := .tuple #[.int .i64 ((2 ^ (X + F) + allK X F : Nat) : Int), .int .i64 0]) (by simp [results, Try.results14, go_sem, *]) rfl ⟨_, rfl, HK.out, _, rfl⟩
    · have hn2 : (2 : Int) ^ F ≤ n := by rw [← hc]; exact_mod_cast hn1
      rcases Nat.lt_or_ge n (2 ^ (F + 1)) with hn3 | hn3
      · have hn4 : (n : Int) < 2 ^ (F + 1) := by exact_mod_cast hn3
        have hne : ¬ ((n : Int) = 2 ^ (F + 1)) := by omega
        obtain ⟨P, hP⟩ : ∃ P : Int, P = (((j + 1) * 2 ^ F : Nat) : Int) := ⟨_, rfl⟩
        have hj : j ≤ 254 := by omega
        have hP0 : 0 ≤ P := by omega
        have hP1 : P ≤ 2139095040 := by
          have h8 : (j + 1) * 2 ^ F ≤ 255 * 8388608 := Nat.mul_le_mul (by omega) (Nat.pow_le_pow_right (n := 2) (by decide) (show F ≤ 23 by omega))
          rw [hP]; omega
        have hPw : wrap64 ((g + ((2 : Int) ^ (X - 1) - 1)) * 2 ^ F) = P := by
          rw [show g + ((2 : Int) ^ (X - 1) - 1) = ((j + 1 : Nat) : Int) by omega, ← hc, ← Int.natCast_mul, ← hP]
          unfold wrap64; omega
        have hk2 : (k : Int) = min (P + n - 2 ^ F) (allK X F : Int) := by
          rw [hP, ← hc, hk, Nat.add_mul, Nat.one_mul]; omega
        clear hn1 hn3 i2 HC1 HC2 hk hc hs1 hs3 hP hj
        by_cases hm : P + n - 2 ^ F ≤ (allK X F : Int)
        · have hk3 : P + n - 2 ^ F = (k : Int) := by omega
          have HK3 := Lib.hid hk3
          clear hk2 hk3
          go_upto_region 22 with fail
          go_quiet (fail)
          refine sp_exit (fun W1 hW1 => ?_)
          have HW := Lib.hid hW1
          clear hW1
          rw [HK3.out]
          have hm' : (k : Int) ≤ (allK X F : Int) := by have := HK3.out; omega
          clear hm
          go_wp2_with fail
          exact bodyPost_ret (v := .tuple #[.int .i64 ((2 ^ (X + F) + k : Nat) : Int), .int .i64 0]) (by simp [results, Try.results14, go_sem, *]) rfl ⟨_, rfl, HK.out, by rw [HW.out]; exact ⟨_, World.drewN_drewN _ _ _⟩⟩
        · obtain rfl : k = allK X F := by omega
          clear hk2
          go_upto_region 22 with fail
          go_quiet (fail)
          refine sp_exit (fun W1 hW1 => ?_)
          have HW := Lib.hid hW1
          clear hW1
          obtain ⟨V, hV⟩ : ∃ V : Int, V = P + n - 2 ^ F := ⟨_, rfl⟩
          rw [← hV]
          have hm' : ¬ V ≤ (allK X F : Int) := by omega
          clear hm hV
          go_wp2_with fail
          exact bodyPost_ret (v := .tuple #[.int .i64 ((2 ^ (X + F) + allK X F : Nat) : Int), .int .i64 0]) (by simp [results, Try.results14, go_sem, *]) rfl ⟨_, rfl, HK.out, by rw [HW.out]; exact ⟨_, World.drewN_drewN _ _ _⟩⟩
      · obtain rfl : n = 2 ^ (F + 1) := Nat.le_antisymm i2 hn3
        have hn4 : ((2 ^ (F + 1) : Nat) : Int) = (2 : Int) ^ (F + 1) := by push_cast; rfl
        obtain ⟨P, hP⟩ : ∃ P : Int, P = (((j + 2) * 2 ^ F : Nat) : Int) := ⟨_, rfl⟩
        have hj : j ≤ 254 := by omega
        have hP0 : 0 ≤ P := by omega
        have hP1 : P ≤ 2147483648 := by
          have h8 : (j + 2) * 2 ^ F ≤ 256 * 8388608 := Nat.mul_le_mul (by omega) (Nat.pow_le_pow_right (n := 2) (by decide) (show F ≤ 23 by omega))
          rw [hP]; omega
        have hPw : wrap64 ((g + 1 + ((2 : Int) ^ (X - 1) - 1)) * 2 ^ F) = P := by
          rw [show g + 1 + ((2 : Int) ^ (X - 1) - 1) = ((j + 2 : Nat) : Int) by omega, ← hc, ← Int.natCast_mul, ← hP]
          unfold wrap64; omega
        have hk2 : (k : Int) = min P (allK X F : Int) := by
          rw [hP, hk, Nat.add_mul, Nat.pow_succ, Nat.mul_comm 2 (2 ^ F)]; omega
        rw [hn4]
        clear hn1 hn3 i2 HC1 HC2 hk hc hs1 hs3 hP hj hn2 i2'
        by_cases hm : P ≤ (allK X F : Int)
        · obtain rfl : P = (k : Int) := by omega
          clear hk2
          go_upto_region 22 with fail
          go_quiet (fail)
          refine sp_exit (fun W1 hW1 => ?_)
          have HW := Lib.hid hW1
          clear hW1
          go_wp2_with fail
          exact bodyPost_ret (v := .tuple #[.int .i64 ((2 ^ (X + F) + k : Nat) : Int), .int .i64 0]) (by simp [results, Try.results14, go_sem, *]) rfl ⟨_, rfl, HK.out, by rw [HW.out]; exact ⟨_, World.drewN_drewN _ _ _⟩⟩
        · obtain rfl : k = allK X F := by omega
          clear hk2
          go_upto_region 22 with fail
          go_quiet (fail)
          refine sp_exit (fun W1 hW1 => ?_)
          have HW := Lib.hid hW1
          clear hW1
          go_wp2_with fail
          exact bodyPost_ret (v := .tuple #[.int .i64 ((2 ^ (X + F) + allK X F : Nat) : Int), .int .i64 0]) (by simp [results, Try.results14, go_sem, *]) rfl ⟨_, rfl, HK.out, by rw [HW.out]; exact ⟨_, World.drewN_drewN _ _ _⟩⟩
end Go.Proofs.Ytefjkelakecanaa
