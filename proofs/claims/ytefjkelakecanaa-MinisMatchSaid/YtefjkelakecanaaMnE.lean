/- num.FromMini of a code: its single. Conditions: those named. -/
import Derived.Test.YtefjkelakecanaaMnD
namespace Go.Proofs.Ytefjkelakecanaa
open Go.RowKit
theorem svQ_low {X F k p : Nat} (h : k / 2 ^ F = 0) (hp : p = k % 2 ^ F) : svQ X F k = (p : Rat) * (2 : Rat) ^ ((1 : Int) - (2 ^ (X - 1) - 1) - F) := by
  unfold svQ svI svP; rw [if_pos h, if_pos h, hp]
theorem svQ_high {X F k p e : Nat} (h : k / 2 ^ F = e) (h0 : e ≠ 0) (hp : p = k % 2 ^ F) : svQ X F k = ((p + 2 ^ F : Nat) : Rat) * (2 : Rat) ^ ((e : Int) - (2 ^ (X - 1) - 1) - F) := by
  unfold svQ svI svP; rw [h, if_neg h0, if_neg h0, hp, Nat.add_comm]
theorem vq_pos {y : Nat} {q : Rat} (h : sgn FloatKind.f64.format y = false) (hv : val .f64 y = q) : vq FloatKind.f64.format (rung FloatKind.f64.format y) = q := by
  rw [val_sg, h] at hv; exact hv
theorem whole_plus {X F k r2 : Nat} {q : Rat} (hX : 2 ≤ X ∧ X ≤ 8) (hF : 1 ≤ F ∧ F ≤ 23) (hk : k < allK X F) (hr : isNum .f64 r2 = true ∧ sgn FloatKind.f64.format r2 = false ∧ val .f64 r2 = q ∧ r2 < 2 ^ 63) (hq : svQ X F k = q) :
    (isNum .f64 r2 = true → ovf .f64 .f32 r2 = false) ∧ ∀ r, FR .f32 r (fcv .f64 .f32 r2) → wholeR X F k false r :=
  down_code hX hF hk hr.1 hr.2.1 (by rw [hq]; exact vq_pos hr.2.1 hr.2.2.1)
theorem whole_neg {X F k r2 : Nat} {q : Rat} (hX : 2 ≤ X ∧ X ≤ 8) (hF : 1 ≤ F ∧ F ≤ 23) (hk : k < allK X F) (hr : isNum .f64 r2 = true ∧ sgn FloatKind.f64.format r2 = false ∧ val .f64 r2 = q ∧ r2 < 2 ^ 63) (hq : svQ X F k = q) :
    (isNum .f64 (Op.negFloat .f64 r2) = true → ovf .f64 .f32 (Op.negFloat .f64 r2) = false) ∧ ∀ r, FR .f32 r (fcv .f64 .f32 (Op.negFloat .f64 r2)) → wholeR X F k true r := by
  obtain ⟨a1, a2, a3⟩ := neg_facts hr.2.2.2 hr.1
  rw [neg_low hr.2.2.2]
  refine down_code hX hF hk a1 a2 ?_
  have h := vq_pos hr.2.1 hr.2.2.1
  have e2 : rung FloatKind.f64.format r2 = r2 := by unfold rung; rw [sw64]; exact Nat.mod_eq_of_lt hr.2.2.2
  rw [e2] at h
  rw [a3, hq]; exact h
set_option maxRecDepth 100000 in
set_option maxHeartbeats 6400000 in
theorem FromMini_ok (n X F : Nat) (w : World) (hX : 2 ≤ X ∧ X ≤ 8) (hF : 1 ≤ F ∧ F ≤ 23) (hn : n < 2 ^ (1 + X + F)) : Calls Try.prog 15 #[.int .i64 n, .int .i64 X, .int .i64 F] w fun e w' => ∃ r, e = .returned (.tuple #[.float .f32 r, .int .i64 0]) ∧ codeW X F n r ∧ ∃ m, w' = w.drewN m := by
  have h := faultB_no hX hF
  obtain ⟨⟨p1, p2⟩, ⟨q1, q2⟩, ⟨x1, x2⟩, -, ⟨e1, e2⟩, -, hA, -, hs1, -, hs3⟩ := mini_pows hX hF
  have f0 : 0 < 2 ^ F := Nat.pow_pos (by decide)
  have x0 : 0 < 2 ^ X := Nat.pow_pos (by decide)
  have t0 : 0 < 2 ^ (X + F) := Nat.pow_pos (by decide)
  have hT : (2 : Nat) ^ (1 + X + F) = 2 * 2 ^ (X + F) := by rw [Nat.add_assoc, Nat.pow_add]
  have hn32 : n < 2 ^ 32 := by
    have h1 : 2 * 2 ^ (X + F) ≤ 2 * 2147483648 := Nat.mul_le_mul_left 2 hs3
    rw [hT] at hn
    exact Nat.lt_of_lt_of_le hn h1
  obtain ⟨P1, P2, P3⟩ := code_parts X F n
  obtain ⟨pt, hpt⟩ : ∃ p, p = n % 2 ^ F := ⟨_, rfl⟩
  obtain ⟨ex, hex⟩ : ∃ e, e = n / 2 ^ F % 2 ^ X := ⟨_, rfl⟩
  obtain ⟨k, hk⟩ : ∃ k, k = n % 2 ^ (X + F) := ⟨_, rfl⟩
  have ha1 : bits .and .i64 (n : Int) (2 ^ F - 1) = (pt : Int) := by rw [hpt]; exact and_mask n F hn32 (by omega)
  have ha2 : bits .and .i64 ((n / 2 ^ F : Nat) : Int) (2 ^ X - 1) = (ex : Int) := by rw [hex]; exact and_mask (n / 2 ^ F) X (Nat.lt_of_le_of_lt (Nat.div_le_self _ _) hn32) (by omega)
  have hd1 : (n : Int) / 2 ^ F = ((n / 2 ^ F : Nat) : Int) := by push_cast; rfl
  have hd2 : (n : Int) / 2 ^ (X + F) = ((n / 2 ^ (X + F) : Nat) : Int) := by push_cast; rfl
  have hpt1 : pt < 2 ^ F := by rw [hpt]; exact Nat.mod_lt _ f0
  have hex1 : ex < 2 ^ X := by rw [hex]; exact Nat.mod_lt _ x0
  have hsgn : n / 2 ^ (X + F) = 0 ∨ n / 2 ^ (X + F) = 1 := by
    have : n / 2 ^ (X + F) < 2 := (Nat.div_lt_iff_lt_mul t0).2 (by rw [← hT]; exact hn)
    generalize n / 2 ^ (X + F) = z at *
    omega
  rw [← hk, ← hex] at P1
  rw [← hk, ← hpt] at P2
  rw [← hk, ← hex, ← hpt] at P3
  have hc : (((2 : Nat) ^ F : Nat) : Int) = (2 : Int) ^ F := by push_cast; rfl
  have hcx : (((2 : Nat) ^ X : Nat) : Int) = (2 : Int) ^ X := by push_cast; rfl
  have hpt2 : (pt : Int) < 2 ^ F := by rw [← hc]; exact_mod_cast hpt1
  have hex2 : (ex : Int) < 2 ^ X := by rw [← hcx]; exact_mod_cast hex1
  have hnT : (n : Int) < 2 ^ (1 + X + F) := by exact_mod_cast hn
  have hTw : (2 : Int) ^ (1 + X + F) ≤ 4294967296 ∧ (2 : Int) ≤ 2 ^ (1 + X + F) := ⟨two_pow_le (b := 32) (by omega), two_pow_le (a := 1) (by omega)⟩
  obtain ⟨hTw1, hTw2⟩ := hTw
  have hpw : (((2 : Nat) ^ (X - 1) : Nat) : Int) = (2 : Int) ^ (X - 1) := by push_cast; rfl
  -- what the code is
  have hall : allK X F = 2 ^ F * (2 ^ X - 1) := Nat.mul_comm _ _
  have HK := Lib.hid (And.intro hk (And.intro P1 (And.intro P2 (And.intro P3 hall))))
  have HP := Lib.hid (And.intro hpt1 (And.intro hex1 hc))
  clear P1 P2 P3 hall hpt1 hex1 hs1 hs3 hn hT hn32 f0 x0 t0 hpt hex hk hcx hpw hc
  generalize n / 2 ^ F = nf at *
  obtain ⟨s, hs⟩ : ∃ s, s = n / 2 ^ (X + F) := ⟨_, rfl⟩
  have HS := Lib.hid hs
  rw [← hs] at hsgn hd2
  clear hs
  have hge : (0 : Int) ≤ pt := by omega
  have hge2 : (0 : Int) ≤ ex := by omega
  have hge3 : (0 : Int) ≤ nf := by omega
  go_enter Try.func15, Try.ntmps15
  go_upto_region 5 with (first | (go_at_call 38; refine (miniFault_any _ _ _).mono ?_; rintro e w' ⟨rfl, rfl⟩; rw [h]))
  go_quiet (fail)
  refine sp_exit (fun W1 hW1 => ?_)
  have HW := Lib.hid hW1
  clear hW1
  have hpt25 : pt < 2 ^ 25 := by
    have : (2 : Nat) ^ 25 = 33554432 := by decide
    omega
  have HPT := Lib.hid hpt25
  clear hpt25
  go_upto_region 7 with (first | (go_at_call 9; refine (Ldexp_int pt _ _ HPT.out (by omega) (by omega)).mono ?_; rintro e w' ⟨r2, rfl, hr2, m2, rfl⟩; have HR2 := Lib.hid hr2; clear hr2) | (go_at_call 41; refine (Inf_any _).mono ?_; rintro e w' ⟨rfl, rfl⟩) | (go_at_call 35))
  have hXn : (((2 : Nat) ^ X : Nat) : Int) = (2 : Int) ^ X := by push_cast; rfl
  have HXN := Lib.hid hXn
  clear hXn
  have HCW : Hid (∀ b, b = decide (s = 1) → k < allK X F → ∀ r, wholeR X F k b r → codeW X F n r) := Lib.hid (fun b hb h1 r h6 => by
    unfold codeW
    rw [← HK.out.1, ← HS.out]
    exact ⟨fun h => by omega, fun h => by omega, fun _ => by rw [← hb]; exact h6⟩)
  by_cases ht : (ex : Int) = 2 ^ X - 1
  · by_cases hp0 : (pt : Int) = 0
    · have hkE : k = allK X F := by
        have h1 : pt = 0 := by omega
        have h2 : ex = 2 ^ X - 1 := by have := HXN.out; omega
        rw [HK.out.2.2.2.1, HK.out.2.2.2.2, h1, h2, Nat.add_zero]
      have HCI : Hid (∀ r, r = (if s = 1 then 4286578688 else 2139095040) → codeW X F n r) := Lib.hid (fun r h => by
        unfold codeW
        rw [← HK.out.1, ← HS.out]
        exact ⟨fun h => by omega, fun _ => h, fun h => by omega⟩)
      clear hkE
      rcases hsgn with h0 | h0
      · subst h0
        go_wp2_with (first | (go_at_call 41; refine (Inf_any _).mono ?_; rintro e w' ⟨rfl, rfl⟩) | ((with_reducible apply wpList_down); rfl; exact Try.underlying26; exact Try.underlying22; (first | exact inf_ovf.1 | exact inf_ovf.2 | exact HDN.out.1); intro ri ni hri))
        exact bodyPost_ret (v := .tuple #[.float .f32 ri, .int .i64 0]) (by simp [results, Try.results15, go_sem, *]) rfl ⟨_, rfl, HCI.out _ (by rw [inf_down.1] at hri; exact hri.exact (by decide +kernel)), by rw [HW.out]; exact ⟨_, World.drewN_drewN _ _ _⟩⟩
      · subst h0
        have hni := inf_down.2.2
        go_wp2_with (first | (go_at_call 41; refine (Inf_any _).mono ?_; rintro e w' ⟨rfl, rfl⟩) | ((with_reducible apply wpList_down); rfl; exact Try.underlying26; exact Try.underlying22; (first | exact inf_ovf.1 | exact inf_ovf.2 | exact HDN.out.1); intro ri ni hri))
        exact bodyPost_ret (v := .tuple #[.float .f32 ri, .int .i64 0]) (by simp [results, Try.results15, go_sem, *]) rfl ⟨_, rfl, HCI.out _ (by rw [inf_down.2.1] at hri; exact hri.exact (by decide +kernel)), by rw [HW.out]; exact ⟨_, World.drewN_drewN _ _ _⟩⟩
    · have hkE : allK X F < k := by
        have h1 : 0 < pt := by omega
        have h2 : ex = 2 ^ X - 1 := by have := HXN.out; omega
        rw [HK.out.2.2.2.1, HK.out.2.2.2.2, h2]; omega
      have HCI : Hid (codeW X F n 2143289344) := Lib.hid (by
        unfold codeW
        rw [← HK.out.1]
        exact ⟨fun _ => rfl, fun h => by omega, fun h => by omega⟩)
      have hp1 : (0 : Int) < pt := by omega
      clear hkE hp0
      go_wp2_with (first | (go_at_call 41; refine (Inf_any _).mono ?_; rintro e w' ⟨rfl, rfl⟩) | ((with_reducible apply wpList_down); rfl; exact Try.underlying26; exact Try.underlying22; (first | exact inf_ovf.1 | exact inf_ovf.2 | exact HDN.out.1); intro ri ni hri))
      exact bodyPost_ret (v := .tuple #[.float .f32 2143289344, .int .i64 0]) (by simp [results, Try.results15, go_sem, *]) rfl ⟨_, rfl, HCI.out, by rw [HW.out]; exact ⟨_, World.drewN_drewN _ _ _⟩⟩
  · have hlt : k < allK X F := by
      have h2 : ex + 1 ≤ 2 ^ X - 1 := by have := HXN.out; have := HP.out.2.1; omega
      have h3 : 2 ^ F * (ex + 1) ≤ 2 ^ F * (2 ^ X - 1) := Nat.mul_le_mul_left _ h2
      have h4 := HP.out.1
      rw [HK.out.2.2.2.1, HK.out.2.2.2.2]
      rw [Nat.mul_add, Nat.mul_one] at h3
      exact Nat.lt_of_lt_of_le (Nat.add_lt_add_left h4 _) h3
    have HLT := Lib.hid hlt
    clear hlt
    by_cases he0 : ex = 0
    · have HQ := Lib.hid (svQ_low (X := X) (HK.out.2.1.trans he0) HK.out.2.2.1.symm)
      subst he0
      rcases hsgn with h0 | h0
      · subst h0
        have HDN := Lib.hid (whole_plus hX hF HLT.out HR2.out HQ.out)
        go_wp2_with (first | (go_at_call 41; refine (Inf_any _).mono ?_; rintro e w' ⟨rfl, rfl⟩) | ((with_reducible apply wpList_down); rfl; exact Try.underlying26; exact Try.underlying22; (first | exact inf_ovf.1 | exact inf_ovf.2 | exact HDN.out.1); intro ri ni hri))
        exact bodyPost_ret (v := .tuple #[.float .f32 ri, .int .i64 0]) (by simp [results, Try.results15, go_sem, *]) rfl ⟨_, rfl, HCW.out false rfl HLT.out _ (HDN.out.2 _ hri), by rw [HW.out]; exact ⟨_, World.drewN_drewN _ _ _⟩⟩
      · subst h0
        have HDN := Lib.hid (whole_neg hX hF HLT.out HR2.out HQ.out)
        go_wp2_with (first | (go_at_call 41; refine (Inf_any _).mono ?_; rintro e w' ⟨rfl, rfl⟩) | ((with_reducible apply wpList_down); rfl; exact Try.underlying26; exact Try.underlying22; (first | exact inf_ovf.1 | exact inf_ovf.2 | exact HDN.out.1); intro ri ni hri))
        exact bodyPost_ret (v := .tuple #[.float .f32 ri, .int .i64 0]) (by simp [results, Try.results15, go_sem, *]) rfl ⟨_, rfl, HCW.out true rfl HLT.out _ (HDN.out.2 _ hri), by rw [HW.out]; exact ⟨_, World.drewN_drewN _ _ _⟩⟩
    · have HQ := Lib.hid (svQ_high (X := X) HK.out.2.1 he0 HK.out.2.2.1.symm)
      have he1 : (0 : Int) < ex := by omega
      have hpt26 : pt + 2 ^ F < 2 ^ 25 := by
        have h1 := HP.out.1
        have h2 := HP.out.2.2
        have h3 : (2 : Nat) ^ 25 = 33554432 := by decide
        omega
      have HPT2 := Lib.hid hpt26
      clear hpt26 he0
      rcases hsgn with h0 | h0
      · subst h0
        go_wp2_with (first | (go_at_call 9; rw [show (pt : Int) + 2 ^ F = ((pt + 2 ^ F : Nat) : Int) by push_cast; rfl]; refine (Ldexp_int (pt + 2 ^ F) _ _ HPT2.out (by omega) (by omega)).mono ?_; rintro e w' ⟨r3, rfl, hr3, m3, rfl⟩; have HDN := Lib.hid (whole_plus hX hF HLT.out hr3 HQ.out); clear hr3) | (go_at_call 41; refine (Inf_any _).mono ?_; rintro e w' ⟨rfl, rfl⟩) | ((with_reducible apply wpList_down); rfl; exact Try.underlying26; exact Try.underlying22; (first | exact inf_ovf.1 | exact inf_ovf.2 | exact HDN.out.1); intro ri ni hri))
        exact bodyPost_ret (v := .tuple #[.float .f32 ri, .int .i64 0]) (by simp [results, Try.results15, go_sem, *]) rfl ⟨_, rfl, HCW.out false rfl HLT.out _ (HDN.out.2 _ hri), by rw [HW.out]; exact ⟨_, World.drewN_drewN _ _ _⟩⟩
      · subst h0
        go_wp2_with (first | (go_at_call 9; rw [show (pt : Int) + 2 ^ F = ((pt + 2 ^ F : Nat) : Int) by push_cast; rfl]; refine (Ldexp_int (pt + 2 ^ F) _ _ HPT2.out (by omega) (by omega)).mono ?_; rintro e w' ⟨r3, rfl, hr3, m3, rfl⟩; have HDN := Lib.hid (whole_neg hX hF HLT.out hr3 HQ.out); clear hr3) | (go_at_call 41; refine (Inf_any _).mono ?_; rintro e w' ⟨rfl, rfl⟩) | ((with_reducible apply wpList_down); rfl; exact Try.underlying26; exact Try.underlying22; (first | exact inf_ovf.1 | exact inf_ovf.2 | exact HDN.out.1); intro ri ni hri))
        exact bodyPost_ret (v := .tuple #[.float .f32 ri, .int .i64 0]) (by simp [results, Try.results15, go_sem, *]) rfl ⟨_, rfl, HCW.out true rfl HLT.out _ (HDN.out.2 _ hri), by rw [HW.out]; exact ⟨_, World.drewN_drewN _ _ _⟩⟩
end Go.Proofs.Ytefjkelakecanaa
