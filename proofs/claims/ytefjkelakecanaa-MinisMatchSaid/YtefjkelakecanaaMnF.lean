/- dyeref2.WholeOf of a code: its single. Conditions: those named. -/
import Derived.Test.YtefjkelakecanaaMnE
namespace Go.Proofs.Ytefjkelakecanaa
open Go.RowKit
set_option maxRecDepth 100000 in
set_option maxHeartbeats 6400000 in
theorem WholeOf_ok (n X F : Nat) (w : World) (hX : 2 ≤ X ∧ X ≤ 8) (hF : 1 ≤ F ∧ F ≤ 23) (hn : n < 2 ^ (1 + X + F)) : Calls Try.prog 17 #[.int .i64 n, .int .i64 X, .int .i64 F] w fun e w' => ∃ r, e = .returned (.float .f32 r) ∧ codeW X F n r ∧ ∃ m, w' = w.drewN m := by
  obtain ⟨-, ⟨q1, q2⟩, ⟨x1, x2⟩, -, ⟨e1, e2⟩, -, hA, -, hs1, -, hs3⟩ := mini_pows hX hF
  have t0 : 0 < 2 ^ (X + F) := Nat.pow_pos (by decide)
  have hT : (2 : Nat) ^ (1 + X + F) = 2 * 2 ^ (X + F) := by rw [Nat.add_assoc, Nat.pow_add]
  rw [hT] at hn
  have hall : allK X F ≤ 2147483648 := Nat.le_trans (Nat.le.intro hs1) hs3
  have hcT : (((2 : Nat) ^ (X + F) : Nat) : Int) = (2 : Int) ^ (X + F) := by push_cast; rfl
  have hmod : (n : Int) % 2 ^ (X + F) = ((n % 2 ^ (X + F) : Nat) : Int) := by push_cast; rfl
  have hsg : (n < 2 ^ (X + F) ∧ n / 2 ^ (X + F) = 0) ∨ (2 ^ (X + F) ≤ n ∧ n / 2 ^ (X + F) = 1) := by
    rcases Nat.lt_or_ge n (2 ^ (X + F)) with h | h
    · exact .inl ⟨h, Nat.div_eq_of_lt h⟩
    · refine .inr ⟨h, Nat.div_eq_of_lt_le (by omega) (by omega)⟩
  have hk1 : n % 2 ^ (X + F) < 2 ^ (X + F) := Nat.mod_lt _ t0
  obtain ⟨k, hk⟩ : ∃ k, k = n % 2 ^ (X + F) := ⟨_, rfl⟩
  obtain ⟨s, hs⟩ : ∃ s, s = n / 2 ^ (X + F) := ⟨_, rfl⟩
  rw [← hk] at hmod hk1
  rw [← hs] at hsg
  have hk2 : (k : Int) < 2 ^ (X + F) := by rw [← hcT]; exact_mod_cast hk1
  have hk0 : (0 : Int) ≤ k := by omega
  have hn0 : (0 : Int) ≤ n := by omega
  have hsg2 : ((n : Int) < 2 ^ (X + F) ∧ s = 0) ∨ ((2 : Int) ^ (X + F) ≤ n ∧ s = 1) := by
    rcases hsg with ⟨h, h'⟩ | ⟨h, h'⟩
    · exact .inl ⟨by rw [← hcT]; exact_mod_cast h, h'⟩
    · exact .inr ⟨by rw [← hcT]; exact_mod_cast h, h'⟩
  have hn32 : (n : Int) < 4294967296 := by
    have h1 : 2 * 2 ^ (X + F) ≤ 2 * 2147483648 := Nat.mul_le_mul_left 2 hs3
    have h2 := Nat.lt_of_lt_of_le hn h1
    omega
  have HK := Lib.hid hk
  have HS := Lib.hid hs
  clear hs1 hs3 hsg hT hcT hn t0 hk1 hk hs
  have HCW : Hid (∀ b, b = decide (s = 1) → k < allK X F → ∀ r, wholeR X F k b r → codeW X F n r) := Lib.hid (fun b hb h1 r h6 => by
    unfold codeW
    rw [← HK.out, ← HS.out]
    exact ⟨fun h => by omega, fun h => by omega, fun _ => by rw [← hb]; exact h6⟩)
  obtain ⟨A, hAA⟩ : ∃ A : Int, A = (allK X F : Int) := ⟨_, rfl⟩
  obtain ⟨K, hKK⟩ : ∃ K : Int, K = (k : Int) := ⟨_, rfl⟩
  rw [← hAA] at hA
  rw [← hKK] at hmod hk2 hk0
  have hA2 : A ≤ 2147483648 := by omega
  clear hn0 hn32
  have HKK := Lib.hid hKK
  rcases Nat.lt_trichotomy k (allK X F) with hlt | heq | hgt
  · have HLT := Lib.hid hlt
    have hi : K < A := by omega
    have hi2 : ¬ A < K := by omega
    clear hlt hAA hKK hall
    rcases hsg2 with ⟨hn1, h0⟩ | ⟨hn1, h0⟩
    · subst h0
      go_enter Try.func17, Try.ntmps17
      go_wp2_with (first | (go_at_call 41; refine (Inf_any _).mono ?_; rintro e w' ⟨rfl, rfl⟩) | (go_at_call 43; rw [HKK.out]; refine (small_any k X F _ hX hF (Nat.le_of_lt HLT.out)).mono ?_; rintro e w' ⟨r3, rfl, hr3, m3, rfl⟩; have HDN := Lib.hid (whole_plus hX hF HLT.out hr3 rfl); clear hr3) | ((with_reducible apply wpList_down); rfl; exact Try.underlying26; exact Try.underlying22; exact HDN.out.1; intro ri ni hri))
      go_ret
      exact ⟨ri, rfl, HCW.out false rfl HLT.out _ (HDN.out.2 _ hri), _, rfl⟩
    · subst h0
      go_enter Try.func17, Try.ntmps17
      go_wp2_with (first | (go_at_call 41; refine (Inf_any _).mono ?_; rintro e w' ⟨rfl, rfl⟩) | (go_at_call 43; rw [HKK.out]; refine (small_any k X F _ hX hF (Nat.le_of_lt HLT.out)).mono ?_; rintro e w' ⟨r3, rfl, hr3, m3, rfl⟩; have HDN := Lib.hid (whole_neg hX hF HLT.out hr3 rfl); clear hr3) | ((with_reducible apply wpList_down); rfl; exact Try.underlying26; exact Try.underlying22; exact HDN.out.1; intro ri ni hri))
      go_ret
      exact ⟨ri, rfl, HCW.out true rfl HLT.out _ (HDN.out.2 _ hri), _, rfl⟩
  · have HCI : Hid (∀ r, r = (if s = 1 then 4286578688 else 2139095040) → codeW X F n r) := Lib.hid (fun r h => by
      unfold codeW
      rw [← HK.out, ← HS.out]
      exact ⟨fun h => by omega, fun _ => h, fun h => by omega⟩)
    obtain rfl : K = A := by omega
    clear heq hAA hKK hall
    rcases hsg2 with ⟨hn1, h0⟩ | ⟨hn1, h0⟩
    · subst h0
      go_enter Try.func17, Try.ntmps17
      go_wp2_with (first | (go_at_call 41; refine (Inf_any _).mono ?_; rintro e w' ⟨rfl, rfl⟩) | ((with_reducible apply wpList_down); rfl; exact Try.underlying26; exact Try.underlying22; exact inf_ovf.1; intro ri ni hri))
      go_ret
      exact ⟨ri, rfl, HCI.out _ (by rw [inf_down.1] at hri; exact hri.exact (by decide +kernel)), _, rfl⟩
    · subst h0
      have hni := inf_down.2.2
      go_enter Try.func17, Try.ntmps17
      go_wp2_with (first | (go_at_call 41; refine (Inf_any _).mono ?_; rintro e w' ⟨rfl, rfl⟩) | ((with_reducible apply wpList_down); rfl; exact Try.underlying26; exact Try.underlying22; exact inf_ovf.2; intro ri ni hri))
      go_ret
      exact ⟨ri, rfl, HCI.out _ (by rw [inf_down.2.1] at hri; exact hri.exact (by decide +kernel)), _, rfl⟩
  · have HCI : Hid (codeW X F n 2143289344) := Lib.hid (by
      unfold codeW
      rw [← HK.out]
      exact ⟨fun _ => rfl, fun h => by omega, fun h => by omega⟩)
    have hi : A < K := by omega
    clear hgt hAA hKK hall
    go_enter Try.func17, Try.ntmps17
    go_wp2_with (first | (go_at_call 41; refine (Inf_any _).mono ?_; rintro e w' ⟨rfl, rfl⟩) | (go_at_call 44; refine (TheNaN_any _).mono ?_; rintro e w' ⟨rfl, rfl⟩))
    go_ret
    exact ⟨_, rfl, HCI.out, 0, rfl⟩
end Go.Proofs.Ytefjkelakecanaa
