/- slices.stableCmpFunc, SortStableFunc over runs: a row in order. Conditions: the slice begins its block; the comparison answers by keys. -/
import Derived.Test.YtkadinjhfldokaaSrD
import Derived.Test.YtkadinjhfldokaaSoR
namespace Go.Proofs.Ytkadinjhfldokaa
open Go.RowKit
set_option maxRecDepth 100000 in
set_option maxHeartbeats 16000000 in
theorem stableR_any (Pr : RunV → Prop) (C : RunV → RunV → Int) (K : RunV → Int) (w : World) (g n cap kc : Nat) (q : Nat → RunV) (wr : World) (hn : n ≤ 268435456) (HC : Hid ((∀ args w, (callFunc kc args).run Try.prog w = .ok (.enter kc args) w) ∧ (∀ x y, Pr x → Pr y → (C x y < 0 ↔ K x < K y)) ∧ ∀ (x y : RunV) (wr : World), Pr x → Pr y → Calls Try.prog kc #[.agg #[.int .i64 x.wk, .int .i64 x.mc, .int .i64 x.fr, .int .i64 x.to, .bool x.fl], .agg #[.int .i64 y.wk, .int .i64 y.mc, .int .i64 y.fr, .int .i64 y.to, .bool y.fl]] wr fun e w' => e = .returned (.int .i64 (C x y)) ∧ Below wr.heap.size wr w')) (hw : SrW Pr w g n wr q) :
    Calls Try.prog 38 #[.slice (some ⟨g, 0, none⟩) n cap, .int .i64 n, .func (.func kc) #[] #[]] wr fun e w' => e = .returned (.tuple #[]) ∧ ∃ q', SrW Pr w g n w' q' ∧ PmR 0 n q q' ∧ SoR K 0 n q' := by
  have H0 := Lib.hid hw
  clear hw
  go_enter Try.func38, Try.ntmps38
  go_wp2_with fail
  go_loopw [7, 8] (fun s7 s8 wr => ∃ t a c : Nat, ∃ qq, s7 = .int .i64 a ∧ s8 = .int .i64 c ∧ a = 20 * t ∧ c = a + 20 ∧ a ≤ n ∧ SrW Pr w g n wr qq ∧ PmR 0 n q qq ∧ BlkS K 20 a qq) (fun s7 _ _ => n + 20 - (intOf s7).toNat)
  case atStart => exact ⟨0, 0, 20, q, rfl, rfl, rfl, rfl, Nat.zero_le _, H0.out, PmR.refl _ _ _, fun i j h1 h2 h3 => by omega⟩
  case round =>
    obtain ⟨t, a, c, qq, rfl, rfl, ha, hc, han, hr, hp, hb⟩ := hrel
    have HR := Lib.hid (And.intro hr (And.intro hp (And.intro hb (And.intro ha hc))))
    have hac : a ≤ c := by omega
    have hca : c ≤ a + 20 := by omega
    have hac2 : a + 20 ≤ c := by omega
    clear hr hp hb H0 ha hc
    by_cases hcn : c ≤ n
    · have hcn' : (c : Int) ≤ (n : Int) := by omega
      go_wp2_with fail
      refine (insR_any Pr C K w g n cap a c kc qq _ (by omega) hac hcn HC HR.out.1).mono ?_
      rintro e w' ⟨rfl, q2, k1, k2, k3⟩
      have HW := Lib.hid (And.intro k1 (And.intro (HR.out.2.1.trans (k2.wide (Nat.zero_le _) hac hcn)) (BlkS.add (by omega) HR.out.2.2.2.1 HR.out.2.2.1 k2 k3)))
      clear k1 k2 k3
      go_wp2_with fail
      go_roundw
      case rel => exact ⟨t + 1, c, c + 20, q2, rfl, by first | rfl | go_num, by have := HR.out.2.2.2; omega, rfl, hcn, HW.out.1, HW.out.2.1, HW.out.2.2⟩
      case measure => simp [intOf]; omega
    · have hcn' : ¬ (c : Int) ≤ (n : Int) := by omega
      go_wp2_with fail
      refine (insR_any Pr C K w g n cap a n kc qq _ (by omega) han (Nat.le_refl _) HC HR.out.1).mono ?_
      rintro e w' ⟨rfl, q2, k1, k2, k3⟩
      have HW := Lib.hid (And.intro k1 (And.intro (HR.out.2.1.trans (k2.wide (Nat.zero_le _) han (Nat.le_refl _))) (BlkS.add (by omega) HR.out.2.2.2.1 HR.out.2.2.1 k2 k3)))
      clear k1 k2 k3 HR
      go_wp2_with fail
      go_loopw [6] (fun s6 wr => ∃ s : Nat, ∃ qs, s6 = .int .i64 s ∧ 0 < s ∧ s ≤ 2 * n + 20 ∧ SrW Pr w g n wr qs ∧ PmR 0 n q qs ∧ BlkS K s n qs) (fun s6 _ => 4 * n + 40 - (intOf s6).toNat)
      case atStart => exact ⟨20, q2, rfl, by omega, by omega, HW.out.1, HW.out.2.1, HW.out.2.2⟩
      case round =>
        obtain ⟨s, qs, rfl, hs0, hsn, hr, hp, hb⟩ := hrel
        have HS := Lib.hid (And.intro hr (And.intro hp hb))
        clear hr hp hb HW
        by_cases hsl : s < n
        · have hsl' : (s : Int) < (n : Int) := by omega
          obtain ⟨S2, hS2⟩ : ∃ S2 : Nat, S2 = 2 * s := ⟨_, rfl⟩
          have hS2a : 2 * (s : Int) = (S2 : Int) := by omega
          have hS2b : (s : Int) * 2 = (S2 : Int) := by omega
          have hS2n : (S2 : Int) ≤ 536870912 := by omega
          have HS2 := Lib.hid hS2
          clear hS2
          go_wp2_with fail
          go_loopw [7, 8] (fun s7 s8 wr => ∃ t a c : Nat, ∃ qq, s7 = .int .i64 a ∧ s8 = .int .i64 c ∧ a = 2 * s * t ∧ c = a + S2 ∧ a ≤ n ∧ SrW Pr w g n wr qq ∧ PmR 0 n q qq ∧ MixS K s a n qq) (fun s7 _ _ => n + 1 - (intOf s7).toNat)
          case atStart => exact ⟨0, 0, S2, qs, rfl, rfl, rfl, (Nat.zero_add _).symm, Nat.zero_le _, HS.out.1, HS.out.2.1, MixS.zero HS.out.2.2⟩
          case round =>
            obtain ⟨t2, a2, c2, qq2, rfl, rfl, ha, hc, han2, hr, hp, hb⟩ := hrel
            have HT := Lib.hid (And.intro hr (And.intro hp (And.intro hb (And.intro ha hc))))
            have hc1 : c2 ≤ a2 + S2 := by omega
            have hc2 : a2 + S2 ≤ c2 := by omega
            have hS2c : S2 ≤ 2 * s := by have := HS2.out; omega
            have hS2d : 2 * s ≤ S2 := by have := HS2.out; omega
            obtain ⟨mm, hmm⟩ : ∃ mm, mm = a2 + s := ⟨_, rfl⟩
            have hm1 : (a2 : Int) + (s : Int) = (mm : Int) := by omega
            have hm2 : mm ≤ a2 + s := by omega
            have hm3 : a2 + s ≤ mm := by omega
            have HMM := Lib.hid hmm
            clear hr hp hb HS ha hc hmm
            by_cases hcn2 : c2 ≤ n
            · have hcn2' : (c2 : Int) ≤ (n : Int) := by omega
              go_wp2_with fail
              refine (smR_any Pr C K w g n cap kc (by omega) HC (c2 - a2 + 1) a2 mm c2 qq2 _ (by omega) (by omega) (by omega) hcn2 HT.out.1 (MixS.so hs0 HT.out.2.2.1 ⟨t2, HT.out.2.2.2.1⟩ (.inl rfl) (by omega) (by omega)) (MixS.so hs0 HT.out.2.2.1 ⟨t2, HT.out.2.2.2.1⟩ (.inr HMM.out) (by omega) hcn2)).mono ?_
              rintro e w' ⟨rfl, q3, k1, k2, k3⟩
              have hst : MixS K s c2 n q3 := by
                have e2 : c2 = a2 + 2 * s := by omega
                have h := MixS.step hs0 HT.out.2.2.2.1 (by omega) (.inl e2) HT.out.2.2.1 k2 k3
                rw [← e2] at h; exact h
              have HW2 := Lib.hid (And.intro k1 (And.intro (HT.out.2.1.trans (k2.wide (Nat.zero_le _) (by omega) hcn2)) hst))
              clear k1 k2 k3 hst
              go_wp2_with fail
              go_roundw
              case rel => exact ⟨t2 + 1, c2, c2 + S2, q3, rfl, by first | rfl | go_num, by have h1 := HT.out.2.2.2; have h2 := HS2.out; rw [Nat.mul_add, Nat.mul_one]; omega, rfl, hcn2, HW2.out.1, HW2.out.2.1, HW2.out.2.2⟩
              case measure => simp [intOf]; omega
            · have hcn2' : ¬ (c2 : Int) ≤ (n : Int) := by omega
              by_cases hmn : mm < n
              · have hmn' : (mm : Int) < (n : Int) := by omega
                go_wp2_with fail
                refine (smR_any Pr C K w g n cap kc (by omega) HC (n - a2 + 1) a2 mm n qq2 _ (by omega) (by omega) hmn (Nat.le_refl _) HT.out.1 (MixS.so hs0 HT.out.2.2.1 ⟨t2, HT.out.2.2.2.1⟩ (.inl rfl) (by omega) (by omega)) (MixS.so hs0 HT.out.2.2.1 ⟨t2, HT.out.2.2.2.1⟩ (.inr HMM.out) (by omega) (Nat.le_refl _))).mono ?_
                rintro e w' ⟨rfl, q3, k1, k2, k3⟩
                have hst : BlkS K S2 n q3 := by
                  have h := (MixS.step hs0 HT.out.2.2.2.1 (by omega) (.inr rfl) HT.out.2.2.1 k2 k3).full (by omega)
                  rw [HS2.out]; exact h
                have HW2 := Lib.hid (And.intro k1 (And.intro (HT.out.2.1.trans (k2.wide (Nat.zero_le _) han2 (Nat.le_refl _))) hst))
                clear k1 k2 k3 hst
                go_wp2_with fail
                go_roundw
                case rel => exact ⟨S2, q3, rfl, by omega, by omega, HW2.out.1, HW2.out.2.1, HW2.out.2.2⟩
                case measure => simp [intOf]; omega
              · have hmn' : ¬ (mm : Int) < (n : Int) := by omega
                have hst : BlkS K S2 n qq2 := by
                  have h := MixS.done hs0 HT.out.2.2.1 ⟨t2, HT.out.2.2.2.1⟩ (by omega)
                  rw [HS2.out]; exact h
                have HW2 := Lib.hid hst
                clear hst
                go_wp2_with fail
                go_roundw
                case rel => exact ⟨S2, qq2, rfl, by omega, by omega, HT.out.1, HT.out.2.1, HW2.out⟩
                case measure => simp [intOf]; omega
        · have hsl' : ¬ (s : Int) < (n : Int) := by omega
          go_wp2_with fail
          exact bodyPost_end (v := .tuple #[]) (by simp [results, Try.results38, go_sem]) rfl ⟨rfl, qs, HS.out.1, HS.out.2.1, HS.out.2.2.so (by omega)⟩
set_option maxRecDepth 100000 in
set_option maxHeartbeats 3200000 in
theorem sortstableR_any (Pr : RunV → Prop) (C : RunV → RunV → Int) (K : RunV → Int) (w : World) (g n cap kc : Nat) (q : Nat → RunV) (wr : World) (hn : n ≤ 268435456) (HC : Hid ((∀ args w, (callFunc kc args).run Try.prog w = .ok (.enter kc args) w) ∧ (∀ x y, Pr x → Pr y → (C x y < 0 ↔ K x < K y)) ∧ ∀ (x y : RunV) (wr : World), Pr x → Pr y → Calls Try.prog kc #[.agg #[.int .i64 x.wk, .int .i64 x.mc, .int .i64 x.fr, .int .i64 x.to, .bool x.fl], .agg #[.int .i64 y.wk, .int .i64 y.mc, .int .i64 y.fr, .int .i64 y.to, .bool y.fl]] wr fun e w' => e = .returned (.int .i64 (C x y)) ∧ Below wr.heap.size wr w')) (hw : SrW Pr w g n wr q) :
    Calls Try.prog 22 #[.slice (some ⟨g, 0, none⟩) n cap, .func (.func kc) #[] #[]] wr fun e w' => e = .returned (.tuple #[]) ∧ ∃ q', SrW Pr w g n w' q' ∧ PmR 0 n q q' ∧ SoR K 0 n q' := by
  have H0 := Lib.hid hw
  clear hw
  go_enter Try.func22, Try.ntmps22
  go_wp2_with fail
  refine (stableR_any Pr C K w g n cap kc q _ hn HC H0.out).mono ?_
  rintro e w' ⟨rfl, q2, k1, k2, k3⟩
  have HW := Lib.hid (And.intro k1 (And.intro k2 k3))
  clear k1 k2 k3
  go_wp2_with fail
  exact bodyPost_end (v := .tuple #[]) (by simp [results, Try.results22, go_sem]) rfl ⟨rfl, q2, HW.out.1, HW.out.2.1, HW.out.2.2⟩
end Go.Proofs.Ytkadinjhfldokaa
