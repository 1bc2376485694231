/- dyeref2.MiniOf of any single: the code that is next to it. Conditions: those named. -/
import Derived.Test.YtefjkelakecanaaMnY
namespace Go.Proofs.Ytefjkelakecanaa
open Go.RowKit
theorem Signbit_any (b : Nat) (w : World) (hb : b < 2 ^ 64) : Calls Try.prog 42 #[.float .f64 b] w fun e w' => e = .returned (.bool (decide (9223372036854775808 ≤ b))) ∧ w = w' := by
  go_enter Try.func42, Try.ntmps42
  go_wp2
  go_ret
  exact ⟨ret_b (by rw [decide_eq_decide]; unfold wrap64; omega), rfl⟩
/-- The sign of a single is that of its double. -/
theorem up_sign {v : Nat} (hl : v < 2 ^ FloatKind.f32.format.width) (hv : isN .f32 v = false) : decide (9223372036854775808 ≤ fcv .f32 .f64 v) = decide (2147483648 ≤ v) := by
  have hx := fcv_lt .f32 .f64 v
  have hx2 : fcv .f32 .f64 v < 2 ^ 64 := hx
  have hl2 : v < 2 ^ 32 := hl
  have s1 : sgn FloatKind.f64.format (fcv .f32 .f64 v) = sgn FloatKind.f32.format v := by
    cases hn : isNum .f32 v with
    | true => exact (up_exact hn).2.1
    | false =>
      obtain ⟨-, h | h⟩ := inf_of hl hv hn <;> subst h <;> decide +kernel
  unfold sgn at s1
  rw [sw64, f32_sw] at s1
  generalize fcv .f32 .f64 v = x at *
  rw [decide_eq_decide]
  have e1 : x / 2 ^ 63 % 2 = 1 ↔ v / 2147483648 % 2 = 1 := by
    constructor
    · intro h
      rw [h] at s1
      simpa using s1.symm
    · intro h
      rw [h] at s1
      simpa using s1
  omega
set_option maxHeartbeats 1600000 in
theorem MiniOf_nan (v X F : Nat) (w : World) (hX : 2 ≤ X ∧ X ≤ 8) (hF : 1 ≤ F ∧ F ≤ 23) (hv : isN .f32 v = true) : Calls Try.prog 16 #[.float .f32 v, .int .i64 X, .int .i64 F] w fun e w' => e = .returned (.int .i64 ((allK X F + 2 ^ (F - 1) : Nat) : Int)) ∧ w = w' := by
  have h1 : (FloatKind.f32.format.order v v != some .eq) = true := by rw [ord_self_ne]; exact hv
  obtain ⟨-, ⟨q1, q2⟩, ⟨x1, x2⟩, ⟨d1, d2⟩, -, -, hA, -, s1, s2, s3⟩ := mini_pows hX hF
  have hb : allK X F ≤ 2147483648 := Nat.le_trans (Nat.le.intro s1) s3
  clear s1 s2 s3
  go_enter Try.func16, Try.ntmps16
  go_wp2_with fail
  go_ret
  exact ⟨ret_i (by push_cast; rfl), rfl⟩
set_option maxRecDepth 100000 in
set_option maxHeartbeats 6400000 in
theorem MiniOf_not (v X F : Nat) (w : World) (hX : 2 ≤ X ∧ X ≤ 8) (hF : 1 ≤ F ∧ F ≤ 23) (hl : v < 2 ^ FloatKind.f32.format.width) (hv : isN .f32 v = false) : Calls Try.prog 16 #[.float .f32 v, .int .i64 X, .int .i64 F] w fun e w' => ∃ k : Nat, e = .returned (.int .i64 ((sgK X F v + k : Nat) : Int)) ∧ miniK X F v k ∧ ∃ m, w' = w.drewN m := by
  have h1 : (FloatKind.f32.format.order v v != some .eq) = false := by rw [ord_self_ne]; exact hv
  obtain ⟨-, ⟨q1, q2⟩, ⟨x1, x2⟩, -, ⟨e1, e2⟩, -, hA, s4, s1, -, s3⟩ := mini_pows hX hF
  have hb : allK X F ≤ 2147483648 := Nat.le_trans (Nat.le.intro s1) s3
  have HS := Lib.hid (And.intro s1 (And.intro s3 s4))
  clear s1 s3 s4
  have hsb := up_sign hl hv
  obtain ⟨x, hx⟩ : ∃ x, x = fcv .f32 .f64 v := ⟨_, rfl⟩
  obtain ⟨a, ha⟩ : ∃ a, a = absF x := ⟨_, rfl⟩
  rw [← hx] at hsb
  have HX := Lib.hid (And.intro hx ha)
  have hx3 : x < 2 ^ 64 := by rw [hx]; exact fcv_lt .f32 .f64 v
  clear hx ha
  obtain ⟨S, hS⟩ : ∃ S, S = sgK X F v := ⟨_, rfl⟩
  have hS1 : S ≤ 2147483648 := by rw [hS]; unfold sgK; split; omega; exact HS.out.2.1
  rw [← hS]
  have HSG := Lib.hid hS
  clear hS
  go_enter Try.func16, Try.ntmps16
  go_upto_if 30 with (first | ((with_reducible apply wpList_up); rfl; exact Try.underlying22; exact Try.underlying26; intro r nr hr; obtain rfl := (abs_nan hr hv).1; clear hr; rw [← HX.out.1]) | (go_at_call 42; refine (Signbit_any _ _ hx3).mono ?_; rintro e w' ⟨rfl, rfl⟩; rw [hsb]))
  go_cut [8] (fun s8 wx => s8 = .int .i64 S ∧ ∃ m, wx = w.drewN m)
  case first =>
    by_cases hs : 2147483648 ≤ v
    · have HV := Lib.hid (show S = 2 ^ (X + F) by rw [HSG.out]; unfold sgK; rw [if_neg (by omega)])
      have hd : decide (2147483648 ≤ v) = true := decide_eq_true hs
      clear hsb
      rw [hd]
      clear hd hs
      go_wp2_with fail
      go_meet
      exact ⟨by rw [HV.out]; push_cast; rfl, _, rfl⟩
    · have HV := Lib.hid (show S = 0 by rw [HSG.out]; unfold sgK; rw [if_pos (by omega)])
      have hd : decide (2147483648 ≤ v) = false := decide_eq_false hs
      clear hsb
      rw [hd]
      clear hd hs
      go_wp2_with fail
      go_meet
      exact ⟨by rw [HV.out]; rfl, _, rfl⟩
  case rest =>
    obtain ⟨rfl, m0, hw0⟩ := hcut
    have HW := Lib.hid hw0
    clear hw0
    go_upto_if 43 with (first | ((with_reducible apply wpList_up); rfl; exact Try.underlying22; exact Try.underlying26; intro r nr hr; obtain rfl := (abs_nan hr hv).1; clear hr; rw [← HX.out.1]) | (go_at_call 11; refine (Abs_any _ _).mono ?_; rintro e w' ⟨rfl, rfl⟩; rw [← HX.out.2]) | (go_at_call 43; refine (small_any (allK X F) X F _ hX hF (Nat.le_refl _)).mono ?_; rintro e w' ⟨r1, rfl, hr1, m1, rfl⟩; have HR := Lib.hid hr1; clear hr1))
    cases hn : isNum .f32 v with
    | false =>
      have hc := inf_above hl hv hn HR.out.1 a (by rw [HX.out.2, HX.out.1])
      rw [hc]
      have HN := Lib.hid hn
      clear hc hn
      go_wp2_with fail
      go_ret
      refine ⟨allK X F, ret_i (by push_cast; rfl), ⟨fun _ => rfl, fun h => by rw [HN.out] at h; cases h⟩, by rw [HW.out]; exact ⟨_, World.drewN_drewN _ _ _⟩⟩
    | true =>
      obtain ⟨b1, b2, b3, b4, b5⟩ := abs_num hn a (by rw [HX.out.2, HX.out.1])
      rw [ord_ge_val b1 HR.out.1]
      by_cases hc : val .f64 r1 ≤ val .f64 a
      · have hd : decide (val .f64 r1 ≤ val .f64 a) = true := decide_eq_true hc
        have HC := Lib.hid hc
        have HN := Lib.hid (And.intro hn b3)
        rw [hd]
        clear hc hd hn b1 b2 b3 b4 b5
        go_wp2_with fail
        go_ret
        exact ⟨allK X F, ret_i (by push_cast; rfl), ⟨fun _ => rfl, fun h => top_code (by rw [← HN.out.2, ← HR.out.2.2.1]; exact HC.out)⟩, by rw [HW.out]; exact ⟨_, World.drewN_drewN _ _ _⟩⟩
      · have hd : decide (val .f64 r1 ≤ val .f64 a) = false := decide_eq_false hc
        have hc2 : val .f64 a < svQ X F (allK X F) := by rw [← HR.out.2.2.1]; grind
        have HB := Lib.hid (And.intro hn (And.intro b1 (And.intro b2 (And.intro b3 (And.intro b4 b5)))))
        have HC := Lib.hid hc2
        rw [hd]
        clear hc hd hc2 hn b1 b2 b3 b4 b5
        go_wp2_with fail
        go_loopw [10, 11] (fun s10 s11 wr => ∃ low high : Nat, s10 = .int .i64 low ∧ s11 = .int .i64 high ∧ low < high ∧ high ≤ allK X F ∧ svQ X F low ≤ val .f64 a ∧ val .f64 a < svQ X F high ∧ ∃ m, wr = w.drewN m) (fun l h _ => (intOf h - intOf l).toNat)
        case atStart =>
          refine ⟨0, allK X F, rfl, rfl, HS.out.2.2, Nat.le_refl _, ?_, HC.out, by rw [HW.out]; exact ⟨_, World.drewN_drewN _ _ _⟩⟩
          rw [svQ_step, svN_zero, HB.out.2.2.2.1]
          rw [show ((0 : Nat) : Rat) = 0 from rfl, Rat.zero_mul]; exact vq_nonneg _ _
        case round =>
          obtain ⟨low, high, rfl, rfl, l1, l2, l3, l4, m, hwr⟩ := hrel
          have HL := Lib.hid (And.intro l3 (And.intro l4 hwr))
          clear l3 l4 hwr
          have il1 : (low : Int) < high := by omega
          have il2 : (high : Int) ≤ 2147483648 := by omega
          have il0 : (0 : Int) ≤ low := by omega
          by_cases hgap : 1 < (high : Int) - low
          · obtain ⟨M, hM⟩ : ∃ M : Nat, M = (low + high) / 2 := ⟨_, rfl⟩
            have hM1 : ((low : Int) + high) / 2 = (M : Int) := by omega
            have hM2 : low < M ∧ M < high := by omega
            have hM3 : M ≤ (2 ^ X - 1) * 2 ^ F := show M ≤ allK X F by omega
            have HM := Lib.hid (And.intro hM2 hM3)
            clear hM hM2 hM3
            go_upto_if 61 with (first | (go_at_call 43; refine (small_any M X F _ hX hF HM.out.2).mono ?_; rintro e w' ⟨r2, rfl, hr2, m2, rfl⟩; have HR2 := Lib.hid hr2; clear hr2))
            rw [ord_le_val HR2.out.1 HB.out.2.1]
            by_cases hc : val .f64 r2 ≤ val .f64 a
            · have hd : decide (val .f64 r2 ≤ val .f64 a) = true := decide_eq_true hc
              have HC2 := Lib.hid hc
              rw [hd]
              clear hc hd
              go_wp2_with fail
              go_roundw
              case rel => exact ⟨M, high, rfl, rfl, HM.out.1.2, l2, by rw [← HR2.out.2.2.1]; exact HC2.out, HL.out.2.1, by rw [HL.out.2.2]; exact ⟨_, World.drewN_drewN _ _ _⟩⟩
              case measure => have := HM.out.1; simp [intOf]; omega
            · have hd : decide (val .f64 r2 ≤ val .f64 a) = false := decide_eq_false hc
              have HC2 := Lib.hid (show val .f64 a < val .f64 r2 by grind)
              rw [hd]
              clear hc hd
              go_wp2_with fail
              go_roundw
              case rel => exact ⟨low, M, rfl, rfl, HM.out.1.1, Nat.le_trans (Nat.le_of_lt HM.out.1.2) l2, HL.out.1, by rw [← HR2.out.2.2.1]; exact HC2.out, by rw [HL.out.2.2]; exact ⟨_, World.drewN_drewN _ _ _⟩⟩
              case measure => have := HM.out.1; simp [intOf]; omega
          · have HH := Lib.hid (show high = low + 1 by omega)
            have hgap2 : (high : Int) - low ≤ 1 := by omega
            have hlo : low ≤ (2 ^ X - 1) * 2 ^ F := Nat.le_trans (Nat.le_of_lt l1) l2
            have hhi : high ≤ (2 ^ X - 1) * 2 ^ F := l2
            have HLO := Lib.hid hlo
            have HHI := Lib.hid hhi
            clear hlo hhi hgap
            go_upto_region 17 with (first | (go_at_call 43; refine (small_any _ X F _ hX hF (by first | exact HLO.out | exact HHI.out)).mono ?_; rintro e w' ⟨r2, rfl, hr2, m2, rfl⟩; have HR2 := Lib.hid hr2; clear hr2) | ((with_reducible apply wpList_farith); rfl; rfl; rfl; intro q n hq; have HQ := Lib.hid hq; clear hq))
            rename_i r3 m3 HR3 q3 n3 HQ3 _ _ _ _
            obtain ⟨⟨c1, c2⟩, c3, c4⟩ := mini_last hX hF HB.out.2.1 HB.out.2.2.1 HB.out.2.2.2.2.1 HB.out.2.2.2.2.2 ⟨HR3.out.1, HR3.out.2.1, HR3.out.2.2.1⟩ (by rw [← HH.out]; exact ⟨HR2.out.1, HR2.out.2.1, HR2.out.2.2.1⟩) HL.out.1 (by rw [← HH.out]; exact HL.out.2.1)
            have g3 := HQ3.out
            rw [cn_of_not (isNum_not_nan HB.out.2.1), cn_of_not (isNum_not_nan HR3.out.1)] at g3
            obtain rfl := g3.exact (isNum_not_nan c1)
            have g2 := HQ.out
            rw [cn_of_not (isNum_not_nan HB.out.2.1), cn_of_not (isNum_not_nan HR2.out.1)] at g2
            obtain rfl := g2.exact (isNum_not_nan c2)
            have o1 := ord_lt_num c2 c1
            have o2 := ord_eq_num c2 c1
            generalize fop .sub .f64 a r3 = B at *
            generalize fop .sub .f64 r2 a = C at *
            have HCC := Lib.hid (And.intro c3 c4)
            clear c1 c2 c3 c4 g3 g2
            have fin : ∀ k, ((k = low + 1 ∧ (svQ X F (low + 1) - val .f64 a < val .f64 a - svQ X F low ∨ (svQ X F (low + 1) - val .f64 a = val .f64 a - svQ X F low ∧ low % 2 = 1))) ∨ (k = low ∧ ¬ (svQ X F (low + 1) - val .f64 a < val .f64 a - svQ X F low ∨ (svQ X F (low + 1) - val .f64 a = val .f64 a - svQ X F low ∧ low % 2 = 1)))) → miniK X F v k := fun k hk => by
              refine ⟨fun h => (by rw [HB.out.1] at h; cases h), fun _ => ?_⟩
              rw [← HB.out.2.2.2.1]
              exact near_code (by rw [← HH.out]; exact l2) HL.out.1 (by rw [← HH.out]; exact HL.out.2.1) hk
            have FIN := Lib.hid fin
            clear fin
            by_cases hlt : val .f64 C < val .f64 B
            · have HK := Lib.hid (FIN.out high (.inl ⟨HH.out, .inl (HCC.out.1.1 hlt)⟩))
              rw [decide_eq_true hlt] at o1
              clear hlt o2
              go_wp2_with fail
              go_ret
              exact ⟨high, ret_i (by push_cast; rfl), HK.out, by rw [HL.out.2.2]; exact ⟨_, World.drewN_drewN _ _ _⟩⟩
            · rw [decide_eq_false hlt] at o1
              by_cases heq : val .f64 C = val .f64 B
              · rw [decide_eq_true heq] at o2
                by_cases hod : low % 2 = 1
                · have HK := Lib.hid (FIN.out high (.inl ⟨HH.out, .inr ⟨HCC.out.2.1 heq, hod⟩⟩))
                  have hod2 : (low : Int) % 2 = 1 := by omega
                  clear hlt heq hod
                  go_wp2_with fail
                  go_ret
                  exact ⟨high, ret_i (by push_cast; rfl), HK.out, by rw [HL.out.2.2]; exact ⟨_, World.drewN_drewN _ _ _⟩⟩
                · have HK := Lib.hid (FIN.out low (.inr ⟨rfl, fun h => by
                    rcases h with h | ⟨-, h⟩
                    · exact hlt (HCC.out.1.2 h)
                    · exact hod h⟩))
                  have hod2 : (low : Int) % 2 = 0 := by omega
                  clear hlt heq hod
                  go_wp2_with fail
                  go_ret
                  exact ⟨low, ret_i (by push_cast; rfl), HK.out, by rw [HL.out.2.2]; exact ⟨_, World.drewN_drewN _ _ _⟩⟩
              · rw [decide_eq_false heq] at o2
                have HK := Lib.hid (FIN.out low (.inr ⟨rfl, fun h => by
                  rcases h with h | ⟨h, -⟩
                  · exact hlt (HCC.out.1.2 h)
                  · exact heq (HCC.out.2.2 h)⟩))
                clear hlt heq
                go_wp2_with fail
                go_ret
                exact ⟨low, ret_i (by push_cast; rfl), HK.out, by rw [HL.out.2.2]; exact ⟨_, World.drewN_drewN _ _ _⟩⟩
end Go.Proofs.Ytefjkelakecanaa
