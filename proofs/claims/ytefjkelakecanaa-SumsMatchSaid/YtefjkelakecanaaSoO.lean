/- dyeref2.MiddleOf: the element that has half of the others ahead of it. Conditions: the row lies in memory; at most 300 elements. -/
import Derived.Test.YtefjkelakecanaaSoN
import Derived.Test.YtefjkelakecanaaSoM
namespace Go.Proofs.Ytefjkelakecanaa
open Go Go.RowKit
def rkR (v : Nat) : Int := if isN .f32 v then 1099511627776 else placeZ v
theorem rkR_bd {v : Nat} (hv : v < 4294967296) : -2147483648 ≤ rkR v ∧ rkR v ≤ 1099511627776 := by
  unfold rkR
  split
  · omega
  · have := place_rng (v := v) hv; omega
theorem rkR_lt {x y : Nat} (hx : x < 4294967296) (hy : y < 4294967296) : (rkR x < rkR y ↔ rkZ x < rkZ y) ∧ (rkR x = rkR y ↔ rkZ x = rkZ y) := by
  have a := place_rng (v := x) hx
  have b := place_rng (v := y) hy
  unfold rkR rkZ
  by_cases hx : isN .f32 x = true <;> by_cases hy : isN .f32 y = true
  · simp [hx, hy]
  · simp only [if_pos hx, if_neg hy]; constructor <;> omega
  · simp only [if_neg hx, if_pos hy]; constructor <;> omega
  · simp [hx, hy]
theorem rk_cn {x y : Nat} (hx : x < 4294967296) (hy : y < 4294967296) (h : rkZ x = rkZ y) : cn .f32 x = cn .f32 y := by
  have a := place_rng (v := x) hx
  have b := place_rng (v := y) hy
  unfold rkZ at h
  cases nx : isN .f32 x <;> cases ny : isN .f32 y <;> rw [nx, ny] at h <;> simp only [Bool.false_eq_true, reduceIte, eq_self] at h
  · have e : x = y := by rw [← at_place (v := x) hx, ← at_place (v := y) hy, h]
    rw [e]
  · omega
  · omega
  · rw [cn_of_nan nx, cn_of_nan ny]
theorem key2_any (v : Nat) (w : World) (hv : v < 4294967296) : Calls Try.prog 51 #[.float .f32 v] w fun e w' => e = .returned (.int .i64 (rkR v)) ∧ w = w' := by
  cases hN : isN .f32 v with
  | true =>
    have h1 : (FloatKind.f32.format.order v v != some .eq) = true := by rw [ord_self_ne]; exact hN
    go_enter Try.func51, Try.ntmps51
    go_wp2_with fail
    go_ret
    exact ⟨ret_i (by unfold rkR; rw [hN]; rfl), rfl⟩
  | false =>
    have h1 : (FloatKind.f32.format.order v v != some .eq) = false := by rw [ord_self_ne]; exact hN
    go_enter Try.func51, Try.ntmps51
    go_wp2_with (first | (go_at_call 52; refine (placeOf_any _ _ hv).mono ?_; rintro e w' ⟨rfl, rfl⟩))
    go_ret
    exact ⟨ret_i (by unfold rkR; rw [hN]; rfl), rfl⟩
set_option maxRecDepth 100000 in
set_option maxHeartbeats 6400000 in
theorem MiddleOf_any (b o n cap : Nat) (fs q : Nat → Nat) (w : World) (h2 : n ≤ 300) (h3 : 0 < n) (hc : CelF w b o (o + n) fs) (hp : PmR 0 n (fun i => fs (o + i)) q) (hs : SoR rkZ 0 n q) :
    Calls Try.prog 23 #[.slice (some ⟨b, o, none⟩) n cap] w fun e w' => e = .returned (.float .f32 (cn .f32 (q ((n - 1) / 2)))) ∧ w = w' := by
  have HC := Lib.hid hc
  have HP := Lib.hid (And.intro hp hs)
  obtain ⟨f, hf⟩ : ∃ f : Nat → Nat, f = fun i => fs (o + i) := ⟨_, rfl⟩
  obtain ⟨m, hm⟩ : ∃ m, m = (n - 1) / 2 := ⟨_, rfl⟩
  have hm1 : ((n : Int) - 1) / 2 = (m : Int) := by omega
  have hmn : m < n := by omega
  have hfb : ∀ i, i < n → f i < 4294967296 := fun i hi => by rw [hf]; exact (hc (o + i) (by omega) (by omega)).2
  rw [← hf] at HP
  rw [← hm]
  have HF := Lib.hid (And.intro hf hfb)
  clear hc hp hs hf hm hfb
  go_enter Try.func23, Try.ntmps23
  go_wp2_with fail
  go_loopw [11] (fun s11 wr => ∃ i : Nat, s11 = .int .i64 i ∧ i ≤ n ∧ wr = w ∧ ∀ i', i' < i → moN rkZ f i' n ≠ m) (fun s11 _ => n - (intOf s11).toNat)
  case atStart => exact ⟨0, rfl, Nat.zero_le _, rfl, fun i' h => by omega⟩
  case round =>
    obtain ⟨i, rfl, hi, rfl, hno⟩ := hrel
    have HNO := Lib.hid hno
    clear hno
    by_cases hin : i < n
    · have hin' : (i : Int) < (n : Int) := by omega
      obtain ⟨x, hx⟩ : ∃ x, x = f i := ⟨_, rfl⟩
      have cx := (HC.out (o + i) (by omega) (by omega)).1
      have hxb : x < 4294967296 := by rw [hx]; exact HF.out.2 i hin
      have e1 : fs (o + i) = x := by rw [hx, HF.out.1]
      rw [e1] at cx
      have HX := Lib.hid hx
      have cl := cell_lt cx
      clear hx e1
      go_wp2_with fail
      go_loopw [18, 6] (fun s18 s6 wr2 => ∃ j c : Nat, s18 = .int .i64 j ∧ s6 = .int .i64 c ∧ j ≤ n ∧ c ≤ j ∧ wr2 = wr ∧ c = moN rkZ f i j) (fun s18 _ _ => n - (intOf s18).toNat)
      case atStart => exact ⟨0, 0, rfl, rfl, Nat.zero_le _, Nat.le_refl _, rfl, rfl⟩
      case round =>
        obtain ⟨j, c, rfl, rfl, hj, hcj, rfl, hcv⟩ := hrel
        have HCV := Lib.hid hcv
        clear hcv
        by_cases hjn : j < n
        · have hjn' : (j : Int) < (n : Int) := by omega
          obtain ⟨y, hy⟩ : ∃ y, y = f j := ⟨_, rfl⟩
          have cy := (HC.out (o + j) (by omega) (by omega)).1
          have hyb : y < 4294967296 := by rw [hy]; exact HF.out.2 j hjn
          have e2 : fs (o + j) = y := by rw [hy, HF.out.1]
          rw [e2] at cy
          obtain ⟨r1, r2⟩ := rkR_lt hyb hxb
          have HK : Hid (moN rkZ f i (j + 1) = c + (if rkR y < rkR x ∨ (rkR y = rkR x ∧ j < i) then 1 else 0)) := Lib.hid (by
            show moN rkZ f i j + (if rkZ (f j) < rkZ (f i) ∨ (rkZ (f j) = rkZ (f i) ∧ j < i) then 1 else 0) = _
            rw [← HCV.out, ← hy, ← HX.out]
            simp only [r1, r2])
          clear hy e2 r1 r2
          by_cases c1 : rkR y < rkR x
          · have HK2 := Lib.hid (show c + 1 = moN rkZ f i (j + 1) by rw [HK.out, if_pos (.inl c1)])
            clear HK
            go_wp2_with (first | (go_at_call 51; refine (key2_any _ _ (by first | exact hxb | exact hyb)).mono ?_; rintro e w' ⟨rfl, rfl⟩))
            go_roundw
            case rel => exact ⟨j + 1, c + 1, by first | rfl | go_num, by first | rfl | go_num, by omega, by omega, by first | rfl | trivial, HK2.out⟩
            case measure => simp [intOf]; omega
          · by_cases c2 : rkR y = rkR x
            · by_cases c3 : j < i
              · have HK2 := Lib.hid (show c + 1 = moN rkZ f i (j + 1) by rw [HK.out, if_pos (.inr ⟨c2, c3⟩)])
                have c3' : (j : Int) < (i : Int) := by omega
                clear HK
                go_wp2_with (first | (go_at_call 51; refine (key2_any _ _ (by first | exact hxb | exact hyb)).mono ?_; rintro e w' ⟨rfl, rfl⟩))
                go_roundw
                case rel => exact ⟨j + 1, c + 1, by first | rfl | go_num, by first | rfl | go_num, by omega, by omega, by first | rfl | trivial, HK2.out⟩
                case measure => simp [intOf]; omega
              · have HK2 := Lib.hid (show c = moN rkZ f i (j + 1) by rw [HK.out, if_neg (by rintro (h | ⟨-, h⟩) <;> contradiction), Nat.add_zero])
                have c3' : ¬ (j : Int) < (i : Int) := by omega
                clear HK
                go_wp2_with (first | (go_at_call 51; refine (key2_any _ _ (by first | exact hxb | exact hyb)).mono ?_; rintro e w' ⟨rfl, rfl⟩))
                go_roundw
                case rel => exact ⟨j + 1, c, by first | rfl | go_num, rfl, by omega, by omega, by first | rfl | trivial, HK2.out⟩
                case measure => simp [intOf]; omega
            · have HK2 := Lib.hid (show c = moN rkZ f i (j + 1) by rw [HK.out, if_neg (by rintro (h | ⟨h, -⟩) <;> contradiction), Nat.add_zero])
              clear HK
              go_wp2_with (first | (go_at_call 51; refine (key2_any _ _ (by first | exact hxb | exact hyb)).mono ?_; rintro e w' ⟨rfl, rfl⟩))
              go_roundw
              case rel => exact ⟨j + 1, c, by first | rfl | go_num, rfl, by omega, by omega, by first | rfl | trivial, HK2.out⟩
              case measure => simp [intOf]; omega
        · obtain rfl : j = n := by omega
          have hjn' : ¬ (j : Int) < (j : Int) := by omega
          by_cases hcm : c = m
          · have hcm' : (c : Int) = (m : Int) := by omega
            have hk := mid_found (m := m) HP.out.1 HP.out.2 hin (by rw [← HCV.out]; exact hcm)
            have hqb : q m < 4294967296 := by
              have h := HP.out.1.all (P := fun v => decide (v < 4294967296)) (fun j _ hj => by simpa using HF.out.2 j hj) m (Nat.zero_le _) hmn
              simpa using h
            have HE := Lib.hid (show cn .f32 x = cn .f32 (q m) by rw [HX.out]; exact rk_cn (HF.out.2 i hin) hqb hk.2.symm)
            subst hcm
            clear hk hqb
            go_wp2_with (first | (go_at_call 22; refine (Fix_any _ _).mono ?_; rintro e w' ⟨rfl, rfl⟩))
            go_ret
            exact ⟨ret_f HE.out, rfl⟩
          · have hcm' : ¬ (c : Int) = (m : Int) := by omega
            have HN2 := Lib.hid (show ∀ i', i' < i + 1 → moN rkZ f i' j ≠ m from fun i' h => by
              rcases Nat.lt_or_ge i' i with h1 | h1
              · exact HNO.out i' h1
              · obtain rfl : i' = i := by omega
                rw [← HCV.out]; exact hcm)
            clear hcm
            go_wp2_with fail
            go_roundw
            case rel => exact ⟨i + 1, by first | rfl | go_num, by omega, by first | rfl | trivial, HN2.out⟩
            case measure => simp [intOf]; omega
    · obtain rfl : i = n := by omega
      exfalso
      obtain ⟨i', i1, i2⟩ := mid_some HP.out.1 HP.out.2 hmn
      exact HNO.out i' i1 i2
end Go.Proofs.Ytefjkelakecanaa
