/- MeansAreTold: the walk of the statement. No condition. -/
import Derived.Test.YtmnmcmmhnbnndaaMeanB
import Derived.Test.YtmnmcmmhnbnndaaLdA
import Derived.BigQuiet
namespace Go.Proofs.Ytmnmcmmhnbnndaa
open Go.RowKit
theorem ge_num {v : Nat} (h : ((FloatKind.f32.format.order v 0 == some .gt) || (FloatKind.f32.format.order v 0 == some .eq)) = true) (h2 : ((FloatKind.f32.format.order v 1065353216 == some .lt) || (FloatKind.f32.format.order v 1065353216 == some .eq)) = true) :
    isNum .f32 v = true ∧ 0 ≤ val .f32 v ∧ val .f32 v ≤ 1 := by
  have hn : isN .f32 v = false := by
    cases hN : isN .f32 v with
    | false => rfl
    | true => rw [ord_nan_l 0 hN] at h; simp at h
  have z1 : isN .f32 0 = false := by decide +kernel
  have z2 : isN .f32 1065353216 = false := by decide +kernel
  rw [ord_gt hn z1, ord_eq hn z1] at h
  rw [ord_lt hn z2, ord_eq hn z2] at h2
  have k0 : key FloatKind.f32.format 0 = 0 := by decide +kernel
  have k1 : key FloatKind.f32.format 1065353216 = 1065353216 := by decide +kernel
  have v0 : val .f32 0 = 0 := by decide +kernel
  have v1 : val .f32 1065353216 = 1 := by decide +kernel
  rw [Bool.or_eq_true, decide_eq_true_eq, decide_eq_true_eq] at h h2
  have g0 : key FloatKind.f32.format 0 ≤ key FloatKind.f32.format v := by omega
  have g1 : key FloatKind.f32.format v ≤ key FloatKind.f32.format 1065353216 := by omega
  have i0 := val_le_key.2 g0
  have i1 := val_le_key.2 g1
  rw [v0] at i0
  rw [v1] at i1
  refine ⟨?_, i0, i1⟩
  unfold isNum
  rw [decide_eq_true_eq, f32_ir]
  rw [k0] at g0
  rw [k1] at g1
  unfold key at g0 g1
  split at g0 <;> rename_i hs <;> simp only [hs] at g1 <;> simp at g1 <;> omega
theorem mean_ldexp {d : Int} (hd : 1 ≤ d ∧ d ≤ 16) (w : World) : Calls Try.prog 79 #[.float .f64 (floatOfInt .f64 (2 ^ d.toNat - 1)), .int .i64 (-22)] w fun e w' =>
    ∃ r, e = .returned (.float .f64 r) ∧ (isNum .f64 r = true ∧ sgn FloatKind.f64.format r = false ∧ val .f64 r = ((2 ^ d.toNat - 1 : Int) : Rat) * (2 : Rat) ^ (-22 : Int)) ∧ ∃ m, w' = w.drewN m := by
  obtain ⟨k, rfl⟩ : ∃ k : Fin 17, d = (k.val : Int) := ⟨⟨d.toNat, by omega⟩, by simp; omega⟩
  have H : ∀ k : Fin 17, 1 ≤ k.val → isNum .f64 (floatOfInt .f64 (2 ^ k.val - 1)) = true ∧ sgn FloatKind.f64.format (floatOfInt .f64 (2 ^ k.val - 1)) = false ∧ floatOfInt .f64 (2 ^ k.val - 1) < 2 ^ 64 ∧ 1 ≤ floatOfInt .f64 (2 ^ k.val - 1) / 4503599627370496 ∧ (23 : Nat) ≤ floatOfInt .f64 (2 ^ k.val - 1) / 4503599627370496 ∧ floatOfInt .f64 (2 ^ k.val - 1) / 4503599627370496 ≤ 2045 := by decide +kernel
  obtain ⟨h1, h2, h3, h4, h5, h6⟩ := H k (by omega)
  have hb := pow_bd hd
  obtain ⟨y1, y2⟩ := ofInt_exact64 (2 ^ k.val - 1) (by simp only [Int.toNat_natCast] at hb; omega)
  simp only [Int.toNat_natCast]
  have := Ldexp_val (-22) w h1 h2 h3 h4 (by omega) (by omega)
  rw [y2] at this
  exact this
set_option maxRecDepth 100000 in
set_option maxHeartbeats 1600000 in
theorem mt_walk (v : Nat) (d x y : Int) (w : World) (hv : v < 2 ^ FloatKind.f32.format.width) (_ : IntKind.i64.min ≤ d ∧ d ≤ IntKind.i64.max) (_ : IntKind.i64.min ≤ x ∧ x ≤ IntKind.i64.max) (_ : IntKind.i64.min ≤ y ∧ y ≤ IntKind.i64.max) :
    Calls Try.prog 11 #[.float .f32 v, .int .i64 d, .int .i64 x, .int .i64 y] w fun e w' => e = .returned (.bool true) ∧ Below w.heap.size w w' := by
  have hv' := Lib.hid hv; clear hv
  by_cases hall : ((FloatKind.f32.format.order v 0 == some .gt) || (FloatKind.f32.format.order v 0 == some .eq)) = true ∧ ((FloatKind.f32.format.order v 1065353216 == some .lt) || (FloatKind.f32.format.order v 1065353216 == some .eq)) = true ∧ inB d 1 16 = true
  · obtain ⟨hA, hB, hi⟩ := hall
    have hd := inB_iff.1 hi
    have hpb := pow_bd hd
    obtain ⟨p1, p2⟩ := hpb
    have hd' := Lib.hid hd
    obtain ⟨d1, d2⟩ := hd
    go_enter Try.func11, Try.ntmps11
    go_wp2_with (first | (go_at_call 22; refine (finishes_any _).mono ?_; rintro e w' ⟨n, rfl, rfl⟩) | (go_at_call 21; refine (In_any _ _ _ _).mono ?_; rintro e w' ⟨rfl, rfl⟩))
    obtain ⟨hn, h0, h1⟩ := ge_num hA hB
    obtain ⟨L1, L2, L3⟩ := mean_law hn h0 h1 hd'.out
    obtain ⟨X, hX⟩ : ∃ X, X = x.tmod 1000 := ⟨_, rfl⟩
    obtain ⟨Y, hY⟩ : ∃ Y, Y = y.tmod 1000 := ⟨_, rfl⟩
    have bX : -1000 < X ∧ X < 1000 := by
      rw [hX]; have := Int.lt_tmod_of_pos x (show (0 : Int) < 1000 by decide); have := Int.tmod_lt_of_pos x (show (0 : Int) < 1000 by decide); omega
    have bY : -1000 < Y ∧ Y < 1000 := by
      rw [hY]; have := Int.lt_tmod_of_pos y (show (0 : Int) < 1000 by decide); have := Int.tmod_lt_of_pos y (show (0 : Int) < 1000 by decide); omega
    obtain ⟨X1, X2⟩ := bX
    obtain ⟨Y1, Y2⟩ := bY
    have eX := hX.symm; have eY := hY.symm
    clear hX hY
    obtain ⟨A, hXA⟩ : ∃ A : Nat, A < 8 ∧ X % 8 = A := ⟨(X % 8).toNat, by omega, by omega⟩
    obtain ⟨B, hYB⟩ : ∃ B : Nat, B < 8 ∧ Y % 8 = B := ⟨(Y % 8).toNat, by omega, by omega⟩
    have HF : ∀ k : Nat, levelOf v (offF 1 0 (X + (k % 8 : Nat)) (Y + (k / 8 : Nat)) 0) d = levelOf v (oM (ordK A B k)) d := fun k => by
      rw [off_oM (X + (k % 8 : Nat)) (Y + (k / 8 : Nat)) A B k (by omega) (by omega)]
    obtain ⟨F, hF⟩ : ∃ F : Nat → Int, F = fun k => levelOf v (oM (ordK A B k)) d := ⟨_, rfl⟩
    have hFb : ∀ k, 0 ≤ F k ∧ F k ≤ 2 ^ d.toNat - 1 := fun k => by rw [hF]; exact L3 _ (ordK_lt A B k)
    have hFs : sumTo F 64 = sumTo (fun M => levelOf v (oM M) d) 64 := by rw [hF]; exact sum_ord (fun M => levelOf v (oM M) d) A B hXA.1 hYB.1
    have HF2 : ∀ k : Nat, levelOf v (offF 1 0 (X + (k % 8 : Nat)) (Y + (k / 8 : Nat)) 0) d = F k := fun k => by rw [HF k, hF]
    rw [← hFs] at L1 L2
    have l1 := Lib.hid L1; have l2 := Lib.hid L2; have hf2 := Lib.hid HF2; have hfb := Lib.hid hFb; have N := Lib.hid (And.intro hn (And.intro h0 h1))
    clear L1 L2 L3 hFs hF HF HF2 hFb hn h0 h1 hXA hYB hA hB
    go_loopw [9, 33] (fun s9 s33 wr => ∃ k : Nat, k ≤ 64 ∧ s33 = .int .i64 k ∧ s9 = .int .i64 (sumTo F k) ∧ Below w.heap.size w wr) (fun _ i _ => 64 - (intOf i).toNat)
    case atStart => refine ⟨0, by omega, rfl, rfl, ?_⟩; (repeat (first | exact Below.refl _ _ | assumption | (refine Below.setCell ?_ (by first | (simp; done) | (simp; omega) | omega) _) | (refine Below.drew ?_) | (refine below_drewN ?_ _) | (refine Below.alloc ?_ (by first | (simp; done) | (simp; omega) | omega) _) | (refine Below.trans ?_ (Below.mono (by assumption) (by first | (simp; done) | (simp; omega) | omega)))))
    case round =>
      obtain ⟨k, hk, rfl, rfl, hb⟩ := hrel
      by_cases hk4 : k < 64
      · have t1 : (k : Int).tmod 8 = ((k % 8 : Nat) : Int) := by rw [Int.tmod_eq_emod_of_nonneg (by omega)]; omega
        have t2 : (k : Int).tdiv 8 = ((k / 8 : Nat) : Int) := by rw [Int.tdiv_eq_ediv_of_nonneg (by omega)]; omega
        have q1 : k % 8 < 8 := Nat.mod_lt _ (by decide)
        have q2 : k / 8 < 8 := by omega
        have sb := sum_bd k (fun j _ => hfb.out j)
        have sk : (k : Int) * (2 ^ d.toNat - 1) ≤ 64 * 65535 := Int.mul_le_mul (by omega) (by omega) (by omega) (by omega)
        obtain ⟨s1, s2⟩ := sb
        have fk := hfb.out k
        have ek := hf2.out k
        have FK := Lib.hid (And.intro fk (And.intro s1 (And.intro (Int.le_trans s2 sk) sk)))
        obtain ⟨f1, f2⟩ := fk
        have f3 : F k ≤ 65535 := by omega
        have s3 : sumTo F k ≤ 4194240 := by omega
        clear s2 sk f2
        generalize k % 8 = m8 at *
        generalize k / 8 = d8 at *
        go_wp2_with (first | (go_at_call 28; refine (Offset_yes _ _ _ _ _ _ (by decide)).mono ?_; rintro e w' ⟨m, rfl, rfl⟩) | (go_at_call 26; refine (Level_yes _ _ _ _ hd'.out).mono ?_; rintro e w' ⟨m, rfl, rfl⟩))
        go_roundw
        case rel =>
          refine ⟨k + 1, by omega, by go_num, rfl, ?_⟩
          (repeat (first | exact Below.refl _ _ | assumption | (refine Below.setCell ?_ (by first | (simp; done) | (simp; omega) | omega) _) | (refine Below.drew ?_) | (refine below_drewN ?_ _) | (refine Below.alloc ?_ (by first | (simp; done) | (simp; omega) | omega) _) | (refine Below.trans ?_ (Below.mono (by assumption) (by first | (simp; done) | (simp; omega) | omega)))))
        case measure => simp [intOf]; omega
      · have hke : k = 64 := by omega
        subst hke
        obtain ⟨S, hS⟩ : ∃ S, S = sumTo F 64 := ⟨_, rfl⟩
        have sb := sum_bd 64 (fun j _ => hfb.out j)
        have sk : ((64 : Nat) : Int) * (2 ^ d.toNat - 1) ≤ 64 * 65535 := Int.mul_le_mul (by omega) (by omega) (by omega) (by omega)
        have L1 := l1.out; have L2 := l2.out
        rw [← hS] at sb L1 L2 ⊢
        have SB := Lib.hid (And.intro sb.1 (Int.le_trans sb.2 sk))
        have l1' := Lib.hid L1; have l2' := Lib.hid L2
        clear hS sb sk L1 L2 l1 l2
        go_wp2_with (first | ((with_reducible apply wpList_farith); rfl; rfl; rfl; intro _ _ _) | ((with_reducible apply wpList_up); rfl; exact Try.underlying38; exact Try.underlying51; intro _ _ _) | (go_at_call 78; refine (Abs_any _ _).mono ?_; rintro e w' ⟨rfl, rfl⟩) | (go_at_call 79; refine (mean_ldexp hd'.out _).mono ?_; rintro e w' ⟨L, rfl, hL, m, rfl⟩))
        rename_i a1 _ _ a2 _ _ a3 _ _ a4 _ _ a5
        obtain ⟨n0, n1, n2⟩ := N.out
        obtain ⟨b1, b2, b3⟩ := mean_double (L := L) SB.out (by omega : 1 ≤ (2 : Int) ^ d.toNat - 1 ∧ (2 : Int) ^ d.toNat - 1 ≤ 65535) n0 n1 n2 l1'.out l2'.out hL.1 hL.2.2
        rw [a2.eq, fcv_cn] at a3
        rw [a1.eq, a3.eq] at a4
        simp only [fop_cn_left, fop_cn_right] at a4 a5
        have e4 := FR.exact a4 b1
        have e5 := FR.exact a5 b2
        rw [← e4, ← e5] at b3
        go_ret
        refine ⟨ret_b (by rw [b3]; rfl), ?_⟩
        (repeat (first | exact Below.refl _ _ | assumption | (refine Below.setCell ?_ (by first | (simp; done) | (simp; omega) | omega) _) | (refine Below.drew ?_) | (refine below_drewN ?_ _) | (refine Below.alloc ?_ (by first | (simp; done) | (simp; omega) | omega) _) | (refine Below.trans ?_ (Below.mono (by assumption) (by first | (simp; done) | (simp; omega) | omega)))))
  · have hall' : ((FloatKind.f32.format.order v 0 == some .gt) || (FloatKind.f32.format.order v 0 == some .eq)) = false ∨ (((FloatKind.f32.format.order v 0 == some .gt) || (FloatKind.f32.format.order v 0 == some .eq)) = true ∧ ((FloatKind.f32.format.order v 1065353216 == some .lt) || (FloatKind.f32.format.order v 1065353216 == some .eq)) = false) ∨
        (((FloatKind.f32.format.order v 0 == some .gt) || (FloatKind.f32.format.order v 0 == some .eq)) = true ∧ ((FloatKind.f32.format.order v 1065353216 == some .lt) || (FloatKind.f32.format.order v 1065353216 == some .eq)) = true ∧ inB d 1 16 = false) := by
      revert hall
      cases ((FloatKind.f32.format.order v 0 == some .gt) || (FloatKind.f32.format.order v 0 == some .eq)) <;> cases ((FloatKind.f32.format.order v 1065353216 == some .lt) || (FloatKind.f32.format.order v 1065353216 == some .eq)) <;> cases inB d 1 16 <;> simp
    clear hall
    rcases hall' with hA | ⟨hA, hB⟩ | ⟨hA, hB, hi⟩
    all_goals
      go_enter Try.func11, Try.ntmps11
      go_wp2_with (first | (go_at_call 22; refine (finishes_any _).mono ?_; rintro e w' ⟨n, rfl, rfl⟩) | (go_at_call 21; refine (In_any _ _ _ _).mono ?_; rintro e w' ⟨rfl, rfl⟩))
      all_goals
        go_ret
        refine ⟨rfl, ?_⟩
        (repeat (first | exact Below.refl _ _ | assumption | (refine Below.setCell ?_ (by first | (simp; done) | (simp; omega) | omega) _) | (refine Below.drew ?_) | (refine below_drewN ?_ _) | (refine Below.alloc ?_ (by first | (simp; done) | (simp; omega) | omega) _) | (refine Below.trans ?_ (Below.mono (by assumption) (by first | (simp; done) | (simp; omega) | omega)))))
end Go.Proofs.Ytmnmcmmhnbnndaa
