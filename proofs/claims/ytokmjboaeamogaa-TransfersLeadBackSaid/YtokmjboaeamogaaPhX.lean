/- num.exponential: the walk. Conditions: those named. -/
import Derived.Test.YtokmjboaeamogaaPhW
namespace Go.Proofs.Ytokmjboaeamogaa
open Go Go.RowKit
theorem Floor_of (b r : Nat) (w : World) (hb : b < 2 ^ FloatKind.f64.format.width) (h : fwhole .down (cn .f64 b) = r) (hr : isN .f64 r = false) : Calls Try.prog 54 #[.float .f64 b] w fun e w' => e = .returned (.float .f64 r) ∧ ∃ m, w' = w.drewN m := by
  have hb' := Lib.hid hb
  clear hb
  go_enter Try.func54, Try.ntmps54
  go_wp2_with (first | ((with_reducible apply wpList_floor); rfl; exact hb'.out; intro r2 n hr2; obtain rfl : r2 = r := (FR.exact hr2 (by rw [h]; exact hr)).trans h))
  go_ret
  exact ⟨rfl, _, rfl⟩
/-- What the loop's rounds need. -/
def ExpAt (r j p : Nat) : Prop := isNum .f64 p = true ∧ Nr (val .f64 p) (eL (val .f64 r) (14 - j)) (8 * uQ) ∧ p < 2 ^ FloatKind.f64.format.width
theorem exp_step {r p j : Nat} (hj : j < 14) (nr : isNum .f64 r = true) (r1 : -(9 / 25) ≤ val .f64 r) (r2 : val .f64 r ≤ 9 / 25) (h : ExpAt r (j + 1) p) :
    ∃ M D F, (fop .mul .f64 (cn .f64 p) (cn .f64 r) = M ∧ isN .f64 M = false) ∧
    (fop .quo .f64 (cn .f64 M) (cn .f64 (floatOfInt .f64 ((j + 1 : Nat) : Int))) = D ∧ isN .f64 D = false) ∧
    (fop .add .f64 (cn .f64 4607182418800017408) (cn .f64 D) = F ∧ isN .f64 F = false) ∧ ExpAt r j F := by
  obtain ⟨a, b, -⟩ := h
  obtain ⟨i1, i2⟩ := ofInt_exact64 ((j + 1 : Nat) : Int) (by omega)
  have e : 14 - (j + 1) = 13 - j := by omega
  rw [e] at b
  have i3 : val .f64 (floatOfInt .f64 ((j + 1 : Nat) : Int)) = 14 - ((13 - j : Nat) : Rat) := by
    rw [i2]
    have : ∀ j : Fin 14, (((j.val + 1 : Nat) : Int) : Rat) = 14 - ((13 - j.val : Nat) : Rat) := by decide +kernel
    exact this ⟨j, hj⟩
  obtain ⟨m1, m2, m3, m4⟩ := eL_step (n := 13 - j) (by omega) a nr i1 rfl r1 r2 b i3
  refine ⟨_, _, _, flt a nr rfl m1, flt m1 i1 rfl m2, flt one64.1 m2 rfl m3, m3, ?_, fop_lt _ _ _ _⟩
  rw [show 14 - j = 13 - j + 1 by omega]; exact m4
/-- The last step: 2 to the whole power. -/
theorem exp_tail {r p : Nat} {n : Int} (r1 : -(9 / 25) ≤ val .f64 r) (r2 : val .f64 r ≤ 9 / 25) (h : ExpAt r 0 p) (n1 : -201 ≤ n) (n2 : n ≤ 201) (w : World) :
    Calls Try.prog 9 #[.float .f64 p, .int .i64 n] w fun e w' => (∃ V, e = .returned (.float .f64 V) ∧ isNum .f64 V = true ∧ val .f64 V = val .f64 p * (2 : Rat) ^ n) ∧ ∃ m, w' = w.drewN m := by
  obtain ⟨a, b, c⟩ := h
  obtain ⟨e1, e2⟩ := exp_in r1 r2
  rw [show 14 - 0 = 14 by rfl, eL_end] at b
  unfold Nr uQ at b
  have v1 : val .f64 4602678819172646912 < val .f64 p := by rw [lits64.2.1.2]; grind
  have v2 : val .f64 p < val .f64 4611686018427387904 := by rw [lits64.1.2]; grind
  have k1 := val_lt_key.1 v1
  have k2 := val_lt_key.1 v2
  have k3 : key FloatKind.f64.format 4602678819172646912 = 4602678819172646912 := by decide +kernel
  have k4 : key FloatKind.f64.format 4611686018427387904 = 4611686018427387904 := by decide +kernel
  rw [k3] at k1
  rw [k4] at k2
  have hs : sgn FloatKind.f64.format p = false := by
    cases hs : sgn FloatKind.f64.format p with
    | false => rfl
    | true => exfalso; unfold key at k1; rw [hs] at k1; simp at k1; omega
  have hp : p < 2 ^ 63 := by
    unfold sgn at hs; rw [sw64] at hs
    have hl : p < 2 ^ 64 := c
    simp only [beq_eq_false_iff_ne] at hs
    omega
  rw [key_pos hp] at k1 k2
  refine (Ldexp_val n w a hs c (by omega) (by omega) (by omega)).mono ?_
  rintro e w' ⟨V, h1, ⟨h2, -, h3⟩, h4⟩
  exact ⟨⟨V, h1, h2, h3⟩, h4⟩
set_option maxRecDepth 100000 in
set_option maxHeartbeats 3200000 in
theorem exponential_any (d : Nat) (w : World) (hd : isNum .f64 d = true) (d1 : -200 ≤ val .f64 d) (d2 : val .f64 d ≤ 200) :
    Calls Try.prog 50 #[.float .f64 d] w fun e w' => (∃ V, e = .returned (.float .f64 V) ∧ isNum .f64 V = true ∧ ExpP (val .f64 d) (val .f64 V)) ∧ ∃ m, w' = w.drewN m := by
  obtain ⟨l1, ⟨l3, l4⟩, -, ⟨l8, -⟩⟩ := lits64
  obtain ⟨b, hb⟩ : ∃ b, b = fop .add .f64 d 4602678819172646912 := ⟨_, rfl⟩
  obtain ⟨k, hk⟩ : ∃ k, k = fwhole .down b := ⟨_, rfl⟩
  obtain ⟨c, hc⟩ : ∃ c, c = fop .sub .f64 d k := ⟨_, rfl⟩
  obtain ⟨r, hr⟩ : ∃ r, r = fop .mul .f64 c 4604418534313441775 := ⟨_, rfl⟩
  obtain ⟨n1, n2, n3, n4, n, v1, v2, v3, v4, v5, v6, v7⟩ := exp_head hd d1 d2 hb hk hc hr
  obtain ⟨f1, g1⟩ := flt hd l3 hb.symm n1
  obtain ⟨f2, g2⟩ := flt hd n2 hc.symm n3
  obtain ⟨f3, g3⟩ := flt n3 l8 hr.symm n4
  have o1 : (FloatKind.f64.format.order d 13864612927836782592 == some .lt) = false := by
    rw [ord_lt (isNum_not_nan hd) (by decide +kernel), decide_eq_false_iff_not, Int.not_lt]
    refine val_le_key.1 ?_
    rw [show val .f64 13864612927836782592 = -200 by decide +kernel]; grind
  have o2 : (FloatKind.f64.format.order d 4641240890982006784 == some .gt) = false := by
    rw [ord_gt (isNum_not_nan hd) (by decide +kernel), decide_eq_false_iff_not, Int.not_lt]
    refine val_le_key.1 ?_
    rw [show val .f64 4641240890982006784 = 200 by decide +kernel]; grind
  have i1 : floatToIntVal .f64 k .i64 = some n := f2i_int n2 v1 (by omega)
  have cb : cn .f64 b = b := by unfold cn; rw [isNum_not_nan n1]; rfl
  have F := Lib.hid (fun w => Floor_of b k w (by rw [hb]; exact fop_lt _ _ _ _) (by rw [cb]; exact hk.symm) (isNum_not_nan n2))
  have K := Lib.hid (fun (j p : Nat) (hj : j < 14) (h : ExpAt r (j + 1) p) => exp_step hj n4 v5 v6 h)
  have T := Lib.hid (fun (p : Nat) (h : ExpAt r 0 p) (w : World) => exp_tail v5 v6 h v2 v3 w)
  have P0 : ExpAt r 14 4607182418800017408 := by
    refine ⟨one64.1, ?_, by decide⟩
    rw [one64.2]
    show Nr 1 1 (8 * uQ)
    unfold Nr uQ; constructor <;> grind
  have E : ∀ p V : Nat, ExpAt r 0 p → val .f64 V = val .f64 p * (2 : Rat) ^ n → ExpP (val .f64 d) (val .f64 V) := fun p V h hV => by
    refine ⟨n, val .f64 r, val .f64 p, v4, v5, v6, v7, ?_, hV⟩
    rw [← eL_end]; exact h.2.1
  replace E := Lib.hid E
  clear v1 v2 v3 v4 v5 v6 v7 hb hk hc hr d1 d2 l4 cb
  go_enter Try.func50, Try.ntmps50
  go_wp2_with (first | ((with_reducible apply wpList_flit); rfl; rfl; rfl; assumption; (first | assumption | (decide +kernel)); intro _) | (go_at_call 54; refine (F.out _).mono ?_; rintro e w' ⟨rfl, m, rfl⟩))
  go_loopw [5, 6] (fun s5 s6 wr => ∃ j : Nat, j ≤ 14 ∧ s6 = .int .i64 j ∧ (∃ p, s5 = .float .f64 p ∧ ExpAt r j p) ∧ ∃ m, wr = w.drewN m) (fun _ i _ => (intOf i).toNat)
  case atStart => exact ⟨14, by decide, rfl, ⟨_, rfl, P0⟩, _, rfl⟩
  case round =>
    obtain ⟨j, hj, rfl, ⟨p, rfl, hp⟩, m, rfl⟩ := hrel
    by_cases hj0 : j = 0
    · subst hj0
      go_wp2_with (first | ((with_reducible apply wpList_f2i); rfl; exact Try.underlying30; exact Try.underlying3; intro m n hm; obtain rfl := hm _ i1) | (go_at_call 9; refine (T.out _ hp _).mono ?_; rintro e w' ⟨⟨V, rfl, hV1, hV2⟩, m, rfl⟩))
      go_ret
      exact ⟨⟨_, rfl, hV1, E.out _ _ hp hV2⟩, _, rfl⟩
    · obtain ⟨i, rfl⟩ : ∃ i, j = i + 1 := ⟨j - 1, by omega⟩
      obtain ⟨M, D, G, ⟨q1, q2⟩, ⟨q3, q4⟩, ⟨q5, q6⟩, q7⟩ := K.out i p (by omega) hp
      go_wp2_with (first | ((with_reducible apply wpList_flit); rfl; rfl; rfl; assumption; (first | assumption | (decide +kernel)); intro _))
      go_roundw
      case rel => exact ⟨i, by omega, by first | rfl | (congr 1; go_num; done) | (simp; done) | (simp; omega), ⟨_, rfl, q7⟩, _, rfl⟩
      case measure => first | (simp [intOf]; done) | (simp [intOf]; omega)
end Go.Proofs.Ytokmjboaeamogaa
