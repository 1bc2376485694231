/- The colours of a cube lie within its entries, but for the roundings. Plain Lean. Conditions: those named. -/
import Derived.Test.YtmdmjmmplhoniaaCbA
import Derived.Test.YtmdmjmmplhoniaaCO
namespace Go.Proofs.Ytmdmjmmplhoniaa
open Go.RowKit
theorem one_lt100 : (1 : Rat) < (2 : Rat) ^ (100 : Int) := by decide +kernel
/-- A share lies from 0 to 1. -/
theorem share_ok {S lo hi v : Nat} (hS : 2 ≤ S ∧ S ≤ 17) : isNum .f32 (plF S lo hi v).2 = true ∧ 0 ≤ val .f32 (plF S lo hi v).2 ∧ val .f32 (plF S lo hi v).2 ≤ 1 := by
  have one : isNum .f32 1065353216 = true ∧ val .f32 1065353216 = 1 ∧ isNum .f32 0 = true ∧ val .f32 0 = 0 := by decide +kernel
  obtain ⟨o1, o2, o3, o4⟩ := one
  cases g0 : (FloatKind.f32.format.order (tF S lo hi v) 0 == some .gt)
  · rw [plF_low g0]; exact ⟨o3, by rw [o4]; exact Rat.le_refl, by rw [o4]; decide +kernel⟩
  · cases g1 : (FloatKind.f32.format.order (tF S lo hi v) (floatOfInt .f32 ((S : Int) - 1)) == some .lt)
    · rw [plF_high g0 g1]; exact ⟨o1, by rw [o2]; decide +kernel, by rw [o2]; exact Rat.le_refl⟩
    · obtain ⟨N, q1, q2, q3, q4, q5, q6, q7, q8⟩ := pl_mid hS g0 g1
      rw [plF_mid g0 g1, q2]
      generalize tF S lo hi v = t at *
      obtain ⟨n2, v2⟩ := ofInt_exact32 (N : Int) (by omega)
      rw [Rat.intCast_natCast] at v2
      have kz : key FloatKind.f32.format 0 = 0 := by decide
      rw [ord_gt (isNum_not_nan q3) (by decide +kernel), decide_eq_true_eq, kz] at g0
      obtain ⟨hs, hk⟩ := sgn_of_key g0
      have hvt : val .f32 t = vq FloatKind.f32.format (rung FloatKind.f32.format t) := by rw [val_sg, hs]; rfl
      obtain ⟨q, z1, z2, z3⟩ := toInt_zero q3
      have hq : q = N := by
        obtain ⟨n1, v1⟩ := ofInt_exact32 ((S : Int) - 1) (by omega)
        rw [ord_lt (isNum_not_nan q3) (isNum_not_nan n1), decide_eq_true_eq] at g1
        have hlt : val .f32 t < (((S - 1 : Nat)) : Rat) := by
          have h := val_lt_key.2 g1
          rw [v1, show (S : Int) - 1 = ((S - 1 : Nat) : Int) by omega, Rat.intCast_natCast] at h
          exact h
        have q1000 : q ≤ 1000 := by
          have h : (q : Rat) < ((S - 1 : Nat) : Rat) := rle_lt z2 (by rw [← hvt]; exact hlt)
          have := Rat.natCast_lt_natCast.1 h
          omega
        have h := f2i_some32 q3 z2 z3 (.inl hs) q1000
        rw [q4] at h
        have := Option.some.inj h
        omega
      rw [hq] at z2 z3
      rw [← hvt] at z2 z3
      have rn := fop_sub_num q3 n2 100 (by decide) (by decide) (by rw [v2]; have := zp_pos 100; grind) (by rw [v2]; have t1 := one_lt100; grind)
      obtain ⟨m, e, -, w1, m1, e1⟩ := decode_num q3
      rw [← hvt] at w1
      rw [v2] at rn
      have ex : val .f32 (fop .sub .f32 t (floatOfInt .f32 (N : Int))) = val .f32 t - (N : Rat) := by
        rcases Int.le_total 0 e with he | he
        · -- a whole number
          obtain ⟨d, rfl⟩ : ∃ d : Nat, e = d := ⟨e.toNat, by omega⟩
          rw [zp_nat, ← Rat.natCast_mul] at w1
          rw [← w1] at z2 z3
          have h1 := Rat.natCast_le_natCast.1 z2
          have h2 : ((m * 2 ^ d : Nat) : Rat) < ((N + 1 : Nat) : Rat) := by push_cast; push_cast at z3; exact z3
          have h3 := Rat.natCast_lt_natCast.1 h2
          have h4 : m * 2 ^ d = N := by omega
          rw [h4] at w1
          refine rn.exact false 0 0 (by decide) (by decide) ?_
          rw [← w1]; show _ = ((0 : Nat) : Rat) * _
          rw [show ((0 : Nat) : Rat) = 0 from rfl, Rat.zero_mul]; grind
        · obtain ⟨d, rfl⟩ : ∃ d : Nat, e = -(d : Int) := ⟨(-e).toNat, by omega⟩
          have hN : (N : Rat) = ((N * 2 ^ d : Nat) : Rat) * (2 : Rat) ^ (-(d : Int)) := by
            rw [Rat.natCast_mul, ← zp_nat, Rat.mul_assoc, ← zp_add]
            have : (d : Int) + -(d : Int) = 0 := by omega
            rw [this, Rat.zpow_zero, Rat.mul_one]
          rw [← w1, hN] at z2
          have h1 := Rat.natCast_le_natCast.1 (Rat.le_of_mul_le_mul_right z2 (zp_pos (-(d : Int))))
          obtain ⟨c, hc⟩ : ∃ c, m = N * 2 ^ d + c := ⟨m - N * 2 ^ d, by omega⟩
          refine rn.exact false c (-(d : Int)) (by omega) e1 ?_
          have hc2 : (m : Rat) = ((N * 2 ^ d : Nat) : Rat) + (c : Rat) := by rw [hc, Rat.natCast_add]
          rw [← w1, hc2]
          show _ = (c : Rat) * _
          generalize (2 : Rat) ^ (-(d : Int)) = z at *
          generalize ((N * 2 ^ d : Nat) : Rat) = y at *
          rw [hN]; grind
      exact ⟨rn.num, by rw [ex]; grind, by rw [ex]; grind⟩
/-- The axes by their shares: the shares fall. -/
theorem ord3_falls {x : Nat → Nat} (hx : ∀ j, j < 3 → isN .f32 (x j) = false) : val .f32 (x (ord3 x 1)) ≤ val .f32 (x (ord3 x 0)) ∧ val .f32 (x (ord3 x 2)) ≤ val .f32 (x (ord3 x 1)) := by
  constructor
  · have p1 := isP_step (x := x) (n := 1) (by omega) (isP_step (x := x) (n := 0) (by omega) isP_id)
    show val .f32 (x (stepP x 0 (stepP x 1 (stepP x 0 idP)) 1)) ≤ val .f32 (x (stepP x 0 (stepP x 1 (stepP x 0 idP)) 0))
    generalize stepP x 1 (stepP x 0 idP) = q at *
    refine val_le_key.2 ?_
    rcases step_cases hx (n := 0) (by omega) p1 with ⟨h, h1⟩ | ⟨h, h1⟩
    · rw [h]; exact Int.not_lt.1 h1
    · rw [h]; simp [swapP]; exact Int.le_of_lt h1
  · refine val_le_key.2 ?_
    have p3 := ord3_isP x
    have e := ord3_sorted hx
    rcases step_cases hx (n := 1) (by omega) p3 with ⟨h, h1⟩ | ⟨h, h1⟩
    · exact Int.not_lt.1 h1
    · exfalso
      rw [e] at h
      have h2 := congrFun h 1
      simp [swapP] at h2
      exact p3.2.2.2.2.2 h2
theorem plI_le {S lo hi v : Nat} (hS : 2 ≤ S ∧ S ≤ 17) : (plF S lo hi v).1.toNat + 2 ≤ S := by
  obtain ⟨⟨i, h1, h2⟩, -⟩ := plF_ok (lo := lo) (hi := hi) (v := v) hS
  rw [h1]; simpa using h2
theorem tet_in {S lo hi n : Nat} {fs p : Nat → Nat} {l h M : Rat} (hS : 2 ≤ S ∧ S ≤ 17) (hb : brokB p = false) (hn : n < 3) (hM : (2 : Rat) ^ (-101 : Int) ≤ M) (hM2 : M < (2 : Rat) ^ (121 : Int)) (hl : -M ≤ l) (hh : h ≤ M)
    (hf : ∀ j, j < 3 * (S * S * S) → isNum .f32 (fs j) = true ∧ l ≤ val .f32 (fs j) ∧ val .f32 (fs j) ≤ h) :
    isNum .f32 (tetF S lo hi fs p n) = true ∧ l - M * (31 / 2) * (1 / 16777216) ≤ val .f32 (tetF S lo hi fs p n) ∧ val .f32 (tetF S lo hi fs p n) ≤ h + M * (31 / 2) * (1 / 16777216) := by
  have hx : ∀ j, j < 3 → isN .f32 ((fun a => (plF S lo hi (p a)).2) j) = false := fun j _ => isNum_not_nan (share_ok hS).1
  have hi' : ∀ a, a < 3 → (fun a => (plF S lo hi (p a)).1.toNat) a + 2 ≤ S := fun a _ => plI_le hS
  have ho := ord3_isP (fun a => (plF S lo hi (p a)).2)
  have hE : ∀ r, r ≤ 3 → 3 * corE S (fun a => (plF S lo hi (p a)).1.toNat) (ord3 (fun a => (plF S lo hi (p a)).2)) r + n < 3 * (S * S * S) := fun r hr => by
    have h := enI_lt (atR_le ho hi' r hr 0 (by omega)) (atR_le ho hi' r hr 1 (by omega)) (atR_le ho hi' r hr 2 (by omega))
    unfold corE; omega
  obtain ⟨f1, f2⟩ := ord3_falls hx
  unfold tetF
  simp only [if_pos hn, hb]
  obtain ⟨a0, a1, a2⟩ := hf _ (hE 0 (by omega))
  obtain ⟨b0, b1, b2⟩ := hf _ (hE 1 (by omega))
  obtain ⟨c0, c1, c2⟩ := hf _ (hE 2 (by omega))
  obtain ⟨d0, d1, d2⟩ := hf _ (hE 3 (by omega))
  have s0 := share_ok (lo := lo) (hi := hi) (v := p (ord3 (fun a => (plF S lo hi (p a)).2) 0)) hS
  have s1 := share_ok (lo := lo) (hi := hi) (v := p (ord3 (fun a => (plF S lo hi (p a)).2) 1)) hS
  have s2 := share_ok (lo := lo) (hi := hi) (v := p (ord3 (fun a => (plF S lo hi (p a)).2) 2)) hS
  exact mix_bd a0 b0 c0 d0 s0.1 s1.1 s2.1 hM hM2 hl hh a1 a2 b1 b2 c1 c2 d1 d2 s2.2.1 f2 f1 s0.2.2
theorem lin_in {S lo hi n : Nat} {fs p : Nat → Nat} {l h M : Rat} (hS : 2 ≤ S ∧ S ≤ 17) (hb : brokB p = false) (hn : n < 3) (hM : (2 : Rat) ^ (-101 : Int) ≤ M) (hM2 : M < (2 : Rat) ^ (120 : Int) * (3 / 2)) (hl : -M ≤ l) (hh : h ≤ M)
    (hf : ∀ j, j < 3 * (S * S * S) → isNum .f32 (fs j) = true ∧ l ≤ val .f32 (fs j) ∧ val .f32 (fs j) ≤ h) :
    isNum .f32 (linF S lo hi fs p n) = true ∧ l - M * (31 / 2) * (1 / 16777216) ≤ val .f32 (linF S lo hi fs p n) ∧ val .f32 (linF S lo hi fs p n) ≤ h + M * (31 / 2) * (1 / 16777216) := by
  have zp := zp_pos (-101)
  have z : (2 : Rat) ^ (121 : Int) = 2 * (2 : Rat) ^ (120 : Int) := by decide +kernel
  have hi' : ∀ a, a < 3 → (fun a => (plF S lo hi (p a)).1.toNat) a + 2 ≤ S := fun a _ => plI_le hS
  have sh : ∀ a, isNum .f32 ((fun a => (plF S lo hi (p a)).2) a) = true ∧ 0 ≤ val .f32 ((fun a => (plF S lo hi (p a)).2) a) ∧ val .f32 ((fun a => (plF S lo hi (p a)).2) a) ≤ 1 := fun a => share_ok hS
  unfold linF
  simp only [if_pos hn, hb]
  generalize (fun a => (plF S lo hi (p a)).1.toNat) = i at *
  generalize (fun a => (plF S lo hi (p a)).2) = x at *
  have hE : ∀ di dj dk, di ≤ 1 → dj ≤ 1 → dk ≤ 1 → 3 * enI S (i 0 + di) (i 1 + dj) (i 2 + dk) + n < 3 * (S * S * S) := fun di dj dk h1 h2 h3 => by
    have g0 := hi' 0 (by omega)
    have g1 := hi' 1 (by omega)
    have g2 := hi' 2 (by omega)
    have h := enI_lt (S := S) (i := i 0 + di) (j := i 1 + dj) (k := i 2 + dk) (by omega) (by omega) (by omega)
    omega
  have red : ∀ dj dk, dj ≤ 1 → dk ≤ 1 → isNum .f32 (redF S i x fs n dj dk) = true ∧ l - M * (5 + 1 / 1048576) * (1 / 16777216) ≤ val .f32 (redF S i x fs n dj dk) ∧ val .f32 (redF S i x fs n dj dk) ≤ h + M * (5 + 1 / 1048576) * (1 / 16777216) := fun dj dk h2 h3 => by
    obtain ⟨a0, a1, a2⟩ := hf _ (hE 0 dj dk (by omega) h2 h3)
    obtain ⟨b0, b1, b2⟩ := hf _ (hE 1 dj dk (by omega) h2 h3)
    exact lerp_bd a0 b0 (sh 0).1 hM (by grind) hl hh a1 a2 b1 b2 (sh 0).2.1 (sh 0).2.2
  obtain ⟨k1, hk1⟩ : ∃ k1, k1 = M * (5 + 1 / 1048576) * (1 / 16777216) := ⟨_, rfl⟩
  rw [← hk1] at red
  have gre : ∀ dk, dk ≤ 1 → isNum .f32 (greF S i x fs n dk) = true ∧ (l - k1) - (M + k1) * (5 + 1 / 1048576) * (1 / 16777216) ≤ val .f32 (greF S i x fs n dk) ∧ val .f32 (greF S i x fs n dk) ≤ (h + k1) + (M + k1) * (5 + 1 / 1048576) * (1 / 16777216) := fun dk h3 => by
    obtain ⟨a0, a1, a2⟩ := red 0 dk (by omega) h3
    obtain ⟨b0, b1, b2⟩ := red 1 dk (by omega) h3
    exact lerp_bd a0 b0 (sh 1).1 (by grind) (by grind) (by grind) (by grind) a1 a2 b1 b2 (sh 1).2.1 (sh 1).2.2
  obtain ⟨k2, hk2⟩ : ∃ k2, k2 = (M + k1) * (5 + 1 / 1048576) * (1 / 16777216) := ⟨_, rfl⟩
  rw [← hk2] at gre
  obtain ⟨a0, a1, a2⟩ := gre 0 (by omega)
  obtain ⟨b0, b1, b2⟩ := gre 1 (by omega)
  obtain ⟨r0, r1, r2⟩ := lerp_bd (M := M + k1 + k2) a0 b0 (sh 2).1 (by grind) (by grind) (by grind) (by grind) a1 a2 b1 b2 (sh 2).2.1 (sh 2).2.2
  refine ⟨r0, ?_, ?_⟩
  · show _ ≤ val .f32 (lerpF _ _ _)
    grind
  · show val .f32 (lerpF _ _ _) ≤ _
    grind
end Go.Proofs.Ytmdmjmmplhoniaa
