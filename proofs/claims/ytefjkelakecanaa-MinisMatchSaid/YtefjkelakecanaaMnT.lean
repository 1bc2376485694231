/- Small floats: which code is next to a single, said once; differences of doubles that are exact. Plain Lean. Conditions: those named. -/
import Derived.Test.YtefjkelakecanaaMnR
namespace Go.Proofs.Ytefjkelakecanaa
open Go.RowKit
def allK (X F : Nat) : Nat := (2 ^ X - 1) * 2 ^ F
/-- The step of the smallest numbers. -/
def stepQ (X F : Nat) : Rat := (2 : Rat) ^ ((1 : Int) - (2 ^ (X - 1) - 1) - F)
/-- The code of a number's magnitude: the greatest one is infinity's. -/
def codeK (X F : Nat) (q : Rat) (k : Nat) : Prop :=
  ∃ A : Rat, q = A * stepQ X F ∧ ((svN F (allK X F) : Rat) ≤ A → k = allK X F) ∧ (A < (svN F (allK X F) : Rat) → nearK F A k)
def miniK (X F v k : Nat) : Prop := (isNum .f32 v = false → k = allK X F) ∧ (isNum .f32 v = true → codeK X F (vq FloatKind.f32.format (rung FloatKind.f32.format v)) k)
theorem step_pos (X F : Nat) : 0 < stepQ X F := zp_pos _
theorem svQ_step (X F k : Nat) : svQ X F k = (svN F k : Rat) * stepQ X F := svQ_N X F k
theorem code_one {X F : Nat} {q : Rat} {a b : Nat} (ha : codeK X F q a) (hb : codeK X F q b) : a = b := by
  obtain ⟨A, h1, h2, h3⟩ := ha
  obtain ⟨B, h4, h5, h6⟩ := hb
  obtain rfl : A = B := rat_cancel (step_pos X F) (by rw [← h1, ← h4])
  rcases Rat.le_total (a := (svN F (allK X F) : Rat)) (b := A) with h | h
  · rw [h2 h, h5 h]
  · by_cases h7 : A = (svN F (allK X F) : Rat)
    · have : (svN F (allK X F) : Rat) ≤ A := by grind
      rw [h2 this, h5 this]
    · have : A < (svN F (allK X F) : Rat) := by grind
      exact nearK_one (h3 this) (h6 this)
theorem mini_one {X F v a b : Nat} (ha : miniK X F v a) (hb : miniK X F v b) : a = b := by
  cases h : isNum .f32 v
  · rw [ha.1 h, hb.1 h]
  · exact code_one (ha.2 h) (hb.2 h)
theorem svN_le_iff {F a b : Nat} : svN F a < svN F b ↔ a < b := by
  constructor
  · intro h
    rcases Nat.lt_or_ge a b with h1 | h1
    · exact h1
    · rcases Nat.lt_or_ge b a with h2 | h2
      · have := svN_lt (F := F) h2; omega
      · obtain rfl : a = b := by omega
        omega
  · exact svN_lt
/-- The smaller of a code that is next and of infinity's. -/
theorem code_min {X F : Nat} {q A : Rat} {k : Nat} (hq : q = A * stepQ X F) (h : nearK F A k) : codeK X F q (min k (allK X F)) := by
  refine ⟨A, hq, ?_, ?_⟩
  · intro h1
    obtain ⟨low, h2, h3, h4⟩ := h
    have h5 : (svN F (allK X F) : Rat) < (svN F (low + 1) : Rat) := rle_lt h1 h3
    have h6 := svN_le_iff.1 (Rat.natCast_lt_natCast.1 h5)
    rcases h4 with ⟨h4, -⟩ | ⟨h4, -⟩ <;> omega
  · intro h1
    obtain ⟨low, h2, h3, h4⟩ := h
    have h5 : (svN F low : Rat) < (svN F (allK X F) : Rat) := rle_lt h2 h1
    have h6 := svN_le_iff.1 (Rat.natCast_lt_natCast.1 h5)
    have h7 : min k (allK X F) = k := by rcases h4 with ⟨h4, -⟩ | ⟨h4, -⟩ <;> omega
    rw [h7]
    exact ⟨low, h2, h3, h4⟩
/-- A code's own number leads back to it. -/
theorem near_self (F k : Nat) : nearK F (svN F k : Rat) k := by
  have hs := svN_succ F k
  have hp : 0 < 2 ^ (k / 2 ^ F - 1) := Nat.pow_pos (by decide)
  refine ⟨k, by grind, Rat.natCast_lt_natCast.2 (by omega), .inr ⟨rfl, ?_⟩⟩
  have h1 : (svN F k : Rat) < (svN F (k + 1) : Rat) := Rat.natCast_lt_natCast.2 (by omega)
  grind
theorem code_self (X F k : Nat) (hk : k ≤ allK X F) : codeK X F (svQ X F k) k := by
  refine ⟨(svN F k : Rat), svQ_step X F k, ?_, fun _ => near_self F k⟩
  intro h
  have h1 : svN F (allK X F) ≤ svN F k := Rat.natCast_le_natCast.1 h
  rcases Nat.lt_or_ge k (allK X F) with h2 | h2
  · have := svN_lt (F := F) h2; omega
  · omega
theorem code_zero (X F : Nat) : codeK X F 0 0 := by
  have h := code_self X F 0 (Nat.zero_le _)
  rw [svQ_step, svN_zero] at h
  simpa using h
/-- The difference of two doubles of which neither is above the double of the other: exact. -/
theorem sub_exact {x y : Nat} (hx : isNum .f64 x = true) (hy : isNum .f64 y = true) (sx : sgn FloatKind.f64.format x = false) (sy : sgn FloatKind.f64.format y = false) (h1 : val .f64 y ≤ val .f64 x) (h2 : val .f64 x ≤ 2 * val .f64 y) (hb : val .f64 x < (2 : Rat) ^ (200 : Int)) :
    isNum .f64 (fop .sub .f64 x y) = true ∧ val .f64 (fop .sub .f64 x y) = val .f64 x - val .f64 y := by
  have y0 : 0 ≤ val .f64 y := by rw [val_sg, sy]; exact vq_nonneg _ _
  have z0 := zp_pos (200 : Int)
  obtain ⟨num, -, ex⟩ := fop_sub_num hx hy 200 (by decide) (by decide) (by grind) (by grind)
  refine ⟨num, ?_⟩
  obtain ⟨m, e, -, v1, m1, e1⟩ := decode_num hx
  obtain ⟨n, f, -, v2, n1, f1⟩ := decode_num hy
  have w1 : val .f64 x = (m : Rat) * (2 : Rat) ^ e := by rw [v1, val_sg, sx]; rfl
  have w2 : val .f64 y = (n : Rat) * (2 : Rat) ^ f := by rw [v2, val_sg, sy]; rfl
  rw [w1, w2] at h1 h2 ⊢
  rw [w1, w2] at ex
  rcases Int.le_total f e with h | h
  · obtain ⟨d, rfl⟩ : ∃ d : Nat, e = f + d := ⟨(e - f).toNat, by omega⟩
    have p := zp_pos f
    have q1 : (m : Rat) * (2 : Rat) ^ (f + (d : Int)) = ((m * 2 ^ d : Nat) : Rat) * (2 : Rat) ^ f := by
      rw [zp_add, zp_nat, Rat.natCast_mul]; grind
    rw [q1] at h1 h2 ex ⊢
    have a1 : n ≤ m * 2 ^ d := Rat.natCast_le_natCast.1 (Rat.le_of_mul_le_mul_right h1 p)
    have a2 : m * 2 ^ d ≤ 2 * n := by
      rw [← Rat.mul_assoc] at h2
      have := Rat.le_of_mul_le_mul_right h2 p
      have t : ((m * 2 ^ d : Nat) : Rat) ≤ ((2 * n : Nat) : Rat) := by rw [Rat.natCast_mul 2 n]; exact this
      exact Rat.natCast_le_natCast.1 t
    obtain ⟨c, hc⟩ : ∃ c, m * 2 ^ d = n + c := ⟨m * 2 ^ d - n, by omega⟩
    refine ex false c f (by omega) f1 ?_
    rw [hc, Rat.natCast_add]
    show _ = (c : Rat) * _
    grind
  · obtain ⟨d, rfl⟩ : ∃ d : Nat, f = e + d := ⟨(f - e).toNat, by omega⟩
    have p := zp_pos e
    have q1 : (n : Rat) * (2 : Rat) ^ (e + (d : Int)) = ((n * 2 ^ d : Nat) : Rat) * (2 : Rat) ^ e := by
      rw [zp_add, zp_nat, Rat.natCast_mul]; grind
    rw [q1] at h1 h2 ex ⊢
    have a1 : n * 2 ^ d ≤ m := Rat.natCast_le_natCast.1 (Rat.le_of_mul_le_mul_right h1 p)
    obtain ⟨c, hc⟩ : ∃ c, m = n * 2 ^ d + c := ⟨m - n * 2 ^ d, by omega⟩
    refine ex false c e (by omega) e1 ?_
    rw [hc, Rat.natCast_add]
    show _ = (c : Rat) * _
    grind
theorem sub_none {x y : Nat} (hx : isNum .f64 x = true) (hy : isNum .f64 y = true) (sx : sgn FloatKind.f64.format x = false) (hy0 : val .f64 y = 0) (hb : val .f64 x < (2 : Rat) ^ (200 : Int)) :
    isNum .f64 (fop .sub .f64 x y) = true ∧ val .f64 (fop .sub .f64 x y) = val .f64 x := by
  have x0 : 0 ≤ val .f64 x := by rw [val_sg, sx]; exact vq_nonneg _ _
  have z0 := zp_pos (200 : Int)
  obtain ⟨num, -, ex⟩ := fop_sub_num hx hy 200 (by decide) (by decide) (by grind) (by grind)
  refine ⟨num, ?_⟩
  obtain ⟨m, e, -, v1, m1, e1⟩ := decode_num hx
  have w1 : val .f64 x = (m : Rat) * (2 : Rat) ^ e := by rw [v1, val_sg, sx]; rfl
  have h := ex false m e m1 e1 (by rw [hy0, w1]; show _ = (m : Rat) * _; grind)
  rw [h, hy0]; grind
/-- A power of two less a single that is not above it: exact, or far above the single. -/
theorem sub_far {x y : Nat} {p e : Int} {m : Nat} (hx : isNum .f64 x = true) (hy : isNum .f64 y = true) (vx : val .f64 x = (2 : Rat) ^ p) (vy : val .f64 y = (m : Rat) * (2 : Rat) ^ e) (hm : m < 2 ^ 24) (he : -1074 ≤ e) (hle : val .f64 y < val .f64 x) (hp : p < 200) (hp2 : -900 ≤ p) :
    isNum .f64 (fop .sub .f64 x y) = true ∧ (val .f64 (fop .sub .f64 x y) = val .f64 x - val .f64 y ∨ (val .f64 y < val .f64 (fop .sub .f64 x y) ∧ val .f64 y < val .f64 x - val .f64 y)) := by
  have z0 := zp_pos p
  have y0 : 0 ≤ val .f64 y := by rw [vy]; exact mag_nonneg _ _
  have z1 : (2 : Rat) ^ (p + 1) = 2 * (2 : Rat) ^ p := by rw [zp_add]; rw [show (2 : Rat) ^ (1 : Int) = 2 by decide +kernel]; grind
  obtain ⟨num, near, ex⟩ := fop_sub_num hx hy (p + 1) (by show (-1074 : Int) + (52 : Nat) + 1 ≤ _; omega) (by show _ < (1024 : Int); omega) (by grind) (by grind)
  refine ⟨num, ?_⟩
  rcases Int.lt_or_le (p - e) 53 with h | h
  · left
    rcases Int.lt_or_le p e with h3 | h3
    · -- a single of at least 2 ^ e > 2 ^ p, or none
      have m0 : m = 0 := by
        rcases Nat.eq_zero_or_pos m with h4 | h4
        · exact h4
        · exfalso
          have t1 : (2 : Rat) ^ e ≤ (m : Rat) * (2 : Rat) ^ e := by
            have t2 : ((1 : Nat) : Rat) ≤ (m : Rat) := Rat.natCast_le_natCast.2 h4
            have t3 := Rat.mul_le_mul_of_nonneg_right t2 (Rat.le_of_lt (zp_pos e))
            rwa [show ((1 : Nat) : Rat) = 1 from rfl, Rat.one_mul] at t3
          have t4 := zp_lt h3
          rw [vx, vy] at hle
          grind
      subst m0
      have vy0 : val .f64 y = 0 := by rw [vy]; simp [Rat.zero_mul]
      refine ex false 1 p (by decide) (by show (-1074 : Int) ≤ _; omega) ?_
      rw [vx, vy0]
      show _ = ((1 : Nat) : Rat) * _
      rw [show ((1 : Nat) : Rat) = 1 from rfl, Rat.one_mul]; grind
    · obtain ⟨d, rfl⟩ : ∃ d : Nat, p = e + d := ⟨(p - e).toNat, by omega⟩
      have hd : d ≤ 52 := by omega
      have q1 : (2 : Rat) ^ (e + (d : Int)) = ((2 ^ d : Nat) : Rat) * (2 : Rat) ^ e := by rw [zp_add, zp_nat]; grind
      have a1 : m < 2 ^ d := by
        rw [vx, vy, q1] at hle
        have := Rat.lt_of_mul_lt_mul_right hle (Rat.le_of_lt (zp_pos e))
        exact Rat.natCast_lt_natCast.1 this
      have a2 : (2 : Nat) ^ d ≤ 2 ^ 52 := Nat.pow_le_pow_right (by decide) hd
      obtain ⟨c, hc⟩ : ∃ c, 2 ^ d = m + c := ⟨2 ^ d - m, by omega⟩
      refine ex false c e (by show _ < 2 ^ 53; omega) he ?_
      rw [vx, vy, q1, hc, Rat.natCast_add]
      show _ = (c : Rat) * _
      grind
  · right
    have a1 : val .f64 y < (2 : Rat) ^ (p - 29) := by
      have t1 : (m : Rat) < ((2 ^ 24 : Nat) : Rat) := Rat.natCast_lt_natCast.2 hm
      have t2 := Rat.mul_lt_mul_of_pos_right t1 (zp_pos e)
      rw [← zp_nat, ← zp_add, ← vy] at t2
      exact rlt_le t2 (zp_le (by omega))
    have a2 : (2 : Rat) ^ p = ((2 ^ 29 : Nat) : Rat) * (2 : Rat) ^ (p - 29) := by
      rw [← zp_nat, ← zp_add]; congr 1; omega
    obtain ⟨n1, -⟩ := near (p + 1) (by show (-1074 : Int) + (52 : Nat) + 1 ≤ _; omega) (by show _ < (1024 : Int); omega) (by grind) (by grind)
    obtain ⟨-, n2⟩ := near (p + 1) (by show (-1074 : Int) + (52 : Nat) + 1 ≤ _; omega) (by show _ < (1024 : Int); omega) (by grind) (by grind)
    have a3 : (2 : Rat) ^ (p + 1 - 1 - (FloatKind.f64.format.fractionBits : Int)) ≤ (2 : Rat) ^ (p - 29) := zp_le (by show p + 1 - 1 - ((52 : Nat) : Int) ≤ _; omega)
    have a4 : ((2 ^ 29 : Nat) : Rat) = 536870912 := by decide +kernel
    have z2 := zp_pos (p - 29)
    rw [vx] at n2 ⊢
    rw [a4] at a2
    constructor <;> grind
end Go.Proofs.Ytefjkelakecanaa
