/- How far the colour between a cube's entries may lie outside them: bounds of the roundings. Plain Lean. Conditions: those named. -/
import Derived.Test.YtmdmjmmplhoniaaCB
import Derived.Test.YtmdmjmmplhoniaaBH
import Derived.Test.YtmdmjmmplhoniaaHlA
namespace Go.Proofs.Ytmdmjmmplhoniaa
open Go.RowKit
theorem rn_wide {q B : Rat} {b : Nat} (h : Rn .f32 q b) (hB : (2 : Rat) ^ (-101 : Int) ≤ B) (hB2 : B < (2 : Rat) ^ (124 : Int)) (h1 : -B ≤ q) (h2 : q ≤ B) : Nr (val .f32 b) q (B * (1 / 16777216)) := by
  obtain ⟨K, a, b1, c, d⟩ := pow_find hB 225 hB2
  have nr := h.near K (by rw [show FloatKind.f32.format.leastPlace + (FloatKind.f32.format.fractionBits : Int) + 1 = -125 by decide +kernel]; omega) (by show K < 128; omega) (by grind) (by grind)
  have e : (2 : Rat) ^ (K - 1 - (FloatKind.f32.format.fractionBits : Int)) = (2 : Rat) ^ (K - 1) * (1 / 8388608) := by
    rw [show K - 1 - (FloatKind.f32.format.fractionBits : Int) = K - 1 + -23 by rfl, zp_add, show (2 : Rat) ^ (-23 : Int) = 1 / 8388608 by decide +kernel]
  rw [e] at nr
  unfold Nr
  constructor <;> grind
theorem wide_lt {q B : Rat} (hB2 : B < (2 : Rat) ^ (124 : Int)) (h1 : -B ≤ q) (h2 : q ≤ B) : -((2 : Rat) ^ (124 : Int)) < q ∧ q < (2 : Rat) ^ (124 : Int) := by
  constructor <;> grind
theorem sub_bd {x y : Nat} {B : Rat} (hx : isNum .f32 x = true) (hy : isNum .f32 y = true) (hB : (2 : Rat) ^ (-101 : Int) ≤ B) (hB2 : B < (2 : Rat) ^ (124 : Int)) (h1 : -B ≤ val .f32 x - val .f32 y) (h2 : val .f32 x - val .f32 y ≤ B) :
    isNum .f32 (fop .sub .f32 x y) = true ∧ Nr (val .f32 (fop .sub .f32 x y)) (val .f32 x - val .f32 y) (B * (1 / 16777216)) := by
  obtain ⟨a, b⟩ := wide_lt hB2 h1 h2
  have h := fop_sub_num hx hy 124 (by decide) (by decide) a b
  exact ⟨h.num, rn_wide h hB hB2 h1 h2⟩
theorem add_bd {x y : Nat} {B : Rat} (hx : isNum .f32 x = true) (hy : isNum .f32 y = true) (hB : (2 : Rat) ^ (-101 : Int) ≤ B) (hB2 : B < (2 : Rat) ^ (124 : Int)) (h1 : -B ≤ val .f32 x + val .f32 y) (h2 : val .f32 x + val .f32 y ≤ B) :
    isNum .f32 (fop .add .f32 x y) = true ∧ Nr (val .f32 (fop .add .f32 x y)) (val .f32 x + val .f32 y) (B * (1 / 16777216)) := by
  obtain ⟨a, b⟩ := wide_lt hB2 h1 h2
  have h := fop_add_num hx hy 124 (by decide) (by decide) a b
  exact ⟨h.num, rn_wide h hB hB2 h1 h2⟩
theorem mul_bd {x y : Nat} {B : Rat} (hx : isNum .f32 x = true) (hy : isNum .f32 y = true) (hB : (2 : Rat) ^ (-101 : Int) ≤ B) (hB2 : B < (2 : Rat) ^ (124 : Int)) (h1 : -B ≤ val .f32 x * val .f32 y) (h2 : val .f32 x * val .f32 y ≤ B) :
    isNum .f32 (fop .mul .f32 x y) = true ∧ Nr (val .f32 (fop .mul .f32 x y)) (val .f32 x * val .f32 y) (B * (1 / 16777216)) := by
  obtain ⟨a, b⟩ := wide_lt hB2 h1 h2
  have h := fop_mul_num hx hy 124 (by decide) (by decide) a b
  exact ⟨h.num, rn_wide h hB hB2 h1 h2⟩
/-- A number within -M and M, by a share from 0 to 1. -/
theorem share_bd {v s M : Rat} (h1 : -M ≤ v) (h2 : v ≤ M) (s0 : 0 ≤ s) (s1 : s ≤ 1) : -M ≤ v * s ∧ v * s ≤ M := by
  have a := Rat.mul_le_mul_of_nonneg_right h1 s0
  have b := Rat.mul_le_mul_of_nonneg_right h2 s0
  have m0 : 0 ≤ M := by grind
  have c := Rat.mul_le_mul_of_nonneg_left s1 m0
  constructor <;> grind
/-- The difference of two entries by a share, as singles reckon it. -/
theorem part_bd {a b s : Nat} {M : Rat} (ha : isNum .f32 a = true) (hb : isNum .f32 b = true) (hs : isNum .f32 s = true) (hM : (2 : Rat) ^ (-101 : Int) ≤ M) (hM2 : M < (2 : Rat) ^ (122 : Int)) (a1 : -M ≤ val .f32 a) (a2 : val .f32 a ≤ M) (b1 : -M ≤ val .f32 b) (b2 : val .f32 b ≤ M) (s0 : 0 ≤ val .f32 s) (s1 : val .f32 s ≤ 1) :
    isNum .f32 (fop .mul .f32 (fop .sub .f32 b a) s) = true ∧ Nr (val .f32 (fop .mul .f32 (fop .sub .f32 b a) s)) ((val .f32 b - val .f32 a) * val .f32 s) (M * (4 + 1 / 4194304) * (1 / 16777216)) := by
  have z : (2 : Rat) ^ (124 : Int) = 4 * (2 : Rat) ^ (122 : Int) := by decide +kernel
  have zp := zp_pos (-101)
  obtain ⟨n1, r1⟩ := sub_bd (B := 2 * M) hb ha (by grind) (by grind) (by grind) (by grind)
  have r1' := r1
  obtain ⟨p1, p2⟩ := r1'
  obtain ⟨c1, c2⟩ := share_bd (v := val .f32 (fop .sub .f32 b a)) (M := 2 * M * (1 + 1 / 16777216)) (by grind) (by grind) s0 s1
  obtain ⟨n2, r2⟩ := mul_bd (B := 2 * M * (1 + 1 / 16777216)) n1 hs (by grind) (by grind) c1 c2
  refine ⟨n2, ?_⟩
  have r3 := r1.mul s0
  obtain ⟨q1, q2⟩ := r2
  obtain ⟨t1, t2⟩ := r3
  have m0 : 0 ≤ 2 * M * (1 / 16777216) := by grind
  have u := Rat.mul_le_mul_of_nonneg_left s1 m0
  unfold Nr
  constructor <;> grind
/-- Between two numbers, by a share. -/
theorem between {a b s l h : Rat} (a1 : l ≤ a) (a2 : a ≤ h) (b1 : l ≤ b) (b2 : b ≤ h) (s0 : 0 ≤ s) (s1 : s ≤ 1) : l ≤ a + (b - a) * s ∧ a + (b - a) * s ≤ h := by
  have c0 : 0 ≤ 1 - s := by grind
  have e1 := Rat.mul_le_mul_of_nonneg_right a1 c0
  have e2 := Rat.mul_le_mul_of_nonneg_right a2 c0
  have e3 := Rat.mul_le_mul_of_nonneg_right b1 s0
  have e4 := Rat.mul_le_mul_of_nonneg_right b2 s0
  constructor <;> grind
/-- One step of mixing, as singles reckon it. -/
theorem lerp_bd {a b t : Nat} {l h M : Rat} (ha : isNum .f32 a = true) (hb : isNum .f32 b = true) (ht : isNum .f32 t = true) (hM : (2 : Rat) ^ (-101 : Int) ≤ M) (hM2 : M < (2 : Rat) ^ (121 : Int)) (hl : -M ≤ l) (hh : h ≤ M) (a1 : l ≤ val .f32 a) (a2 : val .f32 a ≤ h) (b1 : l ≤ val .f32 b) (b2 : val .f32 b ≤ h) (t0 : 0 ≤ val .f32 t) (t1 : val .f32 t ≤ 1) :
    isNum .f32 (lerpF a b t) = true ∧ l - M * (5 + 1 / 1048576) * (1 / 16777216) ≤ val .f32 (lerpF a b t) ∧ val .f32 (lerpF a b t) ≤ h + M * (5 + 1 / 1048576) * (1 / 16777216) := by
  have zp := zp_pos (-101)
  have z : (2 : Rat) ^ (124 : Int) = 4 * (2 : Rat) ^ (122 : Int) ∧ (2 : Rat) ^ (122 : Int) = 2 * (2 : Rat) ^ (121 : Int) := by decide +kernel
  have na := isNum_not_nan ha
  have nb := isNum_not_nan hb
  have nt := isNum_not_nan ht
  unfold lerpF
  rw [cn_of_not na, cn_of_not nb, cn_of_not nt]
  split
  · exact ⟨ha, by grind, by grind⟩
  split
  · exact ⟨hb, by grind, by grind⟩
  obtain ⟨n1, r1⟩ := part_bd (M := M) ha hb ht hM (by grind) (by grind) (by grind) (by grind) (by grind) t0 t1
  obtain ⟨p1, p2⟩ := r1
  obtain ⟨q1, q2⟩ := between a1 a2 b1 b2 t0 t1
  obtain ⟨n2, r2⟩ := add_bd (B := M * (1 + (4 + 1 / 4194304) * (1 / 16777216))) ha n1 (by grind) (by grind) (by grind) (by grind)
  obtain ⟨s1, s2⟩ := r2
  exact ⟨n2, by grind, by grind⟩
/-- Between four numbers, by shares that fall. -/
theorem between4 {a b c d s t u l h : Rat} (a1 : l ≤ a) (a2 : a ≤ h) (b1 : l ≤ b) (b2 : b ≤ h) (c1 : l ≤ c) (c2 : c ≤ h) (d1 : l ≤ d) (d2 : d ≤ h) (u0 : 0 ≤ u) (tu : u ≤ t) (st : t ≤ s) (s1 : s ≤ 1) :
    (l ≤ a + (b - a) * s ∧ a + (b - a) * s ≤ h) ∧ (l ≤ a + (b - a) * s + (c - b) * t ∧ a + (b - a) * s + (c - b) * t ≤ h) ∧ (l ≤ a + (b - a) * s + (c - b) * t + (d - c) * u ∧ a + (b - a) * s + (c - b) * t + (d - c) * u ≤ h) := by
  have k0 : 0 ≤ 1 - s := by grind
  have k1 : 0 ≤ s - t := by grind
  have k2 : 0 ≤ t - u := by grind
  have k3 : 0 ≤ t := by grind
  have k4 : 0 ≤ s := by grind
  have e1 := Rat.mul_le_mul_of_nonneg_right a1 k0
  have e2 := Rat.mul_le_mul_of_nonneg_right a2 k0
  have e3 := Rat.mul_le_mul_of_nonneg_right b1 k1
  have e4 := Rat.mul_le_mul_of_nonneg_right b2 k1
  have e5 := Rat.mul_le_mul_of_nonneg_right c1 k2
  have e6 := Rat.mul_le_mul_of_nonneg_right c2 k2
  have e7 := Rat.mul_le_mul_of_nonneg_right d1 u0
  have e8 := Rat.mul_le_mul_of_nonneg_right d2 u0
  have f5 := Rat.mul_le_mul_of_nonneg_right c1 k3
  have f6 := Rat.mul_le_mul_of_nonneg_right c2 k3
  have g3 := Rat.mul_le_mul_of_nonneg_right b1 k4
  have g4 := Rat.mul_le_mul_of_nonneg_right b2 k4
  refine ⟨⟨?_, ?_⟩, ⟨?_, ?_⟩, ?_, ?_⟩ <;> grind
theorem mix_bd {a b c d s t u : Nat} {l h M : Rat} (ha : isNum .f32 a = true) (hb : isNum .f32 b = true) (hc : isNum .f32 c = true) (hd : isNum .f32 d = true) (hs : isNum .f32 s = true) (ht : isNum .f32 t = true) (hu : isNum .f32 u = true) (hM : (2 : Rat) ^ (-101 : Int) ≤ M) (hM2 : M < (2 : Rat) ^ (121 : Int)) (hl : -M ≤ l) (hh : h ≤ M)
    (a1 : l ≤ val .f32 a) (a2 : val .f32 a ≤ h) (b1 : l ≤ val .f32 b) (b2 : val .f32 b ≤ h) (c1 : l ≤ val .f32 c) (c2 : val .f32 c ≤ h) (d1 : l ≤ val .f32 d) (d2 : val .f32 d ≤ h) (u0 : 0 ≤ val .f32 u) (tu : val .f32 u ≤ val .f32 t) (st : val .f32 t ≤ val .f32 s) (s1 : val .f32 s ≤ 1) :
    isNum .f32 (mixT a b c d s t u) = true ∧ l - M * (31 / 2) * (1 / 16777216) ≤ val .f32 (mixT a b c d s t u) ∧ val .f32 (mixT a b c d s t u) ≤ h + M * (31 / 2) * (1 / 16777216) := by
  have zp := zp_pos (-101)
  have z : (2 : Rat) ^ (124 : Int) = 4 * (2 : Rat) ^ (122 : Int) ∧ (2 : Rat) ^ (122 : Int) = 2 * (2 : Rat) ^ (121 : Int) := by decide +kernel
  unfold mixT
  rw [cn_of_not (isNum_not_nan ha), cn_of_not (isNum_not_nan hb), cn_of_not (isNum_not_nan hc), cn_of_not (isNum_not_nan hd)]
  split
  · exact ⟨ha, by grind, by grind⟩
  split
  · exact ⟨hb, by grind, by grind⟩
  split
  · exact ⟨hc, by grind, by grind⟩
  split
  · exact ⟨hd, by grind, by grind⟩
  obtain ⟨m1, r1⟩ := part_bd (M := M) ha hb hs hM (by grind) (by grind) (by grind) (by grind) (by grind) (by grind) s1
  obtain ⟨m2, r2⟩ := part_bd (M := M) hb hc ht hM (by grind) (by grind) (by grind) (by grind) (by grind) (by grind) (by grind)
  obtain ⟨m3, r3⟩ := part_bd (M := M) hc hd hu hM (by grind) (by grind) (by grind) (by grind) (by grind) u0 (by grind)
  obtain ⟨⟨x1, x2⟩, ⟨x3, x4⟩, x5, x6⟩ := between4 a1 a2 b1 b2 c1 c2 d1 d2 u0 tu st s1
  obtain ⟨e1, e2⟩ := r1
  obtain ⟨e3, e4⟩ := r2
  obtain ⟨e5, e6⟩ := r3
  generalize fop .mul .f32 (fop .sub .f32 b a) s = p1 at *
  generalize fop .mul .f32 (fop .sub .f32 c b) t = p2 at *
  generalize fop .mul .f32 (fop .sub .f32 d c) u = p3 at *
  generalize (val .f32 b - val .f32 a) * val .f32 s = S1 at *
  generalize (val .f32 c - val .f32 b) * val .f32 t = S2 at *
  generalize (val .f32 d - val .f32 c) * val .f32 u = S3 at *
  obtain ⟨n1, r1⟩ := add_bd (B := M * (1 + 5 * (1 / 16777216))) ha m1 (by grind) (by grind) (by grind) (by grind)
  obtain ⟨f1, f2⟩ := r1
  generalize fop .add .f32 a p1 = q1 at *
  obtain ⟨n2, r2⟩ := add_bd (B := M * (1 + 10 * (1 / 16777216))) n1 m2 (by grind) (by grind) (by grind) (by grind)
  obtain ⟨f3, f4⟩ := r2
  generalize fop .add .f32 q1 p2 = q2 at *
  obtain ⟨n3, r3⟩ := add_bd (B := M * (1 + 15 * (1 / 16777216))) n2 m3 (by grind) (by grind) (by grind) (by grind)
  obtain ⟨f5, f6⟩ := r3
  generalize fop .add .f32 q2 p3 = q3 at *
  exact ⟨n3, by grind, by grind⟩
/-- Three steps of mixing. -/
theorem three_bd {M : Rat} (hM : 0 ≤ M) : M * (1 + (5 + 1 / 1048576) * (1 / 16777216)) * (1 + (5 + 1 / 1048576) * (1 / 16777216)) * (1 + (5 + 1 / 1048576) * (1 / 16777216)) ≤ M + M * (31 / 2) * (1 / 16777216) := by
  grind
end Go.Proofs.Ytmdmjmmplhoniaa
