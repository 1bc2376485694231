/- The order of floats is the order of their bits as sign and magnitude: plain facts, no function of the program. No condition. -/
import Derived.Test.YtefjkelakecanaaFloatB
namespace Go.Proofs.Ytefjkelakecanaa
open Go.RowKit

/-- The number of a rung, in units of the least place. -/
def vr (B rung : Nat) : Nat := if rung < B then rung else (B + rung % B) * 2 ^ (rung / B - 1)

theorem vr_lo {B r : Nat} (_hB : 0 < B) (h : B ≤ r) : B * 2 ^ (r / B - 1) ≤ vr B r := by
  unfold vr; rw [if_neg (by omega)]
  exact Nat.mul_le_mul_right _ (by omega)
theorem vr_hi {B r : Nat} (hB : 0 < B) (h : B ≤ r) : vr B r < B * 2 ^ (r / B) := by
  unfold vr; rw [if_neg (by omega)]
  have hq : 1 ≤ r / B := (Nat.le_div_iff_mul_le hB).2 (by omega)
  have hm : r % B < B := Nat.mod_lt _ hB
  have e : 2 ^ (r / B) = 2 * 2 ^ (r / B - 1) := by
    obtain ⟨q, hq'⟩ : ∃ q, r / B = q + 1 := ⟨r / B - 1, by omega⟩
    rw [hq', Nat.pow_succ, Nat.mul_comm]; rfl
  rw [e, ← Nat.mul_assoc]
  exact Nat.mul_lt_mul_of_pos_right (by omega) (Nat.two_pow_pos _)
theorem vr_lt {B r s : Nat} (hB : 0 < B) (h : r < s) : vr B r < vr B s := by
  by_cases hs : s < B
  · unfold vr; rw [if_pos (by omega), if_pos hs]; exact h
  · by_cases hr : r < B
    · have h1 : vr B r < B := by unfold vr; rw [if_pos hr]; exact hr
      have h2 := vr_lo (r := s) hB (by omega)
      have h3 : B * 1 ≤ B * 2 ^ (s / B - 1) := Nat.mul_le_mul_left _ (Nat.two_pow_pos _)
      omega
    · have hd : r / B ≤ s / B := Nat.div_le_div_right (by omega)
      rcases Nat.lt_or_eq_of_le hd with hlt | heq
      · have h1 := vr_hi (r := r) hB (by omega)
        have h2 := vr_lo (r := s) hB (by omega)
        have h3 : B * 2 ^ (r / B) ≤ B * 2 ^ (s / B - 1) := Nat.mul_le_mul_left _ (Nat.pow_le_pow_right (by decide) (by omega))
        omega
      · unfold vr; rw [if_neg hr, if_neg hs, heq]
        have e1 := Nat.div_add_mod r B
        have e2 := Nat.div_add_mod s B
        rw [heq] at e1
        exact Nat.mul_lt_mul_of_pos_right (by omega) (Nat.two_pow_pos _)
theorem vr_compare {B r s : Nat} (hB : 0 < B) : compare (vr B r) (vr B s) = compare r s := by
  rcases Nat.lt_trichotomy r s with h | h | h
  · have := vr_lt hB h
    rw [Nat.compare_eq_lt.2 h, Nat.compare_eq_lt.2 this]
  · subst h; rw [Nat.compare_eq_eq.2 rfl, Nat.compare_eq_eq.2 rfl]
  · have := vr_lt hB h
    rw [Nat.compare_eq_gt.2 h, Nat.compare_eq_gt.2 this]

section
variable (f : Ieee.Format)
def sgn (w : Nat) : Bool := w / f.signWeight % 2 == 1
def rung (w : Nat) : Nat := w % f.signWeight
/-- The bits as sign and magnitude: the place in the order of floats (both zeros at 0). -/
def key (w : Nat) : Int := if sgn f w then -(rung f w : Int) else (rung f w : Int)
theorem binade_pos : 0 < f.binade := Nat.two_pow_pos _
theorem binade_le_inf (h : 2 ≤ f.exponentBits) : f.binade ≤ f.infRung := by
  unfold Ieee.Format.infRung
  have : 2 ^ 1 ≤ 2 ^ f.exponentBits := Nat.pow_le_pow_right (by decide) (by omega)
  exact Nat.le_mul_of_pos_left _ (by omega)
/-- What a word of a number stands for, by its rung. -/
theorem read_number (w : Nat) (h : rung f w < f.infRung) : ∃ m e, ∃ up : Nat, f.read w = .number (sgn f w) m e ∧ e = f.leastPlace + up ∧ m * 2 ^ up = vr f.binade (rung f w) := by
  unfold Ieee.Format.read
  simp only []
  by_cases h1 : w % f.signWeight < f.binade
  · rw [if_pos h1]
    exact ⟨_, _, 0, rfl, by omega, by unfold vr rung; rw [if_pos h1]; omega⟩
  · have h' : w % f.signWeight < f.infRung := h
    rw [if_neg h1, if_pos h']
    refine ⟨_, _, w % f.signWeight / f.binade - 1, rfl, rfl, ?_⟩
    unfold vr rung; rw [if_neg h1]
theorem read_inf (w : Nat) (h : rung f w = f.infRung) (he : 2 ≤ f.exponentBits) : f.read w = .infinity (sgn f w) := by
  have hb := binade_le_inf f he
  unfold Ieee.Format.read
  simp only []
  have h' : w % f.signWeight = f.infRung := h
  rw [h', if_neg (by omega), if_neg (by omega), if_pos rfl]; rfl
theorem read_nan (w : Nat) (h : f.infRung < rung f w) (he : 2 ≤ f.exponentBits) : (f.read w).isNaN = true := by
  have hb := binade_le_inf f he
  have h' : f.infRung < w % f.signWeight := h
  unfold Ieee.Format.read
  simp only []
  rw [if_neg (by omega), if_neg (by omega), if_neg (by omega)]; rfl
end

theorem signed_scale (s : Bool) (m i k : Nat) : Ieee.signed s m i * (2 ^ k : Nat) = Ieee.signed s m (i + k) := by
  unfold Ieee.signed
  rw [Nat.shiftLeft_eq, Nat.shiftLeft_eq, Nat.pow_add, ← Nat.mul_assoc]
  cases s
  · simp
  · simp [Int.neg_mul]
theorem compare_scale (a b : Int) (k : Nat) : compare a b = compare (a * (2 ^ k : Nat)) (b * (2 ^ k : Nat)) := by
  have hp : (0 : Int) < (2 ^ k : Nat) := by exact_mod_cast Nat.two_pow_pos k
  rcases Int.lt_trichotomy a b with h | h | h
  · rw [Int.compare_eq_lt.2 h, Int.compare_eq_lt.2 (Int.mul_lt_mul_of_pos_right h hp)]
  · subst h; rw [Int.compare_eq_eq.2 rfl, Int.compare_eq_eq.2 rfl]
  · rw [Int.compare_eq_gt.2 h, Int.compare_eq_gt.2 (Int.mul_lt_mul_of_pos_right h hp)]
/-- The number of a word, in units of the least place. -/
def sv (f : Ieee.Format) (w : Nat) : Int := if sgn f w then -(vr f.binade (rung f w) : Int) else (vr f.binade (rung f w) : Int)
theorem signed_of (s : Bool) (m up v : Nat) (h : m * 2 ^ up = v) : Ieee.signed s m up = if s then -(v : Int) else (v : Int) := by
  unfold Ieee.signed; rw [Nat.shiftLeft_eq, h]
theorem order_number (f : Ieee.Format) (x y : Nat) (hx : rung f x < f.infRung) (hy : rung f y < f.infRung) : f.order x y = some (compare (sv f x) (sv f y)) := by
  obtain ⟨m, e, u, h1, h2, h3⟩ := read_number f x hx
  obtain ⟨n, d, t, g1, g2, g3⟩ := read_number f y hy
  unfold Ieee.Format.order
  rw [h1, g1]
  simp only [Ieee.Datum.order]
  refine congrArg some ?_
  rw [compare_scale _ _ ((min e d - f.leastPlace).toNat), signed_scale, signed_scale]
  have e1 : (e - min e d).toNat + (min e d - f.leastPlace).toNat = u := by omega
  have e2 : (d - min e d).toNat + (min e d - f.leastPlace).toNat = t := by omega
  rw [e1, e2, signed_of _ _ _ _ h3, signed_of _ _ _ _ g3]; rfl
theorem sv_key (f : Ieee.Format) (x y : Nat) : compare (sv f x) (sv f y) = compare (key f x) (key f y) := by
  have hB := binade_pos f
  have hv := vr_compare (B := f.binade) (r := rung f x) (s := rung f y) hB
  have h0 : ∀ r, vr f.binade r = 0 ↔ r = 0 := by
    intro r
    constructor
    · intro h
      rcases Nat.eq_zero_or_pos r with h' | h'
      · exact h'
      · have := vr_lt hB h'; omega
    · intro h; subst h; unfold vr; rw [if_pos hB]
  have hx0 := h0 (rung f x)
  have hy0 := h0 (rung f y)
  unfold sv key
  generalize vr f.binade (rung f x) = a at *
  generalize vr f.binade (rung f y) = b at *
  generalize rung f x = r at *
  generalize rung f y = s at *
  have hlt : a < b ↔ r < s := by rw [← Nat.compare_eq_lt, ← Nat.compare_eq_lt, hv]
  have hgt : b < a ↔ s < r := by rw [← Nat.compare_eq_gt, ← Nat.compare_eq_gt, hv]
  have key' : ∀ p q p' q' : Int, (p < q ↔ p' < q') → (q < p ↔ q' < p') → compare p q = compare p' q' := by
    intro p q p' q' i j
    rcases Int.lt_trichotomy p q with h | h | h
    · rw [Int.compare_eq_lt.2 h, Int.compare_eq_lt.2 (i.1 h)]
    · have h' : p' = q' := by
        have n1 : ¬ p' < q' := fun hh => by have := i.2 hh; omega
        have n2 : ¬ q' < p' := fun hh => by have := j.2 hh; omega
        omega
      rw [Int.compare_eq_eq.2 h, Int.compare_eq_eq.2 h']
    · rw [Int.compare_eq_gt.2 h, Int.compare_eq_gt.2 (j.1 h)]
  apply key' <;> (cases sgn f x <;> cases sgn f y <;> simp only [if_true, if_false, Bool.false_eq_true] <;> omega)
theorem order_key (f : Ieee.Format) (he : 2 ≤ f.exponentBits) (x y : Nat) (hx : rung f x ≤ f.infRung) (hy : rung f y ≤ f.infRung) : f.order x y = some (compare (key f x) (key f y)) := by
  rcases Nat.lt_or_eq_of_le hx with hx1 | hx1
  · rcases Nat.lt_or_eq_of_le hy with hy1 | hy1
    · rw [order_number f x y hx1 hy1, sv_key]
    · obtain ⟨m, e, u, h1, h2, h3⟩ := read_number f x hx1
      unfold Ieee.Format.order
      rw [h1, read_inf f y hy1 he]
      simp only [Ieee.Datum.order]
      refine congrArg some ?_
      unfold key
      rw [hy1]
      cases sgn f y
      · simp only [if_false, Bool.false_eq_true]
        exact (Int.compare_eq_lt.2 (by cases sgn f x <;> simp only [if_true, if_false, Bool.false_eq_true] <;> omega)).symm
      · simp only [if_true]
        exact (Int.compare_eq_gt.2 (by cases sgn f x <;> simp only [if_true, if_false, Bool.false_eq_true] <;> omega)).symm
  · rcases Nat.lt_or_eq_of_le hy with hy1 | hy1
    · obtain ⟨m, e, u, h1, h2, h3⟩ := read_number f y hy1
      unfold Ieee.Format.order
      rw [h1, read_inf f x hx1 he]
      simp only [Ieee.Datum.order]
      refine congrArg some ?_
      unfold key
      rw [hx1]
      cases sgn f x
      · simp only [if_false, Bool.false_eq_true]
        exact (Int.compare_eq_gt.2 (by cases sgn f y <;> simp only [if_true, if_false, Bool.false_eq_true] <;> omega)).symm
      · simp only [if_true]
        exact (Int.compare_eq_lt.2 (by cases sgn f y <;> simp only [if_true, if_false, Bool.false_eq_true] <;> omega)).symm
    · have hpos : 0 < f.infRung := Nat.lt_of_lt_of_le (binade_pos f) (binade_le_inf f he)
      unfold Ieee.Format.order
      rw [read_inf f x hx1 he, read_inf f y hy1 he]
      simp only [Ieee.Datum.order]
      refine congrArg some ?_
      unfold key
      rw [hx1, hy1]
      cases sgn f x <;> cases sgn f y <;> simp only [if_true, if_false, Bool.false_eq_true, Bool.toNat_true, Bool.toNat_false]
      · rw [Int.compare_eq_eq.2 rfl]; rfl
      · rw [Int.compare_eq_gt.2 (by omega)]; rfl
      · rw [Int.compare_eq_lt.2 (by omega)]; rfl
      · rw [Int.compare_eq_eq.2 rfl]; rfl

theorem exp_ok (k : FloatKind) : 2 ≤ k.format.exponentBits := by cases k <;> decide
/-- A NaN, by its bits. -/
theorem isN_rung (k : FloatKind) (b : Nat) : isN k b = decide (k.format.infRung < rung k.format b) := by
  have he := exp_ok k
  unfold isN FloatKind.decode
  rcases Nat.lt_trichotomy (rung k.format b) k.format.infRung with h | h | h
  · obtain ⟨m, e, u, h1, -, -⟩ := read_number k.format b h
    rw [h1, decide_eq_false (by omega)]; rfl
  · rw [read_inf k.format b h he, decide_eq_false (by omega)]; rfl
  · rw [read_nan k.format b h he, decide_eq_true h]
theorem ord_of {k : FloatKind} {x y : Nat} (hx : isN k x = false) (hy : isN k y = false) : k.format.order x y = some (compare (key k.format x) (key k.format y)) := by
  rw [isN_rung] at hx hy
  simp only [decide_eq_false_iff_not, Nat.not_lt] at hx hy
  exact order_key _ (exp_ok k) _ _ hx hy
theorem ord_nan_l {k : FloatKind} {x : Nat} (y : Nat) (h : isN k x = true) : k.format.order x y = none := ford_nan_left y h
theorem ord_nan_r {k : FloatKind} (x : Nat) {y : Nat} (h : isN k y = true) : k.format.order x y = none := ford_nan_right x h
theorem ord_self (k : FloatKind) (x : Nat) : k.format.order x x = if isN k x then none else some .eq := by
  cases h : isN k x
  · rw [ord_of h h, Int.compare_eq_eq.2 rfl]; rfl
  · rw [ord_nan_l x h]; rfl
theorem ord_self_ne (k : FloatKind) (x : Nat) : (k.format.order x x != some .eq) = isN k x := by
  rw [ord_self]; cases isN k x <;> rfl
theorem ord_self_eq (k : FloatKind) (x : Nat) : (k.format.order x x == some .eq) = !isN k x := by
  rw [ord_self]; cases isN k x <;> rfl
theorem ord_lt {k : FloatKind} {x y : Nat} (hx : isN k x = false) (hy : isN k y = false) : (k.format.order x y == some .lt) = decide (key k.format x < key k.format y) := by
  rw [ord_of hx hy]
  rcases Int.lt_trichotomy (key k.format x) (key k.format y) with h | h | h
  · rw [Int.compare_eq_lt.2 h, decide_eq_true h]; rfl
  · rw [Int.compare_eq_eq.2 h, decide_eq_false (by omega)]; rfl
  · rw [Int.compare_eq_gt.2 h, decide_eq_false (by omega)]; rfl
theorem ord_gt {k : FloatKind} {x y : Nat} (hx : isN k x = false) (hy : isN k y = false) : (k.format.order x y == some .gt) = decide (key k.format y < key k.format x) := by
  rw [ord_of hx hy]
  rcases Int.lt_trichotomy (key k.format x) (key k.format y) with h | h | h
  · rw [Int.compare_eq_lt.2 h, decide_eq_false (by omega)]; rfl
  · rw [Int.compare_eq_eq.2 h, decide_eq_false (by omega)]; rfl
  · rw [Int.compare_eq_gt.2 h, decide_eq_true h]; rfl
theorem ord_eq {k : FloatKind} {x y : Nat} (hx : isN k x = false) (hy : isN k y = false) : (k.format.order x y == some .eq) = decide (key k.format x = key k.format y) := by
  rw [ord_of hx hy]
  rcases Int.lt_trichotomy (key k.format x) (key k.format y) with h | h | h
  · rw [Int.compare_eq_lt.2 h, decide_eq_false (by omega)]; rfl
  · rw [Int.compare_eq_eq.2 h, decide_eq_true h]; rfl
  · rw [Int.compare_eq_gt.2 h, decide_eq_false (by omega)]; rfl

/-- Neither a NaN nor an infinity. -/
def isNum (k : FloatKind) (b : Nat) : Bool := decide (rung k.format b < k.format.infRung)
theorem isNum_not_nan {k : FloatKind} {b : Nat} (h : isNum k b = true) : isN k b = false := by
  unfold isNum at h; rw [isN_rung]; simp only [decide_eq_true_eq] at h; simp only [decide_eq_false_iff_not]; omega

theorem f32_sw : FloatKind.f32.format.signWeight = 2147483648 := by decide +kernel
theorem f32_ir : FloatKind.f32.format.infRung = 2139095040 := by decide +kernel
theorem f32_bn : FloatKind.f32.format.binade = 8388608 := by decide +kernel
theorem f64_sw : FloatKind.f64.format.signWeight = 9223372036854775808 := by decide +kernel
theorem f64_ir : FloatKind.f64.format.infRung = 9218868437227405312 := by decide +kernel
theorem f64_bn : FloatKind.f64.format.binade = 4503599627370496 := by decide +kernel

end Go.Proofs.Ytefjkelakecanaa
