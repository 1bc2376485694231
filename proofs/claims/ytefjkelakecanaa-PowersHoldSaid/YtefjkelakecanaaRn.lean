/- What float operations give, in numbers: the exact value but for half of a last place, and exactly it where the format has it. Plain Lean. -/
import Derived.Test.YtefjkelakecanaaVal
namespace Go.Proofs.Ytefjkelakecanaa
open Go.RowKit

def emax (k : FloatKind) : Int := match k with | .f32 => 128 | .f64 => 1024
theorem vq_inf (k : FloatKind) : vq k.format k.format.infRung = (2 : Rat) ^ emax k := by cases k; exact vq_inf32; exact vq_inf64
/-- A magnitude with its sign. -/
def sg (neg : Bool) (q : Rat) : Rat := if neg then -q else q
theorem val_sg (k : FloatKind) (b : Nat) : val k b = sg (sgn k.format b) (vq k.format (rung k.format b)) := rfl
theorem zp_lt_iff {a b : Int} (h : (2 : Rat) ^ a < (2 : Rat) ^ b) : a < b := by
  rcases Int.lt_or_le a b with h' | h'
  · exact h'
  · have := zp_le h'; grind
theorem log_le (mag : Nat) (place : Int) (hm : 0 < mag) : (2 : Rat) ^ (place + mag.log2) ≤ (mag : Rat) * (2 : Rat) ^ place := by
  have h1 : 2 ^ mag.log2 ≤ mag := Nat.log2_self_le (by omega)
  have h2 : ((2 ^ mag.log2 : Nat) : Rat) ≤ (mag : Rat) := Rat.natCast_le_natCast.2 h1
  have h3 := Rat.mul_le_mul_of_nonneg_right h2 (Rat.le_of_lt (zp_pos place))
  rw [zp_add, zp_nat, Rat.mul_comm]; exact h3

theorem nearest_rn (k : FloatKind) (neg : Bool) (mag : Nat) (place K : Int) (hlo : k.format.leastPlace + k.format.fractionBits + 1 ≤ K) (hhi : K < emax k) (hq : (mag : Rat) * (2 : Rat) ^ place < (2 : Rat) ^ K) :
    isNum k (k.format.nearest neg mag place) = true ∧ sgn k.format (k.format.nearest neg mag place) = neg ∧
    2 * vq k.format (rung k.format (k.format.nearest neg mag place)) ≤ 2 * ((mag : Rat) * (2 : Rat) ^ place) + (2 : Rat) ^ (K - 1 - k.format.fractionBits) ∧
    2 * ((mag : Rat) * (2 : Rat) ^ place) ≤ 2 * vq k.format (rung k.format (k.format.nearest neg mag place)) + (2 : Rat) ^ (K - 1 - k.format.fractionBits) ∧
    (∀ (m : Nat) (e : Int), m < 2 ^ (k.format.fractionBits + 1) → k.format.leastPlace ≤ e → (mag : Rat) * (2 : Rat) ^ place = (m : Rat) * (2 : Rat) ^ e → vq k.format (rung k.format (k.format.nearest neg mag place)) = (mag : Rat) * (2 : Rat) ^ place) := by
  have hsw := k.format.infRung_lt
  have hcp := zp_pos (K - 1 - k.format.fractionBits)
  rcases Nat.eq_zero_or_pos mag with h | h
  · subst h
    have hi : 0 < k.format.infRung := Nat.lt_of_lt_of_le (binade_pos _) (binade_le_inf _ (exp_ok k))
    have e : k.format.nearest neg 0 place = k.format.word neg 0 := rfl
    have z : ((0 : Nat) : Rat) * (2 : Rat) ^ place = 0 := by rw [show ((0 : Nat) : Rat) = 0 from rfl]; exact Rat.zero_mul _
    rw [e, z, rung_word _ _ (by omega), vq_zero]
    refine ⟨?_, sgn_word _ _ (by omega), by grind, by grind, fun _ _ _ _ _ => rfl⟩
    unfold isNum; rw [rung_word _ _ (by omega)]; simpa using hi
  · obtain ⟨r, hr, h1, h2, hx⟩ := nearest_spec k.format (frac_ok k) neg mag place h
    have hlog := log_le mag place h
    have hL : lastOf k.format mag place ≤ K - 1 - k.format.fractionBits := by
      have := zp_lt_iff (rle_lt hlog hq)
      unfold lastOf; omega
    have hc := zp_le hL
    have hlt : r < k.format.infRung := by
      refine (vq_lt_iff k.format).1 ?_
      rw [vq_inf]
      have h3 : (2 : Rat) ^ (K - 1 - k.format.fractionBits) ≤ (2 : Rat) ^ K := zp_le (by omega)
      have h4 : (2 : Rat) ^ (K + 1) ≤ (2 : Rat) ^ emax k := zp_le (by omega)
      have h5 : (2 : Rat) ^ (K + 1) = (2 : Rat) ^ K * 2 := by
        rw [zp_add]; have : (2 : Rat) ^ (1 : Int) = 2 := by decide +kernel
        rw [this]
      grind
    have e : k.format.nearest neg mag place = k.format.word neg r := by rw [hr, Nat.min_eq_left (by omega)]
    rw [e, rung_word _ _ (by omega)]
    refine ⟨?_, sgn_word _ _ (by omega), by grind, by grind, fun m e hm he hme => ?_⟩
    · unfold isNum; rw [rung_word _ _ (by omega)]; simpa using hlt
    · have hle : lastOf k.format mag place ≤ e := by
        have h3 : (m : Rat) < ((2 ^ (k.format.fractionBits + 1) : Nat) : Rat) := Rat.natCast_lt_natCast.2 hm
        have h4 := Rat.mul_lt_mul_of_pos_right h3 (zp_pos e)
        rw [← hme, ← zp_nat, ← zp_add] at h4
        have := zp_lt_iff (rle_lt hlog h4)
        unfold lastOf; omega
      obtain ⟨c, hc'⟩ : ∃ c : Nat, e = lastOf k.format mag place + c := ⟨(e - lastOf k.format mag place).toNat, by omega⟩
      refine hx (m * 2 ^ c) ?_
      rw [hme, Rat.natCast_mul, ← zp_nat, Rat.mul_assoc, ← zp_add]
      congr 2; omega

/-- 'b' is what the number 'q' becomes in the format: a number, at most half of a last place away, and exact where the format has it. -/
structure Rn (k : FloatKind) (q : Rat) (b : Nat) : Prop where
  num : isNum k b = true
  near : ∀ K : Int, k.format.leastPlace + k.format.fractionBits + 1 ≤ K → K < emax k → -((2 : Rat) ^ K) < q → q < (2 : Rat) ^ K → 2 * val k b ≤ 2 * q + (2 : Rat) ^ (K - 1 - k.format.fractionBits) ∧ 2 * q ≤ 2 * val k b + (2 : Rat) ^ (K - 1 - k.format.fractionBits)
  exact : ∀ (s : Bool) (m : Nat) (e : Int), m < 2 ^ (k.format.fractionBits + 1) → k.format.leastPlace ≤ e → q = sg s ((m : Rat) * (2 : Rat) ^ e) → val k b = q
theorem mag_nonneg (m : Nat) (e : Int) : 0 ≤ (m : Rat) * (2 : Rat) ^ e := Rat.mul_nonneg (Rat.natCast_nonneg) (Rat.le_of_lt (zp_pos e))
theorem nearest_Rn (k : FloatKind) (neg : Bool) (mag : Nat) (place K : Int) {q : Rat} (hlo : k.format.leastPlace + k.format.fractionBits + 1 ≤ K) (hhi : K < emax k) (hq : q = sg neg ((mag : Rat) * (2 : Rat) ^ place)) (h1 : -((2 : Rat) ^ K) < q) (h2 : q < (2 : Rat) ^ K) :
    Rn k q (k.format.nearest neg mag place) := by
  have h0 := mag_nonneg mag place
  have hK : (mag : Rat) * (2 : Rat) ^ place < (2 : Rat) ^ K := by
    subst hq; unfold sg at h1 h2; split at h1 <;> split at h2 <;> grind
  obtain ⟨g1, g2, -, -, -⟩ := nearest_rn k neg mag place K hlo hhi hK
  refine ⟨g1, fun L a b c d => ?_, fun s m e a b c => ?_⟩
  · have hL : (mag : Rat) * (2 : Rat) ^ place < (2 : Rat) ^ L := by
      subst hq; unfold sg at c d; split at c <;> split at d <;> grind
    obtain ⟨-, -, g3, g4, -⟩ := nearest_rn k neg mag place L a b hL
    rw [val_sg, g2, hq]; unfold sg
    split <;> grind
  · obtain ⟨-, -, -, -, g5⟩ := nearest_rn k neg mag place K hlo hhi hK
    have h3 := mag_nonneg m e
    rw [val_sg, g2, hq]
    have h4 : (mag : Rat) * (2 : Rat) ^ place = (m : Rat) * (2 : Rat) ^ e := by
      rw [hq] at c; unfold sg at c; split at c <;> split at c <;> grind
    rw [g5 m e a b h4]

theorem fop_mul_num {k : FloatKind} {x y : Nat} (hx : isNum k x = true) (hy : isNum k y = true) (K : Int) (hlo : k.format.leastPlace + k.format.fractionBits + 1 ≤ K) (hhi : K < emax k) (h1 : -((2 : Rat) ^ K) < val k x * val k y) (h2 : val k x * val k y < (2 : Rat) ^ K) :
    Rn k (val k x * val k y) (fop .mul k x y) := by
  obtain ⟨m, e, d1, v1, -, -⟩ := decode_num hx
  obtain ⟨n, j, d2, v2, -, -⟩ := decode_num hy
  have hf : fop .mul k x y = k.format.nearest (sgn k.format x ^^ sgn k.format y) (m * n) (e + j) := by
    have g1 : k.format.read x = _ := d1
    have g2 : k.format.read y = _ := d2
    unfold fop floatBits Ieee.Format.mul
    simp only []
    rw [g1, g2]; rfl
  rw [hf]
  refine nearest_Rn k _ _ _ K hlo hhi ?_ h1 h2
  rw [val_sg, val_sg, ← v1, ← v2, zp_add, Rat.natCast_mul]
  cases sgn k.format x <;> cases sgn k.format y <;> simp [sg] <;> grind
theorem signed_val (s : Bool) (m u : Nat) : (Ieee.signed s m u : Rat) = sg s ((m : Rat) * ((2 ^ u : Nat) : Rat)) := by
  unfold Ieee.signed sg
  split <;> simp [Nat.shiftLeft_eq, Rat.intCast_natCast]
theorem sum_word {k : FloatKind} {s t : Bool} {m n : Nat} {i j : Int} {d1 d2 : Ieee.Datum} (h1 : d1 = .number s m i) (h2 : d2 = .number t n j) :
    ∃ neg mag place, ((d1.sum d2).map k.format.write) = some (k.format.nearest neg mag place) ∧ sg s ((m : Rat) * (2 : Rat) ^ i) + sg t ((n : Rat) * (2 : Rat) ^ j) = sg neg ((mag : Rat) * (2 : Rat) ^ place) := by
  subst h1 h2
  refine ⟨_, _, _, rfl, ?_⟩
  obtain ⟨a, ha⟩ : ∃ a : Nat, a = (i - min i j).toNat := ⟨_, rfl⟩
  obtain ⟨b, hb⟩ : ∃ b : Nat, b = (j - min i j).toNat := ⟨_, rfl⟩
  have e1 : (2 : Rat) ^ i = ((2 ^ a : Nat) : Rat) * (2 : Rat) ^ (min i j) := by rw [← zp_nat, ← zp_add]; congr 1; omega
  have e2 : (2 : Rat) ^ j = ((2 ^ b : Nat) : Rat) * (2 : Rat) ^ (min i j) := by rw [← zp_nat, ← zp_add]; congr 1; omega
  rw [← ha, ← hb]
  have e3 : sg s ((m : Rat) * (2 : Rat) ^ i) + sg t ((n : Rat) * (2 : Rat) ^ j) = ((Ieee.signed s m a + Ieee.signed t n b : Int) : Rat) * (2 : Rat) ^ (min i j) := by
    rw [Rat.intCast_add, signed_val, signed_val, e1, e2]
    cases s <;> cases t <;> simp [sg] <;> grind
  rw [e3]
  generalize Ieee.signed s m a + Ieee.signed t n b = T
  generalize (2 : Rat) ^ (min i j) = c
  rcases Int.lt_trichotomy T 0 with h | h | h
  · rw [if_neg (by omega), decide_eq_true h]
    have : ((T.natAbs : Nat) : Rat) = -(T : Rat) := by
      have e : T = -(T.natAbs : Int) := by omega
      conv => rhs; rw [e]
      rw [Rat.intCast_neg, Rat.neg_neg, Rat.intCast_natCast]
    rw [this]; unfold sg; rw [if_pos rfl]; grind
  · subst h; simp [sg]
  · rw [if_neg (by omega), decide_eq_false (by omega)]
    have : ((T.natAbs : Nat) : Rat) = (T : Rat) := by
      have e : T = (T.natAbs : Int) := by omega
      conv => rhs; rw [e]
      rw [Rat.intCast_natCast]
    rw [this]; unfold sg; simp
theorem fop_add_num {k : FloatKind} {x y : Nat} (hx : isNum k x = true) (hy : isNum k y = true) (K : Int) (hlo : k.format.leastPlace + k.format.fractionBits + 1 ≤ K) (hhi : K < emax k) (h1 : -((2 : Rat) ^ K) < val k x + val k y) (h2 : val k x + val k y < (2 : Rat) ^ K) :
    Rn k (val k x + val k y) (fop .add k x y) := by
  obtain ⟨m, e, d1, v1, -, -⟩ := decode_num hx
  obtain ⟨n, j, d2, v2, -, -⟩ := decode_num hy
  obtain ⟨neg, mag, place, g, hv⟩ := sum_word (k := k) d1 d2
  have hf : fop .add k x y = k.format.nearest neg mag place := by
    have h : floatBits .add k x y = some (k.format.nearest neg mag place) := g
    unfold fop; rw [h]; rfl
  rw [hf]
  refine nearest_Rn k _ _ _ K hlo hhi ?_ h1 h2
  rw [val_sg, val_sg, ← v1, ← v2]; exact hv
theorem fop_sub_num {k : FloatKind} {x y : Nat} (hx : isNum k x = true) (hy : isNum k y = true) (K : Int) (hlo : k.format.leastPlace + k.format.fractionBits + 1 ≤ K) (hhi : K < emax k) (h1 : -((2 : Rat) ^ K) < val k x - val k y) (h2 : val k x - val k y < (2 : Rat) ^ K) :
    Rn k (val k x - val k y) (fop .sub k x y) := by
  obtain ⟨m, e, d1, v1, -, -⟩ := decode_num hx
  obtain ⟨n, j, d2, v2, -, -⟩ := decode_num hy
  have d3 : (k.decode y).opposite = .number (!sgn k.format y) n j := by rw [d2]; rfl
  obtain ⟨neg, mag, place, g, hv⟩ := sum_word (k := k) d1 d3
  have hf : fop .sub k x y = k.format.nearest neg mag place := by
    have h : floatBits .sub k x y = some (k.format.nearest neg mag place) := g
    unfold fop; rw [h]; rfl
  rw [hf]
  refine nearest_Rn k _ _ _ K hlo hhi ?_ h1 h2
  rw [val_sg, val_sg, ← v1, ← v2, ← hv]
  cases sgn k.format x <;> cases sgn k.format y <;> simp [sg] <;> grind

/-- .. of a quotient: at most a last place away (the true word is within half of one), and exact where the format has it. -/
structure Rq (k : FloatKind) (q : Rat) (b : Nat) : Prop where
  num : isNum k b = true
  near : ∀ K : Int, k.format.leastPlace + k.format.fractionBits + 1 ≤ K → K < emax k → -((2 : Rat) ^ K) < q → q < (2 : Rat) ^ K → val k b ≤ q + (2 : Rat) ^ (K - 1 - k.format.fractionBits) ∧ q ≤ val k b + (2 : Rat) ^ (K - 1 - k.format.fractionBits)
  exact : ∀ (s : Bool) (m : Nat) (e : Int), m < 2 ^ (k.format.fractionBits + 1) → k.format.leastPlace ≤ e → q = sg s ((m : Rat) * (2 : Rat) ^ e) → val k b = q
theorem log_ub {m b : Nat} (h : m < 2 ^ b) (hm : 0 < m) : m.log2 < b := by
  have h1 : 2 ^ m.log2 ≤ m := Nat.log2_self_le (by omega)
  rcases Nat.lt_or_ge m.log2 b with h' | h'
  · exact h'
  · have := Nat.pow_le_pow_right (n := 2) (by decide) h'; omega
/-- The quotient's digits: d of them below, the true one twice that but for one. -/
theorem quot_digits {m n fb : Nat} (hm : 0 < m) (hn : 0 < n) (h1 : m < 2 ^ (fb + 1)) :
    2 ^ (fb + 1) ≤ m <<< (fb + 2 + n.log2 - m.log2) / n := by
  have a1 := log_ub h1 hm
  have a2 : 2 ^ m.log2 ≤ m := Nat.log2_self_le (by omega)
  have a3 : n < 2 ^ (n.log2 + 1) := Nat.lt_log2_self
  rw [Nat.shiftLeft_eq, Nat.le_div_iff_mul_le hn]
  have a4 : 2 ^ m.log2 * 2 ^ (fb + 2 + n.log2 - m.log2) ≤ m * 2 ^ (fb + 2 + n.log2 - m.log2) := Nat.mul_le_mul_right _ a2
  rw [← Nat.pow_add, show m.log2 + (fb + 2 + n.log2 - m.log2) = fb + 1 + (n.log2 + 1) by omega, Nat.pow_add] at a4
  have a5 : 2 ^ (fb + 1) * n ≤ 2 ^ (fb + 1) * 2 ^ (n.log2 + 1) := Nat.mul_le_mul_left _ (Nat.le_of_lt a3)
  omega
theorem sg_quo {s t : Bool} {q A B : Rat} (h : q * sg t B = sg s A) : sg (s ^^ t) q * B = A := by
  cases s <;> cases t <;> simp only [sg, Bool.xor_false, Bool.xor_true, Bool.not_true, Bool.not_false, if_true, if_false, Bool.false_eq_true] at h ⊢ <;> grind
theorem sg_sg (s : Bool) (q : Rat) : sg s (sg s q) = q := by cases s <;> simp [sg]
theorem nat_split {m a n d r : Nat} (h : m * a = n * d + r) : (n : Rat) * d + r = (m : Rat) * (a : Rat) := by
  have := congrArg (fun z : Nat => (z : Rat)) h
  simp only [Rat.natCast_mul, Rat.natCast_add] at this
  exact this.symm
theorem quot_step {t n N A P J : Rat} (hJ : 0 < J) (e1 : t * (n * J) = N * (A * 2 * P * J)) : t * n = 2 * (N * A) * P := by
  refine rat_cancel hJ ?_; grind
/-- What the digits say of the true quotient t: within one unit of the last digit; below 2^K if it is; no fraction where it has few digits. -/
theorem quot_bd {t c : Rat} {n d r : Nat} (hc : 0 < c) (hn : 0 < n) (hrn : r < n) (ht : t * n = 2 * ((n : Rat) * d + r) * c) :
    ((2 * d + (r != 0).toNat : Nat) : Rat) * c ≤ t + c ∧ t ≤ ((2 * d + (r != 0).toNat : Nat) : Rat) * c + c ∧ ((2 * d : Nat) : Rat) * c ≤ t ∧ (r = 0 → t = ((2 * d + (r != 0).toNat : Nat) : Rat) * c) := by
  have hnr : (0 : Rat) < (n : Rat) := by
    have := Rat.natCast_lt_natCast.2 hn; simpa using this
  have hr1 : (r : Rat) < (n : Rat) := Rat.natCast_lt_natCast.2 hrn
  have hr0 : (0 : Rat) ≤ (r : Rat) := Rat.natCast_nonneg
  have hk : ∀ {a b : Rat}, a * n ≤ b * n → a ≤ b := fun h => Rat.le_of_mul_le_mul_right h hnr
  have p1 := Rat.mul_le_mul_of_nonneg_right (Rat.le_of_lt hr1) (Rat.le_of_lt hc)
  have p2 := Rat.mul_nonneg hr0 (Rat.le_of_lt hc)
  by_cases h : r = 0
  · subst h
    have e : (2 * d + ((0 : Nat) != 0).toNat : Nat) = 2 * d := rfl
    have e2 : t = ((2 * d : Nat) : Rat) * c := by
      refine rat_cancel hnr ?_
      rw [ht, Rat.natCast_mul]; simp; grind
    rw [e]
    exact ⟨by grind, by grind, by grind, fun _ => e2⟩
  · have e : (r != 0).toNat = 1 := by simp [h]
    rw [e]
    have hr2 : (1 : Rat) ≤ (r : Rat) := by
      have := Rat.natCast_le_natCast.2 (show 1 ≤ r by omega); simpa using this
    refine ⟨hk ?_, hk ?_, hk ?_, fun h' => absurd h' h⟩
    · rw [Rat.natCast_add, Rat.natCast_mul]; simp; grind
    · rw [Rat.natCast_add, Rat.natCast_mul]; simp; grind
    · rw [Rat.natCast_mul]; simp; grind
theorem Rn.rq {k : FloatKind} {q : Rat} {b : Nat} (h : Rn k q b) : Rq k q b :=
  ⟨h.num, fun K a c d e => by
    have := h.near K a c d e
    have hp := zp_pos (K - 1 - k.format.fractionBits)
    exact ⟨by grind, by grind⟩, h.exact⟩
/-- Where a remainder is left: the last digit lies far below, and the digits stay below 2^K. -/
theorem quot_low {t : Rat} {d fb : Nat} {p K : Int} (hd : 2 ^ (fb + 1) ≤ d) (h1 : ((2 * d : Nat) : Rat) * (2 : Rat) ^ p ≤ t) (h2 : t < (2 : Rat) ^ K) :
    p + fb + 3 ≤ K ∧ ((2 * d + 1 : Nat) : Rat) * (2 : Rat) ^ p < (2 : Rat) ^ K := by
  have hc := zp_pos p
  have a1 : ((2 ^ (fb + 2) : Nat) : Rat) ≤ ((2 * d : Nat) : Rat) := Rat.natCast_le_natCast.2 (by rw [Nat.pow_succ] at hd ⊢; omega)
  have a2 := Rat.mul_le_mul_of_nonneg_right a1 (Rat.le_of_lt hc)
  rw [← zp_nat, ← zp_add] at a2
  have a3 := zp_lt_iff (rle_lt a2 (rle_lt h1 h2))
  obtain ⟨g, hg⟩ : ∃ g : Nat, K = p + ((g + 1 : Nat) : Int) := ⟨(K - p - 1).toNat, by omega⟩
  refine ⟨by omega, ?_⟩
  have e : (2 : Rat) ^ K = ((2 ^ (g + 1) : Nat) : Rat) * (2 : Rat) ^ p := by rw [hg, zp_add, zp_nat, Rat.mul_comm]
  rw [e] at h2 ⊢
  have a4 : ((2 * d : Nat) : Rat) < ((2 ^ (g + 1) : Nat) : Rat) := by
    have := rle_lt h1 h2
    exact Rat.lt_of_mul_lt_mul_right this (Rat.le_of_lt hc)
  have a5 := Rat.natCast_lt_natCast.1 a4
  rw [Nat.pow_succ] at a5
  exact Rat.mul_lt_mul_of_pos_right (Rat.natCast_lt_natCast.2 (by rw [Nat.pow_succ]; omega)) hc
theorem quot_even {t : Rat} {n d r m' fb : Nat} {p e' : Int} (hrn : r < n) (hd : 2 ^ (fb + 1) ≤ d) (ht : t * n = 2 * ((n : Rat) * d + r) * (2 : Rat) ^ p) (h1 : ((2 * d : Nat) : Rat) * (2 : Rat) ^ p ≤ t)
    (hm : m' < 2 ^ (fb + 1)) (he : t = (m' : Rat) * (2 : Rat) ^ e') : r = 0 := by
  have hc := zp_pos p
  have b1 : (m' : Rat) < ((2 ^ (fb + 1) : Nat) : Rat) := Rat.natCast_lt_natCast.2 hm
  have b2 := Rat.mul_lt_mul_of_pos_right b1 (zp_pos e')
  rw [← he, ← zp_nat, ← zp_add] at b2
  have b3 := (quot_low hd h1 b2).1
  obtain ⟨g, hg⟩ : ∃ g : Nat, e' = p + ((g + 1 : Nat) : Int) := ⟨(e' - p - 1).toNat, by omega⟩
  have e1 : (2 : Rat) ^ e' = ((2 ^ g : Nat) : Rat) * 2 * (2 : Rat) ^ p := by
    have e3 : (2 : Rat) = (2 : Rat) ^ (1 : Int) := by decide +kernel
    have e4 : ((2 ^ g : Nat) : Rat) * (2 : Rat) ^ (1 : Int) * (2 : Rat) ^ p = (2 : Rat) ^ e' := by
      rw [← zp_nat, ← zp_add, ← zp_add]; congr 1; omega
    rw [← e4, ← e3]
  rw [he, e1] at ht
  have e2 : ((m' * 2 ^ g * n : Nat) : Rat) = ((n * d + r : Nat) : Rat) := by
    rw [Rat.natCast_mul, Rat.natCast_mul, Rat.natCast_add, Rat.natCast_mul]
    generalize ((2 ^ g : Nat) : Rat) = G at *
    refine rat_cancel (c := 2 * (2 : Rat) ^ p) (by grind) ?_
    grind
  have e3 := Rat.natCast_inj.1 e2
  have e4 : r % n = 0 := by
    have : (n * d + r) % n = 0 := by rw [← e3]; exact Nat.mul_mod_left _ _
    rwa [Nat.mul_add_mod] at this
  rwa [Nat.mod_eq_of_lt hrn] at e4
theorem fop_quo_num {k : FloatKind} {x y : Nat} (hx : isNum k x = true) (hy : isNum k y = true) (hy0 : val k y ≠ 0) {q : Rat} (hq : q * val k y = val k x) (K : Int) (hlo : k.format.leastPlace + k.format.fractionBits + 1 ≤ K) (hhi : K < emax k) (h1 : -((2 : Rat) ^ K) < q) (h2 : q < (2 : Rat) ^ K) :
    Rq k q (fop .quo k x y) := by
  obtain ⟨m, i, d1, v1, b1, -⟩ := decode_num hx
  obtain ⟨n, j, d2, v2, b2, -⟩ := decode_num hy
  have hn : 0 < n := by
    rcases Nat.eq_zero_or_pos n with h | h
    · subst h
      exfalso; apply hy0
      rw [val_sg, ← v2]; simp [sg]
    · exact h
  obtain ⟨more, hmore⟩ : ∃ more : Nat, more = k.format.fractionBits + 2 + n.log2 - m.log2 := ⟨_, rfl⟩
  obtain ⟨d, hd⟩ : ∃ d : Nat, d = m <<< more / n := ⟨_, rfl⟩
  obtain ⟨r, hr⟩ : ∃ r : Nat, r = m <<< more % n := ⟨_, rfl⟩
  obtain ⟨p, hp⟩ : ∃ p : Int, p = i - j - more - 1 := ⟨_, rfl⟩
  obtain ⟨neg, hneg⟩ : ∃ neg : Bool, neg = (sgn k.format x ^^ sgn k.format y) := ⟨_, rfl⟩
  have hf : fop .quo k x y = k.format.nearest neg (2 * d + (r != 0).toNat) p := by
    have h : floatBits .quo k x y = some (k.format.nearest neg (2 * d + (r != 0).toNat) p) := by
      have g1 : k.format.read x = _ := d1
      have g2 : k.format.read y = _ := d2
      unfold floatBits Ieee.Format.div
      simp only []
      rw [g1, g2]
      unfold Ieee.Datum.quotient
      simp only []
      rw [if_neg (by omega), ← hmore, ← hd, ← hr, ← hp, ← hneg]; rfl
    unfold fop; rw [h]; rfl
  rw [hf]
  -- the true quotient's size
  have hD : m * 2 ^ more = n * d + r := by rw [hd, hr, ← Nat.shiftLeft_eq]; exact (Nat.div_add_mod _ _).symm
  have hrn : r < n := by rw [hr]; exact Nat.mod_lt _ hn
  have hc := zp_pos p
  have hnr : (0 : Rat) < (n : Rat) := by
    have := Rat.natCast_lt_natCast.2 hn; simpa using this
  obtain ⟨t, ht⟩ : ∃ t : Rat, t = sg neg q := ⟨_, rfl⟩
  have hqt : q = sg neg t := by rw [ht]; cases neg <;> simp [sg]
  have htn : t * n = 2 * ((n : Rat) * d + r) * (2 : Rat) ^ p := by
    have e1 : t * ((n : Rat) * (2 : Rat) ^ j) = (m : Rat) * (2 : Rat) ^ i := by
      rw [val_sg, val_sg, ← v1, ← v2] at hq
      rw [ht, hneg]
      exact sg_quo hq
    have e2 : (2 : Rat) ^ i = ((2 ^ more : Nat) : Rat) * 2 * (2 : Rat) ^ p * (2 : Rat) ^ j := by
      have e3 : (2 : Rat) = (2 : Rat) ^ (1 : Int) := by decide +kernel
      have e4 : ((2 ^ more : Nat) : Rat) * (2 : Rat) ^ (1 : Int) * (2 : Rat) ^ p * (2 : Rat) ^ j = (2 : Rat) ^ i := by
        rw [← zp_nat, ← zp_add, ← zp_add, ← zp_add]; congr 1; omega
      rw [← e4, ← e3]
    have hj := zp_pos j
    rw [e2] at e1
    rw [nat_split hD]
    exact quot_step hj e1
  obtain ⟨c1, c2, c3, c4⟩ := quot_bd hc hn hrn htn
  by_cases hr0 : r = 0
  · refine Rn.rq (nearest_Rn k _ _ _ K hlo hhi ?_ h1 h2)
    rw [← c4 hr0]; exact hqt
  have hm : 0 < m := by
    rcases Nat.eq_zero_or_pos m with h | h
    · subst h
      rw [Nat.zero_mul] at hD
      omega
    · exact h
  have hd2 : 2 ^ (k.format.fractionBits + 1) ≤ d := by rw [hd, hmore]; exact quot_digits hm hn b1
  have e1 : (r != 0).toNat = 1 := by simp [hr0]
  rw [e1] at c1 c2 ⊢
  have t0 : 0 ≤ t := Rat.le_trans (mag_nonneg _ _) c3
  have tlt : ∀ L : Int, -((2 : Rat) ^ L) < q → q < (2 : Rat) ^ L → t < (2 : Rat) ^ L := fun L a b => by
    rw [ht]; unfold sg; split <;> grind
  obtain ⟨l1, l2⟩ := quot_low hd2 c3 (tlt K h1 h2)
  obtain ⟨g1, g2, -, -, -⟩ := nearest_rn k neg _ _ K hlo hhi l2
  refine ⟨g1, fun L a b c d' => ?_, fun s m' e' a b c => ?_⟩
  · obtain ⟨l3, l4⟩ := quot_low hd2 c3 (tlt L c d')
    obtain ⟨-, -, g3, g4, -⟩ := nearest_rn k neg _ _ L a b l4
    have u1 : (2 : Rat) ^ p * 2 ≤ (2 : Rat) ^ (L - 1 - k.format.fractionBits) := by
      have := zp_le (a := p + 1) (b := L - 1 - k.format.fractionBits) (by omega)
      rw [zp_add] at this
      have e3 : (2 : Rat) ^ (1 : Int) = 2 := by decide +kernel
      rwa [e3] at this
    rw [val_sg, g2, hqt]
    generalize ((2 * d + 1 : Nat) : Rat) * (2 : Rat) ^ p = Q' at *
    generalize vq k.format (rung k.format _) = V at *
    generalize (2 : Rat) ^ (L - 1 - k.format.fractionBits) = u at *
    generalize (2 : Rat) ^ p = P at *
    clear hqt ht htn h1 h2 c d' tlt
    unfold sg; split <;> exact ⟨by grind, by grind⟩
  · exfalso
    refine hr0 (quot_even hrn hd2 htn c3 (m' := m') (e' := e') a ?_)
    have h3 := mag_nonneg m' e'
    rw [hqt] at c
    generalize (m' : Rat) * (2 : Rat) ^ e' = M at *
    unfold sg at c; split at c <;> split at c <;> grind
end Go.Proofs.Ytefjkelakecanaa
