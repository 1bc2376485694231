/- What float operations give, in numbers: the exact value but for half of a last place, and exactly it where the format has it. Plain Lean. (with: NearC, Ord, Hash, Off, OffB, Pix, PixB) -/
import Derived.Test.YthlomgbchmhjiaaGreatDoorBA
import Derived.Test.YthlomgbchmhjiaaGreatDoorBC
import Derived.BigQuiet
import Derived.Test.YthlomgbchmhjiaaGreatDoorBB
namespace Go.Proofs.YthlomgbchmhjiaaGreatDoor
open Go.RowKit

def emax (k : FloatKind) : Int := match k with | .f32 => 128 | .f64 => 1024
theorem vq_inf (k : FloatKind) : vq k.format k.format.infRung = (2 : Rat) ^ emax k := by cases k; exact vq_inf32; exact vq_inf64
/-- A magnitude with its sign. -/
def sg (neg : Bool) (q : Rat) : Rat := if neg then -q else q
theorem val_sg (k : FloatKind) (b : Nat) : val k b = sg (sgn k.format b) (vq k.format (rung k.format b)) := rfl
theorem zp_lt_iff {a b : Int} (h : (2 : Rat) ^ a < (2 : Rat) ^ b) : a < b := by
  rcases Int.lt_or_le a b with h' | h'
  · exact h'
  · have := zp_le h'; grind
theorem log_le (mag : Nat) (place : Int) (hm : 0 < mag) : (2 : Rat) ^ (place + mag.log2) ≤ (mag : Rat) * (2 : Rat) ^ place := by
  have h1 : 2 ^ mag.log2 ≤ mag := Nat.log2_self_le (by omega)
  have h2 : ((2 ^ mag.log2 : Nat) : Rat) ≤ (mag : Rat) := Rat.natCast_le_natCast.2 h1
  have h3 := Rat.mul_le_mul_of_nonneg_right h2 (Rat.le_of_lt (zp_pos place))
  rw [zp_add, zp_nat, Rat.mul_comm]; exact h3

theorem nearest_rn (k : FloatKind) (neg : Bool) (mag : Nat) (place K : Int) (hlo : k.format.leastPlace + k.format.fractionBits + 1 ≤ K) (hhi : K < emax k) (hq : (mag : Rat) * (2 : Rat) ^ place < (2 : Rat) ^ K) :
    isNum k (k.format.nearest neg mag place) = true ∧ sgn k.format (k.format.nearest neg mag place) = neg ∧
    2 * vq k.format (rung k.format (k.format.nearest neg mag place)) ≤ 2 * ((mag : Rat) * (2 : Rat) ^ place) + (2 : Rat) ^ (K - 1 - k.format.fractionBits) ∧
    2 * ((mag : Rat) * (2 : Rat) ^ place) ≤ 2 * vq k.format (rung k.format (k.format.nearest neg mag place)) + (2 : Rat) ^ (K - 1 - k.format.fractionBits) ∧
    (∀ (m : Nat) (e : Int), m < 2 ^ (k.format.fractionBits + 1) → k.format.leastPlace ≤ e → (mag : Rat) * (2 : Rat) ^ place = (m : Rat) * (2 : Rat) ^ e → vq k.format (rung k.format (k.format.nearest neg mag place)) = (mag : Rat) * (2 : Rat) ^ place) := by
  have hsw := k.format.infRung_lt
  have hcp := zp_pos (K - 1 - k.format.fractionBits)
  rcases Nat.eq_zero_or_pos mag with h | h
  · subst h
    have hi : 0 < k.format.infRung := Nat.lt_of_lt_of_le (binade_pos _) (binade_le_inf _ (exp_ok k))
    have e : k.format.nearest neg 0 place = k.format.word neg 0 := rfl
    have z : ((0 : Nat) : Rat) * (2 : Rat) ^ place = 0 := by rw [show ((0 : Nat) : Rat) = 0 from rfl]; exact Rat.zero_mul _
    rw [e, z, rung_word _ _ (by omega), vq_zero]
    refine ⟨?_, sgn_word _ _ (by omega), by grind, by grind, fun _ _ _ _ _ => rfl⟩
    unfold isNum; rw [rung_word _ _ (by omega)]; simpa using hi
  · obtain ⟨r, hr, h1, h2, hx⟩ := nearest_spec k.format (frac_ok k) neg mag place h
    have hlog := log_le mag place h
    have hL : lastOf k.format mag place ≤ K - 1 - k.format.fractionBits := by
      have := zp_lt_iff (rle_lt hlog hq)
      unfold lastOf; omega
    have hc := zp_le hL
    have hlt : r < k.format.infRung := by
      refine (vq_lt_iff k.format).1 ?_
      rw [vq_inf]
      have h3 : (2 : Rat) ^ (K - 1 - k.format.fractionBits) ≤ (2 : Rat) ^ K := zp_le (by omega)
      have h4 : (2 : Rat) ^ (K + 1) ≤ (2 : Rat) ^ emax k := zp_le (by omega)
      have h5 : (2 : Rat) ^ (K + 1) = (2 : Rat) ^ K * 2 := by
        rw [zp_add]; have : (2 : Rat) ^ (1 : Int) = 2 := by decide +kernel
        rw [this]
      grind
    have e : k.format.nearest neg mag place = k.format.word neg r := by rw [hr, Nat.min_eq_left (by omega)]
    rw [e, rung_word _ _ (by omega)]
    refine ⟨?_, sgn_word _ _ (by omega), by grind, by grind, fun m e hm he hme => ?_⟩
    · unfold isNum; rw [rung_word _ _ (by omega)]; simpa using hlt
    · have hle : lastOf k.format mag place ≤ e := by
        have h3 : (m : Rat) < ((2 ^ (k.format.fractionBits + 1) : Nat) : Rat) := Rat.natCast_lt_natCast.2 hm
        have h4 := Rat.mul_lt_mul_of_pos_right h3 (zp_pos e)
        rw [← hme, ← zp_nat, ← zp_add] at h4
        have := zp_lt_iff (rle_lt hlog h4)
        unfold lastOf; omega
      obtain ⟨c, hc'⟩ : ∃ c : Nat, e = lastOf k.format mag place + c := ⟨(e - lastOf k.format mag place).toNat, by omega⟩
      refine hx (m * 2 ^ c) ?_
      rw [hme, Rat.natCast_mul, ← zp_nat, Rat.mul_assoc, ← zp_add]
      congr 2; omega

/-- 'b' is what the number 'q' becomes in the format: a number, at most half of a last place away, and exact where the format has it. -/
structure Rn (k : FloatKind) (q : Rat) (b : Nat) : Prop where
  num : isNum k b = true
  near : ∀ K : Int, k.format.leastPlace + k.format.fractionBits + 1 ≤ K → K < emax k → -((2 : Rat) ^ K) < q → q < (2 : Rat) ^ K → 2 * val k b ≤ 2 * q + (2 : Rat) ^ (K - 1 - k.format.fractionBits) ∧ 2 * q ≤ 2 * val k b + (2 : Rat) ^ (K - 1 - k.format.fractionBits)
  exact : ∀ (s : Bool) (m : Nat) (e : Int), m < 2 ^ (k.format.fractionBits + 1) → k.format.leastPlace ≤ e → q = sg s ((m : Rat) * (2 : Rat) ^ e) → val k b = q
theorem mag_nonneg (m : Nat) (e : Int) : 0 ≤ (m : Rat) * (2 : Rat) ^ e := Rat.mul_nonneg (Rat.natCast_nonneg) (Rat.le_of_lt (zp_pos e))
theorem nearest_Rn (k : FloatKind) (neg : Bool) (mag : Nat) (place K : Int) {q : Rat} (hlo : k.format.leastPlace + k.format.fractionBits + 1 ≤ K) (hhi : K < emax k) (hq : q = sg neg ((mag : Rat) * (2 : Rat) ^ place)) (h1 : -((2 : Rat) ^ K) < q) (h2 : q < (2 : Rat) ^ K) :
    Rn k q (k.format.nearest neg mag place) := by
  have h0 := mag_nonneg mag place
  have hK : (mag : Rat) * (2 : Rat) ^ place < (2 : Rat) ^ K := by
    subst hq; unfold sg at h1 h2; split at h1 <;> split at h2 <;> grind
  obtain ⟨g1, g2, -, -, -⟩ := nearest_rn k neg mag place K hlo hhi hK
  refine ⟨g1, fun L a b c d => ?_, fun s m e a b c => ?_⟩
  · have hL : (mag : Rat) * (2 : Rat) ^ place < (2 : Rat) ^ L := by
      subst hq; unfold sg at c d; split at c <;> split at d <;> grind
    obtain ⟨-, -, g3, g4, -⟩ := nearest_rn k neg mag place L a b hL
    rw [val_sg, g2, hq]; unfold sg
    split <;> grind
  · obtain ⟨-, -, -, -, g5⟩ := nearest_rn k neg mag place K hlo hhi hK
    have h3 := mag_nonneg m e
    rw [val_sg, g2, hq]
    have h4 : (mag : Rat) * (2 : Rat) ^ place = (m : Rat) * (2 : Rat) ^ e := by
      rw [hq] at c; unfold sg at c; split at c <;> split at c <;> grind
    rw [g5 m e a b h4]

theorem fop_mul_num {k : FloatKind} {x y : Nat} (hx : isNum k x = true) (hy : isNum k y = true) (K : Int) (hlo : k.format.leastPlace + k.format.fractionBits + 1 ≤ K) (hhi : K < emax k) (h1 : -((2 : Rat) ^ K) < val k x * val k y) (h2 : val k x * val k y < (2 : Rat) ^ K) :
    Rn k (val k x * val k y) (fop .mul k x y) := by
  obtain ⟨m, e, d1, v1, -, -⟩ := decode_num hx
  obtain ⟨n, j, d2, v2, -, -⟩ := decode_num hy
  have hf : fop .mul k x y = k.format.nearest (sgn k.format x ^^ sgn k.format y) (m * n) (e + j) := by
    have g1 : k.format.read x = _ := d1
    have g2 : k.format.read y = _ := d2
    unfold fop floatBits Ieee.Format.mul
    simp only []
    rw [g1, g2]; rfl
  rw [hf]
  refine nearest_Rn k _ _ _ K hlo hhi ?_ h1 h2
  rw [val_sg, val_sg, ← v1, ← v2, zp_add, Rat.natCast_mul]
  cases sgn k.format x <;> cases sgn k.format y <;> simp [sg] <;> grind
theorem signed_val (s : Bool) (m u : Nat) : (Ieee.signed s m u : Rat) = sg s ((m : Rat) * ((2 ^ u : Nat) : Rat)) := by
  unfold Ieee.signed sg
  split <;> simp [Nat.shiftLeft_eq, Rat.intCast_natCast]
theorem sum_word {k : FloatKind} {s t : Bool} {m n : Nat} {i j : Int} {d1 d2 : Ieee.Datum} (h1 : d1 = .number s m i) (h2 : d2 = .number t n j) :
    ∃ neg mag place, ((d1.sum d2).map k.format.write) = some (k.format.nearest neg mag place) ∧ sg s ((m : Rat) * (2 : Rat) ^ i) + sg t ((n : Rat) * (2 : Rat) ^ j) = sg neg ((mag : Rat) * (2 : Rat) ^ place) := by
  subst h1 h2
  refine ⟨_, _, _, rfl, ?_⟩
  obtain ⟨a, ha⟩ : ∃ a : Nat, a = (i - min i j).toNat := ⟨_, rfl⟩
  obtain ⟨b, hb⟩ : ∃ b : Nat, b = (j - min i j).toNat := ⟨_, rfl⟩
  have e1 : (2 : Rat) ^ i = ((2 ^ a : Nat) : Rat) * (2 : Rat) ^ (min i j) := by rw [← zp_nat, ← zp_add]; congr 1; omega
  have e2 : (2 : Rat) ^ j = ((2 ^ b : Nat) : Rat) * (2 : Rat) ^ (min i j) := by rw [← zp_nat, ← zp_add]; congr 1; omega
  rw [← ha, ← hb]
  have e3 : sg s ((m : Rat) * (2 : Rat) ^ i) + sg t ((n : Rat) * (2 : Rat) ^ j) = ((Ieee.signed s m a + Ieee.signed t n b : Int) : Rat) * (2 : Rat) ^ (min i j) := by
    rw [Rat.intCast_add, signed_val, signed_val, e1, e2]
    cases s <;> cases t <;> simp [sg] <;> grind
  rw [e3]
  generalize Ieee.signed s m a + Ieee.signed t n b = T
  generalize (2 : Rat) ^ (min i j) = c
  rcases Int.lt_trichotomy T 0 with h | h | h
  · rw [if_neg (by omega), decide_eq_true h]
    have : ((T.natAbs : Nat) : Rat) = -(T : Rat) := by
      have e : T = -(T.natAbs : Int) := by omega
      conv => rhs; rw [e]
      rw [Rat.intCast_neg, Rat.neg_neg, Rat.intCast_natCast]
    rw [this]; unfold sg; rw [if_pos rfl]; grind
  · subst h; simp [sg]
  · rw [if_neg (by omega), decide_eq_false (by omega)]
    have : ((T.natAbs : Nat) : Rat) = (T : Rat) := by
      have e : T = (T.natAbs : Int) := by omega
      conv => rhs; rw [e]
      rw [Rat.intCast_natCast]
    rw [this]; unfold sg; simp
theorem fop_add_num {k : FloatKind} {x y : Nat} (hx : isNum k x = true) (hy : isNum k y = true) (K : Int) (hlo : k.format.leastPlace + k.format.fractionBits + 1 ≤ K) (hhi : K < emax k) (h1 : -((2 : Rat) ^ K) < val k x + val k y) (h2 : val k x + val k y < (2 : Rat) ^ K) :
    Rn k (val k x + val k y) (fop .add k x y) := by
  obtain ⟨m, e, d1, v1, -, -⟩ := decode_num hx
  obtain ⟨n, j, d2, v2, -, -⟩ := decode_num hy
  obtain ⟨neg, mag, place, g, hv⟩ := sum_word (k := k) d1 d2
  have hf : fop .add k x y = k.format.nearest neg mag place := by
    have h : floatBits .add k x y = some (k.format.nearest neg mag place) := g
    unfold fop; rw [h]; rfl
  rw [hf]
  refine nearest_Rn k _ _ _ K hlo hhi ?_ h1 h2
  rw [val_sg, val_sg, ← v1, ← v2]; exact hv
theorem fop_sub_num {k : FloatKind} {x y : Nat} (hx : isNum k x = true) (hy : isNum k y = true) (K : Int) (hlo : k.format.leastPlace + k.format.fractionBits + 1 ≤ K) (hhi : K < emax k) (h1 : -((2 : Rat) ^ K) < val k x - val k y) (h2 : val k x - val k y < (2 : Rat) ^ K) :
    Rn k (val k x - val k y) (fop .sub k x y) := by
  obtain ⟨m, e, d1, v1, -, -⟩ := decode_num hx
  obtain ⟨n, j, d2, v2, -, -⟩ := decode_num hy
  have d3 : (k.decode y).opposite = .number (!sgn k.format y) n j := by rw [d2]; rfl
  obtain ⟨neg, mag, place, g, hv⟩ := sum_word (k := k) d1 d3
  have hf : fop .sub k x y = k.format.nearest neg mag place := by
    have h : floatBits .sub k x y = some (k.format.nearest neg mag place) := g
    unfold fop; rw [h]; rfl
  rw [hf]
  refine nearest_Rn k _ _ _ K hlo hhi ?_ h1 h2
  rw [val_sg, val_sg, ← v1, ← v2, ← hv]
  cases sgn k.format x <;> cases sgn k.format y <;> simp [sg] <;> grind

/-- .. of a quotient: at most a last place away (the true word is within half of one), and exact where the format has it. -/
structure Rq (k : FloatKind) (q : Rat) (b : Nat) : Prop where
  num : isNum k b = true
  near : ∀ K : Int, k.format.leastPlace + k.format.fractionBits + 1 ≤ K → K < emax k → -((2 : Rat) ^ K) < q → q < (2 : Rat) ^ K → val k b ≤ q + (2 : Rat) ^ (K - 1 - k.format.fractionBits) ∧ q ≤ val k b + (2 : Rat) ^ (K - 1 - k.format.fractionBits)
  exact : ∀ (s : Bool) (m : Nat) (e : Int), m < 2 ^ (k.format.fractionBits + 1) → k.format.leastPlace ≤ e → q = sg s ((m : Rat) * (2 : Rat) ^ e) → val k b = q
theorem log_ub {m b : Nat} (h : m < 2 ^ b) (hm : 0 < m) : m.log2 < b := by
  have h1 : 2 ^ m.log2 ≤ m := Nat.log2_self_le (by omega)
  rcases Nat.lt_or_ge m.log2 b with h' | h'
  · exact h'
  · have := Nat.pow_le_pow_right (n := 2) (by decide) h'; omega
/-- The quotient's digits: d of them below, the true one twice that but for one. -/
theorem quot_digits {m n fb : Nat} (hm : 0 < m) (hn : 0 < n) (h1 : m < 2 ^ (fb + 1)) :
    2 ^ (fb + 1) ≤ m <<< (fb + 2 + n.log2 - m.log2) / n := by
  have a1 := log_ub h1 hm
  have a2 : 2 ^ m.log2 ≤ m := Nat.log2_self_le (by omega)
  have a3 : n < 2 ^ (n.log2 + 1) := Nat.lt_log2_self
  rw [Nat.shiftLeft_eq, Nat.le_div_iff_mul_le hn]
  have a4 : 2 ^ m.log2 * 2 ^ (fb + 2 + n.log2 - m.log2) ≤ m * 2 ^ (fb + 2 + n.log2 - m.log2) := Nat.mul_le_mul_right _ a2
  rw [← Nat.pow_add, show m.log2 + (fb + 2 + n.log2 - m.log2) = fb + 1 + (n.log2 + 1) by omega, Nat.pow_add] at a4
  have a5 : 2 ^ (fb + 1) * n ≤ 2 ^ (fb + 1) * 2 ^ (n.log2 + 1) := Nat.mul_le_mul_left _ (Nat.le_of_lt a3)
  omega
theorem sg_quo {s t : Bool} {q A B : Rat} (h : q * sg t B = sg s A) : sg (s ^^ t) q * B = A := by
  cases s <;> cases t <;> simp only [sg, Bool.xor_false, Bool.xor_true, Bool.not_true, Bool.not_false, if_true, if_false, Bool.false_eq_true] at h ⊢ <;> grind
theorem sg_sg (s : Bool) (q : Rat) : sg s (sg s q) = q := by cases s <;> simp [sg]
theorem nat_split {m a n d r : Nat} (h : m * a = n * d + r) : (n : Rat) * d + r = (m : Rat) * (a : Rat) := by
  have := congrArg (fun z : Nat => (z : Rat)) h
  simp only [Rat.natCast_mul, Rat.natCast_add] at this
  exact this.symm
theorem quot_step {t n N A P J : Rat} (hJ : 0 < J) (e1 : t * (n * J) = N * (A * 2 * P * J)) : t * n = 2 * (N * A) * P := by
  refine rat_cancel hJ ?_; grind
/-- What the digits say of the true quotient t: within one unit of the last digit; below 2^K if it is; no fraction where it has few digits. -/
theorem quot_bd {t c : Rat} {n d r : Nat} (hc : 0 < c) (hn : 0 < n) (hrn : r < n) (ht : t * n = 2 * ((n : Rat) * d + r) * c) :
    ((2 * d + (r != 0).toNat : Nat) : Rat) * c ≤ t + c ∧ t ≤ ((2 * d + (r != 0).toNat : Nat) : Rat) * c + c ∧ ((2 * d : Nat) : Rat) * c ≤ t ∧ (r = 0 → t = ((2 * d + (r != 0).toNat : Nat) : Rat) * c) := by
  have hnr : (0 : Rat) < (n : Rat) := by
    have := Rat.natCast_lt_natCast.2 hn; simpa using this
  have hr1 : (r : Rat) < (n : Rat) := Rat.natCast_lt_natCast.2 hrn
  have hr0 : (0 : Rat) ≤ (r : Rat) := Rat.natCast_nonneg
  have hk : ∀ {a b : Rat}, a * n ≤ b * n → a ≤ b := fun h => Rat.le_of_mul_le_mul_right h hnr
  have p1 := Rat.mul_le_mul_of_nonneg_right (Rat.le_of_lt hr1) (Rat.le_of_lt hc)
  have p2 := Rat.mul_nonneg hr0 (Rat.le_of_lt hc)
  by_cases h : r = 0
  · subst h
    have e : (2 * d + ((0 : Nat) != 0).toNat : Nat) = 2 * d := rfl
    have e2 : t = ((2 * d : Nat) : Rat) * c := by
      refine rat_cancel hnr ?_
      rw [ht, Rat.natCast_mul]; simp; grind
    rw [e]
    exact ⟨by grind, by grind, by grind, fun _ => e2⟩
  · have e : (r != 0).toNat = 1 := by simp [h]
    rw [e]
    have hr2 : (1 : Rat) ≤ (r : Rat) := by
      have := Rat.natCast_le_natCast.2 (show 1 ≤ r by omega); simpa using this
    refine ⟨hk ?_, hk ?_, hk ?_, fun h' => absurd h' h⟩
    · rw [Rat.natCast_add, Rat.natCast_mul]; simp; grind
    · rw [Rat.natCast_add, Rat.natCast_mul]; simp; grind
    · rw [Rat.natCast_mul]; simp; grind
theorem Rn.rq {k : FloatKind} {q : Rat} {b : Nat} (h : Rn k q b) : Rq k q b :=
  ⟨h.num, fun K a c d e => by
    have := h.near K a c d e
    have hp := zp_pos (K - 1 - k.format.fractionBits)
    exact ⟨by grind, by grind⟩, h.exact⟩
/-- Where a remainder is left: the last digit lies far below, and the digits stay below 2^K. -/
theorem quot_low {t : Rat} {d fb : Nat} {p K : Int} (hd : 2 ^ (fb + 1) ≤ d) (h1 : ((2 * d : Nat) : Rat) * (2 : Rat) ^ p ≤ t) (h2 : t < (2 : Rat) ^ K) :
    p + fb + 3 ≤ K ∧ ((2 * d + 1 : Nat) : Rat) * (2 : Rat) ^ p < (2 : Rat) ^ K := by
  have hc := zp_pos p
  have a1 : ((2 ^ (fb + 2) : Nat) : Rat) ≤ ((2 * d : Nat) : Rat) := Rat.natCast_le_natCast.2 (by rw [Nat.pow_succ] at hd ⊢; omega)
  have a2 := Rat.mul_le_mul_of_nonneg_right a1 (Rat.le_of_lt hc)
  rw [← zp_nat, ← zp_add] at a2
  have a3 := zp_lt_iff (rle_lt a2 (rle_lt h1 h2))
  obtain ⟨g, hg⟩ : ∃ g : Nat, K = p + ((g + 1 : Nat) : Int) := ⟨(K - p - 1).toNat, by omega⟩
  refine ⟨by omega, ?_⟩
  have e : (2 : Rat) ^ K = ((2 ^ (g + 1) : Nat) : Rat) * (2 : Rat) ^ p := by rw [hg, zp_add, zp_nat, Rat.mul_comm]
  rw [e] at h2 ⊢
  have a4 : ((2 * d : Nat) : Rat) < ((2 ^ (g + 1) : Nat) : Rat) := by
    have := rle_lt h1 h2
    exact Rat.lt_of_mul_lt_mul_right this (Rat.le_of_lt hc)
  have a5 := Rat.natCast_lt_natCast.1 a4
  rw [Nat.pow_succ] at a5
  exact Rat.mul_lt_mul_of_pos_right (Rat.natCast_lt_natCast.2 (by rw [Nat.pow_succ]; omega)) hc
theorem quot_even {t : Rat} {n d r m' fb : Nat} {p e' : Int} (hrn : r < n) (hd : 2 ^ (fb + 1) ≤ d) (ht : t * n = 2 * ((n : Rat) * d + r) * (2 : Rat) ^ p) (h1 : ((2 * d : Nat) : Rat) * (2 : Rat) ^ p ≤ t)
    (hm : m' < 2 ^ (fb + 1)) (he : t = (m' : Rat) * (2 : Rat) ^ e') : r = 0 := by
  have hc := zp_pos p
  have b1 : (m' : Rat) < ((2 ^ (fb + 1) : Nat) : Rat) := Rat.natCast_lt_natCast.2 hm
  have b2 := Rat.mul_lt_mul_of_pos_right b1 (zp_pos e')
  rw [← he, ← zp_nat, ← zp_add] at b2
  have b3 := (quot_low hd h1 b2).1
  obtain ⟨g, hg⟩ : ∃ g : Nat, e' = p + ((g + 1 : Nat) : Int) := ⟨(e' - p - 1).toNat, by omega⟩
  have e1 : (2 : Rat) ^ e' = ((2 ^ g : Nat) : Rat) * 2 * (2 : Rat) ^ p := by
    have e3 : (2 : Rat) = (2 : Rat) ^ (1 : Int) := by decide +kernel
    have e4 : ((2 ^ g : Nat) : Rat) * (2 : Rat) ^ (1 : Int) * (2 : Rat) ^ p = (2 : Rat) ^ e' := by
      rw [← zp_nat, ← zp_add, ← zp_add]; congr 1; omega
    rw [← e4, ← e3]
  rw [he, e1] at ht
  have e2 : ((m' * 2 ^ g * n : Nat) : Rat) = ((n * d + r : Nat) : Rat) := by
    rw [Rat.natCast_mul, Rat.natCast_mul, Rat.natCast_add, Rat.natCast_mul]
    generalize ((2 ^ g : Nat) : Rat) = G at *
    refine rat_cancel (c := 2 * (2 : Rat) ^ p) (by grind) ?_
    grind
  have e3 := Rat.natCast_inj.1 e2
  have e4 : r % n = 0 := by
    have : (n * d + r) % n = 0 := by rw [← e3]; exact Nat.mul_mod_left _ _
    rwa [Nat.mul_add_mod] at this
  rwa [Nat.mod_eq_of_lt hrn] at e4
theorem fop_quo_num {k : FloatKind} {x y : Nat} (hx : isNum k x = true) (hy : isNum k y = true) (hy0 : val k y ≠ 0) {q : Rat} (hq : q * val k y = val k x) (K : Int) (hlo : k.format.leastPlace + k.format.fractionBits + 1 ≤ K) (hhi : K < emax k) (h1 : -((2 : Rat) ^ K) < q) (h2 : q < (2 : Rat) ^ K) :
    Rq k q (fop .quo k x y) := by
  obtain ⟨m, i, d1, v1, b1, -⟩ := decode_num hx
  obtain ⟨n, j, d2, v2, b2, -⟩ := decode_num hy
  have hn : 0 < n := by
    rcases Nat.eq_zero_or_pos n with h | h
    · subst h
      exfalso; apply hy0
      rw [val_sg, ← v2]; simp [sg]
    · exact h
  obtain ⟨more, hmore⟩ : ∃ more : Nat, more = k.format.fractionBits + 2 + n.log2 - m.log2 := ⟨_, rfl⟩
  obtain ⟨d, hd⟩ : ∃ d : Nat, d = m <<< more / n := ⟨_, rfl⟩
  obtain ⟨r, hr⟩ : ∃ r : Nat, r = m <<< more % n := ⟨_, rfl⟩
  obtain ⟨p, hp⟩ : ∃ p : Int, p = i - j - more - 1 := ⟨_, rfl⟩
  obtain ⟨neg, hneg⟩ : ∃ neg : Bool, neg = (sgn k.format x ^^ sgn k.format y) := ⟨_, rfl⟩
  have hf : fop .quo k x y = k.format.nearest neg (2 * d + (r != 0).toNat) p := by
    have h : floatBits .quo k x y = some (k.format.nearest neg (2 * d + (r != 0).toNat) p) := by
      have g1 : k.format.read x = _ := d1
      have g2 : k.format.read y = _ := d2
      unfold floatBits Ieee.Format.div
      simp only []
      rw [g1, g2]
      unfold Ieee.Datum.quotient
      simp only []
      rw [if_neg (by omega), ← hmore, ← hd, ← hr, ← hp, ← hneg]; rfl
    unfold fop; rw [h]; rfl
  rw [hf]
  -- the true quotient's size
  have hD : m * 2 ^ more = n * d + r := by rw [hd, hr, ← Nat.shiftLeft_eq]; exact (Nat.div_add_mod _ _).symm
  have hrn : r < n := by rw [hr]; exact Nat.mod_lt _ hn
  have hc := zp_pos p
  have hnr : (0 : Rat) < (n : Rat) := by
    have := Rat.natCast_lt_natCast.2 hn; simpa using this
  obtain ⟨t, ht⟩ : ∃ t : Rat, t = sg neg q := ⟨_, rfl⟩
  have hqt : q = sg neg t := by rw [ht]; cases neg <;> simp [sg]
  have htn : t * n = 2 * ((n : Rat) * d + r) * (2 : Rat) ^ p := by
    have e1 : t * ((n : Rat) * (2 : Rat) ^ j) = (m : Rat) * (2 : Rat) ^ i := by
      rw [val_sg, val_sg, ← v1, ← v2] at hq
      rw [ht, hneg]
      exact sg_quo hq
    have e2 : (2 : Rat) ^ i = ((2 ^ more : Nat) : Rat) * 2 * (2 : Rat) ^ p * (2 : Rat) ^ j := by
      have e3 : (2 : Rat) = (2 : Rat) ^ (1 : Int) := by decide +kernel
      have e4 : ((2 ^ more : Nat) : Rat) * (2 : Rat) ^ (1 : Int) * (2 : Rat) ^ p * (2 : Rat) ^ j = (2 : Rat) ^ i := by
        rw [← zp_nat, ← zp_add, ← zp_add, ← zp_add]; congr 1; omega
      rw [← e4, ← e3]
    have hj := zp_pos j
    rw [e2] at e1
    rw [nat_split hD]
    exact quot_step hj e1
  obtain ⟨c1, c2, c3, c4⟩ := quot_bd hc hn hrn htn
  by_cases hr0 : r = 0
  · refine Rn.rq (nearest_Rn k _ _ _ K hlo hhi ?_ h1 h2)
    rw [← c4 hr0]; exact hqt
  have hm : 0 < m := by
    rcases Nat.eq_zero_or_pos m with h | h
    · subst h
      rw [Nat.zero_mul] at hD
      omega
    · exact h
  have hd2 : 2 ^ (k.format.fractionBits + 1) ≤ d := by rw [hd, hmore]; exact quot_digits hm hn b1
  have e1 : (r != 0).toNat = 1 := by simp [hr0]
  rw [e1] at c1 c2 ⊢
  have t0 : 0 ≤ t := Rat.le_trans (mag_nonneg _ _) c3
  have tlt : ∀ L : Int, -((2 : Rat) ^ L) < q → q < (2 : Rat) ^ L → t < (2 : Rat) ^ L := fun L a b => by
    rw [ht]; unfold sg; split <;> grind
  obtain ⟨l1, l2⟩ := quot_low hd2 c3 (tlt K h1 h2)
  obtain ⟨g1, g2, -, -, -⟩ := nearest_rn k neg _ _ K hlo hhi l2
  refine ⟨g1, fun L a b c d' => ?_, fun s m' e' a b c => ?_⟩
  · obtain ⟨l3, l4⟩ := quot_low hd2 c3 (tlt L c d')
    obtain ⟨-, -, g3, g4, -⟩ := nearest_rn k neg _ _ L a b l4
    have u1 : (2 : Rat) ^ p * 2 ≤ (2 : Rat) ^ (L - 1 - k.format.fractionBits) := by
      have := zp_le (a := p + 1) (b := L - 1 - k.format.fractionBits) (by omega)
      rw [zp_add] at this
      have e3 : (2 : Rat) ^ (1 : Int) = 2 := by decide +kernel
      rwa [e3] at this
    rw [val_sg, g2, hqt]
    generalize ((2 * d + 1 : Nat) : Rat) * (2 : Rat) ^ p = Q' at *
    generalize vq k.format (rung k.format _) = V at *
    generalize (2 : Rat) ^ (L - 1 - k.format.fractionBits) = u at *
    generalize (2 : Rat) ^ p = P at *
    clear hqt ht htn h1 h2 c d' tlt
    unfold sg; split <;> exact ⟨by grind, by grind⟩
  · exfalso
    refine hr0 (quot_even hrn hd2 htn c3 (m' := m') (e' := e') a ?_)
    have h3 := mag_nonneg m' e'
    rw [hqt] at c
    generalize (m' : Rat) * (2 : Rat) ^ e' = M at *
    unfold sg at c; split at c <;> split at c <;> grind
end Go.Proofs.YthlomgbchmhjiaaGreatDoor

namespace Go.Proofs.YthlomgbchmhjiaaGreatDoor
open Go.RowKit

theorem sg_int (s : Bool) (c : Nat) : sg s (c : Rat) = ((if s then -(c : Int) else (c : Int) : Int) : Rat) := by
  cases s
  · simp [sg, Rat.intCast_natCast]
  · simp [sg, Rat.intCast_neg, Rat.intCast_natCast]
/-- Rounding to a whole number: at most one half away. -/
theorem cut_near {m : Nat} {e : Int} : ∃ c : Nat, c = cutE (m <<< e.toNat) (2 ^ (-e).toNat) ∧ 2 * (c : Rat) ≤ 2 * ((m : Rat) * (2 : Rat) ^ e) + 1 ∧ 2 * ((m : Rat) * (2 : Rat) ^ e) ≤ 2 * (c : Rat) + 1 := by
  refine ⟨_, rfl, ?_⟩
  rw [Nat.shiftLeft_eq]
  have hg : 0 < 2 ^ (-e).toNat := Nat.two_pow_pos _
  obtain ⟨b1, b2⟩ := cutE_bounds (m * 2 ^ e.toNat) hg
  have hc := zp_pos (-((-e).toNat : Int))
  have e1 : (m : Rat) * (2 : Rat) ^ e = ((m * 2 ^ e.toNat : Nat) : Rat) * (2 : Rat) ^ (-((-e).toNat : Int)) := by
    rw [Rat.natCast_mul, ← zp_nat, Rat.mul_assoc, ← zp_add]; congr 2; omega
  have e2 : ((2 ^ (-e).toNat : Nat) : Rat) * (2 : Rat) ^ (-((-e).toNat : Int)) = 1 := by
    rw [← zp_nat, ← zp_add]
    have : ((-e).toNat : Int) + -((-e).toNat : Int) = 0 := by omega
    rw [this, Rat.zpow_zero]
  rw [e1]
  generalize (2 : Rat) ^ (-((-e).toNat : Int)) = c at *
  generalize m * 2 ^ e.toNat = n at *
  generalize 2 ^ (-e).toNat = g at *
  generalize cutE n g = q at *
  have b3 := Rat.natCast_le_natCast.2 b1
  have b4 := Rat.natCast_le_natCast.2 b2
  simp only [Rat.natCast_add, Rat.natCast_mul] at b3 b4
  have b5 := Rat.mul_le_mul_of_nonneg_right b3 (Rat.le_of_lt hc)
  have b6 := Rat.mul_le_mul_of_nonneg_right b4 (Rat.le_of_lt hc)
  have t : ((2 : Nat) : Rat) = 2 := rfl
  rw [t] at b5 b6
  clear b1 b2 b3 b4 hg hc e1 t
  have e3 : (2 * ((q : Rat) * (g : Rat))) * c = 2 * (q : Rat) := by rw [Rat.mul_assoc, Rat.mul_assoc, e2, Rat.mul_one]
  have e4 : (2 * (n : Rat)) * c = 2 * ((n : Rat) * c) := Rat.mul_assoc _ _ _
  rw [Rat.add_mul, e2, e3, e4] at b5
  rw [Rat.add_mul, e2, e3, e4] at b6
  exact ⟨b5, b6⟩
theorem whole_near {v : Nat} (hv : isNum .f64 v = true) (hb : vq FloatKind.f64.format (rung FloatKind.f64.format v) ≤ ((2 ^ 40 : Nat) : Rat)) :
    ∃ n : Int, isNum .f64 (fwhole .even v) = true ∧ val .f64 (fwhole .even v) = (n : Rat) ∧ 2 * (n : Rat) ≤ 2 * val .f64 v + 1 ∧ 2 * val .f64 v ≤ 2 * (n : Rat) + 1 := by
  obtain ⟨m, e, hd, hm, -, -⟩ := decode_num hv
  obtain ⟨c, hc, c1, c2⟩ := cut_near (m := m) (e := e)
  have hf : fwhole .even v = FloatKind.f64.encode (.number (sgn FloatKind.f64.format v) c 0) := by
    unfold fwhole
    rw [isNum_not_nan hv, hd, hc, ← cut_even (sgn FloatKind.f64.format v)]
    exact if_neg (by decide)
  rw [hm] at c1 c2
  have hc40 : c ≤ 2 ^ 41 := by
    refine Rat.natCast_le_natCast.1 ?_
    have t1 : ((2 ^ 41 : Nat) : Rat) = 2 * ((2 ^ 40 : Nat) : Rat) := by decide +kernel
    have t2 : (1 : Rat) ≤ ((2 ^ 40 : Nat) : Rat) := by decide +kernel
    grind
  obtain ⟨x1, x2, x3⟩ := encode_exact .f64 (sgn FloatKind.f64.format v) c 0 (Nat.le_trans hc40 (by decide)) (by decide) (by
    rw [vq_inf64, Rat.zpow_zero, Rat.mul_one]
    have a1 : (c : Rat) ≤ ((2 ^ 41 : Nat) : Rat) := Rat.natCast_le_natCast.2 hc40
    rw [← zp_nat] at a1
    exact rle_lt a1 (zp_lt (by decide)))
  rw [Rat.zpow_zero, Rat.mul_one] at x3
  refine ⟨if sgn FloatKind.f64.format v then -(c : Int) else (c : Int), by rw [hf]; exact x1, ?_, ?_, ?_⟩
  · rw [hf, val_sg, x2, x3, sg_int]
  · rw [← sg_int, val_sg]
    generalize vq FloatKind.f64.format (rung FloatKind.f64.format v) = V at *
    unfold sg; split <;> grind
  · rw [← sg_int, val_sg]
    generalize vq FloatKind.f64.format (rung FloatKind.f64.format v) = V at *
    unfold sg; split <;> grind
theorem f2i_int {x : Nat} {n : Int} (hx : isNum .f64 x = true) (hv : val .f64 x = (n : Rat)) (hn : n.natAbs ≤ 2 ^ 60) : floatToIntVal .f64 x .i64 = some n := by
  have hb : vq FloatKind.f64.format (rung FloatKind.f64.format x) = ((n.natAbs : Nat) : Rat) := by
    have h0 := vq_nonneg FloatKind.f64.format (rung FloatKind.f64.format x)
    rw [val_sg] at hv
    rw [← Rat.intCast_natCast]
    rcases Int.le_total 0 n with h | h
    · have e : ((n.natAbs : Nat) : Int) = n := by omega
      have e2 : (0 : Rat) ≤ (n : Rat) := by have := Rat.intCast_le_intCast.2 h; simpa using this
      rw [e]; unfold sg at hv; split at hv <;> grind
    · have e : ((n.natAbs : Nat) : Int) = -n := by omega
      have e2 : (n : Rat) ≤ (0 : Rat) := by have := Rat.intCast_le_intCast.2 h; simpa using this
      rw [e, Rat.intCast_neg]; unfold sg at hv; split at hv <;> grind
  obtain ⟨q, h1, h2, h3⟩ := f2i_some hx (by rw [hb]; exact Rat.natCast_le_natCast.2 (by omega))
  rw [hb] at h2 h3
  have q1 : q ≤ n.natAbs := Rat.natCast_le_natCast.1 h2
  have q2 : n.natAbs < q + 1 := by
    refine Rat.natCast_lt_natCast.1 ?_
    rw [Rat.natCast_add]; simpa using h3
  have q3 : q = n.natAbs := by omega
  rw [h1]; congr 1
  rw [val_sg, hb] at hv
  subst q3
  cases hs : sgn FloatKind.f64.format x
  · rw [hs, sg_int] at hv
    exact Rat.intCast_inj.1 hv
  · rw [hs, sg_int] at hv
    exact Rat.intCast_inj.1 hv
/-- A value that is nearer than one half to a whole number within the bounds gives that number. -/
theorem near_int {v : Nat} {n lo hi : Int} (hv : isNum .f32 v = true) (hl : lo.natAbs ≤ 2 ^ 24) (hh : hi.natAbs ≤ 2 ^ 24) (h1 : 2 * val .f32 v < 2 * (n : Rat) + 1) (h2 : 2 * (n : Rat) < 2 * val .f32 v + 1) (h3 : lo ≤ n) (h4 : n ≤ hi) :
    nearOf v lo hi = (n, true) := by
  obtain ⟨u1, u2, u3⟩ := up_exact hv
  have hvv : val .f64 (fcv .f32 .f64 v) = val .f32 v := by rw [val_sg, val_sg, u2, u3]
  have hn1 : (n : Rat) ≤ ((2 ^ 24 : Nat) : Rat) := by
    have := Rat.intCast_le_intCast.2 (show n ≤ ((2 ^ 24 : Nat) : Int) by omega)
    rwa [Rat.intCast_natCast] at this
  have hn2 : -((2 ^ 24 : Nat) : Rat) ≤ (n : Rat) := by
    have := Rat.intCast_le_intCast.2 (show -((2 ^ 24 : Nat) : Int) ≤ n by omega)
    rwa [Rat.intCast_neg, Rat.intCast_natCast] at this
  have hb : vq FloatKind.f64.format (rung FloatKind.f64.format (fcv .f32 .f64 v)) ≤ ((2 ^ 40 : Nat) : Rat) := by
    have t : ((2 ^ 24 : Nat) : Rat) + 1 ≤ ((2 ^ 40 : Nat) : Rat) := by decide +kernel
    have h0 := vq_nonneg FloatKind.f64.format (rung FloatKind.f64.format (fcv .f32 .f64 v))
    rw [← hvv, val_sg] at h1 h2
    generalize vq FloatKind.f64.format (rung FloatKind.f64.format (fcv .f32 .f64 v)) = V at *
    unfold sg at h1 h2; split at h1 <;> grind
  obtain ⟨z, w1, w2, w3, w4⟩ := whole_near u1 hb
  rw [hvv] at w3 w4
  have hz : z = n := by
    have a1 : z < n + 1 := by
      refine Rat.intCast_lt_intCast.1 ?_
      rw [Rat.intCast_add]; simp; grind
    have a2 : n < z + 1 := by
      refine Rat.intCast_lt_intCast.1 ?_
      rw [Rat.intCast_add]; simp; grind
    omega
  subst hz
  obtain ⟨a1, a2⟩ := ofInt_exact64 lo (by omega)
  obtain ⟨b1, b2⟩ := ofInt_exact64 hi (by omega)
  unfold nearOf
  rw [isNum_not_nan hv]
  simp only [Bool.false_eq_true, if_false]
  have e1 : (ford .f64 (fwhole .even (fcv .f32 .f64 v)) (floatOfInt .f64 lo) == some .lt) = false := by
    unfold ford
    rw [ord_lt (isNum_not_nan w1) (isNum_not_nan a1), decide_eq_false_iff_not, ← val_lt_key, w2, a2]
    intro h; have := Rat.intCast_lt_intCast.1 h; omega
  have e2 : (ford .f64 (fwhole .even (fcv .f32 .f64 v)) (floatOfInt .f64 hi) == some .gt) = false := by
    unfold ford
    rw [ord_gt (isNum_not_nan w1) (isNum_not_nan b1), decide_eq_false_iff_not, ← val_lt_key, w2, b2]
    intro h; have := Rat.intCast_lt_intCast.1 h; omega
  rw [e1, e2, f2i_int w1 w2 (by omega)]
  rfl
end Go.Proofs.YthlomgbchmhjiaaGreatDoor

namespace Go.Proofs.YthlomgbchmhjiaaGreatDoor
open Go.RowKit
theorem and_low (k : IntKind) (x : Int) (n : Nat) (hn : (2 : Int) ^ n ≤ 2 ^ 31) (hk : k = .i64 ∨ k = .u64 ∨ k = .u32 ∨ k = .u8) (hx : n ≤ 7) : bits .and k x ((2 : Int) ^ n - 1) = x % 2 ^ n := by
  have key : ∀ W : Nat, n ≤ W → ((BitVec.ofInt W x &&& BitVec.ofInt W ((2 : Int) ^ n - 1)).toNat : Int) = x % 2 ^ n := fun W hW => by
    have hp : (0 : Int) < 2 ^ n := Int.pow_pos (by decide)
    have e1 : (BitVec.ofInt W ((2 : Int) ^ n - 1)).toNat = 2 ^ n - 1 := by
      have h1 : ((2 ^ n : Nat) : Int) = (2 : Int) ^ n := by simp
      have h2 : ((2 ^ W : Nat) : Int) = (2 : Int) ^ W := by simp
      have h3 : (2 : Nat) ^ n ≤ 2 ^ W := Nat.pow_le_pow_right (by decide) hW
      rw [BitVec.toNat_ofInt, Int.emod_eq_of_lt (by omega) (by omega)]
      omega
    rw [BitVec.toNat_and, e1, Nat.and_two_pow_sub_one_eq_mod, BitVec.toNat_ofInt]
    have hd : (2 : Int) ^ n ∣ 2 ^ W := by
      obtain ⟨c, rfl⟩ := Nat.exists_eq_add_of_le hW
      exact ⟨2 ^ c, by rw [Int.pow_add]⟩
    have hw : (0 : Int) < 2 ^ W := Int.pow_pos (by decide)
    have h2 : ((2 ^ W : Nat) : Int) = (2 : Int) ^ W := by simp
    rw [h2]
    have := Int.emod_nonneg x (Int.ne_of_gt hw)
    rw [Int.natCast_emod, Int.toNat_of_nonneg this]
    simp only [Int.natCast_pow, Int.cast_ofNat_Int]
    exact Int.emod_emod_of_dvd _ hd
  have h128 : (2 : Int) ^ n ≤ 128 := by
    have : (2 : Nat) ^ n ≤ 2 ^ 7 := Nat.pow_le_pow_right (by decide) hx
    have h1 : ((2 ^ n : Nat) : Int) = (2 : Int) ^ n := by simp
    omega
  have hp : (0 : Int) < 2 ^ n := Int.pow_pos (by decide)
  have l0 := Int.emod_nonneg x (Int.ne_of_gt hp)
  have l1 := Int.emod_lt_of_pos x hp
  rcases hk with rfl | rfl | rfl | rfl <;> unfold bits <;> simp only <;> rw [key _ (by show n ≤ _; simp [IntKind.bits]; omega)] <;> simp only [IntKind.wrap_i64, IntKind.wrap_u64, IntKind.wrap_u32, IntKind.wrap_u8] <;> omega
theorem and7 (x : Int) : bits .and .i64 x 7 = x % 8 := and_low .i64 x 3 (by decide) (.inl rfl) (by decide)
theorem mod_mod8 (x : Int) : (wrap64 (x.tmod 8 + 8)).tmod 8 = x % 8 := by
  have h1 : -8 < x.tmod 8 ∧ x.tmod 8 < 8 ∧ (x.tmod 8 + 8) % 8 = x % 8 := by
    rcases Int.le_total 0 x with h | h
    · rw [Int.tmod_eq_emod_of_nonneg h]; omega
    · have e : x.tmod 8 = -((-x).tmod 8) := by rw [Int.neg_tmod, Int.neg_neg]
      rw [e, Int.tmod_eq_emod_of_nonneg (show 0 ≤ -x by omega)]; omega
  have h2 : wrap64 (x.tmod 8 + 8) = x.tmod 8 + 8 := by simp only [wrap64]; omega
  rw [h2, Int.tmod_eq_emod_of_nonneg (by omega), h1.2.2]
/-- The rank of a place of the ordered matrix, of remainders by 8. -/
def ordZ (a b : Int) : Int :=
  bits .and .i64 (bits .xor .i64 a b) 1 * 32 + bits .and .i64 b 1 * 16 + bits .and .i64 (bits .xor .i64 a b / 2) 1 * 8 + bits .and .i64 (b / 2) 1 * 4 + bits .and .i64 (bits .xor .i64 a b / 4) 1 * 2 + bits .and .i64 (b / 4) 1
theorem ord8 {p : Int → Int → Prop} (h : ∀ a b : Fin 8, p a.val b.val) (x y : Int) : p (x % 8) (y % 8) := by
  have := h ⟨(x % 8).toNat, by omega⟩ ⟨(y % 8).toNat, by omega⟩
  simp only at this
  rw [show (((x % 8).toNat : Nat) : Int) = x % 8 by omega, show (((y % 8).toNat : Nat) : Int) = y % 8 by omega] at this
  exact this
theorem ordZ_bd (x y : Int) : 0 ≤ ordZ (x % 8) (y % 8) ∧ ordZ (x % 8) (y % 8) < 64 :=
  ord8 (p := fun a b => 0 ≤ ordZ a b ∧ ordZ a b < 64) (by decide +kernel) x y
end Go.Proofs.YthlomgbchmhjiaaGreatDoor

namespace Go.Proofs.YthlomgbchmhjiaaGreatDoor
open Go.RowKit
/-- One round of the hash. -/
def hmix (h i : Int) : Int :=
  let a := (h + i) % 4294967296 * 2246822507 % 4294967296
  let b := bits .xor .u32 a (a / 8192) * 3266489909 % 4294967296
  bits .xor .u32 b (b / 65536)
/-- The hash of a seed and three integers. -/
def hashZ (s x y n : Int) : Int := hmix (hmix (hmix (bits .xor .u32 s 2654435769) x) y) n
theorem xor_bd (a b : Int) : 0 ≤ bits .xor .u32 a b ∧ bits .xor .u32 a b < 4294967296 := by
  unfold bits; simp only [IntKind.wrap_u32]; omega
theorem hashZ_bd (s x y n : Int) : 0 ≤ hashZ s x y n ∧ hashZ s x y n < 4294967296 := by
  unfold hashZ hmix; exact xor_bd _ _
theorem ret_u {a b : Int} (h : a = b) : Ending.returned (.int .u32 a) = .returned (.int .u32 b) := by rw [h]
end Go.Proofs.YthlomgbchmhjiaaGreatDoor

namespace Go.Proofs.YthlomgbchmhjiaaGreatDoor
open Go.RowKit

theorem addsub_not_nan {k : FloatKind} {x y : Nat} (hx : isNum k x = true) (hy : isNum k y = true) : isN k (fop .add k x y) = false ∧ isN k (fop .sub k x y) = false := by
  obtain ⟨m, e, d1, -, -, -⟩ := decode_num hx
  obtain ⟨n, j, d2, -, -, -⟩ := decode_num hy
  have d3 : (k.decode y).opposite = .number (!sgn k.format y) n j := by rw [d2]; rfl
  constructor
  · obtain ⟨neg, mag, place, g, -⟩ := sum_word (k := k) d1 d2
    have h : floatBits .add k x y = some (k.format.nearest neg mag place) := g
    unfold fop; rw [h]; exact floatBits_not_nan h
  · obtain ⟨neg, mag, place, g, -⟩ := sum_word (k := k) d1 d3
    have h : floatBits .sub k x y = some (k.format.nearest neg mag place) := g
    unfold fop; rw [h]; exact floatBits_not_nan h
/-- Bits of one value that is not 0 are one. -/
theorem bits_of_val {k : FloatKind} {b c : Nat} (hb : b < 2 ^ k.format.width) (hc : c < 2 ^ k.format.width) (h : val k b = val k c) (h0 : val k b ≠ 0) : b = c := by
  have hsw : 2 ^ k.format.width = 2 * k.format.signWeight := by cases k <;> decide +kernel
  have hp : 0 < k.format.signWeight := Nat.two_pow_pos _
  have e1 := val_le_key (k := k) (x := b) (y := c)
  have e2 := val_le_key (k := k) (x := c) (y := b)
  have k1 := e1.1 (by rw [h]; exact Rat.le_refl)
  have k2 := e2.1 (by rw [h]; exact Rat.le_refl)
  have hk : key k.format b = key k.format c := by omega
  have hnz : rung k.format b ≠ 0 := by
    intro hr
    apply h0
    rw [val_sg, hr, vq_zero]; unfold sg; split <;> simp
  unfold key at hk
  have r1 : rung k.format b = rung k.format c ∧ sgn k.format b = sgn k.format c := by
    cases h1 : sgn k.format b <;> cases h2 : sgn k.format c <;> rw [h1, h2] at hk <;> simp at hk ⊢ <;> omega
  obtain ⟨r1, r2⟩ := r1
  unfold rung at r1
  unfold sgn at r2
  have q1 : b / k.format.signWeight < 2 := by rw [Nat.div_lt_iff_lt_mul hp]; omega
  have q2 : c / k.format.signWeight < 2 := by rw [Nat.div_lt_iff_lt_mul hp]; omega
  have r3 : b / k.format.signWeight = c / k.format.signWeight := by
    rw [Nat.mod_eq_of_lt q1, Nat.mod_eq_of_lt q2] at r2
    generalize b / k.format.signWeight = i at *
    generalize c / k.format.signWeight = j at *
    rcases (show i = 0 ∨ i = 1 by omega) with rfl | rfl <;> rcases (show j = 0 ∨ j = 1 by omega) with rfl | rfl <;> simp at r2 ⊢
  rw [← Nat.div_add_mod b k.format.signWeight, ← Nat.div_add_mod c k.format.signWeight, r1, r3]

/-- The single of a hash. -/
def unitF (h : Int) : Nat := fop .mul .f32 (floatOfInt .f32 (h / 256)) 864026624
theorem c24 : isNum .f32 864026624 = true ∧ val .f32 864026624 = (2 : Rat) ^ (-24 : Int) ∧ isNum .f32 1266679808 = true ∧ val .f32 1266679808 = (2 : Rat) ^ (24 : Int) := by
  refine ⟨by decide +kernel, by decide +kernel, by decide +kernel, by decide +kernel⟩
theorem lp32 : FloatKind.f32.format.leastPlace = -149 := by decide
theorem fb32 : FloatKind.f32.format.fractionBits = 23 := rfl
theorem unit_val {n : Nat} (hn : n < 2 ^ 24) :
    Rn .f32 ((n : Rat) * (2 : Rat) ^ (-24 : Int)) (fop .mul .f32 (floatOfInt .f32 n) 864026624) ∧ Rq .f32 ((n : Rat) * (2 : Rat) ^ (-24 : Int)) (fop .quo .f32 (floatOfInt .f32 n) 1266679808) := by
  obtain ⟨a1, a2⟩ := ofInt_exact32 n (by omega)
  obtain ⟨b1, b2, b3, b4⟩ := c24
  rw [Rat.intCast_natCast] at a2
  have h0 := mag_nonneg n (-24)
  have h1 : (n : Rat) * (2 : Rat) ^ (-24 : Int) < (2 : Rat) ^ (0 : Int) := by
    have := Rat.mul_lt_mul_of_pos_right (Rat.natCast_lt_natCast.2 hn) (zp_pos (-24))
    have e : ((2 ^ 24 : Nat) : Rat) * (2 : Rat) ^ (-24 : Int) = (2 : Rat) ^ (0 : Int) := by decide +kernel
    rwa [e] at this
  have h2 : -((2 : Rat) ^ (0 : Int)) < (n : Rat) * (2 : Rat) ^ (-24 : Int) := by
    have := zp_pos 0; grind
  constructor
  · have := fop_mul_num a1 b1 0 (by decide) (by decide) (by rw [a2, b2]; exact h2) (by rw [a2, b2]; exact h1)
    rwa [a2, b2] at this
  · refine fop_quo_num a1 b3 (by rw [b4]; decide +kernel) ?_ 0 (by decide) (by decide) h2 h1
    rw [a2, b4, Rat.mul_assoc, ← zp_add]
    have e : (2 : Rat) ^ ((-24 : Int) + 24) = 1 := by decide +kernel
    rw [e, Rat.mul_one]
theorem unit_same {h : Int} (h0 : 0 ≤ h) (h1 : h < 4294967296) : fop .quo .f32 (floatOfInt .f32 (h / 256)) 1266679808 = unitF h ∧ isNum .f32 (unitF h) = true := by
  obtain ⟨n, hn⟩ : ∃ n : Nat, h / 256 = (n : Int) := ⟨(h / 256).toNat, by omega⟩
  have hlt : n < 2 ^ 24 := by omega
  unfold unitF
  rw [hn]
  obtain ⟨r1, r2⟩ := unit_val hlt
  refine ⟨?_, r1.num⟩
  rcases Nat.eq_zero_or_pos n with h | h
  · subst h; decide +kernel
  · have e1 := r1.exact false n (-24) (by rw [fb32]; exact hlt) (by decide) rfl
    have e2 := r2.exact false n (-24) (by rw [fb32]; exact hlt) (by decide) rfl
    refine (bits_of_val (fop_lt _ _ _ _) (fop_lt _ _ _ _) (by rw [e1, e2]) ?_).symm
    rw [e1]
    have : (0 : Rat) < (n : Rat) := by have := Rat.natCast_lt_natCast.2 h; simpa using this
    have := Rat.mul_pos this (zp_pos (-24))
    grind
theorem unit_not_nan {h : Int} (h0 : 0 ≤ h) (h1 : h < 4294967296) : isN .f32 (unitF h) = false := isNum_not_nan (unit_same h0 h1).2

/-- The offset of a kind. -/
def offF (how s x y c : Int) : Nat :=
  if how = 1 then fop .sub .f32 (fop .quo .f32 (fop .add .f32 (floatOfInt .f32 (ordZ (x % 8) (y % 8))) 1056964608) 1115684864) 1056964608
  else if how = 2 then fop .sub .f32 (unitF (hashZ s x y c)) 1056964608
  else 0
theorem half_num : isNum .f32 1056964608 = true := by decide +kernel
theorem off1_not_nan (x y : Int) : isN .f32 (fop .sub .f32 (fop .quo .f32 (fop .add .f32 (floatOfInt .f32 (ordZ (x % 8) (y % 8))) 1056964608) 1115684864) 1056964608) = false :=
  ord8 (p := fun a b => isN .f32 (fop .sub .f32 (fop .quo .f32 (fop .add .f32 (floatOfInt .f32 (ordZ a b)) 1056964608) 1115684864) 1056964608) = false) (by decide +kernel) x y
theorem off2_not_nan (s x y c : Int) : isN .f32 (fop .sub .f32 (unitF (hashZ s x y c)) 1056964608) = false :=
  (addsub_not_nan (unit_same (hashZ_bd s x y c).1 (hashZ_bd s x y c).2).2 half_num).2

/-- The level of a level's value is it. -/
theorem level_back {n d : Int} (hd : 1 ≤ d ∧ d ≤ 16) (h0 : 0 ≤ n) (h1 : n ≤ 2 ^ d.toNat - 1) : levelOf (valueF n d) 0 d = n := by
  have hb := pow_bd hd
  have hM : 1 ≤ (2 : Int) ^ d.toNat - 1 ∧ (2 : Int) ^ d.toNat - 1 ≤ 65535 := by omega
  unfold levelOf valueF
  generalize (2 : Int) ^ d.toNat - 1 = M at *
  clear hb hd
  obtain ⟨a1, a2⟩ := ofInt_exact32 n (by omega)
  obtain ⟨b1, b2⟩ := ofInt_exact32 M (by omega)
  have hn0 : (0 : Rat) ≤ (n : Rat) := by have := Rat.intCast_le_intCast.2 h0; simpa using this
  have hnM : (n : Rat) ≤ (M : Rat) := Rat.intCast_le_intCast.2 h1
  have hM1 : (1 : Rat) ≤ (M : Rat) := by have := Rat.intCast_le_intCast.2 hM.1; simpa using this
  have hM2 : (M : Rat) ≤ 65535 := by have := Rat.intCast_le_intCast.2 hM.2; simpa using this
  obtain ⟨q, hq⟩ : ∃ q : Rat, q = (n : Rat) * (M : Rat)⁻¹ := ⟨_, rfl⟩
  have hMM : (M : Rat)⁻¹ * (M : Rat) = 1 := Rat.inv_mul_cancel _ (by grind)
  have hqM : q * (M : Rat) = (n : Rat) := by rw [hq, Rat.mul_assoc, hMM, Rat.mul_one]
  have q0 : 0 ≤ q := Rat.le_of_mul_le_mul_right (c := (M : Rat)) (by rw [hqM, Rat.zero_mul]; exact hn0) (by grind)
  have q1 : q ≤ 1 := Rat.le_of_mul_le_mul_right (c := (M : Rat)) (by rw [hqM, Rat.one_mul]; exact hnM) (by grind)
  have t1 : (2 : Rat) ^ (1 : Int) = 2 := by decide +kernel
  have t17 : (2 : Rat) ^ (17 : Int) = 131072 := by decide +kernel
  have u1 : (2 : Rat) ^ ((1 : Int) - 1 - (FloatKind.f32.format.fractionBits : Int)) = 1 / 8388608 := by decide +kernel
  have u17 : (2 : Rat) ^ ((17 : Int) - 1 - (FloatKind.f32.format.fractionBits : Int)) = 1 / 128 := by decide +kernel
  have rv := fop_quo_num (q := q) a1 b1 (by rw [b2]; grind) (by rw [a2, b2]; exact hqM) 1 (by decide) (by decide) (by rw [t1]; grind) (by rw [t1]; grind)
  obtain ⟨v1, v2⟩ := rv.near 1 (by decide) (by decide) (by rw [t1]; grind) (by rw [t1]; grind)
  rw [u1] at v1 v2
  have hvn := rv.num
  generalize fop .quo .f32 (floatOfInt .f32 n) (floatOfInt .f32 M) = V at *
  generalize hW : val .f32 V = W at *
  have p1 : W * (M : Rat) ≤ (n : Rat) + 1 / 8388608 * (M : Rat) := by
    have := Rat.mul_le_mul_of_nonneg_right v1 (show (0 : Rat) ≤ (M : Rat) by grind)
    rwa [Rat.add_mul, hqM] at this
  have p2 : (n : Rat) ≤ W * (M : Rat) + 1 / 8388608 * (M : Rat) := by
    have := Rat.mul_le_mul_of_nonneg_right v2 (show (0 : Rat) ≤ (M : Rat) by grind)
    rwa [Rat.add_mul, hqM] at this
  clear rv v1 v2 a1 a2 hq hMM hqM q0 q1
  have rp := fop_mul_num hvn b1 17 (by decide) (by decide) (by rw [hW, b2, t17]; grind) (by rw [hW, b2, t17]; grind)
  rw [hW, b2] at rp
  obtain ⟨s1, s2⟩ := rp.near 17 (by decide) (by decide) (by rw [t17]; grind) (by rw [t17]; grind)
  rw [u17] at s1 s2
  have hpn := rp.num
  generalize fop .mul .f32 V (floatOfInt .f32 M) = P at *
  generalize hX : val .f32 P = X at *
  generalize W * (M : Rat) = Y at *
  have z1 : isNum .f32 0 = true := by decide +kernel
  have z2 : val .f32 0 = 0 := by decide +kernel
  have ra := fop_add_num hpn z1 17 (by decide) (by decide) (by rw [hX, z2, t17]; grind) (by rw [hX, z2, t17]; grind)
  rw [hX, z2, Rat.add_zero] at ra
  obtain ⟨s3, s4⟩ := ra.near 17 (by decide) (by decide) (by rw [t17]; grind) (by rw [t17]; grind)
  rw [u17] at s3 s4
  rw [near_int (n := n) ra.num (by decide) (by omega) (by grind) (by grind) h0 h1]
end Go.Proofs.YthlomgbchmhjiaaGreatDoor

namespace Go.Proofs.YthlomgbchmhjiaaGreatDoor
open Go.RowKit
theorem off_one {how s x y c : Int} {r1 r2 r3 : Nat} (h : how = 1) (a1 : FR .f32 r1 (fop .add .f32 (cn .f32 (floatOfInt .f32 (ordZ (x % 8) (y % 8)))) (cn .f32 1056964608))) (a2 : FR .f32 r2 (fop .quo .f32 (cn .f32 r1) (cn .f32 1115684864)))
    (a3 : FR .f32 r3 (fop .sub .f32 (cn .f32 r2) (cn .f32 1056964608))) : r3 = offF how s x y c := by
  rw [a2.eq, fop_cn_right, a1.eq, fop_cn_left, fop_cn_right, fop_cn_right] at a3
  rw [FR.exact a3 (off1_not_nan x y)]; unfold offF; rw [if_pos h]
theorem off_two {how s x y c : Int} {r3 : Nat} (h : how = 2) (a3 : FR .f32 r3 (fop .sub .f32 (cn .f32 (unitF (hashZ s x y c))) (cn .f32 1056964608))) : r3 = offF how s x y c := by
  rw [fop_cn_left, fop_cn_right] at a3
  rw [FR.exact a3 (off2_not_nan s x y c)]; unfold offF; rw [if_neg (by omega), if_pos h]
end Go.Proofs.YthlomgbchmhjiaaGreatDoor

namespace Go.Proofs.YthlomgbchmhjiaaGreatDoor
open Go.RowKit

theorem ret_f {k : FloatKind} {a b : Nat} (h : a = b) : Ending.returned (.float k a) = .returned (.float k b) := by rw [h]
theorem nan32 : nanOf .f32 = 2143289344 := by decide +kernel
theorem cn_ne {v : Nat} (h : (FloatKind.f32.format.order v v != some .eq) = true) : (2143289344 : Nat) = cn .f32 v := by
  rw [ord_self_ne] at h; rw [cn_of_nan h, nan32]
theorem cn_nn {v : Nat} (h : (FloatKind.f32.format.order v v != some .eq) = false) : v = cn .f32 v := by
  rw [ord_self_ne] at h; rw [cn_of_not h]
set_option maxHeartbeats 400000 in
theorem Clean_any (v : Nat) (w : World) : Calls Tryz.prog 130 #[.float .f32 v] w fun e w' => e = .returned (.float .f32 (cn .f32 v)) ∧ w = w' := by
  go_enter Tryz.func130, Tryz.ntmps130
  go_wp2
  · go_ret; exact ⟨ret_f (cn_ne (by assumption)), rfl⟩
  · go_ret; exact ⟨ret_f (cn_nn (by assumption)), rfl⟩
theorem ret_u32 {a b : Int} (h : a = b) : Ending.returned (.int .u32 a) = .returned (.int .u32 b) := by rw [h]
set_option maxHeartbeats 400000 in
theorem Bits_any (v : Nat) (w : World) : Calls Tryz.prog 113 #[.float .f32 v] w fun e w' => e = .returned (.int .u32 (cn .f32 v)) ∧ w = w' := by
  go_enter Tryz.func113, Tryz.ntmps113
  go_wp2_with (first | (go_at_call 130; refine (Clean_any _ _).mono ?_; rintro e w' ⟨rfl, rfl⟩))
  go_ret
  exact ⟨rfl, rfl⟩
/-- A value within bounds. -/
def limF (v lo hi : Nat) : Nat := if FloatKind.f32.format.order v lo == some .lt then cn .f32 lo else if FloatKind.f32.format.order v hi == some .gt then cn .f32 hi else cn .f32 v
set_option maxHeartbeats 400000 in
theorem Limit_any (v lo hi : Nat) (w : World) : Calls Tryz.prog 151 #[.float .f32 v, .float .f32 lo, .float .f32 hi] w fun e w' => e = .returned (.float .f32 (limF v lo hi)) ∧ w = w' := by
  go_enter Tryz.func151, Tryz.ntmps151
  go_wp2_with (first | (go_at_call 130; refine (Clean_any _ _).mono ?_; rintro e w' ⟨rfl, rfl⟩))
  all_goals (go_ret; refine ⟨ret_f ?_, rfl⟩; unfold limF; simp only [*]; simp)
end Go.Proofs.YthlomgbchmhjiaaGreatDoor

namespace Go.Proofs.YthlomgbchmhjiaaGreatDoor
open Go.RowKit

theorem isNum_code (v : Nat) : isNum .f32 v = ((FloatKind.f32.format.order v v == some .eq) && !((FloatKind.f32.format.order v 2139095039 == some .gt) || (FloatKind.f32.format.order v 4286578687 == some .lt))) := by
  have k1 : key FloatKind.f32.format 2139095039 = 2139095039 := by decide +kernel
  have k2 : key FloatKind.f32.format 4286578687 = -2139095039 := by decide +kernel
  have n1 : isN .f32 2139095039 = false := by decide +kernel
  have n2 : isN .f32 4286578687 = false := by decide +kernel
  rw [ord_self_eq]
  cases h : isN .f32 v with
  | true =>
    cases hn : isNum .f32 v with
    | true => rw [isNum_not_nan hn] at h; cases h
    | false => rfl
  | false =>
    rw [ord_gt h n1, ord_lt h n2, k1, k2, Bool.eq_iff_iff]
    unfold isNum key
    rw [isN_rung] at h
    rw [f32_ir] at *
    simp only [decide_eq_false_iff_not] at h
    simp
    split <;> omega
theorem sub_self_num {v : Nat} (h : isNum .f32 v = true) : isNum .f32 (fop .sub .f32 v v) = true ∧ val .f32 (fop .sub .f32 v v) = 0 := by
  have e : val .f32 v - val .f32 v = 0 := by grind
  have p := zp_pos 1
  have := fop_sub_num h h 1 (by decide) (by decide) (by rw [e]; grind) (by rw [e]; grind)
  rw [e] at this
  refine ⟨this.num, this.exact false 0 0 (by decide) (by decide) (by simp [sg])⟩
theorem sub_self_not {v : Nat} (h : isNum .f32 v = false) : isN .f32 (fop .sub .f32 v v) = true := by
  have hx : ∀ s m e, FloatKind.f32.decode v ≠ .number s m e := fun s m e hd => by
    rw [isNum_decode.2 ⟨s, m, e, hd⟩] at h; cases h
  have hn : floatBits .sub .f32 v v = none := by
    have hd : FloatKind.f32.decode v = FloatKind.f32.format.read v := rfl
    unfold floatBits Ieee.Format.sub
    simp only []
    rw [hd] at hx
    cases hr : FloatKind.f32.format.read v with
    | number s m e => exact absurd hr (hx s m e)
    | nan s t => rfl
    | infinity s => cases s <;> rfl
  unfold fop; rw [hn]; exact isN_nanOf _
theorem isNum_ref {v r : Nat} (h : FR .f32 r (fop .sub .f32 (cn .f32 v) (cn .f32 v))) : (FloatKind.f32.format.order r 0 == some .eq) = isNum .f32 v := by
  rw [fop_cn_left, fop_cn_right] at h
  cases hn : isNum .f32 v with
  | true =>
    obtain ⟨a, b⟩ := sub_self_num hn
    rw [FR.exact h (isNum_not_nan a)]
    have z : isN .f32 0 = false := by decide +kernel
    rw [ord_eq (isNum_not_nan a) z, decide_eq_true_eq]
    have e1 := val_le_key (k := .f32) (x := fop .sub .f32 v v) (y := 0)
    have e2 := val_le_key (k := .f32) (x := 0) (y := fop .sub .f32 v v)
    have v0 : val .f32 0 = 0 := by decide +kernel
    rw [b, v0] at e1 e2
    have := e1.1 Rat.le_refl
    have := e2.1 Rat.le_refl
    omega
  | false =>
    have hN := sub_self_not hn
    have e : isN .f32 r = true := by
      rw [← isN_cn, h.eq]; exact hN
    rw [ord_nan_l _ e]; rfl
set_option maxHeartbeats 400000 in
theorem infinite_any (v : Nat) (w : World) : Calls Tryz.prog 32 #[.float .f32 v] w fun e w' => e = .returned (.bool ((FloatKind.f32.format.order v 2139095039 == some .gt) || (FloatKind.f32.format.order v 4286578687 == some .lt))) ∧ w = w' := by
  go_enter Tryz.func32, Tryz.ntmps32
  go_wp2
  all_goals (go_ret; refine ⟨ret_b ?_, rfl⟩; simp [*])
set_option maxHeartbeats 400000 in
theorem IsNumber_any (v : Nat) (w : World) : Calls Tryz.prog 16 #[.float .f32 v] w fun e w' => e = .returned (.bool (isNum .f32 v)) ∧ w = w' := by
  go_enter Tryz.func16, Tryz.ntmps16
  go_wp2_with (first | (go_at_call 32; refine (infinite_any _ _).mono ?_; rintro e w' ⟨rfl, rfl⟩))
  all_goals (go_ret; refine ⟨ret_b ?_, rfl⟩; rw [isNum_code]; simp [*])
set_option maxHeartbeats 400000 in
theorem IsNumberR_any (v : Nat) (w : World) : Calls Tryz.prog 11 #[.float .f32 v] w fun e w' => e = .returned (.bool (isNum .f32 v)) ∧ ∃ n, w' = w.drewN n := by
  go_enter Tryz.func11, Tryz.ntmps11
  go_wp2_with (first | ((with_reducible apply wpList_farith); rfl; rfl; rfl; intro _ _ _) | ((with_reducible apply wpList_up); rfl; exact Tryz.underlying27; exact Tryz.underlying130; intro _ _ _))
  rename_i hr
  go_ret
  exact ⟨ret_b (isNum_ref hr), _, rfl⟩
/-- Whether all of the first n are numbers. -/
def allNum : List Nat → Bool
  | [] => true
  | v :: l => isNum .f32 v && allNum l
set_option maxHeartbeats 800000 in
theorem AllNumbers_any (b off n cap : Nat) (vs : List Nat) (w : World) (hn : vs.length = n) (hb : n ≤ 1000000) (hc : ∀ i, i < n → w.cell? ⟨b, off + i, none⟩ = some (.float .f32 (vs.getD i 0))) :
    Calls Tryz.prog 9 #[.slice (some ⟨b, off, none⟩) n cap] w fun e w' => e = .returned (.bool (allNum vs)) ∧ w = w' := by
  go_enter Tryz.func9, Tryz.ntmps9
  go_wp2
  go_loopw [7] (fun i wr => ∃ k : Nat, k ≤ n ∧ i = .int .i64 k ∧ wr = w ∧ allNum vs = allNum (vs.drop k)) (fun i _ => n - (intOf i).toNat)
  case atStart => exact ⟨0, Nat.zero_le _, rfl, rfl, rfl⟩
  case round =>
    obtain ⟨k, hk, rfl, rfl, hall⟩ := hrel
    by_cases hkn : k < n
    · have hcx := hc k hkn
      obtain ⟨l, hl⟩ : ∃ l, vs.drop k = vs.getD k 0 :: l ∧ l = vs.drop (k + 1) := ⟨vs.drop (k + 1), by rw [List.drop_eq_getElem_cons (by omega)]; simp [List.getElem?_eq_getElem (show k < vs.length by omega)], rfl⟩
      rw [hl.1] at hall
      have hl2 := hl.2
      clear hl hc
      generalize vs.getD k 0 = z at *
      have hall' := Lib.hid hall; clear hall
      cases hz : isNum .f32 z
      · go_wp2_with (first | (go_at_call 16; refine (IsNumber_any _ _).mono ?_; rintro e w' ⟨rfl, rfl⟩))
        go_ret
        refine ⟨ret_b ?_, rfl⟩
        rw [hall'.out]; simp [allNum, hz]
      · go_wp2_with (first | (go_at_call 16; refine (IsNumber_any _ _).mono ?_; rintro e w' ⟨rfl, rfl⟩))
        go_roundw
        case rel => exact ⟨k + 1, by omega, by first | rfl | simp, by first | rfl | trivial, by rw [hall'.out, ← hl2]; simp [allNum, hz]⟩
        case measure => simp [intOf]; omega
    · have hkn' : k = n := by omega
      subst hkn'
      go_wp2
      go_ret
      refine ⟨ret_b ?_, rfl⟩
      rw [hall, List.drop_of_length_le (by omega)]; rfl
end Go.Proofs.YthlomgbchmhjiaaGreatDoor
