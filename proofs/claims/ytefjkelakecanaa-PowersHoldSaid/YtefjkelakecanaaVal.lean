/- The numbers that floats stand for; what is exact: integers, the wider format, whole numbers. Plain facts on the model's floats. No condition. -/
import Derived.Test.YtefjkelakecanaaRound
namespace Go.Proofs.Ytefjkelakecanaa
open Go.RowKit

theorem vr_mono {B r s : Nat} (hB : 0 < B) (h : r ≤ s) : vr B r ≤ vr B s := by
  rcases Nat.lt_or_eq_of_le h with h | h
  · exact Nat.le_of_lt (vr_lt hB h)
  · subst h; exact Nat.le_refl _
theorem lt_of_vr_lt {B r s : Nat} (hB : 0 < B) (h : vr B r < vr B s) : r < s := by
  rcases Nat.lt_or_ge r s with h' | h'
  · exact h'
  · have := vr_mono hB h'; omega
theorem vr_inj {B r s : Nat} (hB : 0 < B) (h : vr B r = vr B s) : r = s := by
  rcases Nat.lt_trichotomy r s with h' | h' | h'
  · have := vr_lt hB h'; omega
  · exact h'
  · have := vr_lt hB h'; omega
theorem vq_lt_iff (f : Ieee.Format) {r s : Nat} : vq f r < vq f s ↔ r < s := by
  have hB := binade_pos f
  have hc := zp_pos f.leastPlace
  unfold vq
  constructor
  · intro h
    rcases Nat.lt_or_ge r s with h' | h'
    · exact h'
    · have h1 := Rat.natCast_le_natCast.2 (vr_mono hB h')
      have := Rat.mul_le_mul_of_nonneg_right h1 (Rat.le_of_lt hc)
      grind
  · intro h
    exact Rat.mul_lt_mul_of_pos_right (Rat.natCast_lt_natCast.2 (vr_lt hB h)) hc
theorem vq_inj (f : Ieee.Format) {r s : Nat} (h : vq f r = vq f s) : r = s := by
  have hc := zp_pos f.leastPlace
  unfold vq at h
  exact vr_inj (binade_pos f) (Rat.natCast_inj.1 (rat_cancel hc h))
theorem vq_zero (f : Ieee.Format) : vq f 0 = 0 := by
  unfold vq vr; rw [if_pos (binade_pos f)]; simp
theorem vq_nonneg (f : Ieee.Format) (r : Nat) : 0 ≤ vq f r := by
  rcases Nat.eq_zero_or_pos r with h | h
  · subst h; rw [vq_zero]; exact Rat.le_refl
  · have := (vq_lt_iff f (r := 0) (s := r)).2 h; rw [vq_zero] at this; exact Rat.le_of_lt this

/-- The number that a float's bits stand for (of no use at NaNs and infinities). -/
def val (k : FloatKind) (b : Nat) : Rat := if sgn k.format b then -(vq k.format (rung k.format b)) else vq k.format (rung k.format b)
theorem sgn_word (f : Ieee.Format) (neg : Bool) {r : Nat} (h : r < f.signWeight) : sgn f (f.word neg r) = neg := word_read_neg f neg r h
theorem rung_word (f : Ieee.Format) (neg : Bool) {r : Nat} (h : r < f.signWeight) : rung f (f.word neg r) = r := word_read_rung f neg r h
theorem val_word (k : FloatKind) (neg : Bool) {r : Nat} (h : r < k.format.signWeight) : val k (k.format.word neg r) = if neg then -(vq k.format r) else vq k.format r := by
  unfold val; rw [sgn_word _ _ h, rung_word _ _ h]
theorem frac_ok (k : FloatKind) : 1 ≤ k.format.fractionBits := by cases k <;> decide

/-- A number that the format has is written exactly. -/
theorem nearest_exact (f : Ieee.Format) (hp : 1 ≤ f.fractionBits) (neg : Bool) (mag : Nat) (place : Int) (hm : 0 < mag) (h1 : mag ≤ 2 ^ (f.fractionBits + 1)) (h2 : f.leastPlace ≤ place) :
    ∃ r : Nat, f.nearest neg mag place = f.word neg (min r f.infRung) ∧ vq f r = (mag : Rat) * (2 : Rat) ^ place := by
  obtain ⟨r, hr, -, -, hx⟩ := nearest_spec f hp neg mag place hm
  refine ⟨r, hr, ?_⟩
  have hL1 : 2 ^ mag.log2 ≤ mag := Nat.log2_self_le (by omega)
  have hL : mag.log2 ≤ f.fractionBits + 1 := by
    rcases Nat.lt_or_ge (f.fractionBits + 1) mag.log2 with h | h
    · have := Nat.pow_lt_pow_right (a := 2) (by decide) h; omega
    · exact h
  by_cases hc : lastOf f mag place ≤ place
  · obtain ⟨c, hc'⟩ : ∃ c : Nat, place = lastOf f mag place + c := ⟨(place - lastOf f mag place).toNat, by omega⟩
    refine hx (mag * 2 ^ c) ?_
    rw [Rat.natCast_mul, ← zp_nat, Rat.mul_assoc, ← zp_add]
    congr 2; omega
  · have e : mag.log2 = f.fractionBits + 1 := by unfold lastOf at hc; omega
    have em : mag = 2 ^ (f.fractionBits + 1) := by rw [e] at hL1; omega
    have el : lastOf f mag place = place + 1 := by unfold lastOf at hc ⊢; omega
    refine hx (2 ^ f.fractionBits) ?_
    rw [el, zp_add, em, Nat.pow_succ, Rat.natCast_mul]
    have : (2 : Rat) ^ (1 : Int) = 2 := by decide +kernel
    rw [this]; push_cast; grind
/-- .. and is a number again. -/
theorem encode_exact (k : FloatKind) (neg : Bool) (mag : Nat) (place : Int) (h1 : mag ≤ 2 ^ (k.format.fractionBits + 1)) (h2 : k.format.leastPlace ≤ place) (h3 : (mag : Rat) * (2 : Rat) ^ place < vq k.format k.format.infRung) :
    isNum k (k.encode (.number neg mag place)) = true ∧ sgn k.format (k.encode (.number neg mag place)) = neg ∧ vq k.format (rung k.format (k.encode (.number neg mag place))) = (mag : Rat) * (2 : Rat) ^ place := by
  have hsw := k.format.infRung_lt
  rcases Nat.eq_zero_or_pos mag with h | h
  · subst h
    have e : k.encode (.number neg 0 place) = k.format.word neg 0 := rfl
    have hi : 0 < k.format.infRung := Nat.lt_of_lt_of_le (binade_pos _) (binade_le_inf _ (exp_ok k))
    rw [e]
    refine ⟨?_, ?_, ?_⟩
    · unfold isNum; rw [rung_word _ _ (by omega)]; simpa using hi
    · rw [sgn_word _ _ (by omega)]
    · rw [rung_word _ _ (by omega), vq_zero]; simp
  · obtain ⟨r, hr, hv⟩ := nearest_exact k.format (frac_ok k) neg mag place h h1 h2
    have hlt : r < k.format.infRung := by rw [← hv] at h3; exact (vq_lt_iff _).1 h3
    have e : k.encode (.number neg mag place) = k.format.word neg r := by
      show k.format.nearest neg mag place = _
      rw [hr, Nat.min_eq_left (by omega)]
    rw [e]
    refine ⟨?_, ?_, ?_⟩
    · unfold isNum; rw [rung_word _ _ (by omega)]; simpa using hlt
    · rw [sgn_word _ _ (by omega)]
    · rw [rung_word _ _ (by omega), hv]

theorem read_mag_lt (f : Ieee.Format) (w : Nat) (m : Nat) (e : Int) (s : Bool) (h : f.read w = .number s m e) : m < 2 ^ (f.fractionBits + 1) ∧ f.leastPlace ≤ e := by
  have hb : f.binade = 2 ^ f.fractionBits := rfl
  have hp := binade_pos f
  unfold Ieee.Format.read at h
  simp only [] at h
  split at h
  · cases h; rw [Nat.pow_succ]; omega
  · split at h
    · cases h
      have := Nat.mod_lt (w % f.signWeight) hp
      rw [Nat.pow_succ]; omega
    · split at h <;> cases h
/-- What a number's word stands for, in numbers. -/
theorem decode_num {k : FloatKind} {b : Nat} (h : isNum k b = true) : ∃ m e, k.decode b = .number (sgn k.format b) m e ∧ (m : Rat) * (2 : Rat) ^ e = vq k.format (rung k.format b) ∧ m < 2 ^ (k.format.fractionBits + 1) ∧ k.format.leastPlace ≤ e := by
  unfold isNum at h
  simp only [decide_eq_true_eq] at h
  obtain ⟨m, e, up, h1, h2, h3⟩ := read_number k.format b h
  have h4 := read_mag_lt _ _ _ _ _ h1
  refine ⟨m, e, h1, ?_, h4.1, h4.2⟩
  unfold vq
  rw [← h3, h2, zp_add, Rat.natCast_mul, ← zp_nat]; grind
theorem vq_inf32 : vq FloatKind.f32.format FloatKind.f32.format.infRung = (2 : Rat) ^ (128 : Int) := by decide +kernel
theorem vr_big {B r q t : Nat} (h : ¬ r < B) (hq : r / B - 1 = q) (ht : r % B = t) : vr B r = (B + t) * 2 ^ q := by
  unfold vr; rw [if_neg h, hq, ht]
theorem vq_inf64_aux (q : Nat) (h : 9218868437227405312 / 4503599627370496 - 1 = q) : vq FloatKind.f64.format FloatKind.f64.format.infRung = (2 : Rat) ^ ((52 : Int) + q + -1074) := by
  unfold vq
  rw [f64_ir, f64_bn, vr_big (t := 0) (by decide) h (by decide), Nat.add_zero, Rat.natCast_mul, ← zp_nat]
  have e2 : FloatKind.f64.format.leastPlace = -1074 := by decide
  have e3 : ((4503599627370496 : Nat) : Rat) = (2 : Rat) ^ (52 : Int) := by
    rw [show (52 : Int) = ((52 : Nat) : Int) from rfl, zp_nat]
  rw [e2, e3, ← zp_add, ← zp_add]
theorem vq_inf64 : vq FloatKind.f64.format FloatKind.f64.format.infRung = (2 : Rat) ^ (1024 : Int) := vq_inf64_aux 2046 (by decide)
theorem rlt_le {a b c : Rat} (h : a < b) (h' : b ≤ c) : a < c := by grind
theorem rle_lt {a b c : Rat} (h : a ≤ b) (h' : b < c) : a < c := by grind
theorem zp_le {a b : Int} (h : a ≤ b) : (2 : Rat) ^ a ≤ (2 : Rat) ^ b := by
  obtain ⟨n, hn⟩ : ∃ n : Nat, b = a + n := ⟨(b - a).toNat, by omega⟩
  rw [hn, zp_add, zp_nat]
  have h4 : (1 : Rat) ≤ ((2 ^ n : Nat) : Rat) := by
    have := Rat.natCast_le_natCast.2 (show 1 ≤ 2 ^ n from Nat.two_pow_pos n)
    exact this
  have h5 := Rat.mul_le_mul_of_nonneg_left h4 (Rat.le_of_lt (zp_pos a))
  rwa [Rat.mul_one] at h5
theorem zp_lt {a b : Int} (h : a < b) : (2 : Rat) ^ a < (2 : Rat) ^ b := by
  have h1 := zp_le (a := a + 1) (b := b) (by omega)
  have h2 : (2 : Rat) ^ (a + 1) = (2 : Rat) ^ a * 2 := by
    rw [zp_add]; have : (2 : Rat) ^ (1 : Int) = 2 := by decide +kernel
    rw [this]
  have := zp_pos a
  grind
/-- A single as a double: exactly. -/
theorem up_exact {b : Nat} (h : isNum .f32 b = true) : isNum .f64 (fcv .f32 .f64 b) = true ∧ sgn FloatKind.f64.format (fcv .f32 .f64 b) = sgn FloatKind.f32.format b ∧ vq FloatKind.f64.format (rung FloatKind.f64.format (fcv .f32 .f64 b)) = vq FloatKind.f32.format (rung FloatKind.f32.format b) := by
  obtain ⟨m, e, hd, hv, hm, he⟩ := decode_num h
  have hn := isNum_not_nan h
  unfold fcv
  rw [hn]
  simp only [Bool.false_eq_true, if_false]
  rw [hd, ← hv]
  have hm' : m < 2 ^ 24 := hm
  have he' : (-149 : Int) ≤ e := he
  refine encode_exact .f64 _ m e (Nat.le_of_lt (Nat.lt_of_lt_of_le hm' (by decide))) (Int.le_trans (by decide) he') ?_
  rw [hv, vq_inf64]
  have h1 : rung FloatKind.f32.format b < FloatKind.f32.format.infRung := by simpa [isNum] using h
  have h2 := (vq_lt_iff FloatKind.f32.format).2 h1
  rw [vq_inf32] at h2
  exact rlt_le h2 (zp_le (by decide))
theorem isNum_decode {k : FloatKind} {b : Nat} : isNum k b = true ↔ ∃ s m e, k.decode b = .number s m e := by
  constructor
  · intro h; obtain ⟨m, e, hd, -⟩ := decode_num h; exact ⟨_, m, e, hd⟩
  · rintro ⟨s, m, e, hd⟩
    unfold isNum
    rcases Nat.lt_trichotomy (rung k.format b) k.format.infRung with h | h | h
    · simpa using h
    · have := read_inf k.format b h (exp_ok k)
      rw [show k.decode b = k.format.read b from rfl, this] at hd; cases hd
    · have := read_nan k.format b h (exp_ok k)
      rw [show k.decode b = k.format.read b from rfl] at hd
      rw [hd] at this; cases this
theorem ovf_up (b : Nat) : ovf .f32 .f64 b = false := by
  unfold ovf
  by_cases hn : isNum .f32 b = true
  · obtain ⟨h, -, -⟩ := up_exact hn
    have hnn := isNum_not_nan hn
    unfold fcv at h
    rw [hnn] at h
    simp only [Bool.false_eq_true, if_false] at h
    obtain ⟨s, m, e, hd⟩ := isNum_decode.1 h
    rw [hd]; simp [Ieee.Datum.isInfinity]
  · cases hd : FloatKind.f32.decode b with
    | number s m e => exact absurd (isNum_decode.2 ⟨s, m, e, hd⟩) hn
    | infinity s => rfl
    | nan s t =>
      have hsw := FloatKind.f64.format.infRung_add_binade
      have hlt : FloatKind.f64.format.infRung + t % FloatKind.f64.format.binade < FloatKind.f64.format.signWeight := by
        have := Nat.mod_lt t (binade_pos FloatKind.f64.format); omega
      have e1 : FloatKind.f64.encode (.nan s t) = FloatKind.f64.format.word s (FloatKind.f64.format.infRung + t % FloatKind.f64.format.binade) := rfl
      have ht : t < 2 ^ 23 ∧ 0 < t := by
        unfold FloatKind.decode Ieee.Format.read at hd
        simp only [f32_sw, f32_ir] at hd
        have hm : b % 2147483648 < 2147483648 := Nat.mod_lt _ (by decide)
        split at hd
        · cases hd
        · split at hd
          · cases hd
          · split at hd
            · cases hd
            · cases hd; omega
      rw [e1]
      have e2 : (FloatKind.f64.decode (FloatKind.f64.format.word s (FloatKind.f64.format.infRung + t % FloatKind.f64.format.binade))).isNaN = true := by
        refine read_nan _ _ ?_ (exp_ok .f64)
        rw [rung_word _ _ hlt, f64_bn, Nat.mod_eq_of_lt (by omega)]; omega
      cases hq : FloatKind.f64.decode (FloatKind.f64.format.word s (FloatKind.f64.format.infRung + t % FloatKind.f64.format.binade)) with
      | nan => rfl
      | number => rw [hq] at e2; cases e2
      | infinity => rw [hq] at e2; cases e2

section
variable {P : Program} {ops : Array Oper} {rest : List Oper} {a : Act} {w : World} {Q : Exit → Act → World → Prop} {dst : Option Tmp} {ty : TypeId} {x : Operand} {pos : String} {after : Array Edge}
/-- THE WALK's LAW: a single as a double. -/
theorem wpList_up {src d : TypeId} {b : Nat} (hx : a.eval x = .float .f32 b) (hs : P.underlying src = some (.float .f32)) (hd : P.underlying d = some (.float .f64))
    (h : ∀ r n, FR .f64 r (fcv .f32 .f64 (cn .f32 b)) → wpList P ops Q rest (a.put dst (.float .f64 r)) (w.drewN n)) :
    wpList P ops Q ({ dst, op := .convert src d x, type := ty, pos, after, guard := none } :: rest) a w :=
  wpList_fcv hx hs hd (by decide) fun r n _ hf => h r n (by rw [fcv_cn]; exact hf (ovf_up b))
end

/-- An integer as a float: exactly, where it is not too great. -/
theorem ofInt_exact32 (n : Int) (h : n.natAbs ≤ 2 ^ 24) : isNum .f32 (floatOfInt .f32 n) = true ∧ val .f32 (floatOfInt .f32 n) = n := by
  have hb : ((n.natAbs : Nat) : Rat) * (2 : Rat) ^ (0 : Int) < vq FloatKind.f32.format FloatKind.f32.format.infRung := by
    rw [vq_inf32, Rat.zpow_zero, Rat.mul_one]
    have h1 : ((n.natAbs : Nat) : Rat) ≤ ((2 ^ 24 : Nat) : Rat) := Rat.natCast_le_natCast.2 h
    have h2 : ((2 ^ 24 : Nat) : Rat) < (2 : Rat) ^ (128 : Int) := by decide +kernel
    exact rle_lt h1 h2
  obtain ⟨h1, h2, h3⟩ := encode_exact .f32 (decide (n < 0)) n.natAbs 0 h (by decide) hb
  refine ⟨h1, ?_⟩
  unfold val floatOfInt FloatKind.nearest
  rw [h2, h3, Rat.zpow_zero, Rat.mul_one]
  by_cases hn : n < 0
  · rw [decide_eq_true hn, if_pos rfl]
    have : (n : Int) = -(n.natAbs : Int) := by omega
    rw [← Rat.intCast_natCast, ← Rat.intCast_neg, ← this]
  · rw [decide_eq_false hn]
    simp only [Bool.false_eq_true, if_false]
    rw [← Rat.intCast_natCast]
    congr 1; omega
theorem ofInt_exact64 (n : Int) (h : n.natAbs ≤ 2 ^ 53) : isNum .f64 (floatOfInt .f64 n) = true ∧ val .f64 (floatOfInt .f64 n) = n := by
  have hb : ((n.natAbs : Nat) : Rat) * (2 : Rat) ^ (0 : Int) < vq FloatKind.f64.format FloatKind.f64.format.infRung := by
    rw [vq_inf64, Rat.zpow_zero, Rat.mul_one]
    have h1 : ((n.natAbs : Nat) : Rat) ≤ ((2 ^ 53 : Nat) : Rat) := Rat.natCast_le_natCast.2 h
    have h2 : ((2 ^ 53 : Nat) : Rat) < (2 : Rat) ^ (1024 : Int) := by
      rw [← zp_nat]; exact zp_lt (by decide)
    exact rle_lt h1 h2
  obtain ⟨h1, h2, h3⟩ := encode_exact .f64 (decide (n < 0)) n.natAbs 0 h (by decide) hb
  refine ⟨h1, ?_⟩
  unfold val floatOfInt FloatKind.nearest
  rw [h2, h3, Rat.zpow_zero, Rat.mul_one]
  by_cases hn : n < 0
  · rw [decide_eq_true hn, if_pos rfl]
    have : (n : Int) = -(n.natAbs : Int) := by omega
    rw [← Rat.intCast_natCast, ← Rat.intCast_neg, ← this]
  · rw [decide_eq_false hn]
    simp only [Bool.false_eq_true, if_false]
    rw [← Rat.intCast_natCast]
    congr 1; omega

end Go.Proofs.Ytefjkelakecanaa
