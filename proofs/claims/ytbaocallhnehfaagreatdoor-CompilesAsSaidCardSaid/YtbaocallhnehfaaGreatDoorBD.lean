/- What float operations give, in numbers: the exact value but for half of a last place, and exactly it where the format has it. Plain Lean. (with: NearC, Ord, Hash, Off, OffB, Pix, PixB) -/
import Derived.Test.YtbaocallhnehfaaGreatDoorBA
import Derived.Test.YtbaocallhnehfaaGreatDoorBC
import Derived.BigQuiet
import Derived.Test.YtbaocallhnehfaaGreatDoorBB
namespace Go.Proofs.YtbaocallhnehfaaGreatDoor
open Go.RowKit

def emax (k : FloatKind) : Int := match k with | .f32 => 128 | .f64 => 1024
theorem vq_inf (k : FloatKind) : vq k.format k.format.infRung = (2 : Rat) ^ emax k := by cases k; exact vq_inf32; exact vq_inf64
/-- A magnitude with its sign. -/
def sg (neg : Bool) (q : Rat) : Rat := if neg then -q else q
theorem val_sg (k : FloatKind) (b : Nat) : val k b = sg (sgn k.format b) (vq k.format (rung k.format b)) := rfl
theorem zp_lt_iff {a b : Int} (h : (2 : Rat) ^ a < (2 : Rat) ^ b) : a < b := by
  rcases Int.lt_or_le a b with h' | h'
  · exact h'
  · have := zp_le h'; grind
theorem log_le (mag : Nat) (place : Int) (hm : 0 < mag) : (2 : Rat) ^ (place + mag.log2) ≤ (mag : Rat) * (2 : Rat) ^ place := by
  have h1 : 2 ^ mag.log2 ≤ mag := Nat.log2_self_le (by omega)
  have h2 : ((2 ^ mag.log2 : Nat) : Rat) ≤ (mag : Rat) := Rat.natCast_le_natCast.2 h1
  have h3 := Rat.mul_le_mul_of_nonneg_right h2 (Rat.le_of_lt (zp_pos place))
  rw [zp_add, zp_nat, Rat.mul_comm]; exact h3

theorem nearest_rn (k : FloatKind) (neg : Bool) (mag : Nat) (place K : Int) (hlo : k.format.leastPlace + k.format.fractionBits + 1 ≤ K) (hhi : K < emax k) (hq : (mag : Rat) * (2 : Rat) ^ place < (2 : Rat) ^ K) :
    isNum k (k.format.nearest neg mag place) = true ∧ sgn k.format (k.format.nearest neg mag place) = neg ∧
    2 * vq k.format (rung k.format (k.format.nearest neg mag place)) ≤ 2 * ((mag : Rat) * (2 : Rat) ^ place) + (2 : Rat) ^ (K - 1 - k.format.fractionBits) ∧
    2 * ((mag : Rat) * (2 : Rat) ^ place) ≤ 2 * vq k.format (rung k.format (k.format.nearest neg mag place)) + (2 : Rat) ^ (K - 1 - k.format.fractionBits) ∧
    (∀ (m : Nat) (e : Int), m < 2 ^ (k.format.fractionBits + 1) → k.format.leastPlace ≤ e → (mag : Rat) * (2 : Rat) ^ place = (m : Rat) * (2 : Rat) ^ e → vq k.format (rung k.format (k.format.nearest neg mag place)) = (mag : Rat) * (2 : Rat) ^ place) := by
  have hsw := k.format.infRung_lt
  have hcp := zp_pos (K - 1 - k.format.fractionBits)
  rcases Nat.eq_zero_or_pos mag with h | h
  · subst h
    have hi : 0 < k.format.infRung := Nat.lt_of_lt_of_le (binade_pos _) (binade_le_inf _ (exp_ok k))
    have e : k.format.nearest neg 0 place = k.format.word neg 0 := rfl
    have z : ((0 : Nat) : Rat) * (2 : Rat) ^ place = 0 := by rw [show ((0 : Nat) : Rat) = 0 from rfl]; exact Rat.zero_mul _
    rw [e, z, rung_word _ _ (by omega), vq_zero]
    refine ⟨?_, sgn_word _ _ (by omega), by grind, by grind, fun _ _ _ _ _ => rfl⟩
    unfold isNum; rw [rung_word _ _ (by omega)]; simpa using hi
  · obtain ⟨r, hr, h1, h2, hx⟩ := nearest_spec k.format (frac_ok k) neg mag place h
    have hlog := log_le mag place h
    have hL : lastOf k.format mag place ≤ K - 1 - k.format.fractionBits := by
      have := zp_lt_iff (rle_lt hlog hq)
      unfold lastOf; omega
    have hc := zp_le hL
    have hlt : r < k.format.infRung := by
      refine (vq_lt_iff k.format).1 ?_
      rw [vq_inf]
      have h3 : (2 : Rat) ^ (K - 1 - k.format.fractionBits) ≤ (2 : Rat) ^ K := zp_le (by omega)
      have h4 : (2 : Rat) ^ (K + 1) ≤ (2 : Rat) ^ emax k := zp_le (by omega)
      have h5 : (2 : Rat) ^ (K + 1) = (2 : Rat) ^ K * 2 := by
        rw [zp_add]; have : (2 : Rat) ^ (1 : Int) = 2 := by decide +kernel
        rw [this]
      grind
    have e : k.format.nearest neg mag place = k.format.word neg r := by rw [hr, Nat.min_eq_left (by omega)]
    rw [e, rung_word _ _ (by omega)]
    refine ⟨?_, sgn_word _ _ (by omega), by grind, by grind, fun m e hm he hme => ?_⟩
    · unfold isNum; rw [rung_word _ _ (by omega)]; simpa using hlt
    · have hle : lastOf k.format mag place ≤ e := by
        have h3 : (m : Rat) < ((2 ^ (k.format.fractionBits + 1) : Nat) : Rat) := Rat.natCast_lt_natCast.2 hm
        have h4 := Rat.mul_lt_mul_of_pos_right h3 (zp_pos e)
        rw [← hme, ← zp_nat, ← zp_add] at h4
        have := zp_lt_iff (rle_lt hlog h4)
        unfold lastOf; omega
      obtain ⟨c, hc'⟩ : ∃ c : Nat, e = lastOf k.format mag place + c := ⟨(e - lastOf k.format mag place).toNat, by omega⟩
      refine hx (m * 2 ^ c) ?_
      rw [hme, Rat.natCast_mul, ← zp_nat, Rat.mul_assoc, ← zp_add]
      congr 2; omega

/-- 'b' is what the number 'q' becomes in the format: a number, at most half of a last place away, and exact where the format has it. -/
structure Rn (k : FloatKind) (q : Rat) (b : Nat) : Prop where
  num : isNum k b = true
  near : ∀ K : Int, k.format.leastPlace + k.format.fractionBits + 1 ≤ K → K < emax k → -((2 : Rat) ^ K) < q → q < (2 : Rat) ^ K → 2 * val k b ≤ 2 * q + (2 : Rat) ^ (K - 1 - k.format.fractionBits) ∧ 2 * q ≤ 2 * val k b + (2 : Rat) ^ (K - 1 - k.format.fractionBits)
  exact : ∀ (s : Bool) (m : Nat) (e : Int), m < 2 ^ (k.format.fractionBits + 1) → k.format.leastPlace ≤ e → q = sg s ((m : Rat) * (2 : Rat) ^ e) → val k b = q
theorem mag_nonneg (m : Nat) (e : Int) : 0 ≤ (m : Rat) * (2 : Rat) ^ e := Rat.mul_nonneg (Rat.natCast_nonneg) (Rat.le_of_lt (zp_pos e))
theorem nearest_Rn (k : FloatKind) (neg : Bool) (mag : Nat) (place K : Int) {q : Rat} (hlo : k.format.leastPlace + k.format.fractionBits + 1 ≤ K) (hhi : K < emax k) (hq : q = sg neg ((mag : Rat) * (2 : Rat) ^ place)) (h1 : -((2 : Rat) ^ K) < q) (h2 : q < (2 : Rat) ^ K) :
    Rn k q (k.format.nearest neg mag place) := by
  have h0 := mag_nonneg mag place
  have hK : (mag : Rat) * (2 : Rat) ^ place < (2 : Rat) ^ K := by
    subst hq; unfold sg at h1 h2; split at h1 <;> split at h2 <;> grind
  obtain ⟨g1, g2, -, -, -⟩ := nearest_rn k neg mag place K hlo hhi hK
  refine ⟨g1, fun L a b c d => ?_, fun s m e a b c => ?_⟩
  · have hL : (mag : Rat) * (2 : Rat) ^ place < (2 : Rat) ^ L := by
      subst hq; unfold sg at c d; split at c <;> split at d <;> grind
    obtain ⟨-, -, g3, g4, -⟩ := nearest_rn k neg mag place L a b hL
    rw [val_sg, g2, hq]; unfold sg
    split <;> grind
  · obtain ⟨-, -, -, -, g5⟩ := nearest_rn k neg mag place K hlo hhi hK
    have h3 := mag_nonneg m e
    rw [val_sg, g2, hq]
    have h4 : (mag : Rat) * (2 : Rat) ^ place = (m : Rat) * (2 : Rat) ^ e := by
      rw [hq] at c; unfold sg at c; split at c <;> split at c <;> grind
    rw [g5 m e a b h4]

theorem signed_val (s : Bool) (m u : Nat) : (Ieee.signed s m u : Rat) = sg s ((m : Rat) * ((2 ^ u : Nat) : Rat)) := by
  unfold Ieee.signed sg
  split <;> simp [Nat.shiftLeft_eq, Rat.intCast_natCast]
theorem sum_word {k : FloatKind} {s t : Bool} {m n : Nat} {i j : Int} {d1 d2 : Ieee.Datum} (h1 : d1 = .number s m i) (h2 : d2 = .number t n j) :
    ∃ neg mag place, ((d1.sum d2).map k.format.write) = some (k.format.nearest neg mag place) ∧ sg s ((m : Rat) * (2 : Rat) ^ i) + sg t ((n : Rat) * (2 : Rat) ^ j) = sg neg ((mag : Rat) * (2 : Rat) ^ place) := by
  subst h1 h2
  refine ⟨_, _, _, rfl, ?_⟩
  obtain ⟨a, ha⟩ : ∃ a : Nat, a = (i - min i j).toNat := ⟨_, rfl⟩
  obtain ⟨b, hb⟩ : ∃ b : Nat, b = (j - min i j).toNat := ⟨_, rfl⟩
  have e1 : (2 : Rat) ^ i = ((2 ^ a : Nat) : Rat) * (2 : Rat) ^ (min i j) := by rw [← zp_nat, ← zp_add]; congr 1; omega
  have e2 : (2 : Rat) ^ j = ((2 ^ b : Nat) : Rat) * (2 : Rat) ^ (min i j) := by rw [← zp_nat, ← zp_add]; congr 1; omega
  rw [← ha, ← hb]
  have e3 : sg s ((m : Rat) * (2 : Rat) ^ i) + sg t ((n : Rat) * (2 : Rat) ^ j) = ((Ieee.signed s m a + Ieee.signed t n b : Int) : Rat) * (2 : Rat) ^ (min i j) := by
    rw [Rat.intCast_add, signed_val, signed_val, e1, e2]
    cases s <;> cases t <;> simp [sg] <;> grind
  rw [e3]
  generalize Ieee.signed s m a + Ieee.signed t n b = T
  generalize (2 : Rat) ^ (min i j) = c
  rcases Int.lt_trichotomy T 0 with h | h | h
  · rw [if_neg (by omega), decide_eq_true h]
    have : ((T.natAbs : Nat) : Rat) = -(T : Rat) := by
      have e : T = -(T.natAbs : Int) := by omega
      conv => rhs; rw [e]
      rw [Rat.intCast_neg, Rat.neg_neg, Rat.intCast_natCast]
    rw [this]; unfold sg; rw [if_pos rfl]; grind
  · subst h; simp [sg]
  · rw [if_neg (by omega), decide_eq_false (by omega)]
    have : ((T.natAbs : Nat) : Rat) = (T : Rat) := by
      have e : T = (T.natAbs : Int) := by omega
      conv => rhs; rw [e]
      rw [Rat.intCast_natCast]
    rw [this]; unfold sg; simp
theorem fop_sub_num {k : FloatKind} {x y : Nat} (hx : isNum k x = true) (hy : isNum k y = true) (K : Int) (hlo : k.format.leastPlace + k.format.fractionBits + 1 ≤ K) (hhi : K < emax k) (h1 : -((2 : Rat) ^ K) < val k x - val k y) (h2 : val k x - val k y < (2 : Rat) ^ K) :
    Rn k (val k x - val k y) (fop .sub k x y) := by
  obtain ⟨m, e, d1, v1, -, -⟩ := decode_num hx
  obtain ⟨n, j, d2, v2, -, -⟩ := decode_num hy
  have d3 : (k.decode y).opposite = .number (!sgn k.format y) n j := by rw [d2]; rfl
  obtain ⟨neg, mag, place, g, hv⟩ := sum_word (k := k) d1 d3
  have hf : fop .sub k x y = k.format.nearest neg mag place := by
    have h : floatBits .sub k x y = some (k.format.nearest neg mag place) := g
    unfold fop; rw [h]; rfl
  rw [hf]
  refine nearest_Rn k _ _ _ K hlo hhi ?_ h1 h2
  rw [val_sg, val_sg, ← v1, ← v2, ← hv]
  cases sgn k.format x <;> cases sgn k.format y <;> simp [sg] <;> grind

/-- .. of a quotient: at most a last place away (the true word is within half of one), and exact where the format has it. -/
structure Rq (k : FloatKind) (q : Rat) (b : Nat) : Prop where
  num : isNum k b = true
  near : ∀ K : Int, k.format.leastPlace + k.format.fractionBits + 1 ≤ K → K < emax k → -((2 : Rat) ^ K) < q → q < (2 : Rat) ^ K → val k b ≤ q + (2 : Rat) ^ (K - 1 - k.format.fractionBits) ∧ q ≤ val k b + (2 : Rat) ^ (K - 1 - k.format.fractionBits)
  exact : ∀ (s : Bool) (m : Nat) (e : Int), m < 2 ^ (k.format.fractionBits + 1) → k.format.leastPlace ≤ e → q = sg s ((m : Rat) * (2 : Rat) ^ e) → val k b = q
end Go.Proofs.YtbaocallhnehfaaGreatDoor

namespace Go.Proofs.YtbaocallhnehfaaGreatDoor
open Go.RowKit

end Go.Proofs.YtbaocallhnehfaaGreatDoor

namespace Go.Proofs.YtbaocallhnehfaaGreatDoor
open Go.RowKit
theorem and_low (k : IntKind) (x : Int) (n : Nat) (hn : (2 : Int) ^ n ≤ 2 ^ 31) (hk : k = .i64 ∨ k = .u64 ∨ k = .u32 ∨ k = .u8) (hx : n ≤ 7) : bits .and k x ((2 : Int) ^ n - 1) = x % 2 ^ n := by
  have key : ∀ W : Nat, n ≤ W → ((BitVec.ofInt W x &&& BitVec.ofInt W ((2 : Int) ^ n - 1)).toNat : Int) = x % 2 ^ n := fun W hW => by
    have hp : (0 : Int) < 2 ^ n := Int.pow_pos (by decide)
    have e1 : (BitVec.ofInt W ((2 : Int) ^ n - 1)).toNat = 2 ^ n - 1 := by
      have h1 : ((2 ^ n : Nat) : Int) = (2 : Int) ^ n := by simp
      have h2 : ((2 ^ W : Nat) : Int) = (2 : Int) ^ W := by simp
      have h3 : (2 : Nat) ^ n ≤ 2 ^ W := Nat.pow_le_pow_right (by decide) hW
      rw [BitVec.toNat_ofInt, Int.emod_eq_of_lt (by omega) (by omega)]
      omega
    rw [BitVec.toNat_and, e1, Nat.and_two_pow_sub_one_eq_mod, BitVec.toNat_ofInt]
    have hd : (2 : Int) ^ n ∣ 2 ^ W := by
      obtain ⟨c, rfl⟩ := Nat.exists_eq_add_of_le hW
      exact ⟨2 ^ c, by rw [Int.pow_add]⟩
    have hw : (0 : Int) < 2 ^ W := Int.pow_pos (by decide)
    have h2 : ((2 ^ W : Nat) : Int) = (2 : Int) ^ W := by simp
    rw [h2]
    have := Int.emod_nonneg x (Int.ne_of_gt hw)
    rw [Int.natCast_emod, Int.toNat_of_nonneg this]
    simp only [Int.natCast_pow, Int.cast_ofNat_Int]
    exact Int.emod_emod_of_dvd _ hd
  have h128 : (2 : Int) ^ n ≤ 128 := by
    have : (2 : Nat) ^ n ≤ 2 ^ 7 := Nat.pow_le_pow_right (by decide) hx
    have h1 : ((2 ^ n : Nat) : Int) = (2 : Int) ^ n := by simp
    omega
  have hp : (0 : Int) < 2 ^ n := Int.pow_pos (by decide)
  have l0 := Int.emod_nonneg x (Int.ne_of_gt hp)
  have l1 := Int.emod_lt_of_pos x hp
  rcases hk with rfl | rfl | rfl | rfl <;> unfold bits <;> simp only <;> rw [key _ (by show n ≤ _; simp [IntKind.bits]; omega)] <;> simp only [IntKind.wrap_i64, IntKind.wrap_u64, IntKind.wrap_u32, IntKind.wrap_u8] <;> omega
/-- The rank of a place of the ordered matrix, of remainders by 8. -/
def ordZ (a b : Int) : Int :=
  bits .and .i64 (bits .xor .i64 a b) 1 * 32 + bits .and .i64 b 1 * 16 + bits .and .i64 (bits .xor .i64 a b / 2) 1 * 8 + bits .and .i64 (b / 2) 1 * 4 + bits .and .i64 (bits .xor .i64 a b / 4) 1 * 2 + bits .and .i64 (b / 4) 1
end Go.Proofs.YtbaocallhnehfaaGreatDoor

namespace Go.Proofs.YtbaocallhnehfaaGreatDoor
open Go.RowKit
/-- One round of the hash. -/
def hmix (h i : Int) : Int :=
  let a := (h + i) % 4294967296 * 2246822507 % 4294967296
  let b := bits .xor .u32 a (a / 8192) * 3266489909 % 4294967296
  bits .xor .u32 b (b / 65536)
/-- The hash of a seed and three integers. -/
def hashZ (s x y n : Int) : Int := hmix (hmix (hmix (bits .xor .u32 s 2654435769) x) y) n
end Go.Proofs.YtbaocallhnehfaaGreatDoor

namespace Go.Proofs.YtbaocallhnehfaaGreatDoor
open Go.RowKit

/-- The single of a hash. -/
def unitF (h : Int) : Nat := fop .mul .f32 (floatOfInt .f32 (h / 256)) 864026624
/-- The offset of a kind. -/
def offF (how s x y c : Int) : Nat :=
  if how = 1 then fop .sub .f32 (fop .quo .f32 (fop .add .f32 (floatOfInt .f32 (ordZ (x % 8) (y % 8))) 1056964608) 1115684864) 1056964608
  else if how = 2 then fop .sub .f32 (unitF (hashZ s x y c)) 1056964608
  else 0
end Go.Proofs.YtbaocallhnehfaaGreatDoor

namespace Go.Proofs.YtbaocallhnehfaaGreatDoor
open Go.RowKit
end Go.Proofs.YtbaocallhnehfaaGreatDoor

namespace Go.Proofs.YtbaocallhnehfaaGreatDoor
open Go.RowKit

theorem ret_f {k : FloatKind} {a b : Nat} (h : a = b) : Ending.returned (.float k a) = .returned (.float k b) := by rw [h]
theorem nan32 : nanOf .f32 = 2143289344 := by decide +kernel
theorem cn_ne {v : Nat} (h : (FloatKind.f32.format.order v v != some .eq) = true) : (2143289344 : Nat) = cn .f32 v := by
  rw [ord_self_ne] at h; rw [cn_of_nan h, nan32]
theorem cn_nn {v : Nat} (h : (FloatKind.f32.format.order v v != some .eq) = false) : v = cn .f32 v := by
  rw [ord_self_ne] at h; rw [cn_of_not h]
set_option maxHeartbeats 400000 in
theorem Clean_any (v : Nat) (w : World) : Calls Tryz.prog 116 #[.float .f32 v] w fun e w' => e = .returned (.float .f32 (cn .f32 v)) ∧ w = w' := by
  go_enter Tryz.func116, Tryz.ntmps116
  go_wp2
  · go_ret; exact ⟨ret_f (cn_ne (by assumption)), rfl⟩
  · go_ret; exact ⟨ret_f (cn_nn (by assumption)), rfl⟩
set_option maxHeartbeats 400000 in
theorem TheNaN_any (w : World) : Calls Tryz.prog 76 #[] w fun e w' => e = .returned (.float .f32 2143289344) ∧ w = w' := by
  go_enter Tryz.func76, Tryz.ntmps76
  go_wp2
  go_ret
  exact ⟨rfl, rfl⟩
set_option maxHeartbeats 400000 in
theorem Fix_any (v : Nat) (w : World) : Calls Tryz.prog 51 #[.float .f32 v] w fun e w' => e = .returned (.float .f32 (cn .f32 v)) ∧ w = w' := by
  go_enter Tryz.func51, Tryz.ntmps51
  go_wp2_with (first | (go_at_call 76; refine (TheNaN_any _).mono ?_; rintro e w' ⟨rfl, rfl⟩))
  · go_ret; exact ⟨ret_f (cn_ne (by assumption)), rfl⟩
  · go_ret; exact ⟨ret_f (cn_nn (by assumption)), rfl⟩
set_option maxHeartbeats 400000 in
theorem BitsOf_any (v : Nat) (w : World) : Calls Tryz.prog 27 #[.float .f32 v] w fun e w' => e = .returned (.int .u32 (cn .f32 v)) ∧ w = w' := by
  go_enter Tryz.func27, Tryz.ntmps27
  go_wp2_with (first | (go_at_call 51; refine (Fix_any _ _).mono ?_; rintro e w' ⟨rfl, rfl⟩))
  go_ret
  exact ⟨rfl, rfl⟩
set_option maxHeartbeats 400000 in
theorem Bit_any (u v : Nat) (w : World) : Calls Tryz.prog 12 #[.float .f32 u, .float .f32 v] w fun e w' => e = .returned (.bool (decide (cn .f32 u = cn .f32 v))) ∧ w = w' := by
  go_enter Tryz.func12, Tryz.ntmps12
  go_wp2_with (first | (go_at_call 27; refine (BitsOf_any _ _).mono ?_; rintro e w' ⟨rfl, rfl⟩))
  go_ret
  refine ⟨ret_b ?_, rfl⟩
  rw [Bool.eq_iff_iff]; simp; omega
/-- A value within bounds. -/
def limF (v lo hi : Nat) : Nat := if FloatKind.f32.format.order v lo == some .lt then cn .f32 lo else if FloatKind.f32.format.order v hi == some .gt then cn .f32 hi else cn .f32 v
set_option maxHeartbeats 400000 in
theorem Limit_any (v lo hi : Nat) (w : World) : Calls Tryz.prog 148 #[.float .f32 v, .float .f32 lo, .float .f32 hi] w fun e w' => e = .returned (.float .f32 (limF v lo hi)) ∧ w = w' := by
  go_enter Tryz.func148, Tryz.ntmps148
  go_wp2_with (first | (go_at_call 116; refine (Clean_any _ _).mono ?_; rintro e w' ⟨rfl, rfl⟩))
  all_goals (go_ret; refine ⟨ret_f ?_, rfl⟩; unfold limF; simp only [*]; simp)
end Go.Proofs.YtbaocallhnehfaaGreatDoor

namespace Go.Proofs.YtbaocallhnehfaaGreatDoor
open Go.RowKit

theorem isNum_code (v : Nat) : isNum .f32 v = ((FloatKind.f32.format.order v v == some .eq) && !((FloatKind.f32.format.order v 2139095039 == some .gt) || (FloatKind.f32.format.order v 4286578687 == some .lt))) := by
  have k1 : key FloatKind.f32.format 2139095039 = 2139095039 := by decide +kernel
  have k2 : key FloatKind.f32.format 4286578687 = -2139095039 := by decide +kernel
  have n1 : isN .f32 2139095039 = false := by decide +kernel
  have n2 : isN .f32 4286578687 = false := by decide +kernel
  rw [ord_self_eq]
  cases h : isN .f32 v with
  | true =>
    cases hn : isNum .f32 v with
    | true => rw [isNum_not_nan hn] at h; cases h
    | false => rfl
  | false =>
    rw [ord_gt h n1, ord_lt h n2, k1, k2, Bool.eq_iff_iff]
    unfold isNum key
    rw [isN_rung] at h
    rw [f32_ir] at *
    simp only [decide_eq_false_iff_not] at h
    simp
    split <;> omega
theorem sub_self_num {v : Nat} (h : isNum .f32 v = true) : isNum .f32 (fop .sub .f32 v v) = true ∧ val .f32 (fop .sub .f32 v v) = 0 := by
  have e : val .f32 v - val .f32 v = 0 := by grind
  have p := zp_pos 1
  have := fop_sub_num h h 1 (by decide) (by decide) (by rw [e]; grind) (by rw [e]; grind)
  rw [e] at this
  refine ⟨this.num, this.exact false 0 0 (by decide) (by decide) (by simp [sg])⟩
theorem sub_self_not {v : Nat} (h : isNum .f32 v = false) : isN .f32 (fop .sub .f32 v v) = true := by
  have hx : ∀ s m e, FloatKind.f32.decode v ≠ .number s m e := fun s m e hd => by
    rw [isNum_decode.2 ⟨s, m, e, hd⟩] at h; cases h
  have hn : floatBits .sub .f32 v v = none := by
    have hd : FloatKind.f32.decode v = FloatKind.f32.format.read v := rfl
    unfold floatBits Ieee.Format.sub
    simp only []
    rw [hd] at hx
    cases hr : FloatKind.f32.format.read v with
    | number s m e => exact absurd hr (hx s m e)
    | nan s t => rfl
    | infinity s => cases s <;> rfl
  unfold fop; rw [hn]; exact isN_nanOf _
theorem isNum_ref {v r : Nat} (h : FR .f32 r (fop .sub .f32 (cn .f32 v) (cn .f32 v))) : (FloatKind.f32.format.order r 0 == some .eq) = isNum .f32 v := by
  rw [fop_cn_left, fop_cn_right] at h
  cases hn : isNum .f32 v with
  | true =>
    obtain ⟨a, b⟩ := sub_self_num hn
    rw [FR.exact h (isNum_not_nan a)]
    have z : isN .f32 0 = false := by decide +kernel
    rw [ord_eq (isNum_not_nan a) z, decide_eq_true_eq]
    have e1 := val_le_key (k := .f32) (x := fop .sub .f32 v v) (y := 0)
    have e2 := val_le_key (k := .f32) (x := 0) (y := fop .sub .f32 v v)
    have v0 : val .f32 0 = 0 := by decide +kernel
    rw [b, v0] at e1 e2
    have := e1.1 Rat.le_refl
    have := e2.1 Rat.le_refl
    omega
  | false =>
    have hN := sub_self_not hn
    have e : isN .f32 r = true := by
      rw [← isN_cn, h.eq]; exact hN
    rw [ord_nan_l _ e]; rfl
set_option maxHeartbeats 400000 in
theorem infinite_any (v : Nat) (w : World) : Calls Tryz.prog 115 #[.float .f32 v] w fun e w' => e = .returned (.bool ((FloatKind.f32.format.order v 2139095039 == some .gt) || (FloatKind.f32.format.order v 4286578687 == some .lt))) ∧ w = w' := by
  go_enter Tryz.func115, Tryz.ntmps115
  go_wp2
  all_goals (go_ret; refine ⟨ret_b ?_, rfl⟩; simp [*])
set_option maxHeartbeats 400000 in
theorem IsNumber_any (v : Nat) (w : World) : Calls Tryz.prog 85 #[.float .f32 v] w fun e w' => e = .returned (.bool (isNum .f32 v)) ∧ w = w' := by
  go_enter Tryz.func85, Tryz.ntmps85
  go_wp2_with (first | (go_at_call 115; refine (infinite_any _ _).mono ?_; rintro e w' ⟨rfl, rfl⟩))
  all_goals (go_ret; refine ⟨ret_b ?_, rfl⟩; rw [isNum_code]; simp [*])
set_option maxHeartbeats 400000 in
theorem IsNumberR_any (v : Nat) (w : World) : Calls Tryz.prog 37 #[.float .f32 v] w fun e w' => e = .returned (.bool (isNum .f32 v)) ∧ ∃ n, w' = w.drewN n := by
  go_enter Tryz.func37, Tryz.ntmps37
  go_wp2_with (first | ((with_reducible apply wpList_farith); rfl; rfl; rfl; intro _ _ _) | ((with_reducible apply wpList_up); rfl; exact Tryz.underlying41; exact Tryz.underlying157; intro _ _ _))
  rename_i hr
  go_ret
  exact ⟨ret_b (isNum_ref hr), _, rfl⟩
/-- Whether all of the first n are numbers. -/
def allNum : List Nat → Bool
  | [] => true
  | v :: l => isNum .f32 v && allNum l
set_option maxHeartbeats 800000 in
theorem AllNumbers_any (b off n cap : Nat) (vs : List Nat) (w : World) (hn : vs.length = n) (hb : n ≤ 1000000) (hc : ∀ i, i < n → w.cell? ⟨b, off + i, none⟩ = some (.float .f32 (vs.getD i 0))) :
    Calls Tryz.prog 54 #[.slice (some ⟨b, off, none⟩) n cap] w fun e w' => e = .returned (.bool (allNum vs)) ∧ w = w' := by
  go_enter Tryz.func54, Tryz.ntmps54
  go_wp2
  go_loopw [7] (fun i wr => ∃ k : Nat, k ≤ n ∧ i = .int .i64 k ∧ wr = w ∧ allNum vs = allNum (vs.drop k)) (fun i _ => n - (intOf i).toNat)
  case atStart => exact ⟨0, Nat.zero_le _, rfl, rfl, rfl⟩
  case round =>
    obtain ⟨k, hk, rfl, rfl, hall⟩ := hrel
    by_cases hkn : k < n
    · have hcx := hc k hkn
      obtain ⟨l, hl⟩ : ∃ l, vs.drop k = vs.getD k 0 :: l ∧ l = vs.drop (k + 1) := ⟨vs.drop (k + 1), by rw [List.drop_eq_getElem_cons (by omega)]; simp [List.getElem?_eq_getElem (show k < vs.length by omega)], rfl⟩
      rw [hl.1] at hall
      have hl2 := hl.2
      clear hl hc
      generalize vs.getD k 0 = z at *
      have hall' := Lib.hid hall; clear hall
      cases hz : isNum .f32 z
      · go_wp2_with (first | (go_at_call 85; refine (IsNumber_any _ _).mono ?_; rintro e w' ⟨rfl, rfl⟩))
        go_ret
        refine ⟨ret_b ?_, rfl⟩
        rw [hall'.out]; simp [allNum, hz]
      · go_wp2_with (first | (go_at_call 85; refine (IsNumber_any _ _).mono ?_; rintro e w' ⟨rfl, rfl⟩))
        go_roundw
        case rel => exact ⟨k + 1, by omega, by first | rfl | simp, by first | rfl | trivial, by rw [hall'.out, ← hl2]; simp [allNum, hz]⟩
        case measure => simp [intOf]; omega
    · have hkn' : k = n := by omega
      subst hkn'
      go_wp2
      go_ret
      refine ⟨ret_b ?_, rfl⟩
      rw [hall, List.drop_of_length_le (by omega)]; rfl
end Go.Proofs.YtbaocallhnehfaaGreatDoor
