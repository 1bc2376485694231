/- A number that a format has is met by its nearest. Plain Lean. -/
import Derived.Test.YtefjkelakecanaaRn
namespace Go.Proofs.Ytefjkelakecanaa
open Go Go.RowKit
/-- A number that the format has, told by any magnitude and place: it is that number. -/
theorem nearest_val (k : FloatKind) (neg : Bool) (mag : Nat) (place : Int) (m : Nat) (e : Int) (hq : (mag : Rat) * (2 : Rat) ^ place = (m : Rat) * (2 : Rat) ^ e) (hm : m < 2 ^ (k.format.fractionBits + 1)) (he : k.format.leastPlace ≤ e) (hi : (m : Rat) * (2 : Rat) ^ e < vq k.format k.format.infRung) :
    isNum k (k.encode (.number neg mag place)) = true ∧ sgn k.format (k.encode (.number neg mag place)) = neg ∧ vq k.format (rung k.format (k.encode (.number neg mag place))) = (m : Rat) * (2 : Rat) ^ e := by
  have hsw := k.format.infRung_lt
  have e0 : k.encode (.number neg mag place) = k.format.nearest neg mag place := rfl
  rw [e0]
  rcases Nat.eq_zero_or_pos mag with h | h
  · subst h
    have hi : 0 < k.format.infRung := Nat.lt_of_lt_of_le (binade_pos _) (binade_le_inf _ (exp_ok k))
    have e : k.format.nearest neg 0 place = k.format.word neg 0 := rfl
    rw [← hq, e, rung_word _ _ (by omega), vq_zero]
    refine ⟨?_, sgn_word _ _ (by omega), ?_⟩
    · unfold isNum; rw [rung_word _ _ (by omega)]; simpa using hi
    · rw [show ((0 : Nat) : Rat) = 0 from rfl, Rat.zero_mul]
  · obtain ⟨r, hr, -, -, hx⟩ := nearest_spec k.format (frac_ok k) neg mag place h
    have hlog := log_le mag place h
    have hle : lastOf k.format mag place ≤ e := by
      have h3 : (m : Rat) < ((2 ^ (k.format.fractionBits + 1) : Nat) : Rat) := Rat.natCast_lt_natCast.2 hm
      have h4 := Rat.mul_lt_mul_of_pos_right h3 (zp_pos e)
      rw [← hq, ← zp_nat, ← zp_add] at h4
      have := zp_lt_iff (rle_lt hlog h4)
      unfold lastOf; omega
    obtain ⟨c, hc'⟩ : ∃ c : Nat, e = lastOf k.format mag place + c := ⟨(e - lastOf k.format mag place).toNat, by omega⟩
    have hv : vq k.format r = (mag : Rat) * (2 : Rat) ^ place := by
      refine hx (m * 2 ^ c) ?_
      rw [hq, Rat.natCast_mul, ← zp_nat, Rat.mul_assoc, ← zp_add]
      congr 2; omega
    have hlt : r < k.format.infRung := (vq_lt_iff k.format).1 (by rw [hv, hq]; exact hi)
    have e : k.format.nearest neg mag place = k.format.word neg r := by rw [hr, Nat.min_eq_left (by omega)]
    rw [e, rung_word _ _ (by omega)]
    refine ⟨?_, sgn_word _ _ (by omega), by rw [hv, hq]⟩
    unfold isNum; rw [rung_word _ _ (by omega)]; simpa using hlt
theorem fcv_dec {s k : FloatKind} {b : Nat} {d : Ieee.Datum} (h : isN s b = false) (hd : s.decode b = d) : fcv s k b = k.encode d := by
  unfold fcv; rw [if_neg (by rw [h]; decide), hd]
end Go.Proofs.Ytefjkelakecanaa
