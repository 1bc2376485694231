/- Floor of singles by way of doubles: it overflows nowhere, and what it is. No condition. -/
import Derived.Test.YtmnmcmmhnbnndaaHueE
namespace Go.Proofs.Ytmnmcmmhnbnndaa
open Go Go.RowKit
theorem run_fcv2 {P : Program} {s k : FloatKind} (hne : s ≠ k) (b : Nat) (w : World) (ho : isNum s b = true → ovf s k b = false) :
    ∃ r n, (Conv.floatToFloat s b k).run P w = .ok (.float k r) (w.drewN n) ∧ FR k r (fcv s k b) := by
  cases hd : s.decode b with
  | nan sg t =>
    have hn := nan_cut_conv k b (w.tape w.drawn (.nanConv k b))
    have hi : isN s b = true := by unfold isN; rw [hd]; rfl
    unfold Conv.floatToFloat
    rw [if_neg hne, hd]
    exact ⟨_, 1, rfl, by rw [cn_of_nan hn.1]; unfold fcv; rw [if_pos hi], hn.2⟩
  | infinity sg =>
    obtain ⟨r, n, h1, -, h2⟩ := run_fcv (P := P) hne b w
    exact ⟨r, n, h1, h2 (by unfold ovf; rw [hd]; rfl)⟩
  | number sg m e =>
    obtain ⟨r, n, h1, -, h2⟩ := run_fcv (P := P) hne b w
    exact ⟨r, n, h1, h2 (ho (isNum_decode.2 ⟨sg, m, e, hd⟩))⟩
section
variable {P : Program} {ops : Array Oper} {rest : List Oper} {a : Act} {w : World} {Q : Exit → Act → World → Prop} {dst : Option Tmp} {ty : TypeId} {x : Operand} {pos : String} {after : Array Edge}
theorem wpList_down {src d : TypeId} {b : Nat} (hx : a.eval x = .float .f64 b) (hs : P.underlying src = some (.float .f64)) (hd : P.underlying d = some (.float .f32)) (ho : isNum .f64 b = true → ovf .f64 .f32 b = false)
    (h : ∀ r n, FR .f32 r (fcv .f64 .f32 b) → wpList P ops Q rest (a.put dst (.float .f32 r)) (w.drewN n)) :
    wpList P ops Q ({ dst, op := .convert src d x, type := ty, pos, after, guard := none } :: rest) a w := by
  refine wpList_plain rfl fun K hK => ?_
  obtain ⟨r, n, hr, hf⟩ := run_fcv2 (P := P) (show FloatKind.f64 ≠ .f32 by decide) b w ho
  unfold Oper.wp execOp
  simp only [hx, Sem.run_bind, Sem.run_pure, Result.andThen_ok, convert_ff hs hd, hr]
  exact hK _ _ (h r n hf)
end
/-- A number that the format has, told by any magnitude and place: it is that number. -/
theorem nearest_val (k : FloatKind) (neg : Bool) (mag : Nat) (place : Int) (m : Nat) (e : Int) (hq : (mag : Rat) * (2 : Rat) ^ place = (m : Rat) * (2 : Rat) ^ e) (hm : m < 2 ^ (k.format.fractionBits + 1)) (he : k.format.leastPlace ≤ e) (hi : (m : Rat) * (2 : Rat) ^ e < vq k.format k.format.infRung) :
    isNum k (k.encode (.number neg mag place)) = true ∧ sgn k.format (k.encode (.number neg mag place)) = neg ∧ vq k.format (rung k.format (k.encode (.number neg mag place))) = (m : Rat) * (2 : Rat) ^ e := by
  have hsw := k.format.infRung_lt
  have e0 : k.encode (.number neg mag place) = k.format.nearest neg mag place := rfl
  rw [e0]
  rcases Nat.eq_zero_or_pos mag with h | h
  · subst h
    have hi : 0 < k.format.infRung := Nat.lt_of_lt_of_le (binade_pos _) (binade_le_inf _ (exp_ok k))
    have e : k.format.nearest neg 0 place = k.format.word neg 0 := rfl
    rw [← hq, e, rung_word _ _ (by omega), vq_zero]
    refine ⟨?_, sgn_word _ _ (by omega), ?_⟩
    · unfold isNum; rw [rung_word _ _ (by omega)]; simpa using hi
    · rw [show ((0 : Nat) : Rat) = 0 from rfl, Rat.zero_mul]
  · obtain ⟨r, hr, -, -, hx⟩ := nearest_spec k.format (frac_ok k) neg mag place h
    have hlog := log_le mag place h
    have hle : lastOf k.format mag place ≤ e := by
      have h3 : (m : Rat) < ((2 ^ (k.format.fractionBits + 1) : Nat) : Rat) := Rat.natCast_lt_natCast.2 hm
      have h4 := Rat.mul_lt_mul_of_pos_right h3 (zp_pos e)
      rw [← hq, ← zp_nat, ← zp_add] at h4
      have := zp_lt_iff (rle_lt hlog h4)
      unfold lastOf; omega
    obtain ⟨c, hc'⟩ : ∃ c : Nat, e = lastOf k.format mag place + c := ⟨(e - lastOf k.format mag place).toNat, by omega⟩
    have hv : vq k.format r = (mag : Rat) * (2 : Rat) ^ place := by
      refine hx (m * 2 ^ c) ?_
      rw [hq, Rat.natCast_mul, ← zp_nat, Rat.mul_assoc, ← zp_add]
      congr 2; omega
    have hlt : r < k.format.infRung := (vq_lt_iff k.format).1 (by rw [hv, hq]; exact hi)
    have e : k.format.nearest neg mag place = k.format.word neg r := by rw [hr, Nat.min_eq_left (by omega)]
    rw [e, rung_word _ _ (by omega)]
    refine ⟨?_, sgn_word _ _ (by omega), by rw [hv, hq]⟩
    unfold isNum; rw [rung_word _ _ (by omega)]; simpa using hlt
/-- Cut downwards: less than one away, and on the right side. -/
theorem cut_down_nat (neg : Bool) (n drop : Nat) : ∃ C, C = Ieee.Toward.down.cut neg n drop ∧ C * 2 ^ drop < n + 2 ^ drop ∧ n < C * 2 ^ drop + 2 ^ drop ∧ (neg = false → C * 2 ^ drop ≤ n) ∧ (neg = true → n ≤ C * 2 ^ drop) := by
  refine ⟨_, rfl, ?_⟩
  unfold Ieee.Toward.cut
  simp only [Nat.one_shiftLeft]
  have hg : 0 < 2 ^ drop := Nat.two_pow_pos _
  by_cases h : drop ≤ n.log2 + 2
  · rw [Nat.min_eq_left h]
    generalize 2 ^ drop = g at *
    have h1 := Nat.div_add_mod n g
    have h2 : n % g < g := Nat.mod_lt _ hg
    have h3 : g * (n / g) = n / g * g := Nat.mul_comm _ _
    rw [h3] at h1
    cases neg
    · simp only [Bool.false_and, Bool.toNat_false, Nat.add_zero]
      and_intros <;> first | omega | (intro h; first | omega | cases h)
    · simp only [Bool.true_and]
      by_cases h4 : n % g = 0
      · have h5 : (n % g != 0) = false := by simpa using h4
        rw [h5]
        simp only [Bool.toNat_false, Nat.add_zero]
        and_intros <;> first | omega | (intro h; first | omega | cases h)
      · have h5 : (n % g != 0) = true := by simpa using h4
        rw [h5]
        simp only [Bool.toNat_true, Nat.add_mul, Nat.one_mul]
        and_intros <;> first | omega | (intro h; first | omega | cases h)
  · rw [Nat.min_eq_right (by omega)]
    have hlt : n < 2 ^ (n.log2 + 2) := Nat.lt_of_lt_of_le Nat.lt_log2_self (Nat.pow_le_pow_right (by decide) (by omega))
    have hle : 2 ^ (n.log2 + 2) ≤ 2 ^ drop := Nat.pow_le_pow_right (by decide) (by omega)
    rw [Nat.div_eq_of_lt hlt, Nat.mod_eq_of_lt hlt]
    generalize 2 ^ drop = g at *
    generalize 2 ^ (n.log2 + 2) = g2 at *
    cases neg
    · simp only [Bool.false_and, Bool.toNat_false, Nat.add_zero, Nat.zero_mul]
      and_intros <;> first | omega | (intro h; first | omega | cases h)
    · by_cases h4 : n = 0
      · subst h4; simp only [bne_self_eq_false, Bool.and_false, Bool.toNat_false, Nat.add_zero, Nat.zero_mul]
        and_intros <;> first | omega | (intro h; first | omega | cases h)
      · have h5 : (n != 0) = true := by simpa using h4
        simp only [h5, Bool.and_true, Bool.toNat_true, Nat.zero_add, Nat.one_mul]
        and_intros <;> first | omega | (intro h; first | omega | cases h)
theorem cut_down {m : Nat} {e : Int} (neg : Bool) : ∃ C : Nat, C = Ieee.Toward.down.cut neg (m <<< e.toNat) (-e).toNat ∧ (C : Rat) < (m : Rat) * (2 : Rat) ^ e + 1 ∧ (m : Rat) * (2 : Rat) ^ e < (C : Rat) + 1 ∧ (neg = false → (C : Rat) ≤ (m : Rat) * (2 : Rat) ^ e) ∧ (neg = true → (m : Rat) * (2 : Rat) ^ e ≤ (C : Rat)) := by
  obtain ⟨C, hC, b1, b2, b3, b4⟩ := cut_down_nat neg (m <<< e.toNat) (-e).toNat
  refine ⟨C, hC, ?_⟩
  clear hC
  rw [Nat.shiftLeft_eq] at b1 b2 b3 b4
  have hc := zp_pos (-((-e).toNat : Int))
  have e1 : (m : Rat) * (2 : Rat) ^ e = ((m * 2 ^ e.toNat : Nat) : Rat) * (2 : Rat) ^ (-((-e).toNat : Int)) := by
    rw [Rat.natCast_mul, ← zp_nat, Rat.mul_assoc, ← zp_add]; congr 2; omega
  have e2 : ((2 ^ (-e).toNat : Nat) : Rat) * (2 : Rat) ^ (-((-e).toNat : Int)) = 1 := by
    rw [← zp_nat, ← zp_add]
    have : ((-e).toNat : Int) + -((-e).toNat : Int) = 0 := by omega
    rw [this, Rat.zpow_zero]
  rw [e1]
  generalize (2 : Rat) ^ (-((-e).toNat : Int)) = c at *
  generalize m * 2 ^ e.toNat = n at *
  generalize 2 ^ (-e).toNat = g at *
  have e3 : ((C : Rat) * (g : Rat)) * c = (C : Rat) := by rw [Rat.mul_assoc, e2, Rat.mul_one]
  have c1 := Rat.mul_lt_mul_of_pos_right (Rat.natCast_lt_natCast.2 b1) hc
  have c2 := Rat.mul_lt_mul_of_pos_right (Rat.natCast_lt_natCast.2 b2) hc
  simp only [Rat.natCast_add, Rat.natCast_mul, Rat.add_mul, e2, e3] at c1 c2
  refine ⟨c1, c2, fun h => ?_, fun h => ?_⟩
  · have := Rat.mul_le_mul_of_nonneg_right (Rat.natCast_le_natCast.2 (b3 h)) (Rat.le_of_lt hc)
    simp only [Rat.natCast_mul, e3] at this
    exact this
  · have := Rat.mul_le_mul_of_nonneg_right (Rat.natCast_le_natCast.2 (b4 h)) (Rat.le_of_lt hc)
    simp only [Rat.natCast_mul, e3] at this
    exact this
end Go.Proofs.Ytmnmcmmhnbnndaa
