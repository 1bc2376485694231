/- A number that a format has is met by its nearest. Plain Lean. (with: Dn, Flo, FloB, Mix) -/
import Derived.Test.YthlomgbchmhjiaaGreatDoorBD
import Derived.Test.YthlomgbchmhjiaaGreatDoorBA
import Derived.Test.YthlomgbchmhjiaaGreatDoorBF
namespace Go.Proofs.YthlomgbchmhjiaaGreatDoor
open Go Go.RowKit
/-- A number that the format has, told by any magnitude and place: it is that number. -/
theorem nearest_val (k : FloatKind) (neg : Bool) (mag : Nat) (place : Int) (m : Nat) (e : Int) (hq : (mag : Rat) * (2 : Rat) ^ place = (m : Rat) * (2 : Rat) ^ e) (hm : m < 2 ^ (k.format.fractionBits + 1)) (he : k.format.leastPlace ≤ e) (hi : (m : Rat) * (2 : Rat) ^ e < vq k.format k.format.infRung) :
    isNum k (k.encode (.number neg mag place)) = true ∧ sgn k.format (k.encode (.number neg mag place)) = neg ∧ vq k.format (rung k.format (k.encode (.number neg mag place))) = (m : Rat) * (2 : Rat) ^ e := by
  have hsw := k.format.infRung_lt
  have e0 : k.encode (.number neg mag place) = k.format.nearest neg mag place := rfl
  rw [e0]
  rcases Nat.eq_zero_or_pos mag with h | h
  · subst h
    have hi : 0 < k.format.infRung := Nat.lt_of_lt_of_le (binade_pos _) (binade_le_inf _ (exp_ok k))
    have e : k.format.nearest neg 0 place = k.format.word neg 0 := rfl
    rw [← hq, e, rung_word _ _ (by omega), vq_zero]
    refine ⟨?_, sgn_word _ _ (by omega), ?_⟩
    · unfold isNum; rw [rung_word _ _ (by omega)]; simpa using hi
    · rw [show ((0 : Nat) : Rat) = 0 from rfl, Rat.zero_mul]
  · obtain ⟨r, hr, -, -, hx⟩ := nearest_spec k.format (frac_ok k) neg mag place h
    have hlog := log_le mag place h
    have hle : lastOf k.format mag place ≤ e := by
      have h3 : (m : Rat) < ((2 ^ (k.format.fractionBits + 1) : Nat) : Rat) := Rat.natCast_lt_natCast.2 hm
      have h4 := Rat.mul_lt_mul_of_pos_right h3 (zp_pos e)
      rw [← hq, ← zp_nat, ← zp_add] at h4
      have := zp_lt_iff (rle_lt hlog h4)
      unfold lastOf; omega
    obtain ⟨c, hc'⟩ : ∃ c : Nat, e = lastOf k.format mag place + c := ⟨(e - lastOf k.format mag place).toNat, by omega⟩
    have hv : vq k.format r = (mag : Rat) * (2 : Rat) ^ place := by
      refine hx (m * 2 ^ c) ?_
      rw [hq, Rat.natCast_mul, ← zp_nat, Rat.mul_assoc, ← zp_add]
      congr 2; omega
    have hlt : r < k.format.infRung := (vq_lt_iff k.format).1 (by rw [hv, hq]; exact hi)
    have e : k.format.nearest neg mag place = k.format.word neg r := by rw [hr, Nat.min_eq_left (by omega)]
    rw [e, rung_word _ _ (by omega)]
    refine ⟨?_, sgn_word _ _ (by omega), by rw [hv, hq]⟩
    unfold isNum; rw [rung_word _ _ (by omega)]; simpa using hlt
theorem fcv_dec {s k : FloatKind} {b : Nat} {d : Ieee.Datum} (h : isN s b = false) (hd : s.decode b = d) : fcv s k b = k.encode d := by
  unfold fcv; rw [if_neg (by rw [h]; decide), hd]
end Go.Proofs.YthlomgbchmhjiaaGreatDoor

namespace Go.Proofs.YthlomgbchmhjiaaGreatDoor
open Go Go.RowKit
theorem run_fcv2 {P : Program} {s k : FloatKind} (hne : s ≠ k) (b : Nat) (w : World) (ho : isNum s b = true → ovf s k b = false) :
    ∃ r n, (Conv.floatToFloat s b k).run P w = .ok (.float k r) (w.drewN n) ∧ FR k r (fcv s k b) := by
  cases hd : s.decode b with
  | nan sg t =>
    have hn := nan_cut_conv k b (w.tape w.drawn (.nanConv k b))
    have hi : isN s b = true := by unfold isN; rw [hd]; rfl
    unfold Conv.floatToFloat
    rw [if_neg hne, hd]
    exact ⟨_, 1, rfl, by rw [cn_of_nan hn.1]; unfold fcv; rw [if_pos hi], hn.2⟩
  | infinity sg =>
    obtain ⟨r, n, h1, -, h2⟩ := run_fcv (P := P) hne b w
    exact ⟨r, n, h1, h2 (by unfold ovf; rw [hd]; rfl)⟩
  | number sg m e =>
    obtain ⟨r, n, h1, -, h2⟩ := run_fcv (P := P) hne b w
    exact ⟨r, n, h1, h2 (ho (isNum_decode.2 ⟨sg, m, e, hd⟩))⟩
section
variable {P : Program} {ops : Array Oper} {rest : List Oper} {a : Act} {w : World} {Q : Exit → Act → World → Prop} {dst : Option Tmp} {ty : TypeId} {x : Operand} {pos : String} {after : Array Edge}
theorem wpList_down {src d : TypeId} {b : Nat} (hx : a.eval x = .float .f64 b) (hs : P.underlying src = some (.float .f64)) (hd : P.underlying d = some (.float .f32)) (ho : isNum .f64 b = true → ovf .f64 .f32 b = false)
    (h : ∀ r n, FR .f32 r (fcv .f64 .f32 b) → wpList P ops Q rest (a.put dst (.float .f32 r)) (w.drewN n)) :
    wpList P ops Q ({ dst, op := .convert src d x, type := ty, pos, after, guard := none } :: rest) a w := by
  refine wpList_plain rfl fun K hK => ?_
  obtain ⟨r, n, hr, hf⟩ := run_fcv2 (P := P) (show FloatKind.f64 ≠ .f32 by decide) b w ho
  unfold Oper.wp execOp
  simp only [hx, Sem.run_bind, Sem.run_pure, Result.andThen_ok, convert_ff hs hd, hr]
  exact hK _ _ (h r n hf)
end
end Go.Proofs.YthlomgbchmhjiaaGreatDoor

namespace Go.Proofs.YthlomgbchmhjiaaGreatDoor
open Go Go.RowKit
/-- Cut downwards: less than one away, and on the right side. -/
theorem cut_down_nat (neg : Bool) (n drop : Nat) : ∃ C, C = Ieee.Toward.down.cut neg n drop ∧ C * 2 ^ drop < n + 2 ^ drop ∧ n < C * 2 ^ drop + 2 ^ drop ∧ (neg = false → C * 2 ^ drop ≤ n) ∧ (neg = true → n ≤ C * 2 ^ drop) := by
  refine ⟨_, rfl, ?_⟩
  unfold Ieee.Toward.cut
  simp only [Nat.one_shiftLeft]
  have hg : 0 < 2 ^ drop := Nat.two_pow_pos _
  by_cases h : drop ≤ n.log2 + 2
  · rw [Nat.min_eq_left h]
    generalize 2 ^ drop = g at *
    have h1 := Nat.div_add_mod n g
    have h2 : n % g < g := Nat.mod_lt _ hg
    have h3 : g * (n / g) = n / g * g := Nat.mul_comm _ _
    rw [h3] at h1
    cases neg
    · simp only [Bool.false_and, Bool.toNat_false, Nat.add_zero]
      and_intros <;> first | omega | (intro h; first | omega | cases h)
    · simp only [Bool.true_and]
      by_cases h4 : n % g = 0
      · have h5 : (n % g != 0) = false := by simpa using h4
        rw [h5]
        simp only [Bool.toNat_false, Nat.add_zero]
        and_intros <;> first | omega | (intro h; first | omega | cases h)
      · have h5 : (n % g != 0) = true := by simpa using h4
        rw [h5]
        simp only [Bool.toNat_true, Nat.add_mul, Nat.one_mul]
        and_intros <;> first | omega | (intro h; first | omega | cases h)
  · rw [Nat.min_eq_right (by omega)]
    have hlt : n < 2 ^ (n.log2 + 2) := Nat.lt_of_lt_of_le Nat.lt_log2_self (Nat.pow_le_pow_right (by decide) (by omega))
    have hle : 2 ^ (n.log2 + 2) ≤ 2 ^ drop := Nat.pow_le_pow_right (by decide) (by omega)
    rw [Nat.div_eq_of_lt hlt, Nat.mod_eq_of_lt hlt]
    generalize 2 ^ drop = g at *
    generalize 2 ^ (n.log2 + 2) = g2 at *
    cases neg
    · simp only [Bool.false_and, Bool.toNat_false, Nat.add_zero, Nat.zero_mul]
      and_intros <;> first | omega | (intro h; first | omega | cases h)
    · by_cases h4 : n = 0
      · subst h4; simp only [bne_self_eq_false, Bool.and_false, Bool.toNat_false, Nat.add_zero, Nat.zero_mul]
        and_intros <;> first | omega | (intro h; first | omega | cases h)
      · have h5 : (n != 0) = true := by simpa using h4
        simp only [h5, Bool.and_true, Bool.toNat_true, Nat.zero_add, Nat.one_mul]
        and_intros <;> first | omega | (intro h; first | omega | cases h)
theorem cut_down {m : Nat} {e : Int} (neg : Bool) : ∃ C : Nat, C = Ieee.Toward.down.cut neg (m <<< e.toNat) (-e).toNat ∧ (C : Rat) < (m : Rat) * (2 : Rat) ^ e + 1 ∧ (m : Rat) * (2 : Rat) ^ e < (C : Rat) + 1 ∧ (neg = false → (C : Rat) ≤ (m : Rat) * (2 : Rat) ^ e) ∧ (neg = true → (m : Rat) * (2 : Rat) ^ e ≤ (C : Rat)) := by
  obtain ⟨C, hC, b1, b2, b3, b4⟩ := cut_down_nat neg (m <<< e.toNat) (-e).toNat
  refine ⟨C, hC, ?_⟩
  clear hC
  rw [Nat.shiftLeft_eq] at b1 b2 b3 b4
  have hc := zp_pos (-((-e).toNat : Int))
  have e1 : (m : Rat) * (2 : Rat) ^ e = ((m * 2 ^ e.toNat : Nat) : Rat) * (2 : Rat) ^ (-((-e).toNat : Int)) := by
    rw [Rat.natCast_mul, ← zp_nat, Rat.mul_assoc, ← zp_add]; congr 2; omega
  have e2 : ((2 ^ (-e).toNat : Nat) : Rat) * (2 : Rat) ^ (-((-e).toNat : Int)) = 1 := by
    rw [← zp_nat, ← zp_add]
    have : ((-e).toNat : Int) + -((-e).toNat : Int) = 0 := by omega
    rw [this, Rat.zpow_zero]
  rw [e1]
  generalize (2 : Rat) ^ (-((-e).toNat : Int)) = c at *
  generalize m * 2 ^ e.toNat = n at *
  generalize 2 ^ (-e).toNat = g at *
  have e3 : ((C : Rat) * (g : Rat)) * c = (C : Rat) := by rw [Rat.mul_assoc, e2, Rat.mul_one]
  have c1 := Rat.mul_lt_mul_of_pos_right (Rat.natCast_lt_natCast.2 b1) hc
  have c2 := Rat.mul_lt_mul_of_pos_right (Rat.natCast_lt_natCast.2 b2) hc
  simp only [Rat.natCast_add, Rat.natCast_mul, Rat.add_mul, e2, e3] at c1 c2
  refine ⟨c1, c2, fun h => ?_, fun h => ?_⟩
  · have := Rat.mul_le_mul_of_nonneg_right (Rat.natCast_le_natCast.2 (b3 h)) (Rat.le_of_lt hc)
    simp only [Rat.natCast_mul, e3] at this
    exact this
  · have := Rat.mul_le_mul_of_nonneg_right (Rat.natCast_le_natCast.2 (b4 h)) (Rat.le_of_lt hc)
    simp only [Rat.natCast_mul, e3] at this
    exact this
end Go.Proofs.YthlomgbchmhjiaaGreatDoor

namespace Go.Proofs.YthlomgbchmhjiaaGreatDoor
open Go Go.RowKit
theorem floor_spec {v : Nat} (hv : isNum .f32 v = true) : isNum .f64 (fwhole .down (fcv .f32 .f64 v)) = true ∧ ovf .f64 .f32 (fwhole .down (fcv .f32 .f64 v)) = false ∧
    ∃ N : Int, val .f64 (fwhole .down (fcv .f32 .f64 v)) = (N : Rat) ∧ (N : Rat) ≤ val .f32 v ∧ val .f32 v < (N : Rat) + 1 ∧
      isNum .f32 (fcv .f64 .f32 (fwhole .down (fcv .f32 .f64 v))) = true ∧ val .f32 (fcv .f64 .f32 (fwhole .down (fcv .f32 .f64 v))) = (N : Rat) := by
  obtain ⟨hx, hs, hq⟩ := up_exact hv
  obtain ⟨m, e, hd, hm, -, -⟩ := decode_num hx
  obtain ⟨m', e', -, hm', hb', he'⟩ := decode_num hv
  obtain ⟨C, hC, c1, c2, c3, c4⟩ := cut_down (m := m) (e := e) (sgn FloatKind.f64.format (fcv .f32 .f64 v))
  have hinf : vq FloatKind.f32.format (rung FloatKind.f32.format v) < vq FloatKind.f32.format FloatKind.f32.format.infRung := (vq_lt_iff _).2 (by unfold isNum at hv; simpa using hv)
  rw [hm, hq] at c1 c2 c3 c4
  rw [hs] at c3 c4 hC
  have hy : fwhole .down (fcv .f32 .f64 v) = FloatKind.f64.encode (.number (sgn FloatKind.f32.format v) C 0) := by
    unfold fwhole
    rw [isNum_not_nan hx, hd, hs, hC]
    exact if_neg (by decide)
  have b24 : m' < 2 ^ 24 := hb'
  obtain ⟨m2, e2, r1, r2, r3, r4⟩ : ∃ (m2 : Nat) (e2 : Int), (C : Rat) = (m2 : Rat) * (2 : Rat) ^ e2 ∧ m2 < 2 ^ 24 ∧ -149 ≤ e2 ∧ (C : Rat) < vq FloatKind.f32.format FloatKind.f32.format.infRung := by
    have hbig : ((2 ^ 25 : Nat) : Rat) < vq FloatKind.f32.format FloatKind.f32.format.infRung := by rw [vq_inf32]; decide +kernel
    rcases Nat.lt_trichotomy C (2 ^ 24) with h | h | h
    · refine ⟨C, 0, by rw [Rat.zpow_zero, Rat.mul_one], h, by decide, rlt_le (Rat.natCast_lt_natCast.2 (show C < 2 ^ 25 by omega)) (Rat.le_of_lt hbig)⟩
    · refine ⟨2 ^ 23, 1, by rw [h]; decide +kernel, by decide, by decide, rlt_le (Rat.natCast_lt_natCast.2 (show C < 2 ^ 25 by omega)) (Rat.le_of_lt hbig)⟩
    · have h1 : ((2 ^ 24 + 1 : Nat) : Rat) ≤ (C : Rat) := Rat.natCast_le_natCast.2 h
      have t0 : ((2 ^ 24 + 1 : Nat) : Rat) = ((2 ^ 24 : Nat) : Rat) + 1 := by decide +kernel
      rw [← hm'] at c1 c2 hinf
      have h2 : ((2 ^ 24 : Nat) : Rat) < (m' : Rat) * (2 : Rat) ^ e' := by
        rw [t0] at h1
        grind
      have he1 : 0 < e' := by
        rcases Int.lt_or_le 0 e' with h | h
        · exact h
        · exfalso
          have h3 : (2 : Rat) ^ e' ≤ (2 : Rat) ^ (0 : Int) := zp_le h
          rw [Rat.zpow_zero] at h3
          have h4 := Rat.mul_le_mul_of_nonneg_left h3 (Rat.natCast_nonneg (a := m'))
          rw [Rat.mul_one] at h4
          have h5 : (m' : Rat) < ((2 ^ 24 : Nat) : Rat) := Rat.natCast_lt_natCast.2 b24
          grind
      have hN : (m' : Rat) * (2 : Rat) ^ e' = ((m' * 2 ^ e'.toNat : Nat) : Rat) := by
        rw [Rat.natCast_mul, ← zp_nat]; congr 2; omega
      have hCN : C = m' * 2 ^ e'.toNat := by
        rw [hN] at c1 c2
        have one : ((1 : Nat) : Rat) = 1 := rfl
        rw [← one, ← Rat.natCast_add] at c1 c2
        have := Rat.natCast_lt_natCast.1 c1
        have := Rat.natCast_lt_natCast.1 c2
        omega
      have hCq : (C : Rat) = (m' : Rat) * (2 : Rat) ^ e' := by rw [hCN, hN]
      exact ⟨m', e', hCq, b24, by omega, by rw [hCq]; exact hinf⟩
  have z0 : (C : Rat) * (2 : Rat) ^ (0 : Int) = (C : Rat) := by rw [Rat.zpow_zero, Rat.mul_one]
  have i64 : vq FloatKind.f32.format FloatKind.f32.format.infRung < vq FloatKind.f64.format FloatKind.f64.format.infRung := by
    rw [vq_inf32, vq_inf64]; exact zp_lt (by decide)
  obtain ⟨y1, y2, y3⟩ := nearest_val .f64 (sgn FloatKind.f32.format v) C 0 m2 e2 (by rw [z0]; exact r1) (Nat.lt_of_lt_of_le r2 (by decide)) (Int.le_trans (show FloatKind.f64.format.leastPlace ≤ -149 by decide) r3) (by rw [← r1]; exact rlt_le r4 (Rat.le_of_lt i64))
  rw [← hy] at y1 y2 y3
  obtain ⟨m3, e3, d3, q3, -, -⟩ := decode_num y1
  rw [y3] at q3
  obtain ⟨x1, x2, x3⟩ := nearest_val .f32 (sgn FloatKind.f64.format (fwhole .down (fcv .f32 .f64 v))) m3 e3 m2 e2 q3 r2 r3 (by rw [← r1]; exact r4)
  have hf : fcv .f64 .f32 (fwhole .down (fcv .f32 .f64 v)) = FloatKind.f32.encode (.number (sgn FloatKind.f64.format (fwhole .down (fcv .f32 .f64 v))) m3 e3) :=
    fcv_dec (isNum_not_nan y1) d3
  refine ⟨y1, ?_, if sgn FloatKind.f32.format v then -(C : Int) else (C : Int), ?_, ?_, ?_, by rw [hf]; exact x1, ?_⟩
  · obtain ⟨s, a, b, hn⟩ := isNum_decode.1 x1
    unfold ovf; rw [d3, hn]; rfl
  · rw [val_sg, y2, y3, ← r1, sg_int]
  · rw [← sg_int, val_sg]
    generalize vq FloatKind.f32.format (rung FloatKind.f32.format v) = V at *
    cases hs2 : sgn FloatKind.f32.format v
    · have := c3 hs2; simpa [sg] using this
    · have := c4 hs2; simp only [sg, if_true]; grind
  · rw [← sg_int, val_sg]
    generalize vq FloatKind.f32.format (rung FloatKind.f32.format v) = V at *
    cases hs2 : sgn FloatKind.f32.format v
    · simpa [sg] using c2
    · simp only [sg, if_true]; grind
  · rw [hf, val_sg, x2, x3, y2, ← r1, sg_int]
/-- Floor of a single. -/
def flF (v : Nat) : Nat := fcv .f64 .f32 (fwhole .down (fcv .f32 .f64 v))
theorem fl_ovf {v : Nat} (h : v < 2 ^ FloatKind.f32.format.width) : isNum .f64 (fwhole .down (fcv .f32 .f64 v)) = true → ovf .f64 .f32 (fwhole .down (fcv .f32 .f64 v)) = false := by
  cases hv : isNum .f32 v with
  | true => exact fun _ => (floor_spec hv).2.1
  | false =>
    intro hn
    exfalso
    cases hN : isN .f32 v with
    | true =>
      have := isNum_not_nan hn
      rw [isN_fwhole, isN_fcv, hN] at this
      cases this
    | false =>
      have h : v < 4294967296 := h
      rw [isN_rung] at hN
      unfold isNum at hv
      rw [f32_ir] at hN hv
      have e : rung FloatKind.f32.format v = v % 2147483648 := rfl
      rw [e] at hN hv
      simp only [decide_eq_false_iff_not] at hN hv
      rcases (show v = 2139095040 ∨ v = 4286578688 by omega) with rfl | rfl
      · revert hn; decide +kernel
      · revert hn; decide +kernel
section
variable {ops : Array Oper} {rest : List Oper} {a : Act} {w : World} {Q : Exit → Act → World → Prop} {dst : Option Tmp} {ty : TypeId} {x : Operand} {pos : String} {after : Array Edge} {ats : Array TypeId}
end
theorem isNum_cn64 {s : Nat} (hN : isN .f64 s = false) : cn .f64 s = s := cn_of_not hN
/-- What comes of the double of a single, floored: no overflow on its way back. -/
theorem fl_back {v r s : Nat} (hv : v < 2 ^ FloatKind.f32.format.width) (h1 : FR .f64 r (fcv .f32 .f64 (cn .f32 v))) (h2 : FR .f64 s (fwhole .down (cn .f64 r))) : (isNum .f64 s = true → ovf .f64 .f32 s = false) ∧ ∀ t, FR .f32 t (fcv .f64 .f32 s) → FR .f32 t (flF v) := by
  have e : cn .f64 s = fwhole .down (fcv .f32 .f64 v) := by rw [h2.eq, h1.eq, fcv_cn]
  refine ⟨fun hn => ?_, fun t ht => ?_⟩
  · rw [cn_of_not (isNum_not_nan hn)] at e
    rw [e] at hn ⊢
    exact fl_ovf hv hn
  · unfold flF; rw [← e, fcv_cn]; exact ht
end Go.Proofs.YthlomgbchmhjiaaGreatDoor

namespace Go.Proofs.YthlomgbchmhjiaaGreatDoor
open Go.RowKit
/-- What mixing hands back. -/
def lerpF (a b t : Nat) : Nat := if FloatKind.f32.format.order t 0 == some .eq then cn .f32 a else if FloatKind.f32.format.order t 1065353216 == some .eq then cn .f32 b else fop .add .f32 (cn .f32 a) (fop .mul .f32 (fop .sub .f32 (cn .f32 b) (cn .f32 a)) (cn .f32 t))
theorem lerp_FR {a b t r1 r2 r3 : Nat} (h1 : FR .f32 r1 (fop .sub .f32 (cn .f32 b) (cn .f32 a))) (h2 : FR .f32 r2 (fop .mul .f32 (cn .f32 r1) (cn .f32 t))) (h3 : FR .f32 r3 (fop .add .f32 (cn .f32 a) (cn .f32 r2)))
    (c0 : (FloatKind.f32.format.order t 0 == some .eq) = false) (c1 : (FloatKind.f32.format.order t 1065353216 == some .eq) = false) : cn .f32 r3 = lerpF a b t := by
  unfold lerpF; rw [c0, c1, h3.eq, h2.eq, h1.eq]; rfl
set_option maxHeartbeats 800000 in
theorem Lerp_any (a b t : Nat) (w : World) : Calls Tryz.prog 133 #[.float .f32 a, .float .f32 b, .float .f32 t] w fun e w' => e = .returned (.float .f32 (lerpF a b t)) ∧ ∃ m, w' = w.drewN m := by
  go_enter Tryz.func133, Tryz.ntmps133
  go_wp2_with (first | ((with_reducible apply wpList_farith); rfl; rfl; rfl; intro _ _ _) | ((with_reducible apply wpList_up); rfl; exact Tryz.underlying27; exact Tryz.underlying130; intro _ _ _) | (go_at_call 130; refine (Clean_any _ _).mono ?_; rintro e w' ⟨rfl, rfl⟩))
  · rename_i h; go_ret; exact ⟨ret_f (by unfold lerpF; rw [h]; rfl), 0, rfl⟩
  · rename_i h0 h1; go_ret; exact ⟨ret_f (by unfold lerpF; rw [h0, h1]; rfl), 0, rfl⟩
  · rename_i h0 h1 _ _ a1 _ _ a2 _ _ a3; go_ret; exact ⟨ret_f (lerp_FR a1 a2 a3 h0 h1), _, rfl⟩
/-- The smooth step. -/
def smoothF (t : Nat) : Nat := fop .mul .f32 (fop .mul .f32 (cn .f32 (limF t 0 1065353216)) (cn .f32 (limF t 0 1065353216))) (fop .sub .f32 (cn .f32 1077936128) (fop .mul .f32 (cn .f32 1073741824) (cn .f32 (limF t 0 1065353216))))
theorem smooth_FR {s r1 r2 r3 r4 : Nat} (h1 : FR .f32 r1 (fop .mul .f32 (cn .f32 s) (cn .f32 s))) (h2 : FR .f32 r2 (fop .mul .f32 (cn .f32 1073741824) (cn .f32 s))) (h3 : FR .f32 r3 (fop .sub .f32 (cn .f32 1077936128) (cn .f32 r2))) (h4 : FR .f32 r4 (fop .mul .f32 (cn .f32 r1) (cn .f32 r3))) :
    cn .f32 r4 = fop .mul .f32 (fop .mul .f32 (cn .f32 s) (cn .f32 s)) (fop .sub .f32 (cn .f32 1077936128) (fop .mul .f32 (cn .f32 1073741824) (cn .f32 s))) := by
  rw [h4.eq, h1.eq, h3.eq, h2.eq]
set_option maxHeartbeats 800000 in
theorem Smooth_any (t : Nat) (w : World) : Calls Tryz.prog 134 #[.float .f32 t] w fun e w' => e = .returned (.float .f32 (smoothF t)) ∧ ∃ m, w' = w.drewN m := by
  go_enter Tryz.func134, Tryz.ntmps134
  go_wp2_with (first | ((with_reducible apply wpList_farith); rfl; rfl; rfl; intro _ _ _) | ((with_reducible apply wpList_up); rfl; exact Tryz.underlying27; exact Tryz.underlying130; intro _ _ _) | (go_at_call 130; refine (Clean_any _ _).mono ?_; rintro e w' ⟨rfl, rfl⟩) | (go_at_call 151; refine (Limit_any _ _ _ _).mono ?_; rintro e w' ⟨rfl, rfl⟩))
  rename_i _ _ a1 _ _ a2 _ _ a3 _ _ a4; go_ret; exact ⟨ret_f (smooth_FR a1 a2 a3 a4), _, rfl⟩
end Go.Proofs.YthlomgbchmhjiaaGreatDoor
