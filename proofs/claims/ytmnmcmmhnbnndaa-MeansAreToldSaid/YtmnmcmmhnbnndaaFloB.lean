/- Floor of a single: what it is; num.Floor by its contract. No condition. -/
import Derived.Test.YtmnmcmmhnbnndaaFlo
namespace Go.Proofs.Ytmnmcmmhnbnndaa
open Go Go.RowKit
theorem fcv_dec {s k : FloatKind} {b : Nat} {d : Ieee.Datum} (h : isN s b = false) (hd : s.decode b = d) : fcv s k b = k.encode d := by
  unfold fcv; rw [if_neg (by rw [h]; decide), hd]
theorem floor_spec {v : Nat} (hv : isNum .f32 v = true) : isNum .f64 (fwhole .down (fcv .f32 .f64 v)) = true ∧ ovf .f64 .f32 (fwhole .down (fcv .f32 .f64 v)) = false ∧
    ∃ N : Int, val .f64 (fwhole .down (fcv .f32 .f64 v)) = (N : Rat) ∧ (N : Rat) ≤ val .f32 v ∧ val .f32 v < (N : Rat) + 1 ∧
      isNum .f32 (fcv .f64 .f32 (fwhole .down (fcv .f32 .f64 v))) = true ∧ val .f32 (fcv .f64 .f32 (fwhole .down (fcv .f32 .f64 v))) = (N : Rat) := by
  obtain ⟨hx, hs, hq⟩ := up_exact hv
  obtain ⟨m, e, hd, hm, -, -⟩ := decode_num hx
  obtain ⟨m', e', -, hm', hb', he'⟩ := decode_num hv
  obtain ⟨C, hC, c1, c2, c3, c4⟩ := cut_down (m := m) (e := e) (sgn FloatKind.f64.format (fcv .f32 .f64 v))
  have hinf : vq FloatKind.f32.format (rung FloatKind.f32.format v) < vq FloatKind.f32.format FloatKind.f32.format.infRung := (vq_lt_iff _).2 (by unfold isNum at hv; simpa using hv)
  rw [hm, hq] at c1 c2 c3 c4
  rw [hs] at c3 c4 hC
  have hy : fwhole .down (fcv .f32 .f64 v) = FloatKind.f64.encode (.number (sgn FloatKind.f32.format v) C 0) := by
    unfold fwhole
    rw [isNum_not_nan hx, hd, hs, hC]
    exact if_neg (by decide)
  have b24 : m' < 2 ^ 24 := hb'
  obtain ⟨m2, e2, r1, r2, r3, r4⟩ : ∃ (m2 : Nat) (e2 : Int), (C : Rat) = (m2 : Rat) * (2 : Rat) ^ e2 ∧ m2 < 2 ^ 24 ∧ -149 ≤ e2 ∧ (C : Rat) < vq FloatKind.f32.format FloatKind.f32.format.infRung := by
    have hbig : ((2 ^ 25 : Nat) : Rat) < vq FloatKind.f32.format FloatKind.f32.format.infRung := by rw [vq_inf32]; decide +kernel
    rcases Nat.lt_trichotomy C (2 ^ 24) with h | h | h
    · refine ⟨C, 0, by rw [Rat.zpow_zero, Rat.mul_one], h, by decide, rlt_le (Rat.natCast_lt_natCast.2 (show C < 2 ^ 25 by omega)) (Rat.le_of_lt hbig)⟩
    · refine ⟨2 ^ 23, 1, by rw [h]; decide +kernel, by decide, by decide, rlt_le (Rat.natCast_lt_natCast.2 (show C < 2 ^ 25 by omega)) (Rat.le_of_lt hbig)⟩
    · have h1 : ((2 ^ 24 + 1 : Nat) : Rat) ≤ (C : Rat) := Rat.natCast_le_natCast.2 h
      have t0 : ((2 ^ 24 + 1 : Nat) : Rat) = ((2 ^ 24 : Nat) : Rat) + 1 := by decide +kernel
      rw [← hm'] at c1 c2 hinf
      have h2 : ((2 ^ 24 : Nat) : Rat) < (m' : Rat) * (2 : Rat) ^ e' := by
        rw [t0] at h1
        grind
      have he1 : 0 < e' := by
        rcases Int.lt_or_le 0 e' with h | h
        · exact h
        · exfalso
          have h3 : (2 : Rat) ^ e' ≤ (2 : Rat) ^ (0 : Int) := zp_le h
          rw [Rat.zpow_zero] at h3
          have h4 := Rat.mul_le_mul_of_nonneg_left h3 (Rat.natCast_nonneg (a := m'))
          rw [Rat.mul_one] at h4
          have h5 : (m' : Rat) < ((2 ^ 24 : Nat) : Rat) := Rat.natCast_lt_natCast.2 b24
          grind
      have hN : (m' : Rat) * (2 : Rat) ^ e' = ((m' * 2 ^ e'.toNat : Nat) : Rat) := by
        rw [Rat.natCast_mul, ← zp_nat]; congr 2; omega
      have hCN : C = m' * 2 ^ e'.toNat := by
        rw [hN] at c1 c2
        have one : ((1 : Nat) : Rat) = 1 := rfl
        rw [← one, ← Rat.natCast_add] at c1 c2
        have := Rat.natCast_lt_natCast.1 c1
        have := Rat.natCast_lt_natCast.1 c2
        omega
      have hCq : (C : Rat) = (m' : Rat) * (2 : Rat) ^ e' := by rw [hCN, hN]
      exact ⟨m', e', hCq, b24, by omega, by rw [hCq]; exact hinf⟩
  have z0 : (C : Rat) * (2 : Rat) ^ (0 : Int) = (C : Rat) := by rw [Rat.zpow_zero, Rat.mul_one]
  have i64 : vq FloatKind.f32.format FloatKind.f32.format.infRung < vq FloatKind.f64.format FloatKind.f64.format.infRung := by
    rw [vq_inf32, vq_inf64]; exact zp_lt (by decide)
  obtain ⟨y1, y2, y3⟩ := nearest_val .f64 (sgn FloatKind.f32.format v) C 0 m2 e2 (by rw [z0]; exact r1) (Nat.lt_of_lt_of_le r2 (by decide)) (Int.le_trans (show FloatKind.f64.format.leastPlace ≤ -149 by decide) r3) (by rw [← r1]; exact rlt_le r4 (Rat.le_of_lt i64))
  rw [← hy] at y1 y2 y3
  obtain ⟨m3, e3, d3, q3, -, -⟩ := decode_num y1
  rw [y3] at q3
  obtain ⟨x1, x2, x3⟩ := nearest_val .f32 (sgn FloatKind.f64.format (fwhole .down (fcv .f32 .f64 v))) m3 e3 m2 e2 q3 r2 r3 (by rw [← r1]; exact r4)
  have hf : fcv .f64 .f32 (fwhole .down (fcv .f32 .f64 v)) = FloatKind.f32.encode (.number (sgn FloatKind.f64.format (fwhole .down (fcv .f32 .f64 v))) m3 e3) :=
    fcv_dec (isNum_not_nan y1) d3
  refine ⟨y1, ?_, if sgn FloatKind.f32.format v then -(C : Int) else (C : Int), ?_, ?_, ?_, by rw [hf]; exact x1, ?_⟩
  · obtain ⟨s, a, b, hn⟩ := isNum_decode.1 x1
    unfold ovf; rw [d3, hn]; rfl
  · rw [val_sg, y2, y3, ← r1, sg_int]
  · rw [← sg_int, val_sg]
    generalize vq FloatKind.f32.format (rung FloatKind.f32.format v) = V at *
    cases hs2 : sgn FloatKind.f32.format v
    · have := c3 hs2; simpa [sg] using this
    · have := c4 hs2; simp only [sg, if_true]; grind
  · rw [← sg_int, val_sg]
    generalize vq FloatKind.f32.format (rung FloatKind.f32.format v) = V at *
    cases hs2 : sgn FloatKind.f32.format v
    · simpa [sg] using c2
    · simp only [sg, if_true]; grind
  · rw [hf, val_sg, x2, x3, y2, ← r1, sg_int]
/-- Floor of a single. -/
def flF (v : Nat) : Nat := fcv .f64 .f32 (fwhole .down (fcv .f32 .f64 v))
theorem fl_ovf {v : Nat} (h : v < 2 ^ FloatKind.f32.format.width) : isNum .f64 (fwhole .down (fcv .f32 .f64 v)) = true → ovf .f64 .f32 (fwhole .down (fcv .f32 .f64 v)) = false := by
  cases hv : isNum .f32 v with
  | true => exact fun _ => (floor_spec hv).2.1
  | false =>
    intro hn
    exfalso
    cases hN : isN .f32 v with
    | true =>
      have := isNum_not_nan hn
      rw [isN_fwhole, isN_fcv, hN] at this
      cases this
    | false =>
      have h : v < 4294967296 := h
      rw [isN_rung] at hN
      unfold isNum at hv
      rw [f32_ir] at hN hv
      have e : rung FloatKind.f32.format v = v % 2147483648 := rfl
      rw [e] at hN hv
      simp only [decide_eq_false_iff_not] at hN hv
      rcases (show v = 2139095040 ∨ v = 4286578688 by omega) with rfl | rfl
      · revert hn; decide +kernel
      · revert hn; decide +kernel
theorem call_floor (args : Array Value) (w : World) : (callFunc 202 args).run Try.prog w = ((Extern.MathFloor.toIntegral "math.archFloor" .down args).run Try.prog w).andThen fun v w' => .ok (.value v) w' :=
  run_callFunc_extern Try.func202 (by kernel_rfl) (by kernel_rfl) (by kernel_rfl) (by kernel_rfl) args w
section
variable {ops : Array Oper} {rest : List Oper} {a : Act} {w : World} {Q : Exit → Act → World → Prop} {dst : Option Tmp} {ty : TypeId} {x : Operand} {pos : String} {after : Array Edge} {ats : Array TypeId}
theorem wpList_floor {b : Nat} (hx : a.eval x = .float .f64 b) (hb : b < 2 ^ FloatKind.f64.format.width)
    (h : ∀ r n, FR .f64 r (fwhole .down (cn .f64 b)) → wpList Try.prog ops Q rest (a.put dst (.float .f64 r)) (w.drewN n)) :
    wpList Try.prog ops Q ({ dst, op := .call { callee := .value (.func 202), args := #[x], argTypes := ats }, type := ty, pos, after, guard := none } :: rest) a w := by
  refine wpList_extern1 call_floor hx (fun u => ∃ r, u = .float .f64 r ∧ FR .f64 r (fwhole .down b)) ?_ ?_
  · obtain ⟨r, n, h1, h2⟩ := run_whole (P := Try.prog) "math.archFloor" .down b hb w
    exact ⟨_, n, h1, r, rfl, h2⟩
  · rintro u n ⟨r, rfl, h2⟩
    exact h r n (by rw [fwhole_cn]; exact h2)
end
set_option maxHeartbeats 800000 in
theorem FloorD_any (b : Nat) (w : World) (hb : b < 2 ^ FloatKind.f64.format.width) : Calls Try.prog 176 #[.float .f64 b] w fun e w' => (∃ r, e = .returned (.float .f64 r) ∧ FR .f64 r (fwhole .down (cn .f64 b))) ∧ ∃ m, w' = w.drewN m := by
  go_enter Try.func176, Try.ntmps176
  go_wp2_with (first | ((with_reducible apply wpList_floor); rfl; exact hb; intro r n hr))
  go_ret
  exact ⟨⟨_, rfl, by assumption⟩, _, rfl⟩
theorem isNum_cn64 {s : Nat} (hN : isN .f64 s = false) : cn .f64 s = s := cn_of_not hN
/-- What comes of the double of a single, floored: no overflow on its way back. -/
theorem fl_back {v r s : Nat} (hv : v < 2 ^ FloatKind.f32.format.width) (h1 : FR .f64 r (fcv .f32 .f64 (cn .f32 v))) (h2 : FR .f64 s (fwhole .down (cn .f64 r))) : (isNum .f64 s = true → ovf .f64 .f32 s = false) ∧ ∀ t, FR .f32 t (fcv .f64 .f32 s) → FR .f32 t (flF v) := by
  have e : cn .f64 s = fwhole .down (fcv .f32 .f64 v) := by rw [h2.eq, h1.eq, fcv_cn]
  refine ⟨fun hn => ?_, fun t ht => ?_⟩
  · rw [cn_of_not (isNum_not_nan hn)] at e
    rw [e] at hn ⊢
    exact fl_ovf hv hn
  · unfold flF; rw [← e, fcv_cn]; exact ht
set_option maxHeartbeats 800000 in
theorem Floor_any (v : Nat) (w : World) (hv : v < 2 ^ FloatKind.f32.format.width) : Calls Try.prog 175 #[.float .f32 v] w fun e w' => (∃ r, e = .returned (.float .f32 r) ∧ FR .f32 r (flF v)) ∧ ∃ m, w' = w.drewN m := by
  have hv' := Lib.hid hv; clear hv
  go_enter Try.func175, Try.ntmps175
  go_wp2_with (first | ((with_reducible apply wpList_up); rfl; exact Try.underlying38; exact Try.underlying51; intro r n hr) | (go_at_call 176; refine (FloorD_any _ _ hr.lt).mono ?_; rintro e w' ⟨⟨s, rfl, hs⟩, m, rfl⟩; obtain ⟨ho, hb⟩ := fl_back hv'.out hr hs) | ((with_reducible apply wpList_down); rfl; exact Try.underlying51; exact Try.underlying38; exact ho; intro t n2 ht))
  go_ret
  exact ⟨⟨_, rfl, hb _ ht⟩, _, rfl⟩
end Go.Proofs.Ytmnmcmmhnbnndaa
