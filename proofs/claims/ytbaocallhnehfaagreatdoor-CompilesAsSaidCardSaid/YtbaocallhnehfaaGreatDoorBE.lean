/- Compressing: what the code and the document do to a channel, and that it is one. Plain Lean. (with: Three, ThreeB, CompA, Each, CompB) -/
import Derived.Test.YtbaocallhnehfaaGreatDoorBD
import Derived.Test.YtbaocallhnehfaaGreatDoorBC
namespace Go.Proofs.YtbaocallhnehfaaGreatDoor
open Go.RowKit

theorem sgn_nearest (k : FloatKind) (neg : Bool) (m : Nat) (p : Int) : sgn k.format (k.format.nearest neg m p) = neg := by
  have hsw := k.format.infRung_lt
  unfold Ieee.Format.nearest
  split
  · exact sgn_word _ _ (by omega)
  · exact sgn_word _ _ (by omega)
theorem nearest_nz (k : FloatKind) (neg : Bool) {m : Nat} {p : Int} (hm : 0 < m) (hp : k.format.leastPlace ≤ p) : rung k.format (k.format.nearest neg m p) ≠ 0 := by
  have hsw := k.format.infRung_lt
  have hi : 0 < k.format.infRung := Nat.lt_of_lt_of_le (binade_pos _) (binade_le_inf _ (exp_ok k))
  obtain ⟨r, hr, -, h2, -⟩ := nearest_spec k.format (frac_ok k) neg m p hm
  rw [hr, rung_word _ _ (by omega)]
  intro h0
  have hr0 : r = 0 := by omega
  subst hr0
  rw [vq_zero] at h2
  have hl := log_le m p hm
  have h1 : (1 : Rat) ≤ (m : Rat) := by
    have := Rat.natCast_le_natCast.2 (show 1 ≤ m by omega); simpa using this
  have h3 := Rat.mul_le_mul_of_nonneg_right h1 (Rat.le_of_lt (zp_pos p))
  rw [Rat.one_mul] at h3
  have hpos := zp_pos (lastOf k.format m p)
  have h4 : (2 : Rat) ^ lastOf k.format m p ≤ (m : Rat) * (2 : Rat) ^ p := by
    rcases (show lastOf k.format m p = k.format.leastPlace ∨ lastOf k.format m p = p + m.log2 - k.format.fractionBits by unfold lastOf; omega) with e | e
    · rw [e]; have := zp_le hp; grind
    · rw [e]; have := zp_le (a := p + m.log2 - k.format.fractionBits) (b := p + m.log2) (by omega); grind
  generalize (m : Rat) * (2 : Rat) ^ p = A at *
  generalize (2 : Rat) ^ lastOf k.format m p = B at *
  grind
theorem sum_wordP {k : FloatKind} {s t : Bool} {m n : Nat} {i j : Int} {d1 d2 : Ieee.Datum} (h1 : d1 = .number s m i) (h2 : d2 = .number t n j) :
    ∃ neg mag, ((d1.sum d2).map k.format.write) = some (k.format.nearest neg mag (min i j)) ∧ (sg s ((m : Rat) * (2 : Rat) ^ i) + sg t ((n : Rat) * (2 : Rat) ^ j) > 0 → neg = false ∧ 0 < mag) := by
  subst h1 h2
  refine ⟨_, _, rfl, ?_⟩
  obtain ⟨a, ha⟩ : ∃ a : Nat, a = (i - min i j).toNat := ⟨_, rfl⟩
  obtain ⟨b, hb⟩ : ∃ b : Nat, b = (j - min i j).toNat := ⟨_, rfl⟩
  have e1 : (2 : Rat) ^ i = ((2 ^ a : Nat) : Rat) * (2 : Rat) ^ (min i j) := by rw [← zp_nat, ← zp_add]; congr 1; omega
  have e2 : (2 : Rat) ^ j = ((2 ^ b : Nat) : Rat) * (2 : Rat) ^ (min i j) := by rw [← zp_nat, ← zp_add]; congr 1; omega
  rw [← ha, ← hb]
  have e3 : sg s ((m : Rat) * (2 : Rat) ^ i) + sg t ((n : Rat) * (2 : Rat) ^ j) = ((Ieee.signed s m a + Ieee.signed t n b : Int) : Rat) * (2 : Rat) ^ (min i j) := by
    rw [Rat.intCast_add, signed_val, signed_val, e1, e2]
    cases s <;> cases t <;> simp [sg] <;> grind
  rw [e3]
  have hc := zp_pos (min i j)
  intro hpos
  have hT : 0 < Ieee.signed s m a + Ieee.signed t n b := by
    rcases Int.lt_or_le 0 (Ieee.signed s m a + Ieee.signed t n b) with h | h
    · exact h
    · exfalso
      have h5 : ((Ieee.signed s m a + Ieee.signed t n b : Int) : Rat) ≤ 0 := by have := Rat.intCast_le_intCast.2 h; simpa using this
      have := Rat.mul_le_mul_of_nonneg_right h5 (Rat.le_of_lt hc)
      rw [Rat.zero_mul] at this; grind
  rw [if_neg (by omega)]
  exact ⟨decide_eq_false (by omega), by omega⟩
theorem sg_sub_pos {s t : Bool} {A B : Rat} (h : sg t B < sg s A) : sg s A + sg (!t) B > 0 := by
  cases s <;> cases t <;> simp only [sg, Bool.not_true, Bool.not_false, if_true, if_false, Bool.false_eq_true] at h ⊢ <;> grind
/-- What is greater, less a number: no NaN, no minus, not 0. -/
theorem sub_pos {u f : Nat} (hf : isNum .f32 f = true) (h : (FloatKind.f32.format.order u f == some .gt) = true) :
    isN .f32 (fop .sub .f32 u f) = false ∧ sgn FloatKind.f32.format (fop .sub .f32 u f) = false ∧ rung FloatKind.f32.format (fop .sub .f32 u f) ≠ 0 := by
  have hun : isN .f32 u = false := by
    cases hn : isN .f32 u with
    | false => rfl
    | true => rw [ord_nan_l _ hn] at h; cases h
  rw [ord_gt hun (isNum_not_nan hf), decide_eq_true_eq] at h
  obtain ⟨n, j, d2, v2, -, b2⟩ := decode_num hf
  have d3 : (FloatKind.f32.decode f).opposite = .number (!sgn FloatKind.f32.format f) n j := by rw [d2]; rfl
  cases hu : isNum .f32 u with
  | true =>
    obtain ⟨m, i, d1, v1, -, b1⟩ := decode_num hu
    obtain ⟨neg, mag, g, hp⟩ := sum_wordP (k := .f32) d1 d3
    have hb : floatBits .sub .f32 u f = some (FloatKind.f32.format.nearest neg mag (min i j)) := g
    have hpos : sg (sgn FloatKind.f32.format u) ((m : Rat) * (2 : Rat) ^ i) + sg (!sgn FloatKind.f32.format f) ((n : Rat) * (2 : Rat) ^ j) > 0 := by
      have := val_lt_key.2 h
      rw [val_sg, val_sg, ← v1, ← v2] at this
      exact sg_sub_pos this
    obtain ⟨rfl, hm⟩ := hp hpos
    unfold fop; rw [hb]
    refine ⟨floatBits_not_nan hb, sgn_nearest _ _ _ _, nearest_nz _ _ hm (by omega)⟩
  | false =>
    have hr : rung FloatKind.f32.format u = FloatKind.f32.format.infRung := by
      rw [isN_rung] at hun
      unfold isNum at hu
      simp only [decide_eq_false_iff_not] at hun hu
      omega
    have hi := read_inf FloatKind.f32.format u hr (by decide)
    have hs : sgn FloatKind.f32.format u = false := by
      unfold isNum at hf
      simp only [decide_eq_true_eq] at hf
      unfold key at h
      cases hs : sgn FloatKind.f32.format u with
      | false => rfl
      | true => rw [hs] at h; simp only [if_true] at h; split at h <;> omega
    rw [hs] at hi
    have hb : floatBits .sub .f32 u f = some (FloatKind.f32.format.word false FloatKind.f32.format.infRung) := by
      have g1 : FloatKind.f32.format.read f = _ := d2
      unfold floatBits Ieee.Format.sub
      simp only []
      rw [hi, g1]; rfl
    unfold fop; rw [hb]
    refine ⟨floatBits_not_nan hb, by decide +kernel, by decide +kernel⟩
theorem quo_pos {u f : Nat} (hu : isN .f32 u = false) (hus : sgn FloatKind.f32.format u = false) (hf : isNum .f32 f = true) (hfs : sgn FloatKind.f32.format f = false) (hfz : rung FloatKind.f32.format f ≠ 0) :
    isN .f32 (fop .quo .f32 u f) = false ∧ sgn FloatKind.f32.format (fop .quo .f32 u f) = false := by
  obtain ⟨n, j, d2, v2, -, b2⟩ := decode_num hf
  have hn : n ≠ 0 := by
    intro h
    rw [h] at v2
    simp at v2
    exact hfz (vq_inj FloatKind.f32.format (by rw [← v2, vq_zero]))
  rw [hfs] at d2
  have g2 : FloatKind.f32.format.read f = _ := d2
  cases hnu : isNum .f32 u with
  | true =>
    obtain ⟨m, i, d1, v1, -, b1⟩ := decode_num hnu
    rw [hus] at d1
    have g1 : FloatKind.f32.format.read u = _ := d1
    have hb : ∃ a b, floatBits .quo .f32 u f = some (FloatKind.f32.format.nearest false a b) := by
      unfold floatBits Ieee.Format.div
      simp only []
      rw [g1, g2]
      unfold Ieee.Datum.quotient
      simp only []
      rw [if_neg hn]
      exact ⟨_, _, rfl⟩
    obtain ⟨a, b, hb⟩ := hb
    unfold fop; rw [hb]
    exact ⟨floatBits_not_nan hb, sgn_nearest _ _ _ _⟩
  | false =>
    have hr : rung FloatKind.f32.format u = FloatKind.f32.format.infRung := by
      rw [isN_rung] at hu
      unfold isNum at hnu
      simp only [decide_eq_false_iff_not] at hu hnu
      omega
    have hi := read_inf FloatKind.f32.format u hr (by decide)
    rw [hus] at hi
    have hb : floatBits .quo .f32 u f = some (FloatKind.f32.format.word false FloatKind.f32.format.infRung) := by
      unfold floatBits Ieee.Format.div
      simp only []
      rw [hi, g2]; rfl
    unfold fop; rw [hb]
    refine ⟨floatBits_not_nan hb, by decide +kernel⟩

/-- How far a channel lies below the greatest; what is beyond the threshold. -/
def dF (a v : Nat) : Nat := fop .quo .f32 (fop .sub .f32 a v) a
def xF (a f v : Nat) : Nat := fop .quo .f32 (fop .sub .f32 (dF a v) f) (fop .sub .f32 1065353216 f)
def outF (a f y : Nat) : Nat := fop .sub .f32 a (fop .mul .f32 (fop .add .f32 f (fop .mul .f32 (fop .sub .f32 1065353216 f) y)) a)
def sF (x : Nat) : Nat := fop .quo .f32 x (fop .add .f32 1065353216 x)
/-- The code's channel. -/
def compF (a : Nat) (st : Bool) (f v : Nat) : Nat :=
  if st || !(FloatKind.f32.format.order (dF a v) f == some .gt) then cn .f32 v else outF a f (if isNum .f32 (xF a f v) then sF (xF a f v) else 1065353216)
/-- The document's channel. -/
def compG (a f v : Nat) : Nat :=
  if !(FloatKind.f32.format.order (dF a v) f == some .gt) then cn .f32 v else outF a f (if FloatKind.f32.format.order (xF a f v) 2139095039 == some .gt then 1065353216 else sF (xF a f v))
theorem one_num : isNum .f32 1065353216 = true ∧ val .f32 1065353216 = 1 := by constructor <;> decide +kernel
theorem comp_eq {a f v : Nat} (hf : isNum .f32 f = true) (h0 : (FloatKind.f32.format.order f 0 == some .lt) = false) (h1 : (FloatKind.f32.format.order 1065353216 f == some .gt) = true) : compF a false f v = compG a f v := by
  unfold compF compG
  cases hd : (FloatKind.f32.format.order (dF a v) f == some .gt) with
  | false => rfl
  | true =>
    simp only [Bool.false_or, Bool.not_true, if_false, Bool.false_eq_true]
    congr 1
    obtain ⟨a1, a2, -⟩ := sub_pos hf hd
    obtain ⟨b1, b2, b3⟩ := sub_pos hf h1
    have z : isN .f32 0 = false := by decide +kernel
    have k0 : val .f32 0 = 0 := by decide +kernel
    have n0 : 0 ≤ val .f32 f := by
      rw [ord_lt (isNum_not_nan hf) z, decide_eq_false_iff_not, ← val_lt_key, k0] at h0; grind
    have n1 : val .f32 f < 1 := by
      rw [ord_gt (isNum_not_nan one_num.1) (isNum_not_nan hf), decide_eq_true_eq, ← val_lt_key, one_num.2] at h1; exact h1
    have p1 : (2 : Rat) ^ (1 : Int) = 2 := by decide +kernel
    have hn := (fop_sub_num one_num.1 hf 1 (by decide) (by decide) (by rw [one_num.2, p1]; grind) (by rw [one_num.2, p1]; grind)).num
    obtain ⟨q1, q2⟩ := quo_pos a1 a2 hn b2 b3
    have hx : isNum .f32 (xF a f v) = !(FloatKind.f32.format.order (xF a f v) 2139095039 == some .gt) := by
      unfold xF
      generalize fop .quo .f32 (fop .sub .f32 (dF a v) f) (fop .sub .f32 1065353216 f) = x at *
      have k2 : key FloatKind.f32.format 4286578687 = -2139095039 := by decide +kernel
      have n2 : isN .f32 4286578687 = false := by decide +kernel
      rw [isNum_code, ord_self_eq, q1, ord_lt q1 n2, k2]
      have : ¬ key FloatKind.f32.format x < -2139095039 := by unfold key; rw [q2]; simp only [if_false, Bool.false_eq_true]; omega
      rw [decide_eq_false this]; simp
    rw [hx]
    cases FloatKind.f32.format.order (xF a f v) 2139095039 == some .gt <;> rfl
end Go.Proofs.YtbaocallhnehfaaGreatDoor

namespace Go.Proofs.YtbaocallhnehfaaGreatDoor
open Go.RowKit

theorem ord_FR {k : FloatKind} {r s : Nat} (h : FR k r s) (y : Nat) : k.format.order r y = k.format.order s y := by
  have := h.eq
  by_cases hn : isN k r = true
  · have h2 : isN k s = true := by rw [← this, isN_cn]; exact hn
    rw [ord_nan_l _ hn, ord_nan_l _ h2]
  · rw [cn_of_not (by simpa using hn)] at this; rw [this]
theorem isNum_FR {r s : Nat} (h : FR .f32 r s) : isNum .f32 r = isNum .f32 s := by
  have := h.eq
  by_cases hn : isN .f32 r = true
  · have h2 : isN .f32 s = true := by rw [← this, isN_cn]; exact hn
    cases h3 : isNum .f32 r with
    | true => rw [isNum_not_nan h3] at hn; cases hn
    | false =>
      cases h4 : isNum .f32 s with
      | true => rw [isNum_not_nan h4] at h2; cases h2
      | false => rfl
  · rw [cn_of_not (by simpa using hn)] at this; rw [this]
theorem dF_FR {a v r1 r2 : Nat} (h1 : FR .f32 r1 (fop .sub .f32 (cn .f32 a) (cn .f32 v))) (h2 : FR .f32 r2 (fop .quo .f32 (cn .f32 r1) (cn .f32 a))) : FR .f32 r2 (dF a v) := by
  rw [h1.eq, fop_cn_left, fop_cn_right, fop_cn_right] at h2; exact h2
theorem xF_FR {a f v d r1 r2 r3 : Nat} (hd : FR .f32 d (dF a v)) (h1 : FR .f32 r1 (fop .sub .f32 (cn .f32 d) (cn .f32 f))) (h2 : FR .f32 r2 (fop .sub .f32 (cn .f32 1065353216) (cn .f32 f))) (h3 : FR .f32 r3 (fop .quo .f32 (cn .f32 r1) (cn .f32 r2))) : FR .f32 r3 (xF a f v) := by
  rw [h1.eq, h2.eq, hd.eq, fop_cn_right, fop_cn_left, fop_cn_right] at h3; exact h3
theorem sF_FR {x y r1 r2 : Nat} (hx : FR .f32 x y) (h1 : FR .f32 r1 (fop .add .f32 (cn .f32 1065353216) (cn .f32 x))) (h2 : FR .f32 r2 (fop .quo .f32 (cn .f32 x) (cn .f32 r1))) : FR .f32 r2 (sF y) := by
  rw [h1.eq, hx.eq, fop_cn_left] at h2; exact h2
theorem outF_FR {a f y y' r1 r2 r3 r4 r5 : Nat} (hy : cn .f32 y = cn .f32 y') (h1 : FR .f32 r1 (fop .sub .f32 (cn .f32 1065353216) (cn .f32 f))) (h2 : FR .f32 r2 (fop .mul .f32 (cn .f32 r1) (cn .f32 y))) (h3 : FR .f32 r3 (fop .add .f32 (cn .f32 f) (cn .f32 r2)))
    (h4 : FR .f32 r4 (fop .mul .f32 (cn .f32 r3) (cn .f32 a))) (h5 : FR .f32 r5 (fop .sub .f32 (cn .f32 a) (cn .f32 r4))) : FR .f32 r5 (outF a f y') := by
  rw [h4.eq, h3.eq, h2.eq, h1.eq, hy] at h5
  simp only [fop_cn_left, fop_cn_right] at h5
  exact h5
theorem cn_of_fop {x : Nat} : sF x = cn .f32 (sF x) := (cn_fop _ _ _ _).symm
set_option maxRecDepth 100000 in
set_option maxHeartbeats 800000 in
theorem comp_code (a f v pa ps pf : Nat) (st : Bool) (c : Int) (w : World) (hv : v < 2 ^ FloatKind.f32.format.width) (ha : w.cell? ⟨pa, 0, none⟩ = some (.float .f32 a)) (hs : w.cell? ⟨ps, 0, none⟩ = some (.bool st)) (hf : w.cell? ⟨pf, 0, none⟩ = some (.float .f32 f)) :
    Calls Tryz.prog 88 #[.int .i64 c, .float .f32 v, .pointer (some ⟨pa, 0, none⟩), .pointer (some ⟨ps, 0, none⟩), .pointer (some ⟨pf, 0, none⟩)] w fun e w' => ∃ r m, e = .returned (.float .f32 r) ∧ FR .f32 r (compF a st f v) ∧ w' = w.drewN m := by
  have hv' := Lib.hid hv; clear hv
  go_enter Tryz.func88, Tryz.ntmps88
  cases st
  · go_wp2_with (first | ((with_reducible apply wpList_farith); rfl; rfl; rfl; intro _ _ _) | ((with_reducible apply wpList_up); rfl; exact Tryz.underlying41; exact Tryz.underlying157; intro _ _ _) | (go_at_call 85; refine (IsNumber_any _ _).mono ?_; rintro e w' ⟨rfl, rfl⟩))
    · rename_i _ _ a1 _ _ a2 _ _ h1
      have hd := dF_FR a1 a2
      rw [ord_FR hd] at h1
      go_ret
      refine ⟨_, _, rfl, ?_, rfl⟩
      unfold compF; rw [h1]; exact FR.refl hv'.out
    · rename_i _ _ a1 _ _ a2 h1 _ _ a3 _ _ a4 _ _ a5 h2 _ _ a6 _ _ a7 _ _ a8 _ _ a9 _ _ a10 _ _ a11 _ _ a12
      have hd := dF_FR a1 a2
      have hx := xF_FR hd a3 a4 a5
      have hy := sF_FR hx a6 a7
      rw [ord_FR hd] at h1
      rw [isNum_FR hx] at h2
      have ho := outF_FR (y' := sF (xF a f v)) (by rw [hy.eq]; exact cn_of_fop) a8 a9 a10 a11 a12
      go_ret
      refine ⟨_, _, rfl, ?_, rfl⟩
      unfold compF; rw [h1, h2]; exact ho
    · rename_i _ _ a1 _ _ a2 h1 _ _ a3 _ _ a4 _ _ a5 h2 _ _ a8 _ _ a9 _ _ a10 _ _ a11 _ _ a12
      have hd := dF_FR a1 a2
      have hx := xF_FR hd a3 a4 a5
      rw [ord_FR hd] at h1
      rw [isNum_FR hx] at h2
      have ho := outF_FR (y' := 1065353216) rfl a8 a9 a10 a11 a12
      go_ret
      refine ⟨_, _, rfl, ?_, rfl⟩
      unfold compF; rw [h1, h2]; exact ho
  · go_wp2_with (first | ((with_reducible apply wpList_farith); rfl; rfl; rfl; intro _ _ _) | ((with_reducible apply wpList_up); rfl; exact Tryz.underlying41; exact Tryz.underlying157; intro _ _ _) | (go_at_call 85; refine (IsNumber_any _ _).mono ?_; rintro e w' ⟨rfl, rfl⟩))
    go_ret
    exact ⟨_, _, rfl, FR.refl hv'.out, rfl⟩
end Go.Proofs.YtbaocallhnehfaaGreatDoor

namespace Go.Proofs.YtbaocallhnehfaaGreatDoor
open Go.RowKit
/-- A block that holds a pixel. -/
structure Pix4 (w : World) (b v0 v1 v2 v3 : Nat) : Prop where
  c0 : w.cell? ⟨b, 0, none⟩ = some (.float .f32 v0)
  c1 : w.cell? ⟨b, 1, none⟩ = some (.float .f32 v1)
  c2 : w.cell? ⟨b, 2, none⟩ = some (.float .f32 v2)
  c3 : w.cell? ⟨b, 3, none⟩ = some (.float .f32 v3)
  f : ∀ o, w.frozen? ⟨b, o, none⟩ = false
theorem Pix4.below {W w : World} {n b v0 v1 v2 v3 : Nat} (h : Pix4 W b v0 v1 v2 v3) (hb : Below n W w) (hn : b < n) : Pix4 w b v0 v1 v2 v3 :=
  ⟨(hb.cell (p := ⟨b, 0, none⟩) hn).trans h.c0, (hb.cell (p := ⟨b, 1, none⟩) hn).trans h.c1, (hb.cell (p := ⟨b, 2, none⟩) hn).trans h.c2, (hb.cell (p := ⟨b, 3, none⟩) hn).trans h.c3, fun o => (hb.frozen (p := ⟨b, o, none⟩) hn).trans (h.f o)⟩
theorem Pix4.set0 {w : World} {b v0 v1 v2 v3 : Nat} (h : Pix4 w b v0 v1 v2 v3) (x : Nat) : Pix4 (w.setCell ⟨b, 0, none⟩ (.float .f32 x)) b x v1 v2 v3 :=
  ⟨World.cell?_setCell_same _ _ _ h.c0, (World.cell?_setCell_other _ _ _ _ (by simp)).trans h.c1, (World.cell?_setCell_other _ _ _ _ (by simp)).trans h.c2, (World.cell?_setCell_other _ _ _ _ (by simp)).trans h.c3, fun o => (World.frozen?_setCell _ _ _ _).trans (h.f o)⟩
theorem Pix4.set1 {w : World} {b v0 v1 v2 v3 : Nat} (h : Pix4 w b v0 v1 v2 v3) (x : Nat) : Pix4 (w.setCell ⟨b, 1, none⟩ (.float .f32 x)) b v0 x v2 v3 :=
  ⟨(World.cell?_setCell_other _ _ _ _ (by simp)).trans h.c0, World.cell?_setCell_same _ _ _ h.c1, (World.cell?_setCell_other _ _ _ _ (by simp)).trans h.c2, (World.cell?_setCell_other _ _ _ _ (by simp)).trans h.c3, fun o => (World.frozen?_setCell _ _ _ _).trans (h.f o)⟩
theorem Pix4.far {w : World} {b v0 v1 v2 v3 : Nat} (h : Pix4 w b v0 v1 v2 v3) (q : Addr) (x : Value) (hq : q.block ≠ b) : Pix4 (w.setCell q x) b v0 v1 v2 v3 :=
  ⟨(World.cell?_setCell_other _ _ _ _ (by rintro rfl; exact hq rfl)).trans h.c0, (World.cell?_setCell_other _ _ _ _ (by rintro rfl; exact hq rfl)).trans h.c1, (World.cell?_setCell_other _ _ _ _ (by rintro rfl; exact hq rfl)).trans h.c2, (World.cell?_setCell_other _ _ _ _ (by rintro rfl; exact hq rfl)).trans h.c3, fun o => (World.frozen?_setCell _ _ _ _).trans (h.f o)⟩
theorem Pix4.new (w : World) (v0 v1 v2 v3 t : Nat) : Pix4 (w.alloc (.cells #[.float .f32 v0, .float .f32 v1, .float .f32 v2, .float .f32 v3] t)) w.heap.size v0 v1 v2 v3 :=
  ⟨by simp [go_sem], by simp [go_sem], by simp [go_sem], by simp [go_sem], fun o => by simp [go_sem]⟩
set_option maxRecDepth 100000 in
set_option maxHeartbeats 800000 in
theorem three_any (K : Nat) (caps : Array Value) (g : Int → Nat → Nat) (p0 p1 p2 p3 : Nat) (w : World) (h0 : p0 < 2 ^ FloatKind.f32.format.width) (h1 : p1 < 2 ^ FloatKind.f32.format.width) (h2 : p2 < 2 ^ FloatKind.f32.format.width)
    (hent : ∀ args w, (callFunc K args).run Tryz.prog w = .ok (.enter K args) w)
    (hk : ∀ c v w', Below w.heap.size w w' → v < 2 ^ FloatKind.f32.format.width → Calls Tryz.prog K (#[.int .i64 c, .float .f32 v] ++ caps) w' fun e w'' => ∃ r, e = .returned (.float .f32 r) ∧ FR .f32 r (g c v) ∧ Below w'.heap.size w' w'') :
    Calls Tryz.prog 87 #[.agg #[.float .f32 p0, .float .f32 p1, .float .f32 p2, .float .f32 p3], .func (.func K) #[] caps] w fun e w' =>
      e = .returned (.agg #[.float .f32 (g 0 p0), .float .f32 (g 1 p1), .float .f32 (g 2 p2), .float .f32 (cn .f32 p3)]) ∧ Below w.heap.size w w' := by
  have hk' := Lib.hid hk; clear hk
  have h0' := Lib.hid h0; clear h0
  have h1' := Lib.hid h1; clear h1
  have h2' := Lib.hid h2; clear h2
  go_enter Tryz.func87, Tryz.ntmps87
  go_wp2
  refine wp_loop_rounds 4 ?_
  go_wp2_with (simp only [rounds_succ])
  refine (hk'.out _ _ _ ?_ h0'.out).mono ?_
  · (repeat (first | exact Below.refl _ _ | assumption | (refine Below.setCell ?_ (by first | (simp; done) | (simp; omega) | omega) _) | (refine Below.drew ?_) | (refine below_drewN ?_ _) | (refine Below.alloc ?_ (by first | (simp; done) | (simp; omega) | omega) _) | (refine Below.trans ?_ (Below.mono (by assumption) (by first | (simp; done) | (simp; omega) | omega)))))
  rintro e w1 ⟨r0, rfl, hr0, hb0⟩
  have e0 := hr0.eq
  have hs := hb0.size
  simp at hs
  have q0 : w.heap.size < w1.heap.size := by omega
  have qq0 : w.heap.size + 1 < w1.heap.size := by omega
  have P1 : Pix4 w1 w.heap.size p0 p1 p2 p3 := ((Pix4.new w p0 p1 p2 p3 _).below (Below.alloc (Below.refl (w.heap.size + 1) _) (by simp) _) (by omega)).below hb0 (by simp; omega)
  have R1 : Pix4 w1 (w.heap.size + 1) 0 0 0 0 := (by have := Pix4.new (w.alloc (.cells #[.float .f32 p0, .float .f32 p1, .float .f32 p2, .float .f32 p3] 109)) 0 0 0 0 109; simpa using this : Pix4 _ (w.heap.size + 1) 0 0 0 0).below hb0 (by simp)
  have B1 : Below w.heap.size w w1 := by (repeat (first | exact Below.refl _ _ | assumption | (refine Below.setCell ?_ (by first | (simp; done) | (simp; omega) | omega) _) | (refine Below.drew ?_) | (refine below_drewN ?_ _) | (refine Below.alloc ?_ (by first | (simp; done) | (simp; omega) | omega) _) | (refine Below.trans ?_ (Below.mono (by assumption) (by first | (simp; done) | (simp; omega) | omega)))))
  clear hb0
  have hP1 := Lib.hid P1; have hR1 := Lib.hid R1
  obtain ⟨c0, c1, c2, c3, pf⟩ := P1
  obtain ⟨d0, d1, d2, d3, rf⟩ := R1
  clear hs
  go_wp2_with (first | simp only [rounds_succ] | (go_at_call 116; refine (Clean_any _ _).mono ?_; rintro e w' ⟨rfl, rfl⟩))
  refine (hk'.out _ _ _ ?_ h1'.out).mono ?_
  · (repeat (first | exact Below.refl _ _ | assumption | (refine Below.setCell ?_ (by first | (simp; done) | (simp; omega) | omega) _) | (refine Below.drew ?_) | (refine below_drewN ?_ _) | (refine Below.alloc ?_ (by first | (simp; done) | (simp; omega) | omega) _) | (refine Below.trans ?_ (Below.mono (by assumption) (by first | (simp; done) | (simp; omega) | omega)))))
  rintro e w2 ⟨r1, rfl, hr1, hb1⟩
  have e1 := hr1.eq
  have hs := hb1.size
  simp at hs
  have q1 : w.heap.size < w2.heap.size := by omega
  have qq1 : w.heap.size + 1 < w2.heap.size := by omega
  have P2 : Pix4 w2 w.heap.size (g 0 p0) p1 p2 p3 := (hP1.out.set0 _).below hb1 (by simpa using q0)
  have R2 : Pix4 w2 (w.heap.size + 1) 0 0 0 0 := (hR1.out.far _ _ (by simp)).below hb1 (by simpa using qq0)
  clear hP1 hR1 c0 c1 c2 c3 pf d0 d1 d2 d3 rf
  have B2 : Below w.heap.size w w2 := by (repeat (first | exact Below.refl _ _ | assumption | (refine Below.setCell ?_ (by first | (simp; done) | (simp; omega) | omega) _) | (refine Below.drew ?_) | (refine below_drewN ?_ _) | (refine Below.alloc ?_ (by first | (simp; done) | (simp; omega) | omega) _) | (refine Below.trans ?_ (Below.mono (by assumption) (by first | (simp; done) | (simp; omega) | omega)))))
  clear hb1
  have hP2 := Lib.hid P2; have hR2 := Lib.hid R2
  obtain ⟨c0, c1, c2, c3, pf⟩ := P2
  obtain ⟨d0, d1, d2, d3, rf⟩ := R2
  clear hs
  go_wp2_with (first | simp only [rounds_succ] | (go_at_call 116; refine (Clean_any _ _).mono ?_; rintro e w' ⟨rfl, rfl⟩))
  refine (hk'.out _ _ _ ?_ h2'.out).mono ?_
  · (repeat (first | exact Below.refl _ _ | assumption | (refine Below.setCell ?_ (by first | (simp; done) | (simp; omega) | omega) _) | (refine Below.drew ?_) | (refine below_drewN ?_ _) | (refine Below.alloc ?_ (by first | (simp; done) | (simp; omega) | omega) _) | (refine Below.trans ?_ (Below.mono (by assumption) (by first | (simp; done) | (simp; omega) | omega)))))
  rintro e w3 ⟨r2, rfl, hr2, hb2⟩
  have e2 := hr2.eq
  have hs := hb2.size
  simp at hs
  have q2 : w.heap.size < w3.heap.size := by omega
  have qq2 : w.heap.size + 1 < w3.heap.size := by omega
  have P3 : Pix4 w3 w.heap.size (g 0 p0) (g 1 p1) p2 p3 := (hP2.out.set1 _).below hb2 (by simpa using q1)
  have R3 : Pix4 w3 (w.heap.size + 1) 0 0 0 0 := (hR2.out.far _ _ (by simp)).below hb2 (by simpa using qq1)
  clear hP2 hR2 c0 c1 c2 c3 pf d0 d1 d2 d3 rf
  have B3 : Below w.heap.size w w3 := by (repeat (first | exact Below.refl _ _ | assumption | (refine Below.setCell ?_ (by first | (simp; done) | (simp; omega) | omega) _) | (refine Below.drew ?_) | (refine below_drewN ?_ _) | (refine Below.alloc ?_ (by first | (simp; done) | (simp; omega) | omega) _) | (refine Below.trans ?_ (Below.mono (by assumption) (by first | (simp; done) | (simp; omega) | omega)))))
  clear hb2
  have hP3 := Lib.hid P3; have hR3 := Lib.hid R3
  obtain ⟨c0, c1, c2, c3, pf⟩ := P3
  obtain ⟨d0, d1, d2, d3, rf⟩ := R3
  clear hs
  go_wp2_with (first | simp only [rounds_succ] | (go_at_call 116; refine (Clean_any _ _).mono ?_; rintro e w' ⟨rfl, rfl⟩))
  refine bodyPost_ret (v := .agg #[.float .f32 (g 0 p0), .float .f32 (g 1 p1), .float .f32 (g 2 p2), .float .f32 (cn .f32 p3)]) ?_ rfl ⟨rfl, ?_⟩
  · simp [results, Tryz.results87, go_sem, *]
  · exact (((((B3.setCell (by simp) _).setCell (by simp) _).setCell (by simp) _).setCell (by simp) _).setCell (by simp) _).setCell (by simp) _
end Go.Proofs.YtbaocallhnehfaaGreatDoor

namespace Go.Proofs.YtbaocallhnehfaaGreatDoor
open Go.RowKit
/-- A function with a body is entered. -/
theorem body_enters {P : Program} {f : FuncId} {fn : Func} {c : Code} (hf : P.funcs[f]? = some fn) (hn : (fn.name == "runtime.NumGoroutine") = false) (hb : fn.body = some c) (args : Array Value) (w : World) : (callFunc f args).run P w = .ok (.enter f args) w := by
  have h1 : fn.name ≠ "runtime.NumGoroutine" := by simpa using hn
  simp [callFunc, hf, h1, hb]
theorem All3_any (b off cap p0 p1 p2 : Nat) (w : World) (c0 : w.cell? ⟨b, off, none⟩ = some (.float .f32 p0)) (c1 : w.cell? ⟨b, off + 1, none⟩ = some (.float .f32 p1)) (c2 : w.cell? ⟨b, off + 2, none⟩ = some (.float .f32 p2)) :
    Calls Tryz.prog 54 #[.slice (some ⟨b, off, none⟩) 3 cap] w fun e w' => e = .returned (.bool (allNum [p0, p1, p2])) ∧ w = w' :=
  AllNumbers_any b off 3 cap [p0, p1, p2] w rfl (by decide) (fun i hi => by rcases (show i = 0 ∨ i = 1 ∨ i = 2 by omega) with rfl | rfl | rfl; exact c0; exact c1; exact c2)
theorem All2_any (b off cap p0 p1 : Nat) (w : World) (c0 : w.cell? ⟨b, off, none⟩ = some (.float .f32 p0)) (c1 : w.cell? ⟨b, off + 1, none⟩ = some (.float .f32 p1)) :
    Calls Tryz.prog 54 #[.slice (some ⟨b, off, none⟩) 2 cap] w fun e w' => e = .returned (.bool (allNum [p0, p1])) ∧ w = w' :=
  AllNumbers_any b off 2 cap [p0, p1] w rfl (by decide) (fun i hi => by rcases (show i = 0 ∨ i = 1 by omega) with rfl | rfl; exact c0; exact c1)
/-- The greater of two, as the code picks it. -/
def pickF (a v : Nat) : Nat := if FloatKind.f32.format.order v a == some .gt then v else a
def maxF (p0 p1 p2 : Nat) : Nat := pickF (pickF p0 p1) p2
def staysF (p0 p1 p2 : Nat) : Bool := !(FloatKind.f32.format.order (maxF p0 p1 p2) 0 == some .gt) || !allNum [p0, p1, p2]
def pkF (p0 p1 p2 : Nat) : Nat → Nat
  | 0 => p0
  | 1 => pickF p0 p1
  | _ => maxF p0 p1 p2
theorem pick_t {a v : Nat} (h : (FloatKind.f32.format.order v a == some .gt) = true) : pickF a v = v := by unfold pickF; rw [if_pos h]
theorem pick_f {a v : Nat} (h : (FloatKind.f32.format.order v a == some .gt) = false) : pickF a v = a := by unfold pickF; rw [if_neg (by rw [h]; decide)]
/-- A block of one cell. -/
structure One (w : World) (b : Nat) (v : Value) : Prop where
  c : w.cell? ⟨b, 0, none⟩ = some v
  f : w.frozen? ⟨b, 0, none⟩ = false
theorem One.below {W w : World} {n b : Nat} {v : Value} (h : One W b v) (hb : Below n W w) (hn : b < n) : One w b v :=
  ⟨(hb.cell (p := ⟨b, 0, none⟩) hn).trans h.c, (hb.frozen (p := ⟨b, 0, none⟩) hn).trans h.f⟩
theorem One.set {w : World} {b : Nat} {v : Value} (h : One w b v) (u : Value) : One (w.setCell ⟨b, 0, none⟩ u) b u :=
  ⟨World.cell?_setCell_same _ _ _ h.c, (World.frozen?_setCell _ _ _ _).trans h.f⟩
theorem One.far {w : World} {b : Nat} {v : Value} (h : One w b v) (q : Addr) (x : Value) (hq : q.block ≠ b) : One (w.setCell q x) b v :=
  ⟨(World.cell?_setCell_other _ _ _ _ (by rintro rfl; exact hq rfl)).trans h.c, (World.frozen?_setCell _ _ _ _).trans h.f⟩
set_option maxRecDepth 100000 in
set_option maxHeartbeats 1600000 in
theorem Compress_yes (p0 p1 p2 p3 f : Nat) (w : World) (h0 : p0 < 2 ^ FloatKind.f32.format.width) (h1 : p1 < 2 ^ FloatKind.f32.format.width) (h2 : p2 < 2 ^ FloatKind.f32.format.width)
    (hn : isNum .f32 f = true) (hl : (FloatKind.f32.format.order f 0 == some .lt) = false) (hg : (FloatKind.f32.format.order f 1065353216 == some .gt) = false) (he : (FloatKind.f32.format.order f 1065353216 == some .eq) = false) :
    Calls Tryz.prog 58 #[.agg #[.float .f32 p0, .float .f32 p1, .float .f32 p2, .float .f32 p3], .float .f32 f] w fun e w' =>
      e = .returned (.tuple #[.agg #[.float .f32 (compF (maxF p0 p1 p2) (staysF p0 p1 p2) f p0), .float .f32 (compF (maxF p0 p1 p2) (staysF p0 p1 p2) f p1), .float .f32 (compF (maxF p0 p1 p2) (staysF p0 p1 p2) f p2), .float .f32 (cn .f32 p3)], .int .i64 0]) ∧ Below w.heap.size w w' := by
  go_enter Tryz.func58, Tryz.ntmps58
  go_wp2_with (first | (go_at_call 85; refine (IsNumber_any _ _).mono ?_; rintro e w' ⟨rfl, rfl⟩))
  go_loopw [27] (fun i wr => ∃ k : Nat, k ≤ 2 ∧ i = .int .i64 k ∧ One wr (w.heap.size + 1 + 1 + 1) (.float .f32 (pkF p0 p1 p2 k)) ∧ Pix4 wr w.heap.size p0 p1 p2 p3 ∧ One wr (w.heap.size + 1) (.float .f32 f) ∧ Pix4 wr (w.heap.size + 1 + 1) 0 0 0 0 ∧ wr.heap.size = w.heap.size + 1 + 1 + 1 + 1 ∧ Below w.heap.size w wr)
    (fun i _ => 2 - (intOf i).toNat)
  case atStart =>
    refine ⟨0, by decide, rfl, ⟨by simp [go_sem, pkF], by simp [go_sem]⟩, ⟨by simp [go_sem], by simp [go_sem], by simp [go_sem], by simp [go_sem], fun o => by simp [go_sem]⟩, ⟨by simp [go_sem], by simp [go_sem]⟩, ⟨by simp [go_sem], by simp [go_sem], by simp [go_sem], by simp [go_sem], fun o => by simp [go_sem]⟩, by simp, by (repeat (first | exact Below.refl _ _ | assumption | (refine Below.setCell ?_ (by first | (simp; done) | (simp; omega) | omega) _) | (refine Below.drew ?_) | (refine below_drewN ?_ _) | (refine Below.alloc ?_ (by first | (simp; done) | (simp; omega) | omega) _) | (refine Below.trans ?_ (Below.mono (by assumption) (by first | (simp; done) | (simp; omega) | omega)))))⟩
  case round =>
    obtain ⟨k, hk, rfl, ho, hp, hf, hr, hs, hb⟩ := hrel
    obtain ⟨oc, of⟩ := id ho
    obtain ⟨c0, c1, c2, c3, cf⟩ := id hp
    obtain ⟨fc, ff⟩ := id hf
    obtain ⟨d0, d1, d2, d3, df⟩ := id hr
    have ho' := Lib.hid ho; have hp' := Lib.hid hp; have hf' := Lib.hid hf; have hr' := Lib.hid hr
    clear ho hp hf hr
    rcases (show k = 0 ∨ k = 1 ∨ k = 2 by omega) with rfl | rfl | rfl
    · simp only [pkF] at oc
      go_wp2
      · rename_i h
        go_roundw
        case rel => exact ⟨1, by omega, rfl, by have := ho'.out.set (.float .f32 p1); simp only [pkF] at this ⊢; rw [pick_t h]; exact this, hp'.out.far _ _ (by first | (simp; done) | (simp; omega)), hf'.out.far _ _ (by first | (simp; done) | (simp; omega)), hr'.out.far _ _ (by first | (simp; done) | (simp; omega)), by simpa using hs, by (repeat (first | exact Below.refl _ _ | assumption | (refine Below.setCell ?_ (by first | (simp; done) | (simp; omega) | omega) _) | (refine Below.drew ?_) | (refine below_drewN ?_ _) | (refine Below.alloc ?_ (by first | (simp; done) | (simp; omega) | omega) _) | (refine Below.trans ?_ (Below.mono (by assumption) (by first | (simp; done) | (simp; omega) | omega)))))⟩
        case measure => simp [intOf]
      · rename_i h
        go_roundw
        case rel => exact ⟨1, by omega, rfl, by have := ho'.out; simp only [pkF] at this ⊢; rw [pick_f h]; exact this, hp'.out, hf'.out, hr'.out, hs, hb⟩
        case measure => simp [intOf]
    · simp only [pkF] at oc
      go_wp2
      · rename_i h
        go_roundw
        case rel => exact ⟨2, by omega, rfl, by have := ho'.out.set (.float .f32 p2); simp only [pkF, maxF] at this ⊢; rw [pick_t h]; exact this, hp'.out.far _ _ (by first | (simp; done) | (simp; omega)), hf'.out.far _ _ (by first | (simp; done) | (simp; omega)), hr'.out.far _ _ (by first | (simp; done) | (simp; omega)), by simpa using hs, by (repeat (first | exact Below.refl _ _ | assumption | (refine Below.setCell ?_ (by first | (simp; done) | (simp; omega) | omega) _) | (refine Below.drew ?_) | (refine below_drewN ?_ _) | (refine Below.alloc ?_ (by first | (simp; done) | (simp; omega) | omega) _) | (refine Below.trans ?_ (Below.mono (by assumption) (by first | (simp; done) | (simp; omega) | omega)))))⟩
        case measure => simp [intOf]
      · rename_i h
        go_roundw
        case rel => exact ⟨2, by omega, rfl, by have := ho'.out; simp only [pkF, maxF] at this ⊢; rw [pick_f h]; exact this, hp'.out, hf'.out, hr'.out, hs, hb⟩
        case measure => simp [intOf]
    · simp only [pkF] at oc
      generalize hA : maxF p0 p1 p2 = A at *
      go_wp2_with (first | (go_at_call 54; refine (All3_any _ _ _ p0 p1 p2 _ c0 c1 c2).mono ?_; rintro e w' ⟨rfl, rfl⟩))
      · rename_i hA0 _ _ _ _
        have hS : staysF p0 p1 p2 = (!allNum [p0, p1, p2]) := by unfold staysF; rw [hA]; rw [hA0]; rfl
        have b0 := (Below.refl wr.heap.size wr).alloc (Nat.le_refl _) (.cells #[.bool (!allNum [p0, p1, p2])] 4)
        have oA := (ho'.out.below b0 (by omega)); have oF := (hf'.out.below b0 (by omega)); have oR := (hr'.out.below b0 (by omega))
        have oS : One (wr.alloc (.cells #[.bool (!allNum [p0, p1, p2])] 4)) (w.heap.size + 1 + 1 + 1 + 1) (.bool (!allNum [p0, p1, p2])) := by rw [← hs]; exact ⟨by simp [go_sem], by simp [go_sem]⟩
        simp only [pkF, hA] at oA
        refine (three_any _ _ (fun _ v => compF A (!allNum [p0, p1, p2]) f v) p0 p1 p2 p3 _ h0 h1 h2 (body_enters Tryz.func88 (by kernel_rfl) rfl) (fun c v w' hb' hv => ?_)).mono ?_
        · refine (comp_code A f v _ _ _ (!allNum [p0, p1, p2]) c w' hv (oA.below hb' (by simp; omega)).c (oS.below hb' (by simp; omega)).c (oF.below hb' (by simp; omega)).c).mono ?_
          rintro e w'' ⟨r, m, rfl, hr, rfl⟩
          exact ⟨r, rfl, hr, below_drewN (Below.refl _ _) m⟩
        · rintro e w1 ⟨rfl, hb1⟩
          have oR1 := oR.below hb1 (by simp; omega)
          obtain ⟨g0, g1, g2, g3, gf⟩ := oR1
          clear c0 c1 c2 c3 cf d0 d1 d2 d3 df oc of fc ff
          go_wp2
          refine bodyPost_ret (v := .tuple #[.agg #[.float .f32 (compF A (!allNum [p0, p1, p2]) f p0), .float .f32 (compF A (!allNum [p0, p1, p2]) f p1), .float .f32 (compF A (!allNum [p0, p1, p2]) f p2), .float .f32 (cn .f32 p3)], .int .i64 0]) (by simp [results, Tryz.results58, go_sem, *]) rfl ⟨by rw [hA, hS], ?_⟩
          (repeat (first | exact Below.refl _ _ | assumption | (refine Below.setCell ?_ (by first | (simp; done) | (simp; omega) | omega) _) | (refine Below.drew ?_) | (refine below_drewN ?_ _) | (refine Below.alloc ?_ (by first | (simp; done) | (simp; omega) | omega) _) | (refine Below.trans ?_ (Below.mono (by assumption) (by first | (simp; done) | (simp; omega) | omega)))))
      · rename_i hA0 _ _ _ _
        have hS : staysF p0 p1 p2 = true := by unfold staysF; rw [hA]; simp [hA0]
        have b0 := (Below.refl wr.heap.size wr).alloc (Nat.le_refl _) (.cells #[.bool true] 4)
        have oA := (ho'.out.below b0 (by omega)); have oF := (hf'.out.below b0 (by omega)); have oR := (hr'.out.below b0 (by omega))
        have oS : One (wr.alloc (.cells #[.bool true] 4)) (w.heap.size + 1 + 1 + 1 + 1) (.bool true) := by rw [← hs]; exact ⟨by simp [go_sem], by simp [go_sem]⟩
        simp only [pkF, hA] at oA
        refine (three_any _ _ (fun _ v => compF A true f v) p0 p1 p2 p3 _ h0 h1 h2 (body_enters Tryz.func88 (by kernel_rfl) rfl) (fun c v w' hb' hv => ?_)).mono ?_
        · refine (comp_code A f v _ _ _ true c w' hv (oA.below hb' (by simp; omega)).c (oS.below hb' (by simp; omega)).c (oF.below hb' (by simp; omega)).c).mono ?_
          rintro e w'' ⟨r, m, rfl, hr, rfl⟩
          exact ⟨r, rfl, hr, below_drewN (Below.refl _ _) m⟩
        · rintro e w1 ⟨rfl, hb1⟩
          have oR1 := oR.below hb1 (by simp; omega)
          obtain ⟨g0, g1, g2, g3, gf⟩ := oR1
          clear c0 c1 c2 c3 cf d0 d1 d2 d3 df oc of fc ff
          go_wp2
          refine bodyPost_ret (v := .tuple #[.agg #[.float .f32 (compF A true f p0), .float .f32 (compF A true f p1), .float .f32 (compF A true f p2), .float .f32 (cn .f32 p3)], .int .i64 0]) (by simp [results, Tryz.results58, go_sem, *]) rfl ⟨by rw [hA, hS], ?_⟩
          (repeat (first | exact Below.refl _ _ | assumption | (refine Below.setCell ?_ (by first | (simp; done) | (simp; omega) | omega) _) | (refine Below.drew ?_) | (refine below_drewN ?_ _) | (refine Below.alloc ?_ (by first | (simp; done) | (simp; omega) | omega) _) | (refine Below.trans ?_ (Below.mono (by assumption) (by first | (simp; done) | (simp; omega) | omega)))))
end Go.Proofs.YtbaocallhnehfaaGreatDoor

namespace Go.Proofs.YtbaocallhnehfaaGreatDoor
open Go.RowKit
/-- What a call in the statement may hand back. -/
def EachPsi (K : Nat) (caps : Array Value) (g : Nat → Nat) (f : FuncId) (args : Array Value) (u : Value) : Prop :=
  (f = K ∧ ∃ v, args = #[.float .f32 v] ++ caps ∧ u = .float .f32 (g v)) ∨ (f = 51 ∧ ∃ v, args = #[.float .f32 v] ∧ u = .float .f32 (cn .f32 v))
end Go.Proofs.YtbaocallhnehfaaGreatDoor

namespace Go.Proofs.YtbaocallhnehfaaGreatDoor
open Go.RowKit
/-- The document's channel, whether the pixel stays or not. -/
def docF (a : Nat) (st : Bool) (f v : Nat) : Nat := if st then cn .f32 v else compG a f v
end Go.Proofs.YtbaocallhnehfaaGreatDoor
