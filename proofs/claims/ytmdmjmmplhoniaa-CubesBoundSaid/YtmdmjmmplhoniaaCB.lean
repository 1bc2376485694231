/- Where a value lies on a cube's axis: cube.place, dyeref2.OnAxis. Conditions: the cube's size is right. (with: CuL, Vec, CuK) -/
import Derived.Test.YtmdmjmmplhoniaaCA
import Derived.Test.YtmdmjmmplhoniaaBH
import Derived.Test.YtmdmjmmplhoniaaBD
import Derived.Test.YtmdmjmmplhoniaaBG
namespace Go.Proofs.Ytmdmjmmplhoniaa
open Go Go.RowKit
/-- The place ahead of its parting. -/
def tF (S lo hi v : Nat) : Nat := fop .mul .f32 (fop .quo .f32 (fop .sub .f32 v lo) (fop .sub .f32 hi lo)) (floatOfInt .f32 ((S : Int) - 1))
def plI (t : Nat) : Int := (floatToIntVal .f32 t .i64).getD 0
/-- The entry below, and the share of the next one. -/
def plF (S lo hi v : Nat) : Int × Nat :=
  if !(FloatKind.f32.format.order (tF S lo hi v) 0 == some .gt) then (0, 0)
  else if !(FloatKind.f32.format.order (tF S lo hi v) (floatOfInt .f32 ((S : Int) - 1)) == some .lt) then ((S : Int) - 2, 1065353216)
  else (plI (tF S lo hi v), fop .sub .f32 (tF S lo hi v) (floatOfInt .f32 (plI (tF S lo hi v))))
theorem f2i_some32 {b N : Nat} (h : isNum .f32 b = true) (h1 : (N : Rat) ≤ vq FloatKind.f32.format (rung FloatKind.f32.format b)) (h2 : vq FloatKind.f32.format (rung FloatKind.f32.format b) < (N : Rat) + 1) (hs : sgn FloatKind.f32.format b = false ∨ N = 0) (hN : N ≤ 1000) : floatToIntVal .f32 b .i64 = some (N : Int) := by
  obtain ⟨q, g1, g2, g3⟩ := toInt_zero h
  have q1 : q < N + 1 := by refine Rat.natCast_lt_natCast.1 ?_; rw [Rat.natCast_add]; simp; grind
  have q2 : N < q + 1 := by refine Rat.natCast_lt_natCast.1 ?_; rw [Rat.natCast_add]; simp; grind
  obtain rfl : q = N := by omega
  unfold floatToIntVal
  rw [g1]
  simp only []
  have e1 : IntKind.i64.min = -9223372036854775808 := by decide
  have e2 : IntKind.i64.max = 9223372036854775807 := by decide
  have e3 : (if sgn FloatKind.f32.format b then -(q : Int) else (q : Int)) = q := by
    rcases hs with hs | hs
    · rw [hs]; rfl
    · subst hs; split <;> rfl
  rw [e3, if_pos]
  rw [e1, e2]; omega
theorem sgn_of_key {k : FloatKind} {x : Nat} (h : 0 < key k.format x) : sgn k.format x = false ∧ key k.format x = (rung k.format x : Int) := by
  unfold key at *
  cases hs : sgn k.format x
  · exact ⟨rfl, by simp⟩
  · rw [hs] at h; simp at h; omega
theorem key_le_rung {k : FloatKind} (x : Nat) : key k.format x ≤ (rung k.format x : Int) := by
  unfold key; split <;> omega
/-- Between the ends: what the place is. -/
theorem pl_mid {S t : Nat} (hS : 2 ≤ S ∧ S ≤ 17) (h0 : (FloatKind.f32.format.order t 0 == some .gt) = true) (h1 : (FloatKind.f32.format.order t (floatOfInt .f32 ((S : Int) - 1)) == some .lt) = true) :
    ∃ N : Nat, N + 2 ≤ S ∧ plI t = N ∧ isNum .f32 t = true ∧ floatToIntVal .f32 t .i64 = some (N : Int) ∧ floatToIntVal .f32 (flF t) .i64 = some (N : Int) ∧ isNum .f32 (flF t) = true ∧ fop .sub .f32 t (flF t) = fop .sub .f32 t (floatOfInt .f32 (N : Int)) ∧ isN .f32 (fop .sub .f32 t (floatOfInt .f32 (N : Int))) = false := by
  obtain ⟨n1, v1⟩ := ofInt_exact32 ((S : Int) - 1) (by omega)
  have hN : isN .f32 t = false := by
    cases h : isN .f32 t
    · rfl
    · rw [ord_nan_l _ h] at h0; cases h0
  have z0 : isN .f32 0 = false := by decide +kernel
  have kz : key FloatKind.f32.format 0 = 0 := by decide
  rw [ord_gt hN z0, decide_eq_true_eq, kz] at h0
  rw [ord_lt hN (isNum_not_nan n1), decide_eq_true_eq] at h1
  obtain ⟨hs, hk⟩ := sgn_of_key h0
  have hnum : isNum .f32 t = true := by
    unfold isNum at n1 ⊢
    have := key_le_rung (k := .f32) (floatOfInt .f32 ((S : Int) - 1))
    simp only [decide_eq_true_eq] at n1 ⊢
    omega
  have hvt : val .f32 t = vq FloatKind.f32.format (rung FloatKind.f32.format t) := by rw [val_sg, hs]; rfl
  have hlt : val .f32 t < ((S : Int) - 1 : Int) := by rw [← v1]; exact val_lt_key.2 h1
  have hgt : 0 < val .f32 t := by
    have : val .f32 0 < val .f32 t := val_lt_key.2 (by rw [kz]; exact h0)
    have e : val .f32 0 = 0 := by decide +kernel
    rw [e] at this; exact this
  obtain ⟨-, -, M, -, b1, b2, nf, vf⟩ := floor_spec hnum
  have nf' : isNum .f32 (flF t) = true := nf
  have vf' : val .f32 (flF t) = (M : Rat) := vf
  have hM0 : 0 ≤ M := by
    have : (((-1 : Int) : Int) : Rat) < (M : Rat) := by
      have e : (((-1 : Int) : Int) : Rat) = -1 := by decide +kernel
      rw [e]; grind
    have := Rat.intCast_lt_intCast.1 this
    omega
  have hM1 : M < (S : Int) - 1 := Rat.intCast_lt_intCast.1 (rle_lt b1 hlt)
  obtain ⟨N, rfl⟩ : ∃ N : Nat, M = N := ⟨M.toNat, by omega⟩
  have eM : (((N : Nat) : Int) : Rat) = (N : Rat) := by rw [Rat.intCast_natCast]
  rw [eM] at b1 b2 vf'
  have i1 := f2i_some32 hnum (N := N) (by rw [← hvt]; exact b1) (by rw [← hvt]; exact b2) (.inl hs) (by omega)
  obtain ⟨n2, v2⟩ := ofInt_exact32 (N : Int) (by omega)
  rw [eM] at v2
  have hvq : vq FloatKind.f32.format (rung FloatKind.f32.format (flF t)) = (N : Rat) := by
    have h := vq_nonneg FloatKind.f32.format (rung FloatKind.f32.format (flF t))
    rw [val_sg] at vf'
    have hn : (0 : Rat) ≤ (N : Rat) := Rat.natCast_nonneg
    unfold sg at vf'; split at vf' <;> grind
  have i2 := f2i_some32 nf' (N := N) (by rw [hvq]; exact Rat.le_refl) (by rw [hvq]; grind) (by
    by_cases hz : N = 0
    · exact .inr hz
    · left
      cases hs2 : sgn FloatKind.f32.format (flF t)
      · rfl
      · exfalso
        rw [val_sg, hs2, hvq] at vf'
        have : (0 : Rat) < (N : Rat) := by have := Rat.natCast_lt_natCast.2 (show 0 < N by omega); simpa using this
        unfold sg at vf'; simp at vf'; grind) (by omega)
  refine ⟨N, by omega, by unfold plI; rw [i1]; rfl, hnum, i1, i2, nf', ?_, (addsub_not_nan hnum n2).2⟩
  by_cases hz : N = 0
  · subst hz
    obtain ⟨m, e, hd, hv, hb, he⟩ := decode_num hnum
    have hq : val .f32 t = sg false ((m : Rat) * (2 : Rat) ^ e) := by rw [hvt, ← hv]; rfl
    have o : ((0 : Nat) : Rat) = 0 := rfl
    rw [o] at vf' v2
    have hle : val .f32 t < 1 := by grind
    have p0 : (2 : Rat) ^ (0 : Int) = 1 := Rat.zpow_zero _
    have R1 := fop_sub_num hnum nf' 0 (by decide) (by decide) (by rw [p0, vf']; grind) (by rw [p0, vf']; grind)
    have R2 := fop_sub_num hnum n2 0 (by decide) (by decide) (by rw [p0, v2]; grind) (by rw [p0, v2]; grind)
    have e1 := R1.exact false m e hb he (by rw [vf', ← hq]; grind)
    have e2 := R2.exact false m e hb he (by rw [v2, ← hq]; grind)
    refine bits_of_val (fop_lt _ _ _ _) (fop_lt _ _ _ _) (by rw [e1, e2, vf', v2]) (by rw [e1, vf']; grind)
  · congr 1
    refine bits_of_val (fcv_lt _ _ _) (by unfold floatOfInt; exact encode_lt _ _) (by rw [vf', v2]) (by
      rw [vf']
      have : (0 : Rat) < (N : Rat) := by have := Rat.natCast_lt_natCast.2 (show 0 < N by omega); simpa using this
      grind)
theorem tF_FR {S lo hi v r1 r2 r3 r4 : Nat} (h1 : FR .f32 r1 (fop .sub .f32 (cn .f32 v) (cn .f32 lo))) (h2 : FR .f32 r2 (fop .sub .f32 (cn .f32 hi) (cn .f32 lo))) (h3 : FR .f32 r3 (fop .quo .f32 (cn .f32 r1) (cn .f32 r2))) (h4 : FR .f32 r4 (fop .mul .f32 (cn .f32 r3) (cn .f32 (floatOfInt .f32 ((S : Int) - 1))))) : FR .f32 r4 (tF S lo hi v) := by
  rw [h3.eq, h2.eq, h1.eq] at h4
  simp only [fop_cn_left, fop_cn_right] at h4
  exact h4
theorem FR_num {r s : Nat} (h : FR .f32 r s) (hs : isN .f32 s = false) : r = s := by
  have := h.eq
  rw [← this, isN_cn] at hs
  rw [cn_of_not hs] at this; exact this
theorem plF_low {S lo hi v : Nat} (h : (FloatKind.f32.format.order (tF S lo hi v) 0 == some .gt) = false) : plF S lo hi v = (0, 0) := by unfold plF; rw [h]; rfl
theorem plF_high {S lo hi v : Nat} (h : (FloatKind.f32.format.order (tF S lo hi v) 0 == some .gt) = true) (h1 : (FloatKind.f32.format.order (tF S lo hi v) (floatOfInt .f32 ((S : Int) - 1)) == some .lt) = false) : plF S lo hi v = ((S : Int) - 2, 1065353216) := by unfold plF; rw [h, h1]; rfl
theorem plF_mid {S lo hi v : Nat} (h : (FloatKind.f32.format.order (tF S lo hi v) 0 == some .gt) = true) (h1 : (FloatKind.f32.format.order (tF S lo hi v) (floatOfInt .f32 ((S : Int) - 1)) == some .lt) = true) : plF S lo hi v = (plI (tF S lo hi v), fop .sub .f32 (tF S lo hi v) (floatOfInt .f32 (plI (tF S lo hi v)))) := by unfold plF; rw [h, h1]; rfl
theorem ge_of {t l : Nat} (ht : isN .f32 t = false) (hl : isN .f32 l = false) : ((FloatKind.f32.format.order t l == some .gt) || (FloatKind.f32.format.order t l == some .eq)) = !(FloatKind.f32.format.order t l == some .lt) := by
  rw [ord_gt ht hl, ord_eq ht hl, ord_lt ht hl]
  rcases Int.lt_trichotomy (key FloatKind.f32.format t) (key FloatKind.f32.format l) with h | h | h
  · rw [decide_eq_false (by omega), decide_eq_false (by omega), decide_eq_true h]; rfl
  · rw [decide_eq_false (by omega), decide_eq_true h, decide_eq_false (by omega)]; rfl
  · rw [decide_eq_true h, decide_eq_false (by omega : ¬ key FloatKind.f32.format t < key FloatKind.f32.format l)]; rfl
set_option maxRecDepth 100000 in
set_option maxHeartbeats 1600000 in
theorem place_any (S lo hi v : Nat) (a : Option Addr) (n cap : Nat) (w : World) (hS : 2 ≤ S ∧ S ≤ 17) :
    Calls Try.prog 38 #[.agg #[.int .i64 S, .float .f32 lo, .float .f32 hi, .slice a n cap], .float .f32 v] w fun e w' =>
      e = .returned (.tuple #[.int .i64 (plF S lo hi v).1, .float .f32 (plF S lo hi v).2]) ∧ Below w.heap.size w w' := by
  have w1 : IntKind.i64.wrap ((S : Int) - 1) = (S : Int) - 1 := by rw [IntKind.wrap_i64]; omega
  have w2 : IntKind.i64.wrap ((S : Int) - 2) = (S : Int) - 2 := by rw [IntKind.wrap_i64]; omega
  have HS := Lib.hid hS
  have nl := Lib.hid (ofInt_exact32 ((S : Int) - 1) (by omega)).1
  clear hS
  go_enter Try.func38, Try.ntmps38
  go_upto_region 3 with (first | ((with_reducible apply wpList_farith); rfl; rfl; rfl; intro _ _ _) | ((with_reducible apply wpList_up); rfl; exact Try.underlying22; exact Try.underlying31; intro _ _ _))
  rename_i r1 n1 h1 r2 n2 h2 r3 n3 h3 r4 n4 h4 _ _ _ _
  have ht := tF_FR h1 h2 h3 h4
  have HT := Lib.hid ht
  clear h1 h2 h3 h4
  cases g0 : (FloatKind.f32.format.order (tF S lo hi v) 0 == some .gt)
  case false =>
    have g0' : (FloatKind.f32.format.order r4 0 == some .gt) = false := by rw [ord_FR ht]; exact g0
    have HP := Lib.hid (plF_low g0)
    clear ht g0
    go_wp2_with fail
    go_ret2
    refine ⟨by rw [HP.out]; rfl, ?_⟩
    (repeat (first | exact Below.refl _ _ | assumption | (refine Below.setCell ?_ (by first | (simp; done) | (simp; omega) | omega) _) | (refine Below.drew ?_) | (refine below_drewN ?_ _) | (refine Below.alloc ?_ (by first | (simp; done) | (simp; omega) | omega) _) | (refine Below.trans ?_ (Below.mono (by assumption) (by first | (simp; done) | (simp; omega) | omega)))))
  case true =>
    have hn : isN .f32 (tF S lo hi v) = false := by
      cases h : isN .f32 (tF S lo hi v)
      · rfl
      · rw [ord_nan_l _ h] at g0; cases g0
    obtain rfl := FR_num ht hn
    cases g1 : (FloatKind.f32.format.order (tF S lo hi v) (floatOfInt .f32 ((S : Int) - 1)) == some .lt)
    case false =>
      have g2 := ge_of hn (isNum_not_nan nl.out)
      rw [g1] at g2
      simp only [Bool.not_false] at g2
      have HP := Lib.hid (plF_high g0 g1)
      clear ht hn
      generalize tF S lo hi v = t at *
      generalize floatOfInt .f32 ((S : Int) - 1) = la at *
      go_wp2_with fail
      go_ret2
      refine ⟨by rw [HP.out]; rfl, ?_⟩
      (repeat (first | exact Below.refl _ _ | assumption | (refine Below.setCell ?_ (by first | (simp; done) | (simp; omega) | omega) _) | (refine Below.drew ?_) | (refine below_drewN ?_ _) | (refine Below.alloc ?_ (by first | (simp; done) | (simp; omega) | omega) _) | (refine Below.trans ?_ (Below.mono (by assumption) (by first | (simp; done) | (simp; omega) | omega)))))
    case true =>
      have g2 := ge_of hn (isNum_not_nan nl.out)
      rw [g1] at g2
      simp only [Bool.not_true] at g2
      obtain ⟨N, q1, q2, q3, q4, q5, q6, q7, q8⟩ := pl_mid HS.out g0 g1
      have hp := plF_mid g0 g1
      rw [q2] at hp
      have HP := Lib.hid hp
      clear hp
      have hlt := HT.out.lt
      have HQ := Lib.hid (And.intro q5 (And.intro q6 (And.intro q7 q8)))
      clear ht hn q1 q2 q3 q4 q5 q6 q7 q8 HT
      generalize tF S lo hi v = t at *
      generalize floatOfInt .f32 ((S : Int) - 1) = la at *
      go_wp2_with (first | (go_at_call 42; refine (Floor_any _ _ hlt).mono ?_; rintro e w' ⟨⟨r5, rfl, h5⟩, m5, rfl⟩; obtain rfl := FR_num h5 (isNum_not_nan HQ.out.2.1)) | ((with_reducible apply wpList_f2i); rfl; exact Try.underlying22; exact Try.underlying3; intro mi ni hmi) | ((with_reducible apply wpList_farith); rfl; rfl; rfl; intro _ _ _) | ((with_reducible apply wpList_up); rfl; exact Try.underlying22; exact Try.underlying31; intro _ _ _))
      rename_i r6 n6 h6
      obtain rfl := hmi _ HQ.out.1
      have e6 : r6 = fop .sub .f32 t (floatOfInt .f32 (N : Int)) := FR_num (by rw [fop_cn_left, fop_cn_right, HQ.out.2.2.1] at h6; exact h6) HQ.out.2.2.2
      subst e6
      go_ret2
      refine ⟨by rw [HP.out]; rfl, ?_⟩
      (repeat (first | exact Below.refl _ _ | assumption | (refine Below.setCell ?_ (by first | (simp; done) | (simp; omega) | omega) _) | (refine Below.drew ?_) | (refine below_drewN ?_ _) | (refine Below.alloc ?_ (by first | (simp; done) | (simp; omega) | omega) _) | (refine Below.trans ?_ (Below.mono (by assumption) (by first | (simp; done) | (simp; omega) | omega)))))
end Go.Proofs.Ytmdmjmmplhoniaa

namespace Go.Proofs.Ytmdmjmmplhoniaa
open Go Go.RowKit
def brokB (p : Nat → Nat) : Bool := isN .f32 (p 0) || isN .f32 (p 1) || isN .f32 (p 2)
/-- Two neighbours change places. -/
def swapP (n : Nat) (o : Nat → Nat) : Nat → Nat := fun j => if j = n + 1 then o n else if j = n then o (n + 1) else o j
def stepP (x : Nat → Nat) (n : Nat) (o : Nat → Nat) : Nat → Nat := if (FloatKind.f32.format.order (x (o (n + 1))) (x (o n)) == some .gt) = true then swapP n o else o
def idP : Nat → Nat := fun j => j
def ord3 (x : Nat → Nat) : Nat → Nat := stepP x 0 (stepP x 1 (stepP x 0 idP))
def IsP (o : Nat → Nat) : Prop := o 0 < 3 ∧ o 1 < 3 ∧ o 2 < 3 ∧ o 0 ≠ o 1 ∧ o 0 ≠ o 2 ∧ o 1 ≠ o 2
theorem isP_id : IsP idP := by unfold IsP idP; omega
theorem isP_swap {n : Nat} {o : Nat → Nat} (hn : n < 2) (h : IsP o) : IsP (swapP n o) := by
  unfold IsP swapP at *
  rcases (show n = 0 ∨ n = 1 by omega) with rfl | rfl <;> simp <;> omega
theorem isP_step {x : Nat → Nat} {n : Nat} {o : Nat → Nat} (hn : n < 2) (h : IsP o) : IsP (stepP x n o) := by
  unfold stepP; split
  · exact isP_swap hn h
  · exact h
theorem isP_lt {o : Nat → Nat} (h : IsP o) {j : Nat} (hj : j < 3) : o j < 3 := by
  obtain ⟨h0, h1, h2, -⟩ := h
  rcases (show j = 0 ∨ j = 1 ∨ j = 2 by omega) with rfl | rfl | rfl <;> assumption
theorem ord3_isP (x : Nat → Nat) : IsP (ord3 x) := isP_step (by omega) (isP_step (by omega) (isP_step (by omega) isP_id))
theorem step_cases {x : Nat → Nat} (hx : ∀ j, j < 3 → isN .f32 (x j) = false) {n : Nat} {o : Nat → Nat} (hn : n < 2) (ho : IsP o) :
    (stepP x n o = o ∧ ¬ key FloatKind.f32.format (x (o n)) < key FloatKind.f32.format (x (o (n + 1)))) ∨ (stepP x n o = swapP n o ∧ key FloatKind.f32.format (x (o n)) < key FloatKind.f32.format (x (o (n + 1)))) := by
  have h := ord_gt (k := .f32) (hx (o (n + 1)) (isP_lt ho (by omega))) (hx (o n) (isP_lt ho (by omega)))
  unfold stepP
  rw [h]
  by_cases hk : key FloatKind.f32.format (x (o n)) < key FloatKind.f32.format (x (o (n + 1)))
  · right; rw [if_pos (by simpa using hk)]; exact ⟨rfl, hk⟩
  · left; rw [if_neg (by simpa using hk)]; exact ⟨rfl, hk⟩
/-- Behind three steps a fourth one changes nothing. -/
theorem ord3_sorted {x : Nat → Nat} (hx : ∀ j, j < 3 → isN .f32 (x j) = false) : stepP x 1 (ord3 x) = ord3 x := by
  have p1 := isP_step (x := x) (n := 0) (by omega) isP_id
  have p2 := isP_step (x := x) (n := 1) (by omega) p1
  have p3 := ord3_isP x
  rcases step_cases hx (n := 1) (by omega) p3 with ⟨h, -⟩ | ⟨-, h⟩
  · exact h
  exfalso
  unfold ord3 at h
  rcases step_cases hx (n := 0) (by omega) isP_id with ⟨e1, k1⟩ | ⟨e1, k1⟩ <;> rw [e1] at h p2 <;>
    rcases step_cases hx (n := 1) (by omega) (e1 ▸ p1) with ⟨e2, k2⟩ | ⟨e2, k2⟩ <;> rw [e2] at h p2 <;>
    rcases step_cases hx (n := 0) (by omega) p2 with ⟨e3, k3⟩ | ⟨e3, k3⟩ <;> rw [e3] at h <;>
    simp [swapP, idP] at h k1 k2 k3 <;> omega
/-- The places of the axes behind so many steps along them. -/
def atR (i : Nat → Nat) (o : Nat → Nat) : Nat → Nat → Nat
  | 0 => i
  | r + 1 => fun a => if a = o r then atR i o r (o r) + 1 else atR i o r a
/-- The entries at the corners. -/
def corE (S : Nat) (i o : Nat → Nat) (r : Nat) : Nat := enI S (atR i o r 0) (atR i o r 1) (atR i o r 2)
theorem atR_le {i o : Nat → Nat} {S : Nat} (ho : IsP o) (hi : ∀ a, a < 3 → i a + 2 ≤ S) : ∀ r, r ≤ 3 → ∀ a, a < 3 → atR i o r a < S := by
  obtain ⟨h0, h1, h2, n1, n2, n3⟩ := ho
  intro r hr a ha
  have b := hi a ha
  rcases (show r = 0 ∨ r = 1 ∨ r = 2 ∨ r = 3 by omega) with rfl | rfl | rfl | rfl
  · simp only [atR]; omega
  · simp only [atR]; split
    · subst_vars; omega
    · omega
  · simp only [atR]
    by_cases e1 : a = o 1
    · rw [if_pos e1, if_neg (by omega)]; rw [← e1]; omega
    · rw [if_neg e1]
      by_cases e0 : a = o 0
      · rw [if_pos e0, ← e0]; omega
      · rw [if_neg e0]; omega
  · simp only [atR]
    by_cases e2 : a = o 2
    · rw [if_pos e2, if_neg (by omega), if_neg (by omega), ← e2]; omega
    · rw [if_neg e2]
      by_cases e1 : a = o 1
      · rw [if_pos e1, if_neg (by omega), ← e1]; omega
      · rw [if_neg e1]
        by_cases e0 : a = o 0
        · rw [if_pos e0, ← e0]; omega
        · rw [if_neg e0]; omega
/-- The value between four entries. -/
def mixT (a b c d s t u : Nat) : Nat :=
  if FloatKind.f32.format.order s 0 == some .eq then cn .f32 a
  else if (FloatKind.f32.format.order s 1065353216 == some .eq) && (FloatKind.f32.format.order t 0 == some .eq) then cn .f32 b
  else if (FloatKind.f32.format.order t 1065353216 == some .eq) && (FloatKind.f32.format.order u 0 == some .eq) then cn .f32 c
  else if FloatKind.f32.format.order u 1065353216 == some .eq then cn .f32 d
  else fop .add .f32 (fop .add .f32 (fop .add .f32 a (fop .mul .f32 (fop .sub .f32 b a) s)) (fop .mul .f32 (fop .sub .f32 c b) t)) (fop .mul .f32 (fop .sub .f32 d c) u)
/-- The colour of a pixel by a cube. -/
def tetF (S lo hi : Nat) (fs p : Nat → Nat) (n : Nat) : Nat :=
  let x : Nat → Nat := fun a => (plF S lo hi (p a)).2
  let i : Nat → Nat := fun a => (plF S lo hi (p a)).1.toNat
  if n < 3 then (if brokB p then 2143289344 else mixT (fs (3 * corE S i (ord3 x) 0 + n)) (fs (3 * corE S i (ord3 x) 1 + n)) (fs (3 * corE S i (ord3 x) 2 + n)) (fs (3 * corE S i (ord3 x) 3 + n)) (x (ord3 x 0)) (x (ord3 x 1)) (x (ord3 x 2)))
  else cn .f32 (p 3)
/-- A place lies ahead of the last entry; its share is no NaN. -/
theorem plF_ok {S lo hi v : Nat} (hS : 2 ≤ S ∧ S ≤ 17) : (∃ i : Nat, (plF S lo hi v).1 = i ∧ i + 2 ≤ S) ∧ isN .f32 (plF S lo hi v).2 = false := by
  cases g0 : (FloatKind.f32.format.order (tF S lo hi v) 0 == some .gt)
  · rw [plF_low g0]; exact ⟨⟨0, rfl, by omega⟩, by decide +kernel⟩
  · cases g1 : (FloatKind.f32.format.order (tF S lo hi v) (floatOfInt .f32 ((S : Int) - 1)) == some .lt)
    · rw [plF_high g0 g1]; exact ⟨⟨S - 2, by simp; omega, by omega⟩, show isN .f32 1065353216 = false by decide +kernel⟩
    · obtain ⟨N, q1, q2, -, -, -, -, -, q8⟩ := pl_mid hS g0 g1
      rw [plF_mid g0 g1, q2]
      exact ⟨⟨N, rfl, q1⟩, q8⟩
end Go.Proofs.Ytmdmjmmplhoniaa

namespace Go.Proofs.Ytmdmjmmplhoniaa
open Go Go.RowKit
/-- n cells of a block, by their place; none is frozen. -/
structure VecI (w : World) (b n : Nat) (f : Nat → Int) : Prop where
  lt : b < w.heap.size
  c : ∀ j, j < n → w.cell? ⟨b, j, none⟩ = some (.int .i64 (f j))
  f : ∀ o, w.frozen? ⟨b, o, none⟩ = false
structure VecF (w : World) (b n : Nat) (g : Nat → Nat) : Prop where
  lt : b < w.heap.size
  c : ∀ j, j < n → w.cell? ⟨b, j, none⟩ = some (.float .f32 (g j))
  f : ∀ o, w.frozen? ⟨b, o, none⟩ = false
theorem VecI.block {W w : World} {b n : Nat} {f : Nat → Int} (k : VecI W b n f) (hs : W.heap.size ≤ w.heap.size) (hb : w.heap[b]? = W.heap[b]?) : VecI w b n f :=
  ⟨Nat.lt_of_lt_of_le k.lt hs, fun j hj => (World.cell?_of_block hb).trans (k.c j hj), fun o => (World.frozen?_of_block hb).trans (k.f o)⟩
theorem VecF.block {W w : World} {b n : Nat} {f : Nat → Nat} (k : VecF W b n f) (hs : W.heap.size ≤ w.heap.size) (hb : w.heap[b]? = W.heap[b]?) : VecF w b n f :=
  ⟨Nat.lt_of_lt_of_le k.lt hs, fun j hj => (World.cell?_of_block hb).trans (k.c j hj), fun o => (World.frozen?_of_block hb).trans (k.f o)⟩
theorem VecI.past {W w : World} {b n : Nat} {f : Nat → Int} (k : VecI W b n f) (h : Below W.heap.size W w) : VecI w b n f := k.block h.size (h.block b k.lt)
theorem VecF.past {W w : World} {b n : Nat} {f : Nat → Nat} (k : VecF W b n f) (h : Below W.heap.size W w) : VecF w b n f := k.block h.size (h.block b k.lt)
theorem VecI.far {w : World} {b n : Nat} {f : Nat → Int} (k : VecI w b n f) (q : Addr) (t : Value) (hq : q.block ≠ b) : VecI (w.setCell q t) b n f := k.block (by simp [World.setCell]) (Below.heap_setCell _ _ _ _ (Ne.symm hq))
theorem VecF.far {w : World} {b n : Nat} {f : Nat → Nat} (k : VecF w b n f) (q : Addr) (t : Value) (hq : q.block ≠ b) : VecF (w.setCell q t) b n f := k.block (by simp [World.setCell]) (Below.heap_setCell _ _ _ _ (Ne.symm hq))
theorem VecI.set {w : World} {b n : Nat} {f : Nat → Int} (k : VecI w b n f) (i : Nat) (x : Int) (hi : i < n) : VecI (w.setCell ⟨b, i, none⟩ (.int .i64 x)) b n (fun j => if j = i then x else f j) := by
  refine ⟨by have := k.lt; simpa [World.setCell] using this, fun j hj => ?_, fun o => (World.frozen?_setCell _ _ _ _).trans (k.f o)⟩
  by_cases e : j = i
  · subst e; rw [if_pos rfl]; exact World.cell?_setCell_same _ _ _ (k.c j hj)
  · rw [if_neg e, World.cell?_setCell_other _ _ _ _ (by first | (simp; omega) | (simp; done) | omega)]; exact k.c j hj
theorem VecF.set {w : World} {b n : Nat} {f : Nat → Nat} (k : VecF w b n f) (i : Nat) (x : Nat) (hi : i < n) : VecF (w.setCell ⟨b, i, none⟩ (.float .f32 x)) b n (fun j => if j = i then x else f j) := by
  refine ⟨by have := k.lt; simpa [World.setCell] using this, fun j hj => ?_, fun o => (World.frozen?_setCell _ _ _ _).trans (k.f o)⟩
  by_cases e : j = i
  · subst e; rw [if_pos rfl]; exact World.cell?_setCell_same _ _ _ (k.c j hj)
  · rw [if_neg e, World.cell?_setCell_other _ _ _ _ (by first | (simp; omega) | (simp; done) | omega)]; exact k.c j hj
theorem VecI.of3 {w : World} {b : Nat} {f : Nat → Int} (k : Blk w b [.int .i64 (f 0), .int .i64 (f 1), .int .i64 (f 2)]) : VecI w b 3 f :=
  ⟨k.lt, fun j hj => k.c j _ (by rcases (show j = 0 ∨ j = 1 ∨ j = 2 by omega) with rfl | rfl | rfl <;> rfl), k.f⟩
theorem VecF.of3 {w : World} {b : Nat} {f : Nat → Nat} (k : Blk w b [.float .f32 (f 0), .float .f32 (f 1), .float .f32 (f 2)]) : VecF w b 3 f :=
  ⟨k.lt, fun j hj => k.c j _ (by rcases (show j = 0 ∨ j = 1 ∨ j = 2 by omega) with rfl | rfl | rfl <;> rfl), k.f⟩
theorem VecF.of4 {w : World} {b : Nat} {f : Nat → Nat} (k : Blk w b [.float .f32 (f 0), .float .f32 (f 1), .float .f32 (f 2), .float .f32 (f 3)]) : VecF w b 4 f :=
  ⟨k.lt, fun j hj => k.c j _ (by rcases (show j = 0 ∨ j = 1 ∨ j = 2 ∨ j = 3 by omega) with rfl | rfl | rfl | rfl <;> rfl), k.f⟩
end Go.Proofs.Ytmdmjmmplhoniaa

namespace Go.Proofs.Ytmdmjmmplhoniaa
open Go.RowKit
theorem ne_self (v : Nat) : (FloatKind.f32.format.order v v != some .eq) = isN .f32 v := by
  rw [ord_self]; cases isN .f32 v <;> rfl
/-- What stands while the places are found. -/
structure PlR (w wr : World) (S lo hi : Nat) (sl : Value) (p : Nat → Nat) (f : Nat → Int) (g : Nat → Nat) : Prop where
  c : Blk wr w.heap.size [.int .i64 S, .float .f32 lo, .float .f32 hi, sl]
  p : VecF wr (w.heap.size + 1) 4 p
  a : VecI wr (w.heap.size + 2) 3 f
  s : VecF wr (w.heap.size + 3) 3 g
  b : Below w.heap.size w wr
theorem PlR.past {w wr wy : World} {S lo hi : Nat} {sl : Value} {p : Nat → Nat} {f : Nat → Int} {g : Nat → Nat} (k : PlR w wr S lo hi sl p f g) (h : Below wr.heap.size wr wy) : PlR w wy S lo hi sl p f g :=
  ⟨k.c.past h, k.p.past h, k.a.past h, k.s.past h, k.b.trans (h.mono k.b.size)⟩
theorem PlR.setA {w wr : World} {S lo hi : Nat} {sl : Value} {p : Nat → Nat} {f : Nat → Int} {g : Nat → Nat} (k : PlR w wr S lo hi sl p f g) (m : Nat) (hm : m < 3) (x : Int) :
    PlR w (wr.setCell ⟨w.heap.size + 2, m, none⟩ (.int .i64 x)) S lo hi sl p (fun j => if j = m then x else f j) g :=
  ⟨k.c.far _ _ (by simp), k.p.far _ _ (by simp), k.a.set m x hm, k.s.far _ _ (by simp), k.b.setCell (by simp) _⟩
theorem PlR.setB {w wr : World} {S lo hi : Nat} {sl : Value} {p : Nat → Nat} {f : Nat → Int} {g : Nat → Nat} (k : PlR w wr S lo hi sl p f g) (m : Nat) (hm : m < 3) (u : Nat) :
    PlR w (wr.setCell ⟨w.heap.size + 3, m, none⟩ (.float .f32 u)) S lo hi sl p f (fun j => if j = m then u else g j) :=
  ⟨k.c.far _ _ (by simp), k.p.far _ _ (by simp), k.a.far _ _ (by simp), k.s.set m u hm, k.b.setCell (by simp) _⟩
theorem pl_keep {w wx W : World} {S lo hi : Nat} {sl : Value} {p : Nat → Nat} {f : Nat → Int} {g : Nat → Nat} {m v : Nat} (k : PlR w wx S lo hi sl p f g) (h : Below wx.heap.size wx W) (hm : m < 3) (hv : v = p m) :
    W.cell? ⟨w.heap.size, 0, none⟩ = some (.int .i64 S) ∧ W.cell? ⟨w.heap.size, 1, none⟩ = some (.float .f32 lo) ∧ W.cell? ⟨w.heap.size, 2, none⟩ = some (.float .f32 hi) ∧ W.cell? ⟨w.heap.size, 3, none⟩ = some sl ∧ W.cell? ⟨w.heap.size + 1, m, none⟩ = some (.float .f32 v) := by
  have k := k.past h
  exact ⟨k.c.c 0 _ rfl, k.c.c 1 _ rfl, k.c.c 2 _ rfl, k.c.c 3 _ rfl, by rw [hv]; exact k.p.c m (by omega)⟩
set_option maxRecDepth 100000 in
set_option maxHeartbeats 3200000 in
theorem places_any (S lo hi : Nat) (a : Option Addr) (n cap : Nat) (p : Nat → Nat) (w : World) (hS : 2 ≤ S ∧ S ≤ 17) :
    Calls Try.prog 29 #[.agg #[.int .i64 S, .float .f32 lo, .float .f32 hi, .slice a n cap], .agg #[.float .f32 (p 0), .float .f32 (p 1), .float .f32 (p 2), .float .f32 (p 3)]] w fun e w' =>
      (∃ (f : Nat → Int) (g : Nat → Nat), e = .returned (.tuple #[.agg #[.int .i64 (f 0), .int .i64 (f 1), .int .i64 (f 2)], .agg #[.float .f32 (g 0), .float .f32 (g 1), .float .f32 (g 2)], .bool (!brokB p)]) ∧ (brokB p = false → ∀ j, j < 3 → f j = (plF S lo hi (p j)).1 ∧ g j = (plF S lo hi (p j)).2)) ∧ Below w.heap.size w w' := by
  go_enter Try.func29, Try.ntmps29
  go_wp2_with fail
  refine wp_world (fun W hW => ?_)
  have M0 : PlR w W S lo hi (.slice a n cap) p (fun _ => 0) (fun _ => 0) := by
    rw [hW]
    exact ⟨(((Blk.new _ _ _ _ rfl).alloc _).alloc _).alloc _, VecF.of4 (((Blk.new _ _ _ _ (by simp)).alloc _).alloc _), VecI.of3 ((Blk.new _ _ _ _ (by simp)).alloc _), VecF.of3 (Blk.new _ _ _ _ (by simp)), by (repeat (first | exact Below.refl _ _ | assumption | (refine Below.setCell ?_ (by first | (simp; done) | (simp; omega) | omega) _) | (refine Below.drew ?_) | (refine below_drewN ?_ _) | (refine Below.alloc ?_ (by first | (simp; done) | (simp; omega) | omega) _) | (refine Below.trans ?_ (Below.mono (by assumption) (by first | (simp; done) | (simp; omega) | omega)))))⟩
  have HM0 := Lib.hid M0
  clear hW M0
  go_loopw [8] (fun s8 wr => ∃ m : Nat, m ≤ 3 ∧ s8 = .int .i64 m ∧ ∃ f g, PlR w wr S lo hi (.slice a n cap) p f g ∧ ∀ j, j < m → isN .f32 (p j) = false ∧ f j = (plF S lo hi (p j)).1 ∧ g j = (plF S lo hi (p j)).2) (fun s8 _ => 3 - (intOf s8).toNat)
  case atStart => exact ⟨0, by omega, rfl, _, _, HM0.out, fun j hj => by omega⟩
  case round =>
    obtain ⟨m, hm, rfl, f, g, hR, he⟩ := hrel
    have HR := Lib.hid hR; have HE := Lib.hid he
    clear hR he HM0
    by_cases hm3 : m < 3
    · have i3 : (m : Int) < 3 := by omega
      have i4 : (m : Int) < 4 := by omega
      have p0 := HR.out.p.c m (by omega)
      have pl := HR.out.p.lt
      obtain ⟨v, hv⟩ : ∃ v, v = p m := ⟨_, rfl⟩
      have HV := Lib.hid hv
      rw [← hv] at p0
      clear hv
      have hne := ne_self v
      go_wp2_with fail
      refine wp_region_loose 6 (fun _ _ _ => False) (by kernel_rfl) (by kernel_rfl) ?_
      simp only [List.take_succ_cons, List.take_zero, List.drop_succ_cons, List.drop_zero]
      iterate 6 (refine loose_wanted rfl (fun K hK => ?_); go_simp; refine hK _ ?_; clear hK K)
      refine loose_nil (fun w5 hb5 => ?_)
      have R5 := HR.out.past hb5
      have HR5 := Lib.hid R5
      clear hb5 p0 pl R5 HR
      cases hN : isN .f32 v
      case true =>
        have a0 := HR5.out.a.c 0 (by omega); have a1 := HR5.out.a.c 1 (by omega); have a2 := HR5.out.a.c 2 (by omega)
        have s0 := HR5.out.s.c 0 (by omega); have s1 := HR5.out.s.c 1 (by omega); have s2 := HR5.out.s.c 2 (by omega)
        have af := HR5.out.a.f; have sf := HR5.out.s.f; have al := HR5.out.a.lt; have sl := HR5.out.s.lt
        have hbr : brokB p = true := by
          have h := HV.out ▸ hN
          unfold brokB
          rcases (show m = 0 ∨ m = 1 ∨ m = 2 by omega) with rfl | rfl | rfl <;> rw [h] <;> simp
        have HBR := Lib.hid hbr; clear hbr
        rw [hN] at hne
        have B5 := HR5.out.b
        go_wp2_with fail
        go_region
        all_goals
          go_wp2_with fail
          refine bodyPost_ret (v := .tuple #[.agg #[.int .i64 (f 0), .int .i64 (f 1), .int .i64 (f 2)], .agg #[.float .f32 (g 0), .float .f32 (g 1), .float .f32 (g 2)], .bool false]) (by simp [results, Try.results29, go_sem, a0, a1, a2, s0, s1, s2]) rfl ⟨⟨f, g, by rw [HBR.out]; rfl, fun h => by rw [HBR.out] at h; cases h⟩, ?_⟩
          (repeat (first | (with_reducible exact B5) | (refine Below.setCell ?_ (by first | (simp; done) | (simp; omega) | omega) _) | (refine Below.drew ?_)))
      case false =>
        rw [hN] at hne
        have p0 := HR5.out.p.c m (by omega)
        rw [← HV.out] at p0
        have pl := HR5.out.p.lt
        have c0 := HR5.out.c.c 0 _ rfl; have c1 := HR5.out.c.c 1 _ rfl; have c2 := HR5.out.c.c 2 _ rfl; have c3 := HR5.out.c.c 3 _ rfl; have cl := HR5.out.c.lt
        obtain ⟨x, hx⟩ : ∃ x, x = plF S lo hi v := ⟨_, rfl⟩
        have HX := Lib.hid hx; clear hx
        go_wp2_with fail
        have BCH : Hid (Below w5.heap.size w5 w5) := Below.refl _ _
        have i3' : (m : Int) < 3 := i3
        have n0 : w.heap.size + 1 + 1 ≠ w.heap.size := by omega
        have n1 : w.heap.size + 1 + 1 + 1 ≠ w.heap.size := by omega
        have n2 : w.heap.size + 1 + 1 ≠ w.heap.size + 1 := by omega
        have n3 : w.heap.size + 1 + 1 + 1 ≠ w.heap.size + 1 := by omega
        have HN := Lib.hid hN
        go_region_held3 (fun W => W.cell? ⟨w.heap.size, 0, none⟩ = some (.int .i64 S) ∧ W.cell? ⟨w.heap.size, 1, none⟩ = some (.float .f32 lo) ∧ W.cell? ⟨w.heap.size, 2, none⟩ = some (.float .f32 hi) ∧ W.cell? ⟨w.heap.size, 3, none⟩ = some (.slice a n cap) ∧ W.cell? ⟨w.heap.size + 1, m, none⟩ = some (.float .f32 v))
          (go_keep)
          (first | (go_at_call 38; refine (place_any S lo hi v a n cap _ hS).mono ?_; rintro e w8 ⟨rfl, hb8⟩; have B8 : Hid (Below w5.heap.size w5 w8) := BCH.out.drew.trans (hb8.mono (by simp)); have HR8 := Lib.hid (HR5.out.past B8.out); obtain ⟨k0, k1, k2, k3, k4⟩ := pl_keep HR8.out (Below.refl _ _) hm3 HV.out; have a0 := HR8.out.a.c m hm3; have s0 := HR8.out.s.c m hm3; have af := HR8.out.a.f; have sf := HR8.out.s.f; have al := HR8.out.a.lt; have sl := HR8.out.s.lt; clear hb8; rw [← HX.out]))
        all_goals
          go_wp2_with fail
          go_roundw
          case rel =>
            refine ⟨m + 1, by omega, by first | rfl | go_num, _, _, by first | exact (HR8.out.setA m hm3 _).setB m hm3 _ | exact (HR8.out.setB m hm3 _).setA m hm3 _, fun j hj => ?_⟩
            by_cases h : j = m
            · subst h
              rw [← HV.out]
              exact ⟨HN.out, by rw [if_pos rfl, HX.out], by rw [if_pos rfl, HX.out]⟩
            · obtain ⟨h1, h2, h3⟩ := HE.out j (by omega)
              exact ⟨h1, by rw [if_neg h]; exact h2, by rw [if_neg h]; exact h3⟩
          case measure => simp [intOf]; omega
    · have hm' : m = 3 := by omega
      subst hm'
      have a0 := HR.out.a.c 0 (by omega); have a1 := HR.out.a.c 1 (by omega); have a2 := HR.out.a.c 2 (by omega)
      have s0 := HR.out.s.c 0 (by omega); have s1 := HR.out.s.c 1 (by omega); have s2 := HR.out.s.c 2 (by omega)
      have af := HR.out.a.f; have sf := HR.out.s.f; have al := HR.out.a.lt; have sl := HR.out.s.lt
      have hbr : brokB p = false := by
        unfold brokB; rw [(HE.out 0 (by omega)).1, (HE.out 1 (by omega)).1, (HE.out 2 (by omega)).1]; rfl
      have HBR := Lib.hid hbr; clear hbr
      have B5 := HR.out.b
      go_wp2_with fail
      go_region
      all_goals
        go_wp2_with fail
        refine bodyPost_ret (v := .tuple #[.agg #[.int .i64 (f 0), .int .i64 (f 1), .int .i64 (f 2)], .agg #[.float .f32 (g 0), .float .f32 (g 1), .float .f32 (g 2)], .bool true]) (by simp [results, Try.results29, go_sem, a0, a1, a2, s0, s1, s2]) rfl ⟨⟨f, g, by rw [HBR.out]; rfl, fun _ j hj => (HE.out j hj).2⟩, ?_⟩
        (repeat (first | (with_reducible exact B5) | (refine Below.setCell ?_ (by first | (simp; done) | (simp; omega) | omega) _) | (refine Below.drew ?_)))
end Go.Proofs.Ytmdmjmmplhoniaa
