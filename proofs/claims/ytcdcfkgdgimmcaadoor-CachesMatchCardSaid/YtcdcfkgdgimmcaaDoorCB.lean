/- Where a value lies on a cube's axis: cube.place, dyeref2.OnAxis. Conditions: the cube's size is right. (with: CuL, Vec, CuK) -/
import Derived.Test.YtcdcfkgdgimmcaaDoorCA
import Derived.Test.YtcdcfkgdgimmcaaDoorBH
import Derived.Test.YtcdcfkgdgimmcaaDoorBD
import Derived.Test.YtcdcfkgdgimmcaaDoorBG
namespace Go.Proofs.YtcdcfkgdgimmcaaDoor
open Go Go.RowKit
/-- The place ahead of its parting. -/
def tF (S lo hi v : Nat) : Nat := fop .mul .f32 (fop .quo .f32 (fop .sub .f32 v lo) (fop .sub .f32 hi lo)) (floatOfInt .f32 ((S : Int) - 1))
def plI (t : Nat) : Int := (floatToIntVal .f32 t .i64).getD 0
/-- The entry below, and the share of the next one. -/
def plF (S lo hi v : Nat) : Int × Nat :=
  if !(FloatKind.f32.format.order (tF S lo hi v) 0 == some .gt) then (0, 0)
  else if !(FloatKind.f32.format.order (tF S lo hi v) (floatOfInt .f32 ((S : Int) - 1)) == some .lt) then ((S : Int) - 2, 1065353216)
  else (plI (tF S lo hi v), fop .sub .f32 (tF S lo hi v) (floatOfInt .f32 (plI (tF S lo hi v))))
theorem f2i_some32 {b N : Nat} (h : isNum .f32 b = true) (h1 : (N : Rat) ≤ vq FloatKind.f32.format (rung FloatKind.f32.format b)) (h2 : vq FloatKind.f32.format (rung FloatKind.f32.format b) < (N : Rat) + 1) (hs : sgn FloatKind.f32.format b = false ∨ N = 0) (hN : N ≤ 1000) : floatToIntVal .f32 b .i64 = some (N : Int) := by
  obtain ⟨q, g1, g2, g3⟩ := toInt_zero h
  have q1 : q < N + 1 := by refine Rat.natCast_lt_natCast.1 ?_; rw [Rat.natCast_add]; simp; grind
  have q2 : N < q + 1 := by refine Rat.natCast_lt_natCast.1 ?_; rw [Rat.natCast_add]; simp; grind
  obtain rfl : q = N := by omega
  unfold floatToIntVal
  rw [g1]
  simp only []
  have e1 : IntKind.i64.min = -9223372036854775808 := by decide
  have e2 : IntKind.i64.max = 9223372036854775807 := by decide
  have e3 : (if sgn FloatKind.f32.format b then -(q : Int) else (q : Int)) = q := by
    rcases hs with hs | hs
    · rw [hs]; rfl
    · subst hs; split <;> rfl
  rw [e3, if_pos]
  rw [e1, e2]; omega
theorem sgn_of_key {k : FloatKind} {x : Nat} (h : 0 < key k.format x) : sgn k.format x = false ∧ key k.format x = (rung k.format x : Int) := by
  unfold key at *
  cases hs : sgn k.format x
  · exact ⟨rfl, by simp⟩
  · rw [hs] at h; simp at h; omega
theorem key_le_rung {k : FloatKind} (x : Nat) : key k.format x ≤ (rung k.format x : Int) := by
  unfold key; split <;> omega
/-- Between the ends: what the place is. -/
theorem pl_mid {S t : Nat} (hS : 2 ≤ S ∧ S ≤ 17) (h0 : (FloatKind.f32.format.order t 0 == some .gt) = true) (h1 : (FloatKind.f32.format.order t (floatOfInt .f32 ((S : Int) - 1)) == some .lt) = true) :
    ∃ N : Nat, N + 2 ≤ S ∧ plI t = N ∧ isNum .f32 t = true ∧ floatToIntVal .f32 t .i64 = some (N : Int) ∧ floatToIntVal .f32 (flF t) .i64 = some (N : Int) ∧ isNum .f32 (flF t) = true ∧ fop .sub .f32 t (flF t) = fop .sub .f32 t (floatOfInt .f32 (N : Int)) ∧ isN .f32 (fop .sub .f32 t (floatOfInt .f32 (N : Int))) = false := by
  obtain ⟨n1, v1⟩ := ofInt_exact32 ((S : Int) - 1) (by omega)
  have hN : isN .f32 t = false := by
    cases h : isN .f32 t
    · rfl
    · rw [ord_nan_l _ h] at h0; cases h0
  have z0 : isN .f32 0 = false := by decide +kernel
  have kz : key FloatKind.f32.format 0 = 0 := by decide
  rw [ord_gt hN z0, decide_eq_true_eq, kz] at h0
  rw [ord_lt hN (isNum_not_nan n1), decide_eq_true_eq] at h1
  obtain ⟨hs, hk⟩ := sgn_of_key h0
  have hnum : isNum .f32 t = true := by
    unfold isNum at n1 ⊢
    have := key_le_rung (k := .f32) (floatOfInt .f32 ((S : Int) - 1))
    simp only [decide_eq_true_eq] at n1 ⊢
    omega
  have hvt : val .f32 t = vq FloatKind.f32.format (rung FloatKind.f32.format t) := by rw [val_sg, hs]; rfl
  have hlt : val .f32 t < ((S : Int) - 1 : Int) := by rw [← v1]; exact val_lt_key.2 h1
  have hgt : 0 < val .f32 t := by
    have : val .f32 0 < val .f32 t := val_lt_key.2 (by rw [kz]; exact h0)
    have e : val .f32 0 = 0 := by decide +kernel
    rw [e] at this; exact this
  obtain ⟨-, -, M, -, b1, b2, nf, vf⟩ := floor_spec hnum
  have nf' : isNum .f32 (flF t) = true := nf
  have vf' : val .f32 (flF t) = (M : Rat) := vf
  have hM0 : 0 ≤ M := by
    have : (((-1 : Int) : Int) : Rat) < (M : Rat) := by
      have e : (((-1 : Int) : Int) : Rat) = -1 := by decide +kernel
      rw [e]; grind
    have := Rat.intCast_lt_intCast.1 this
    omega
  have hM1 : M < (S : Int) - 1 := Rat.intCast_lt_intCast.1 (rle_lt b1 hlt)
  obtain ⟨N, rfl⟩ : ∃ N : Nat, M = N := ⟨M.toNat, by omega⟩
  have eM : (((N : Nat) : Int) : Rat) = (N : Rat) := by rw [Rat.intCast_natCast]
  rw [eM] at b1 b2 vf'
  have i1 := f2i_some32 hnum (N := N) (by rw [← hvt]; exact b1) (by rw [← hvt]; exact b2) (.inl hs) (by omega)
  obtain ⟨n2, v2⟩ := ofInt_exact32 (N : Int) (by omega)
  rw [eM] at v2
  have hvq : vq FloatKind.f32.format (rung FloatKind.f32.format (flF t)) = (N : Rat) := by
    have h := vq_nonneg FloatKind.f32.format (rung FloatKind.f32.format (flF t))
    rw [val_sg] at vf'
    have hn : (0 : Rat) ≤ (N : Rat) := Rat.natCast_nonneg
    unfold sg at vf'; split at vf' <;> grind
  have i2 := f2i_some32 nf' (N := N) (by rw [hvq]; exact Rat.le_refl) (by rw [hvq]; grind) (by
    by_cases hz : N = 0
    · exact .inr hz
    · left
      cases hs2 : sgn FloatKind.f32.format (flF t)
      · rfl
      · exfalso
        rw [val_sg, hs2, hvq] at vf'
        have : (0 : Rat) < (N : Rat) := by have := Rat.natCast_lt_natCast.2 (show 0 < N by omega); simpa using this
        unfold sg at vf'; simp at vf'; grind) (by omega)
  refine ⟨N, by omega, by unfold plI; rw [i1]; rfl, hnum, i1, i2, nf', ?_, (addsub_not_nan hnum n2).2⟩
  by_cases hz : N = 0
  · subst hz
    obtain ⟨m, e, hd, hv, hb, he⟩ := decode_num hnum
    have hq : val .f32 t = sg false ((m : Rat) * (2 : Rat) ^ e) := by rw [hvt, ← hv]; rfl
    have o : ((0 : Nat) : Rat) = 0 := rfl
    rw [o] at vf' v2
    have hle : val .f32 t < 1 := by grind
    have p0 : (2 : Rat) ^ (0 : Int) = 1 := Rat.zpow_zero _
    have R1 := fop_sub_num hnum nf' 0 (by decide) (by decide) (by rw [p0, vf']; grind) (by rw [p0, vf']; grind)
    have R2 := fop_sub_num hnum n2 0 (by decide) (by decide) (by rw [p0, v2]; grind) (by rw [p0, v2]; grind)
    have e1 := R1.exact false m e hb he (by rw [vf', ← hq]; grind)
    have e2 := R2.exact false m e hb he (by rw [v2, ← hq]; grind)
    refine bits_of_val (fop_lt _ _ _ _) (fop_lt _ _ _ _) (by rw [e1, e2, vf', v2]) (by rw [e1, vf']; grind)
  · congr 1
    refine bits_of_val (fcv_lt _ _ _) (by unfold floatOfInt; exact encode_lt _ _) (by rw [vf', v2]) (by
      rw [vf']
      have : (0 : Rat) < (N : Rat) := by have := Rat.natCast_lt_natCast.2 (show 0 < N by omega); simpa using this
      grind)
theorem tF_FR {S lo hi v r1 r2 r3 r4 : Nat} (h1 : FR .f32 r1 (fop .sub .f32 (cn .f32 v) (cn .f32 lo))) (h2 : FR .f32 r2 (fop .sub .f32 (cn .f32 hi) (cn .f32 lo))) (h3 : FR .f32 r3 (fop .quo .f32 (cn .f32 r1) (cn .f32 r2))) (h4 : FR .f32 r4 (fop .mul .f32 (cn .f32 r3) (cn .f32 (floatOfInt .f32 ((S : Int) - 1))))) : FR .f32 r4 (tF S lo hi v) := by
  rw [h3.eq, h2.eq, h1.eq] at h4
  simp only [fop_cn_left, fop_cn_right] at h4
  exact h4
theorem FR_num {r s : Nat} (h : FR .f32 r s) (hs : isN .f32 s = false) : r = s := by
  have := h.eq
  rw [← this, isN_cn] at hs
  rw [cn_of_not hs] at this; exact this
theorem plF_low {S lo hi v : Nat} (h : (FloatKind.f32.format.order (tF S lo hi v) 0 == some .gt) = false) : plF S lo hi v = (0, 0) := by unfold plF; rw [h]; rfl
theorem plF_high {S lo hi v : Nat} (h : (FloatKind.f32.format.order (tF S lo hi v) 0 == some .gt) = true) (h1 : (FloatKind.f32.format.order (tF S lo hi v) (floatOfInt .f32 ((S : Int) - 1)) == some .lt) = false) : plF S lo hi v = ((S : Int) - 2, 1065353216) := by unfold plF; rw [h, h1]; rfl
theorem plF_mid {S lo hi v : Nat} (h : (FloatKind.f32.format.order (tF S lo hi v) 0 == some .gt) = true) (h1 : (FloatKind.f32.format.order (tF S lo hi v) (floatOfInt .f32 ((S : Int) - 1)) == some .lt) = true) : plF S lo hi v = (plI (tF S lo hi v), fop .sub .f32 (tF S lo hi v) (floatOfInt .f32 (plI (tF S lo hi v)))) := by unfold plF; rw [h, h1]; rfl
theorem ge_of {t l : Nat} (ht : isN .f32 t = false) (hl : isN .f32 l = false) : ((FloatKind.f32.format.order t l == some .gt) || (FloatKind.f32.format.order t l == some .eq)) = !(FloatKind.f32.format.order t l == some .lt) := by
  rw [ord_gt ht hl, ord_eq ht hl, ord_lt ht hl]
  rcases Int.lt_trichotomy (key FloatKind.f32.format t) (key FloatKind.f32.format l) with h | h | h
  · rw [decide_eq_false (by omega), decide_eq_false (by omega), decide_eq_true h]; rfl
  · rw [decide_eq_false (by omega), decide_eq_true h, decide_eq_false (by omega)]; rfl
  · rw [decide_eq_true h, decide_eq_false (by omega : ¬ key FloatKind.f32.format t < key FloatKind.f32.format l)]; rfl
end Go.Proofs.YtcdcfkgdgimmcaaDoor

namespace Go.Proofs.YtcdcfkgdgimmcaaDoor
open Go Go.RowKit
def brokB (p : Nat → Nat) : Bool := isN .f32 (p 0) || isN .f32 (p 1) || isN .f32 (p 2)
/-- Two neighbours change places. -/
def swapP (n : Nat) (o : Nat → Nat) : Nat → Nat := fun j => if j = n + 1 then o n else if j = n then o (n + 1) else o j
def stepP (x : Nat → Nat) (n : Nat) (o : Nat → Nat) : Nat → Nat := if (FloatKind.f32.format.order (x (o (n + 1))) (x (o n)) == some .gt) = true then swapP n o else o
def idP : Nat → Nat := fun j => j
def ord3 (x : Nat → Nat) : Nat → Nat := stepP x 0 (stepP x 1 (stepP x 0 idP))
def IsP (o : Nat → Nat) : Prop := o 0 < 3 ∧ o 1 < 3 ∧ o 2 < 3 ∧ o 0 ≠ o 1 ∧ o 0 ≠ o 2 ∧ o 1 ≠ o 2
theorem isP_id : IsP idP := by unfold IsP idP; omega
theorem isP_swap {n : Nat} {o : Nat → Nat} (hn : n < 2) (h : IsP o) : IsP (swapP n o) := by
  unfold IsP swapP at *
  rcases (show n = 0 ∨ n = 1 by omega) with rfl | rfl <;> simp <;> omega
theorem isP_step {x : Nat → Nat} {n : Nat} {o : Nat → Nat} (hn : n < 2) (h : IsP o) : IsP (stepP x n o) := by
  unfold stepP; split
  · exact isP_swap hn h
  · exact h
theorem isP_lt {o : Nat → Nat} (h : IsP o) {j : Nat} (hj : j < 3) : o j < 3 := by
  obtain ⟨h0, h1, h2, -⟩ := h
  rcases (show j = 0 ∨ j = 1 ∨ j = 2 by omega) with rfl | rfl | rfl <;> assumption
theorem ord3_isP (x : Nat → Nat) : IsP (ord3 x) := isP_step (by omega) (isP_step (by omega) (isP_step (by omega) isP_id))
theorem step_cases {x : Nat → Nat} (hx : ∀ j, j < 3 → isN .f32 (x j) = false) {n : Nat} {o : Nat → Nat} (hn : n < 2) (ho : IsP o) :
    (stepP x n o = o ∧ ¬ key FloatKind.f32.format (x (o n)) < key FloatKind.f32.format (x (o (n + 1)))) ∨ (stepP x n o = swapP n o ∧ key FloatKind.f32.format (x (o n)) < key FloatKind.f32.format (x (o (n + 1)))) := by
  have h := ord_gt (k := .f32) (hx (o (n + 1)) (isP_lt ho (by omega))) (hx (o n) (isP_lt ho (by omega)))
  unfold stepP
  rw [h]
  by_cases hk : key FloatKind.f32.format (x (o n)) < key FloatKind.f32.format (x (o (n + 1)))
  · right; rw [if_pos (by simpa using hk)]; exact ⟨rfl, hk⟩
  · left; rw [if_neg (by simpa using hk)]; exact ⟨rfl, hk⟩
/-- Behind three steps a fourth one changes nothing. -/
theorem ord3_sorted {x : Nat → Nat} (hx : ∀ j, j < 3 → isN .f32 (x j) = false) : stepP x 1 (ord3 x) = ord3 x := by
  have p1 := isP_step (x := x) (n := 0) (by omega) isP_id
  have p2 := isP_step (x := x) (n := 1) (by omega) p1
  have p3 := ord3_isP x
  rcases step_cases hx (n := 1) (by omega) p3 with ⟨h, -⟩ | ⟨-, h⟩
  · exact h
  exfalso
  unfold ord3 at h
  rcases step_cases hx (n := 0) (by omega) isP_id with ⟨e1, k1⟩ | ⟨e1, k1⟩ <;> rw [e1] at h p2 <;>
    rcases step_cases hx (n := 1) (by omega) (e1 ▸ p1) with ⟨e2, k2⟩ | ⟨e2, k2⟩ <;> rw [e2] at h p2 <;>
    rcases step_cases hx (n := 0) (by omega) p2 with ⟨e3, k3⟩ | ⟨e3, k3⟩ <;> rw [e3] at h <;>
    simp [swapP, idP] at h k1 k2 k3 <;> omega
/-- The places of the axes behind so many steps along them. -/
def atR (i : Nat → Nat) (o : Nat → Nat) : Nat → Nat → Nat
  | 0 => i
  | r + 1 => fun a => if a = o r then atR i o r (o r) + 1 else atR i o r a
/-- The entries at the corners. -/
def corE (S : Nat) (i o : Nat → Nat) (r : Nat) : Nat := enI S (atR i o r 0) (atR i o r 1) (atR i o r 2)
theorem atR_le {i o : Nat → Nat} {S : Nat} (ho : IsP o) (hi : ∀ a, a < 3 → i a + 2 ≤ S) : ∀ r, r ≤ 3 → ∀ a, a < 3 → atR i o r a < S := by
  obtain ⟨h0, h1, h2, n1, n2, n3⟩ := ho
  intro r hr a ha
  have b := hi a ha
  rcases (show r = 0 ∨ r = 1 ∨ r = 2 ∨ r = 3 by omega) with rfl | rfl | rfl | rfl
  · simp only [atR]; omega
  · simp only [atR]; split
    · subst_vars; omega
    · omega
  · simp only [atR]
    by_cases e1 : a = o 1
    · rw [if_pos e1, if_neg (by omega)]; rw [← e1]; omega
    · rw [if_neg e1]
      by_cases e0 : a = o 0
      · rw [if_pos e0, ← e0]; omega
      · rw [if_neg e0]; omega
  · simp only [atR]
    by_cases e2 : a = o 2
    · rw [if_pos e2, if_neg (by omega), if_neg (by omega), ← e2]; omega
    · rw [if_neg e2]
      by_cases e1 : a = o 1
      · rw [if_pos e1, if_neg (by omega), ← e1]; omega
      · rw [if_neg e1]
        by_cases e0 : a = o 0
        · rw [if_pos e0, ← e0]; omega
        · rw [if_neg e0]; omega
/-- The value between four entries. -/
def mixT (a b c d s t u : Nat) : Nat :=
  if FloatKind.f32.format.order s 0 == some .eq then cn .f32 a
  else if (FloatKind.f32.format.order s 1065353216 == some .eq) && (FloatKind.f32.format.order t 0 == some .eq) then cn .f32 b
  else if (FloatKind.f32.format.order t 1065353216 == some .eq) && (FloatKind.f32.format.order u 0 == some .eq) then cn .f32 c
  else if FloatKind.f32.format.order u 1065353216 == some .eq then cn .f32 d
  else fop .add .f32 (fop .add .f32 (fop .add .f32 a (fop .mul .f32 (fop .sub .f32 b a) s)) (fop .mul .f32 (fop .sub .f32 c b) t)) (fop .mul .f32 (fop .sub .f32 d c) u)
/-- The colour of a pixel by a cube. -/
def tetF (S lo hi : Nat) (fs p : Nat → Nat) (n : Nat) : Nat :=
  let x : Nat → Nat := fun a => (plF S lo hi (p a)).2
  let i : Nat → Nat := fun a => (plF S lo hi (p a)).1.toNat
  if n < 3 then (if brokB p then 2143289344 else mixT (fs (3 * corE S i (ord3 x) 0 + n)) (fs (3 * corE S i (ord3 x) 1 + n)) (fs (3 * corE S i (ord3 x) 2 + n)) (fs (3 * corE S i (ord3 x) 3 + n)) (x (ord3 x 0)) (x (ord3 x 1)) (x (ord3 x 2)))
  else cn .f32 (p 3)
/-- A place lies ahead of the last entry; its share is no NaN. -/
theorem plF_ok {S lo hi v : Nat} (hS : 2 ≤ S ∧ S ≤ 17) : (∃ i : Nat, (plF S lo hi v).1 = i ∧ i + 2 ≤ S) ∧ isN .f32 (plF S lo hi v).2 = false := by
  cases g0 : (FloatKind.f32.format.order (tF S lo hi v) 0 == some .gt)
  · rw [plF_low g0]; exact ⟨⟨0, rfl, by omega⟩, by decide +kernel⟩
  · cases g1 : (FloatKind.f32.format.order (tF S lo hi v) (floatOfInt .f32 ((S : Int) - 1)) == some .lt)
    · rw [plF_high g0 g1]; exact ⟨⟨S - 2, by simp; omega, by omega⟩, show isN .f32 1065353216 = false by decide +kernel⟩
    · obtain ⟨N, q1, q2, -, -, -, -, -, q8⟩ := pl_mid hS g0 g1
      rw [plF_mid g0 g1, q2]
      exact ⟨⟨N, rfl, q1⟩, q8⟩
end Go.Proofs.YtcdcfkgdgimmcaaDoor

namespace Go.Proofs.YtcdcfkgdgimmcaaDoor
open Go Go.RowKit
/-- n cells of a block, by their place; none is frozen. -/
structure VecI (w : World) (b n : Nat) (f : Nat → Int) : Prop where
  lt : b < w.heap.size
  c : ∀ j, j < n → w.cell? ⟨b, j, none⟩ = some (.int .i64 (f j))
  f : ∀ o, w.frozen? ⟨b, o, none⟩ = false
structure VecF (w : World) (b n : Nat) (g : Nat → Nat) : Prop where
  lt : b < w.heap.size
  c : ∀ j, j < n → w.cell? ⟨b, j, none⟩ = some (.float .f32 (g j))
  f : ∀ o, w.frozen? ⟨b, o, none⟩ = false
theorem VecI.block {W w : World} {b n : Nat} {f : Nat → Int} (k : VecI W b n f) (hs : W.heap.size ≤ w.heap.size) (hb : w.heap[b]? = W.heap[b]?) : VecI w b n f :=
  ⟨Nat.lt_of_lt_of_le k.lt hs, fun j hj => (World.cell?_of_block hb).trans (k.c j hj), fun o => (World.frozen?_of_block hb).trans (k.f o)⟩
theorem VecF.block {W w : World} {b n : Nat} {f : Nat → Nat} (k : VecF W b n f) (hs : W.heap.size ≤ w.heap.size) (hb : w.heap[b]? = W.heap[b]?) : VecF w b n f :=
  ⟨Nat.lt_of_lt_of_le k.lt hs, fun j hj => (World.cell?_of_block hb).trans (k.c j hj), fun o => (World.frozen?_of_block hb).trans (k.f o)⟩
theorem VecI.past {W w : World} {b n : Nat} {f : Nat → Int} (k : VecI W b n f) (h : Below W.heap.size W w) : VecI w b n f := k.block h.size (h.block b k.lt)
theorem VecF.past {W w : World} {b n : Nat} {f : Nat → Nat} (k : VecF W b n f) (h : Below W.heap.size W w) : VecF w b n f := k.block h.size (h.block b k.lt)
theorem VecI.far {w : World} {b n : Nat} {f : Nat → Int} (k : VecI w b n f) (q : Addr) (t : Value) (hq : q.block ≠ b) : VecI (w.setCell q t) b n f := k.block (by simp [World.setCell]) (Below.heap_setCell _ _ _ _ (Ne.symm hq))
theorem VecF.far {w : World} {b n : Nat} {f : Nat → Nat} (k : VecF w b n f) (q : Addr) (t : Value) (hq : q.block ≠ b) : VecF (w.setCell q t) b n f := k.block (by simp [World.setCell]) (Below.heap_setCell _ _ _ _ (Ne.symm hq))
theorem VecI.set {w : World} {b n : Nat} {f : Nat → Int} (k : VecI w b n f) (i : Nat) (x : Int) (hi : i < n) : VecI (w.setCell ⟨b, i, none⟩ (.int .i64 x)) b n (fun j => if j = i then x else f j) := by
  refine ⟨by have := k.lt; simpa [World.setCell] using this, fun j hj => ?_, fun o => (World.frozen?_setCell _ _ _ _).trans (k.f o)⟩
  by_cases e : j = i
  · subst e; rw [if_pos rfl]; exact World.cell?_setCell_same _ _ _ (k.c j hj)
  · rw [if_neg e, World.cell?_setCell_other _ _ _ _ (by first | (simp; omega) | (simp; done) | omega)]; exact k.c j hj
theorem VecF.set {w : World} {b n : Nat} {f : Nat → Nat} (k : VecF w b n f) (i : Nat) (x : Nat) (hi : i < n) : VecF (w.setCell ⟨b, i, none⟩ (.float .f32 x)) b n (fun j => if j = i then x else f j) := by
  refine ⟨by have := k.lt; simpa [World.setCell] using this, fun j hj => ?_, fun o => (World.frozen?_setCell _ _ _ _).trans (k.f o)⟩
  by_cases e : j = i
  · subst e; rw [if_pos rfl]; exact World.cell?_setCell_same _ _ _ (k.c j hj)
  · rw [if_neg e, World.cell?_setCell_other _ _ _ _ (by first | (simp; omega) | (simp; done) | omega)]; exact k.c j hj
theorem VecI.of3 {w : World} {b : Nat} {f : Nat → Int} (k : Blk w b [.int .i64 (f 0), .int .i64 (f 1), .int .i64 (f 2)]) : VecI w b 3 f :=
  ⟨k.lt, fun j hj => k.c j _ (by rcases (show j = 0 ∨ j = 1 ∨ j = 2 by omega) with rfl | rfl | rfl <;> rfl), k.f⟩
theorem VecF.of3 {w : World} {b : Nat} {f : Nat → Nat} (k : Blk w b [.float .f32 (f 0), .float .f32 (f 1), .float .f32 (f 2)]) : VecF w b 3 f :=
  ⟨k.lt, fun j hj => k.c j _ (by rcases (show j = 0 ∨ j = 1 ∨ j = 2 by omega) with rfl | rfl | rfl <;> rfl), k.f⟩
theorem VecF.of4 {w : World} {b : Nat} {f : Nat → Nat} (k : Blk w b [.float .f32 (f 0), .float .f32 (f 1), .float .f32 (f 2), .float .f32 (f 3)]) : VecF w b 4 f :=
  ⟨k.lt, fun j hj => k.c j _ (by rcases (show j = 0 ∨ j = 1 ∨ j = 2 ∨ j = 3 by omega) with rfl | rfl | rfl | rfl <;> rfl), k.f⟩
end Go.Proofs.YtcdcfkgdgimmcaaDoor

namespace Go.Proofs.YtcdcfkgdgimmcaaDoor
open Go.RowKit
theorem ne_self (v : Nat) : (FloatKind.f32.format.order v v != some .eq) = isN .f32 v := by
  rw [ord_self]; cases isN .f32 v <;> rfl
/-- What stands while the places are found. -/
structure PlR (w wr : World) (S lo hi : Nat) (sl : Value) (p : Nat → Nat) (f : Nat → Int) (g : Nat → Nat) : Prop where
  c : Blk wr w.heap.size [.int .i64 S, .float .f32 lo, .float .f32 hi, sl]
  p : VecF wr (w.heap.size + 1) 4 p
  a : VecI wr (w.heap.size + 2) 3 f
  s : VecF wr (w.heap.size + 3) 3 g
  b : Below w.heap.size w wr
theorem PlR.past {w wr wy : World} {S lo hi : Nat} {sl : Value} {p : Nat → Nat} {f : Nat → Int} {g : Nat → Nat} (k : PlR w wr S lo hi sl p f g) (h : Below wr.heap.size wr wy) : PlR w wy S lo hi sl p f g :=
  ⟨k.c.past h, k.p.past h, k.a.past h, k.s.past h, k.b.trans (h.mono k.b.size)⟩
theorem PlR.setA {w wr : World} {S lo hi : Nat} {sl : Value} {p : Nat → Nat} {f : Nat → Int} {g : Nat → Nat} (k : PlR w wr S lo hi sl p f g) (m : Nat) (hm : m < 3) (x : Int) :
    PlR w (wr.setCell ⟨w.heap.size + 2, m, none⟩ (.int .i64 x)) S lo hi sl p (fun j => if j = m then x else f j) g :=
  ⟨k.c.far _ _ (by simp), k.p.far _ _ (by simp), k.a.set m x hm, k.s.far _ _ (by simp), k.b.setCell (by simp) _⟩
theorem PlR.setB {w wr : World} {S lo hi : Nat} {sl : Value} {p : Nat → Nat} {f : Nat → Int} {g : Nat → Nat} (k : PlR w wr S lo hi sl p f g) (m : Nat) (hm : m < 3) (u : Nat) :
    PlR w (wr.setCell ⟨w.heap.size + 3, m, none⟩ (.float .f32 u)) S lo hi sl p f (fun j => if j = m then u else g j) :=
  ⟨k.c.far _ _ (by simp), k.p.far _ _ (by simp), k.a.far _ _ (by simp), k.s.set m u hm, k.b.setCell (by simp) _⟩
theorem pl_keep {w wx W : World} {S lo hi : Nat} {sl : Value} {p : Nat → Nat} {f : Nat → Int} {g : Nat → Nat} {m v : Nat} (k : PlR w wx S lo hi sl p f g) (h : Below wx.heap.size wx W) (hm : m < 3) (hv : v = p m) :
    W.cell? ⟨w.heap.size, 0, none⟩ = some (.int .i64 S) ∧ W.cell? ⟨w.heap.size, 1, none⟩ = some (.float .f32 lo) ∧ W.cell? ⟨w.heap.size, 2, none⟩ = some (.float .f32 hi) ∧ W.cell? ⟨w.heap.size, 3, none⟩ = some sl ∧ W.cell? ⟨w.heap.size + 1, m, none⟩ = some (.float .f32 v) := by
  have k := k.past h
  exact ⟨k.c.c 0 _ rfl, k.c.c 1 _ rfl, k.c.c 2 _ rfl, k.c.c 3 _ rfl, by rw [hv]; exact k.p.c m (by omega)⟩
end Go.Proofs.YtcdcfkgdgimmcaaDoor
