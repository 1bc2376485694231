/- finish.three by a closure that need answer for red, green and blue alone. (with: ShA, ShB, ShC, ShD, ShE, ShF, ShG, ShH) -/
import Derived.Test.YtmnmcmmhnbnndaaThreeB
import Derived.Test.YtmnmcmmhnbnndaaGrZ
import Derived.BigQuiet
import Derived.Deep.QuietTactic
import Derived.Test.YtmnmcmmhnbnndaaAbsA
namespace Go.Proofs.Ytmnmcmmhnbnndaa
open Go.RowKit
set_option maxRecDepth 100000 in
set_option maxHeartbeats 800000 in
theorem three_in (K : Nat) (caps : Array Value) (g : Int → Nat → Nat) (p0 p1 p2 p3 : Nat) (w : World) (h0 : p0 < 2 ^ FloatKind.f32.format.width) (h1 : p1 < 2 ^ FloatKind.f32.format.width) (h2 : p2 < 2 ^ FloatKind.f32.format.width)
    (hent : ∀ args w, (callFunc K args).run Try.prog w = .ok (.enter K args) w)
    (hk : ∀ c v w', (0 ≤ c ∧ c ≤ 2) → Below w.heap.size w w' → v < 2 ^ FloatKind.f32.format.width → Calls Try.prog K (#[.int .i64 c, .float .f32 v] ++ caps) w' fun e w'' => ∃ r, e = .returned (.float .f32 r) ∧ FR .f32 r (g c v) ∧ Below w'.heap.size w' w'') :
    Calls Try.prog 145 #[.agg #[.float .f32 p0, .float .f32 p1, .float .f32 p2, .float .f32 p3], .func (.func K) #[] caps] w fun e w' =>
      e = .returned (.agg #[.float .f32 (g 0 p0), .float .f32 (g 1 p1), .float .f32 (g 2 p2), .float .f32 (cn .f32 p3)]) ∧ Below w.heap.size w w' := by
  have hk' := Lib.hid hk; clear hk
  have h0' := Lib.hid h0; clear h0
  have h1' := Lib.hid h1; clear h1
  have h2' := Lib.hid h2; clear h2
  go_enter Try.func145, Try.ntmps145
  go_wp2
  refine wp_loop_rounds 4 ?_
  go_wp2_with (simp only [rounds_succ])
  refine (hk'.out _ _ _ (by decide) ?_ h0'.out).mono ?_
  · (repeat (first | exact Below.refl _ _ | assumption | (refine Below.setCell ?_ (by first | (simp; done) | (simp; omega) | omega) _) | (refine Below.drew ?_) | (refine below_drewN ?_ _) | (refine Below.alloc ?_ (by first | (simp; done) | (simp; omega) | omega) _) | (refine Below.trans ?_ (Below.mono (by assumption) (by first | (simp; done) | (simp; omega) | omega)))))
  rintro e w1 ⟨r0, rfl, hr0, hb0⟩
  have e0 := hr0.eq
  have hs := hb0.size
  simp at hs
  have q0 : w.heap.size < w1.heap.size := by omega
  have qq0 : w.heap.size + 1 < w1.heap.size := by omega
  have P1 : Pix4 w1 w.heap.size p0 p1 p2 p3 := ((Pix4.new w p0 p1 p2 p3 _).below (Below.alloc (Below.refl (w.heap.size + 1) _) (by simp) _) (by omega)).below hb0 (by simp; omega)
  have R1 : Pix4 w1 (w.heap.size + 1) 0 0 0 0 := (by have := Pix4.new (w.alloc (.cells #[.float .f32 p0, .float .f32 p1, .float .f32 p2, .float .f32 p3] 55)) 0 0 0 0 55; simpa using this : Pix4 _ (w.heap.size + 1) 0 0 0 0).below hb0 (by simp)
  have B1 : Below w.heap.size w w1 := by (repeat (first | exact Below.refl _ _ | assumption | (refine Below.setCell ?_ (by first | (simp; done) | (simp; omega) | omega) _) | (refine Below.drew ?_) | (refine below_drewN ?_ _) | (refine Below.alloc ?_ (by first | (simp; done) | (simp; omega) | omega) _) | (refine Below.trans ?_ (Below.mono (by assumption) (by first | (simp; done) | (simp; omega) | omega)))))
  clear hb0
  have hP1 := Lib.hid P1; have hR1 := Lib.hid R1
  obtain ⟨c0, c1, c2, c3, pf⟩ := P1
  obtain ⟨d0, d1, d2, d3, rf⟩ := R1
  clear hs
  go_wp2_with (first | simp only [rounds_succ] | (go_at_call 174; refine (Clean_any _ _).mono ?_; rintro e w' ⟨rfl, rfl⟩))
  refine (hk'.out _ _ _ (by decide) ?_ h1'.out).mono ?_
  · (repeat (first | exact Below.refl _ _ | assumption | (refine Below.setCell ?_ (by first | (simp; done) | (simp; omega) | omega) _) | (refine Below.drew ?_) | (refine below_drewN ?_ _) | (refine Below.alloc ?_ (by first | (simp; done) | (simp; omega) | omega) _) | (refine Below.trans ?_ (Below.mono (by assumption) (by first | (simp; done) | (simp; omega) | omega)))))
  rintro e w2 ⟨r1, rfl, hr1, hb1⟩
  have e1 := hr1.eq
  have hs := hb1.size
  simp at hs
  have q1 : w.heap.size < w2.heap.size := by omega
  have qq1 : w.heap.size + 1 < w2.heap.size := by omega
  have P2 : Pix4 w2 w.heap.size (g 0 p0) p1 p2 p3 := (hP1.out.set0 _).below hb1 (by simpa using q0)
  have R2 : Pix4 w2 (w.heap.size + 1) 0 0 0 0 := (hR1.out.far _ _ (by simp)).below hb1 (by simpa using qq0)
  clear hP1 hR1 c0 c1 c2 c3 pf d0 d1 d2 d3 rf
  have B2 : Below w.heap.size w w2 := by (repeat (first | exact Below.refl _ _ | assumption | (refine Below.setCell ?_ (by first | (simp; done) | (simp; omega) | omega) _) | (refine Below.drew ?_) | (refine below_drewN ?_ _) | (refine Below.alloc ?_ (by first | (simp; done) | (simp; omega) | omega) _) | (refine Below.trans ?_ (Below.mono (by assumption) (by first | (simp; done) | (simp; omega) | omega)))))
  clear hb1
  have hP2 := Lib.hid P2; have hR2 := Lib.hid R2
  obtain ⟨c0, c1, c2, c3, pf⟩ := P2
  obtain ⟨d0, d1, d2, d3, rf⟩ := R2
  clear hs
  go_wp2_with (first | simp only [rounds_succ] | (go_at_call 174; refine (Clean_any _ _).mono ?_; rintro e w' ⟨rfl, rfl⟩))
  refine (hk'.out _ _ _ (by decide) ?_ h2'.out).mono ?_
  · (repeat (first | exact Below.refl _ _ | assumption | (refine Below.setCell ?_ (by first | (simp; done) | (simp; omega) | omega) _) | (refine Below.drew ?_) | (refine below_drewN ?_ _) | (refine Below.alloc ?_ (by first | (simp; done) | (simp; omega) | omega) _) | (refine Below.trans ?_ (Below.mono (by assumption) (by first | (simp; done) | (simp; omega) | omega)))))
  rintro e w3 ⟨r2, rfl, hr2, hb2⟩
  have e2 := hr2.eq
  have hs := hb2.size
  simp at hs
  have q2 : w.heap.size < w3.heap.size := by omega
  have qq2 : w.heap.size + 1 < w3.heap.size := by omega
  have P3 : Pix4 w3 w.heap.size (g 0 p0) (g 1 p1) p2 p3 := (hP2.out.set1 _).below hb2 (by simpa using q1)
  have R3 : Pix4 w3 (w.heap.size + 1) 0 0 0 0 := (hR2.out.far _ _ (by simp)).below hb2 (by simpa using qq1)
  clear hP2 hR2 c0 c1 c2 c3 pf d0 d1 d2 d3 rf
  have B3 : Below w.heap.size w w3 := by (repeat (first | exact Below.refl _ _ | assumption | (refine Below.setCell ?_ (by first | (simp; done) | (simp; omega) | omega) _) | (refine Below.drew ?_) | (refine below_drewN ?_ _) | (refine Below.alloc ?_ (by first | (simp; done) | (simp; omega) | omega) _) | (refine Below.trans ?_ (Below.mono (by assumption) (by first | (simp; done) | (simp; omega) | omega)))))
  clear hb2
  have hP3 := Lib.hid P3; have hR3 := Lib.hid R3
  obtain ⟨c0, c1, c2, c3, pf⟩ := P3
  obtain ⟨d0, d1, d2, d3, rf⟩ := R3
  clear hs
  go_wp2_with (first | simp only [rounds_succ] | (go_at_call 174; refine (Clean_any _ _).mono ?_; rintro e w' ⟨rfl, rfl⟩))
  refine bodyPost_ret (v := .agg #[.float .f32 (g 0 p0), .float .f32 (g 1 p1), .float .f32 (g 2 p2), .float .f32 (cn .f32 p3)]) ?_ rfl ⟨rfl, ?_⟩
  · simp [results, Try.results145, go_sem, *]
  · exact (((((B3.setCell (by simp) _).setCell (by simp) _).setCell (by simp) _).setCell (by simp) _).setCell (by simp) _).setCell (by simp) _
end Go.Proofs.Ytmnmcmmhnbnndaa

namespace Go.Proofs.Ytmnmcmmhnbnndaa
open Go.RowKit
/-- Where a place lies within n places, or the nearest one. -/
def clampI (a n : Int) : Int := if a < 0 then 0 else if n - 1 < a then n - 1 else a
theorem clampI_bd {a n : Int} (hn : 1 ≤ n) : 0 ≤ clampI a n ∧ clampI a n ≤ n - 1 := by
  unfold clampI; split
  · omega
  · split <;> omega
/-- The number of the single of a place. -/
def spotI (x y v h px py : Int) : Int := 4 * (clampI (py - y) h * v + clampI (px - x) v)
theorem spotI_bd {x y v h px py : Int} (r1 : 1 ≤ v) (r3 : 1 ≤ h) {n : Nat} (hl : (n : Int) = 4 * v * h) : 0 ≤ spotI x y v h px py ∧ spotI x y v h px py + 4 ≤ n := by
  obtain ⟨a1, a2⟩ := clampI_bd (a := px - x) r1
  obtain ⟨b1, b2⟩ := clampI_bd (a := py - y) r3
  unfold spotI
  have m0 : 0 ≤ clampI (py - y) h * v := Int.mul_nonneg b1 (by omega)
  have m1 : clampI (py - y) h * v ≤ (h - 1) * v := Int.mul_le_mul_of_nonneg_right b2 (by omega)
  have e : (h - 1) * v = v * h - v := by rw [Int.sub_mul, Int.mul_comm h v]; omega
  rw [Int.mul_assoc] at hl
  omega
set_option maxRecDepth 100000 in
set_option maxHeartbeats 1600000 in
theorem at_any (x y v h : Int) (b off n cap : Nat) (fs : Nat → Nat) (px py c : Int) (pf : Nat) (w : World) (hr : regErr x y v h = 0) (hl : (n : Int) = 4 * v * h) (hcap : n ≤ cap) (hcb : cap ≤ 9223372036854775807)
    (hpx : -4000000 ≤ px ∧ px ≤ 4000000) (hpy : -4000000 ≤ py ∧ py ≤ 4000000) (hc : 0 ≤ c ∧ c ≤ 3)
    (hF : FrameC w pf x y v h (.slice (some ⟨b, off, none⟩) n cap)) (hcell : ∀ i, i < n → w.cell? ⟨b, off + i, none⟩ = some (.float .f32 (fs i))) :
    Calls Try.prog 161 #[.int .i64 px, .int .i64 py, .int .i64 c, .pointer (some ⟨pf, 0, none⟩)] w fun e w' => e = .returned (.float .f32 (fs (spotI x y v h px py + c).toNat)) ∧ Below w.heap.size w w' := by
  obtain ⟨r1, r2, r3, r4, r5, r6, r7, r8, r9, r10⟩ := regErr_ok hr
  obtain ⟨s1, s2⟩ := spotI_bd (x := x) (y := y) (px := px) (py := py) r1 r3 hl
  obtain ⟨a1, a2⟩ := clampI_bd (a := px - x) r1
  obtain ⟨b1, b2⟩ := clampI_bd (a := py - y) r3
  obtain ⟨A, hA⟩ : ∃ A, A = clampI (px - x) v := ⟨_, rfl⟩
  obtain ⟨B, hB⟩ : ∃ B, B = clampI (py - y) h := ⟨_, rfl⟩
  have C := hcell (spotI x y v h px py + c).toNat (by omega)
  have hpfl := hF.lt
  have hbl : b < w.heap.size := cell_lt C
  obtain ⟨f0, f1, f2, f3, f4, -⟩ := hF
  have HS := Lib.hid (And.intro s1 s2)
  unfold spotI at s1 s2 C ⊢
  rw [← hA, ← hB] at s1 s2 C ⊢
  rw [← hA] at a1 a2
  rw [← hB] at b1 b2
  have m1 : 0 ≤ B * v := Int.mul_nonneg b1 (by omega)
  have m2 : B * v ≤ 256 * 256 := Int.mul_le_mul (by omega) r2 (by omega) (by omega)
  obtain ⟨x1, x2⟩ := hpx
  obtain ⟨y1, y2⟩ := hpy
  obtain ⟨c1, c2⟩ := hc
  have HAB := Lib.hid (And.intro hA hB)
  have e1 : (if v - 1 < (if px - x < 0 then 0 else px - x) then v - 1 else (if px - x < 0 then 0 else px - x)) = A := by
    rw [hA]; unfold clampI
    by_cases k : px - x < 0
    · rw [if_pos k, if_pos k, if_neg (by omega)]
    · rw [if_neg k, if_neg k]
  have e2 : (if h - 1 < (if py - y < 0 then 0 else py - y) then h - 1 else (if py - y < 0 then 0 else py - y)) = B := by
    rw [hB]; unfold clampI
    by_cases k : py - y < 0
    · rw [if_pos k, if_pos k, if_neg (by omega)]
    · rw [if_neg k, if_neg k]
  have E1 := Lib.hid e1; have E2 := Lib.hid e2; clear e1 e2
  clear hcell hr r5 r6 hA hB
  go_enter Try.func161, Try.ntmps161
  go_wp2_with fail
  go_quiet (fail)
  have e1 := E1.out; have e2 := E2.out
  simp only [e1, e2]
  have j0 := HS.out
  unfold spotI at j0
  rw [← HAB.out.1, ← HAB.out.2] at j0
  obtain ⟨j1, j2⟩ := j0
  have i0 : (0 : Int) ≤ 4 * (B * v + A) + c := by omega
  have i1 : 4 * (B * v + A) + c < (n : Int) := by omega
  clear e1 e2 E1 E2 HAB HS
  generalize hBv : B * v = Z at *
  go_wp2_with fail
  all_goals
    go_ret
    exact ⟨rfl, by (repeat (first | exact Below.refl _ _ | assumption | (refine Below.setCell ?_ (by first | (simp; done) | (simp; omega) | omega) _) | (refine Below.drew ?_) | (refine below_drewN ?_ _) | (refine Below.alloc ?_ (by first | (simp; done) | (simp; omega) | omega) _) | (refine Below.trans ?_ (Below.mono (by assumption) (by first | (simp; done) | (simp; omega) | omega)))))⟩
end Go.Proofs.Ytmnmcmmhnbnndaa

namespace Go.Proofs.Ytmnmcmmhnbnndaa
open Go.RowKit
/-- The sum of the first neighbours, k and one of them. -/
def shP (T : Int → Int → Nat) (px py : Int) : Nat → Nat
  | 0 => T (px - 1) (py - 1)
  | k + 1 => fop .add .f32 (shP T px py k) (T (px - 1 + ((k + 1 : Nat) : Int) % 3) (py - 1 + ((k + 1 : Nat) : Int) / 3))
/-- The sum of nine neighbours. -/
def shS (T : Int → Int → Nat) (px py : Int) : Nat := shP T px py 8
/-- A value moved away from its neighbours. -/
def shD (S v : Nat) : Nat := fop .sub .f32 v (fop .quo .f32 S 1091567616)
def shF (S least amount v : Nat) : Nat := if (FloatKind.f32.format.order (absN (shD S v)) least == some .lt) = true then cn .f32 v else fop .add .f32 v (fop .mul .f32 (shD S v) amount)
set_option maxHeartbeats 800000 in
theorem Abs32_any (v : Nat) (w : World) (hv : v < 2 ^ FloatKind.f32.format.width) : Calls Try.prog 165 #[.float .f32 v] w fun e w' => e = .returned (.float .f32 (absN v)) ∧ ∃ m, w' = w.drewN m := by
  have hv' := Lib.hid hv; clear hv
  go_enter Try.func165, Try.ntmps165
  go_wp2_with (first | ((with_reducible apply wpList_up); rfl; exact Try.underlying38; exact Try.underlying51; intro r n hr; obtain ⟨ho, hb⟩ := mag_back hv'.out hr) | (go_at_call 78; refine (Abs_any _ _).mono ?_; rintro e w' ⟨rfl, rfl⟩) | ((with_reducible apply wpList_down); rfl; exact Try.underlying51; exact Try.underlying38; exact ho; intro t n2 ht) | (go_at_call 174; refine (Clean_any _ _).mono ?_; rintro e w' ⟨rfl, rfl⟩))
  go_ret
  exact ⟨ret_f (by rw [ht.eq, hb]), _, rfl⟩
theorem absN_FR {r s : Nat} (h : FR .f32 r s) : absN r = absN s := by rw [← h.eq, absN_cn]
theorem shD_FR {S r v r1 r2 : Nat} (h : cn .f32 r = cn .f32 S) (h1 : FR .f32 r1 (fop .quo .f32 (cn .f32 r) (cn .f32 1091567616))) (h2 : FR .f32 r2 (fop .sub .f32 (cn .f32 v) (cn .f32 r1))) : FR .f32 r2 (shD S v) := by
  rw [h1.eq, h] at h2
  simp only [fop_cn_left, fop_cn_right] at h2
  exact h2
theorem shF_lt {S r v r1 r2 least amount : Nat} (h : cn .f32 r = cn .f32 S) (h1 : FR .f32 r1 (fop .quo .f32 (cn .f32 r) (cn .f32 1091567616))) (h2 : FR .f32 r2 (fop .sub .f32 (cn .f32 v) (cn .f32 r1)))
    (hl : (FloatKind.f32.format.order (absN r2) least == some .lt) = true) : shF S least amount v = cn .f32 v := by
  unfold shF
  rw [← absN_FR (shD_FR h h1 h2), if_pos hl]
theorem shF_ge {S r v r1 r2 r3 r4 least amount : Nat} (h : cn .f32 r = cn .f32 S) (h1 : FR .f32 r1 (fop .quo .f32 (cn .f32 r) (cn .f32 1091567616))) (h2 : FR .f32 r2 (fop .sub .f32 (cn .f32 v) (cn .f32 r1)))
    (hl : (FloatKind.f32.format.order (absN r2) least == some .lt) = false) (h3 : FR .f32 r3 (fop .mul .f32 (cn .f32 r2) (cn .f32 amount))) (h4 : FR .f32 r4 (fop .add .f32 (cn .f32 v) (cn .f32 r3))) : FR .f32 r4 (shF S least amount v) := by
  have hd := shD_FR h h1 h2
  unfold shF
  rw [← absN_FR hd, if_neg (by rw [hl]; decide)]
  rw [h3.eq, hd.eq] at h4
  simp only [fop_cn_left, fop_cn_right] at h4
  exact h4
/-- The cells that the inner closure holds. -/
structure ShC (w : World) (pat px py pl pa pf : Nat) (X Y : Int) (least amount : Nat) : Prop where
  at' : w.cell? ⟨pat, 0, none⟩ = some (.func (.func 161) #[] #[.pointer (some ⟨pf, 0, none⟩)])
  cx : w.cell? ⟨px, 0, none⟩ = some (.int .i64 X)
  cy : w.cell? ⟨py, 0, none⟩ = some (.int .i64 Y)
  cl : w.cell? ⟨pl, 0, none⟩ = some (.float .f32 least)
  ca : w.cell? ⟨pa, 0, none⟩ = some (.float .f32 amount)
theorem ShC.below {w w' : World} {pat px py pl pa pf : Nat} {X Y : Int} {least amount : Nat} (h : ShC w pat px py pl pa pf X Y least amount) {m : Nat} (hb : Below m w w') (hm : w.heap.size ≤ m) : ShC w' pat px py pl pa pf X Y least amount := by
  obtain ⟨h1, h2, h3, h4, h5⟩ := h
  have l1 := cell_lt h1; have l2 := cell_lt h2; have l3 := cell_lt h3; have l4 := cell_lt h4; have l5 := cell_lt h5
  simp only at l1 l2 l3 l4 l5
  exact ⟨(hb.cell (p := ⟨pat, 0, none⟩) (by show pat < m; omega)).trans h1, (hb.cell (p := ⟨px, 0, none⟩) (by show px < m; omega)).trans h2, (hb.cell (p := ⟨py, 0, none⟩) (by show py < m; omega)).trans h3, (hb.cell (p := ⟨pl, 0, none⟩) (by show pl < m; omega)).trans h4, (hb.cell (p := ⟨pa, 0, none⟩) (by show pa < m; omega)).trans h5⟩
set_option maxRecDepth 100000 in
set_option maxHeartbeats 1600000 in
theorem sh_inner (T : Int → Int → Nat) (c X Y : Int) (v least amount : Nat) (pat px py pl pa pf : Nat) (w : World) (hX : -2000000 ≤ X ∧ X ≤ 2000000) (hY : -2000000 ≤ Y ∧ Y ≤ 2000000) (hv : v < 2 ^ FloatKind.f32.format.width)
    (hC : ShC w pat px py pl pa pf X Y least amount)
    (hat : ∀ a b w', Below w.heap.size w w' → (-4000000 ≤ a ∧ a ≤ 4000000) → (-4000000 ≤ b ∧ b ≤ 4000000) → Calls Try.prog 161 #[.int .i64 a, .int .i64 b, .int .i64 c, .pointer (some ⟨pf, 0, none⟩)] w' fun e w'' => e = .returned (.float .f32 (T a b)) ∧ Below w'.heap.size w' w'') :
    Calls Try.prog 164 #[.int .i64 c, .float .f32 v, .pointer (some ⟨pat, 0, none⟩), .pointer (some ⟨px, 0, none⟩), .pointer (some ⟨py, 0, none⟩), .pointer (some ⟨pl, 0, none⟩), .pointer (some ⟨pa, 0, none⟩)] w fun e w' =>
      (∃ r, e = .returned (.float .f32 r) ∧ FR .f32 r (shF (shS T X Y) least amount v)) ∧ Below w.heap.size w w' := by
  have HA := Lib.hid hat
  have HV := Lib.hid hv
  have HC := Lib.hid hC
  clear hat hv
  obtain ⟨c1, c2, c3, c4, c5⟩ := hC
  clear c4 c5
  have B := Below.refl w.heap.size w
  go_enter Try.func164, Try.ntmps164
  go_wp2_with fail
  refine (HA.out _ _ _ B (by omega) (by omega)).mono ?_
  rintro e w1 ⟨rfl, hb⟩
  have B1 := B.trans (hb.mono B.size)
  clear B hb c1 c2 c3
  obtain ⟨c1, c2, c3, -, -⟩ := HC.out.below B1 (Nat.le_refl _)
  have HB := Lib.hid B1; clear B1
  go_wp2_with fail
  go_loopw [10, 11] (fun s i wr => ∃ k r : Nat, k ≤ 8 ∧ i = .int .i64 (k + 1 : Nat) ∧ s = .float .f32 r ∧ cn .f32 r = cn .f32 (shP T X Y k) ∧ Below w.heap.size w wr) (fun s i _ => 9 - (intOf i).toNat)
  case atStart => exact ⟨0, _, by omega, rfl, rfl, rfl, HB.out⟩
  case round =>
    obtain ⟨k, r, hk, rfl, rfl, hr, hB⟩ := hrel
    obtain ⟨c1, c2, c3, c4, c5⟩ := HC.out.below hB (Nat.le_refl _)
    by_cases hk8 : k < 8
    · have d1 : ((k + 1 : Nat) : Int).tmod 3 = ((k + 1 : Nat) : Int) % 3 := Int.tmod_eq_emod_of_nonneg (by omega)
      have d2 : ((k + 1 : Nat) : Int).tdiv 3 = ((k + 1 : Nat) : Int) / 3 := Int.tdiv_eq_ediv_of_nonneg (by omega)
      clear c4 c5
      have HQ := Lib.hid (And.intro hr hB); clear hr hB
      go_wp2_with fail
      refine (HA.out _ _ _ HQ.out.2 (by omega) (by omega)).mono ?_
      rintro e w2 ⟨rfl, hb⟩
      have B2 := HQ.out.2.trans (hb.mono HQ.out.2.size)
      have hr := HQ.out.1
      clear c1 c2 c3 hb HQ
      have HB2 := Lib.hid B2; have HR2 := Lib.hid hr; clear B2 hr
      go_wp2_with (first | ((with_reducible apply wpList_farith); rfl; rfl; rfl; intro _ _ _) | ((with_reducible apply wpList_up); rfl; exact Try.underlying38; exact Try.underlying51; intro _ _ _))
      rename_i a1
      rename_i a1
      have hB2 := HB2.out
      refine ⟨⟨k + 1, _, by omega, by simp, rfl, ?_, by (repeat (first | exact Below.refl _ _ | assumption | (refine Below.setCell ?_ (by first | (simp; done) | (simp; omega) | omega) _) | (refine Below.drew ?_) | (refine below_drewN ?_ _) | (refine Below.alloc ?_ (by first | (simp; done) | (simp; omega) | omega) _) | (refine Below.trans ?_ (Below.mono (by assumption) (by first | (simp; done) | (simp; omega) | omega)))))⟩, by simp [intOf]; omega⟩
      rw [a1.eq]
      unfold shP
      rw [cn_fop, fop_cn_left, fop_cn_right, ← fop_cn_left, HR2.out, fop_cn_left]
      simp
    · obtain rfl : k = 8 := by omega
      have HQ := Lib.hid (And.intro hr hB); clear hr hB
      clear c1 c2 c3
      go_wp2_with (first | ((with_reducible apply wpList_farith); rfl; rfl; rfl; intro _ _ _) | ((with_reducible apply wpList_up); rfl; exact Try.underlying38; exact Try.underlying51; intro _ _ _))
      rename_i r1 n1 a1 r2 n2 a2 _ _ _ _
      have HB' : Below w.heap.size w (wr.drewN (n1 + n2)) := by have := HQ.out.2; (repeat (first | exact Below.refl _ _ | assumption | (refine Below.setCell ?_ (by first | (simp; done) | (simp; omega) | omega) _) | (refine Below.drew ?_) | (refine below_drewN ?_ _) | (refine Below.alloc ?_ (by first | (simp; done) | (simp; omega) | omega) _) | (refine Below.trans ?_ (Below.mono (by assumption) (by first | (simp; done) | (simp; omega) | omega)))))
      have hr := Lib.hid HQ.out.1
      clear HQ c4 c5
      generalize wr.drewN (n1 + n2) = W at *
      have c4 := (HC.out.below HB' (Nat.le_refl _)).cl
      have l4 := cell_lt c4; simp only at l4
      refine wp_region_loose 3 (fun _ _ u => u = .float .f32 (absN r2)) (by kernel_rfl) (by kernel_rfl) ?_
      simp only [List.take_succ_cons, List.take_zero, List.drop_succ_cons, List.drop_zero]
      (refine loose_wanted rfl (fun K hK => ?_); go_simp; refine hK _ ?_; clear hK K)
      refine loose_wanted rfl (fun K1 hK => ?_)
      go_simp
      refine ⟨fun p => (Abs32_any _ _ a2.lt).mono ?_, ?_⟩
      · rintro e w' ⟨rfl, m, rfl⟩
        exact ⟨_, rfl, rfl, by have := p.h; (repeat (first | exact Below.refl _ _ | assumption | (refine Below.setCell ?_ (by first | (simp; done) | (simp; omega) | omega) _) | (refine Below.drew ?_) | (refine below_drewN ?_ _) | (refine Below.alloc ?_ (by first | (simp; done) | (simp; omega) | omega) _) | (refine Below.trans ?_ (Below.mono (by assumption) (by first | (simp; done) | (simp; omega) | omega)))))⟩
      refine hK _ ?_
      clear hK K1
      iterate 1 (refine loose_wanted rfl (fun K hK => ?_); go_simp; refine hK _ ?_; clear hK K)
      refine loose_nil (fun w5 hb5 => ?_)
      have B5 := HB'.trans (hb5.mono HB'.size)
      have ca := HC.out.below B5 (Nat.le_refl _)
      have c5 := ca.ca
      clear ca c4
      go_wp2_with (first | ((with_reducible apply wpList_farith); rfl; rfl; rfl; intro _ _ _) | ((with_reducible apply wpList_up); rfl; exact Try.underlying38; exact Try.underlying51; intro _ _ _))
      all_goals
        have h8 := hr.out
        clear c5 hr hb5 l4 HB' HA HC HB
      · go_ret
        rename_i hl
        exact ⟨⟨v, rfl, by rw [shF_lt (S := shS T X Y) h8 a1 a2 hl]; exact FR.refl HV.out⟩, by (repeat (first | exact Below.refl _ _ | assumption | (refine Below.setCell ?_ (by first | (simp; done) | (simp; omega) | omega) _) | (refine Below.drew ?_) | (refine below_drewN ?_ _) | (refine Below.alloc ?_ (by first | (simp; done) | (simp; omega) | omega) _) | (refine Below.trans ?_ (Below.mono (by assumption) (by first | (simp; done) | (simp; omega) | omega)))))⟩
      · go_ret
        rename_i hl _ _ a3 _ _ a4
        exact ⟨⟨_, rfl, shF_ge (S := shS T X Y) h8 a1 a2 hl a3 a4⟩, by (repeat (first | exact Below.refl _ _ | assumption | (refine Below.setCell ?_ (by first | (simp; done) | (simp; omega) | omega) _) | (refine Below.drew ?_) | (refine below_drewN ?_ _) | (refine Below.alloc ?_ (by first | (simp; done) | (simp; omega) | omega) _) | (refine Below.trans ?_ (Below.mono (by assumption) (by first | (simp; done) | (simp; omega) | omega)))))⟩
end Go.Proofs.Ytmnmcmmhnbnndaa

namespace Go.Proofs.Ytmnmcmmhnbnndaa
open Go.RowKit
/-- The single that is read at a place, by channel. -/
def shT (x y v h : Int) (fs : Nat → Nat) (c a b : Int) : Nat := fs (spotI x y v h a b + c).toNat
/-- A sharp pixel. -/
def shP4 (x y v h : Int) (fs : Nat → Nat) (X Y : Int) (least amount : Nat) (p : Nat → Nat) : Nat → Nat := fun c =>
  if c < 3 then shF (shS (shT x y v h fs c) X Y) least amount (p c) else cn .f32 (p c)
theorem shF_cn {S l a v : Nat} : cn .f32 (shF S l a v) = shF S l a v := by
  unfold shF; split
  · exact cn_cn _ _
  · exact cn_fop _ _ _ _
theorem shP4_cn {x y v h : Int} {fs : Nat → Nat} {X Y : Int} {l a : Nat} {p : Nat → Nat} {c : Nat} : cn .f32 (shP4 x y v h fs X Y l a p c) = shP4 x y v h fs X Y l a p c := by
  unfold shP4; split
  · exact shF_cn
  · exact cn_cn _ _
set_option maxRecDepth 100000 in
set_option maxHeartbeats 1600000 in
theorem Sharpen_closure (x y v h : Int) (b off n cap : Nat) (fs : Nat → Nat) (X Y : Int) (least amount : Nat) (p : Nat → Nat) (pat pl pa pf : Nat) (w : World) (hr : regErr x y v h = 0) (hl : (n : Int) = 4 * v * h) (hcap : n ≤ cap) (hcb : cap ≤ 9223372036854775807)
    (hX : -2000000 ≤ X ∧ X ≤ 2000000) (hY : -2000000 ≤ Y ∧ Y ≤ 2000000) (hp : ∀ c, c < 4 → p c < 2 ^ FloatKind.f32.format.width)
    (hF : FrameC w pf x y v h (.slice (some ⟨b, off, none⟩) n cap)) (hcell : ∀ i, i < n → w.cell? ⟨b, off + i, none⟩ = some (.float .f32 (fs i)))
    (g0 : w.cell? ⟨pat, 0, none⟩ = some (.func (.func 161) #[] #[.pointer (some ⟨pf, 0, none⟩)])) (g1 : w.cell? ⟨pl, 0, none⟩ = some (.float .f32 least)) (g2 : w.cell? ⟨pa, 0, none⟩ = some (.float .f32 amount)) :
    Calls Try.prog 163 #[.int .i64 X, .int .i64 Y, .agg #[.float .f32 (p 0), .float .f32 (p 1), .float .f32 (p 2), .float .f32 (p 3)], .pointer (some ⟨pat, 0, none⟩), .pointer (some ⟨pl, 0, none⟩), .pointer (some ⟨pa, 0, none⟩)] w fun e w' =>
      (∃ q : Nat → Nat, e = .returned (.agg #[.float .f32 (q 0), .float .f32 (q 1), .float .f32 (q 2), .float .f32 (q 3)]) ∧ q = shP4 x y v h fs X Y least amount p) ∧ Below w.heap.size w w' := by
  have h0 := hp 0 (by omega); have h1 := hp 1 (by omega); have h2 := hp 2 (by omega)
  have H := Lib.hid (And.intro h0 (And.intro h1 h2))
  have l0 := cell_lt g0; have l1 := cell_lt g1; have l2 := cell_lt g2
  simp only at l0 l1 l2
  have hn0 : 0 < n := by
    obtain ⟨r1, r2, r3, r4, r5, r6, r7, r8, r9, r10⟩ := regErr_ok hr
    have : 4 ≤ 4 * v * h := by { rw [Int.mul_assoc]; omega }
    omega
  have hbw : b < w.heap.size := cell_lt (hcell 0 hn0)
  have hAT : ∀ c : Int, (0 ≤ c ∧ c ≤ 3) → ∀ a b' w', Below w.heap.size w w' → (-4000000 ≤ a ∧ a ≤ 4000000) → (-4000000 ≤ b' ∧ b' ≤ 4000000) → Calls Try.prog 161 #[.int .i64 a, .int .i64 b', .int .i64 c, .pointer (some ⟨pf, 0, none⟩)] w' fun e w'' => e = .returned (.float .f32 (shT x y v h fs c a b')) ∧ Below w'.heap.size w' w'' := fun c hc a b' w' hb ha hb' =>
    at_any x y v h b off n cap fs a b' c pf w' hr hl hcap hcb ha hb' hc (hF.below hb hF.lt) (fun i hi => (hb.cell (p := ⟨b, off + i, none⟩) hbw).trans (hcell i hi))
  have HAT := Lib.hid hAT
  clear h0 h1 h2 hp hAT hcell hF hr hl hcap hcb hn0 hbw
  have HX := Lib.hid (And.intro hX hY); clear hX hY
  go_enter Try.func163, Try.ntmps163
  go_wp2_with fail
  obtain ⟨W, hW⟩ : ∃ W, W = (((w.alloc (.cells #[.int .i64 X] 3)).alloc (.cells #[.int .i64 Y] 3)).alloc (.cells #[.float .f32 (p 0), .float .f32 (p 1), .float .f32 (p 2), .float .f32 (p 3)] 55)).alloc (.cells #[.float .f32 0, .float .f32 0, .float .f32 0, .float .f32 0] 55) := ⟨_, rfl⟩
  have R1 : Pix4 W (w.heap.size + 1 + 1 + 1) 0 0 0 0 := by rw [hW]; exact ⟨by simp [go_sem], by simp [go_sem], by simp [go_sem], by simp [go_sem], fun o => by simp [go_sem]⟩
  have B1 : Below w.heap.size w W := by rw [hW]; (repeat (first | exact Below.refl _ _ | assumption | (refine Below.setCell ?_ (by first | (simp; done) | (simp; omega) | omega) _) | (refine Below.drew ?_) | (refine below_drewN ?_ _) | (refine Below.alloc ?_ (by first | (simp; done) | (simp; omega) | omega) _) | (refine Below.trans ?_ (Below.mono (by assumption) (by first | (simp; done) | (simp; omega) | omega)))))
  have sW : W.heap.size = w.heap.size + 1 + 1 + 1 + 1 := by rw [hW]; simp
  have x0 : W.cell? ⟨w.heap.size, 0, none⟩ = some (.int .i64 X) := by rw [hW]; simp [go_sem]
  have y0 : W.cell? ⟨w.heap.size + 1, 0, none⟩ = some (.int .i64 Y) := by rw [hW]; simp [go_sem]
  have HS : ShC W pat w.heap.size (w.heap.size + 1) pl pa pf X Y least amount := ⟨(B1.cell (p := ⟨pat, 0, none⟩) l0).trans g0, x0, y0, (B1.cell (p := ⟨pl, 0, none⟩) l1).trans g1, (B1.cell (p := ⟨pa, 0, none⟩) l2).trans g2⟩
  rw [← hW]
  clear hW x0 y0 g0 g1 g2
  refine (three_in _ _ (fun c u => shF (shS (shT x y v h fs c) X Y) least amount u) (p 0) (p 1) (p 2) (p 3) W H.out.1 H.out.2.1 H.out.2.2 (body_enters Try.func164 (by kernel_rfl) rfl) (fun c u w' hc hb' hu => ?_)).mono ?_
  · refine (sh_inner (shT x y v h fs c) c X Y u least amount pat w.heap.size (w.heap.size + 1) pl pa pf w' HX.out.1 HX.out.2 hu (HS.below hb' (Nat.le_refl _)) (fun a b' w'' hb'' ha hb2 => HAT.out c (by omega) a b' w'' ((B1.trans (hb'.mono B1.size)).trans (hb''.mono (by have := hb'.size; omega))) ha hb2)).mono ?_
    rintro e w'' ⟨⟨r, rfl, hr⟩, hb⟩
    exact ⟨r, rfl, hr, hb⟩
  rintro e w2 ⟨he, hb2⟩
  obtain ⟨q, hq⟩ : ∃ q, q = shP4 x y v h fs X Y least amount p := ⟨_, rfl⟩
  have he2 : e = .returned (.agg #[.float .f32 (q 0), .float .f32 (q 1), .float .f32 (q 2), .float .f32 (q 3)]) := by rw [he, hq]; rfl
  clear he
  subst he2
  have HQ := Lib.hid hq; clear hq
  have R2 := R1.below hb2 (by omega)
  have B2 := B1.trans (hb2.mono (by omega))
  clear R1 B1 hb2 HS
  obtain ⟨d0, d1, d2, d3, df⟩ := R2
  go_wp2_with fail
  refine bodyPost_ret (v := .agg #[.float .f32 (q 0), .float .f32 (q 1), .float .f32 (q 2), .float .f32 (q 3)]) (by simp [results, Try.results163, go_sem, d0, d1, d2, d3]) rfl ⟨⟨q, rfl, HQ.out⟩, ?_⟩
  exact (((B2.setCell (by first | (simp; done) | (simp; omega) | omega) _).setCell (by first | (simp; done) | (simp; omega) | omega) _).setCell (by first | (simp; done) | (simp; omega) | omega) _).setCell (by first | (simp; done) | (simp; omega) | omega) _
end Go.Proofs.Ytmnmcmmhnbnndaa

namespace Go.Proofs.Ytmnmcmmhnbnndaa
open Go.RowKit
/-- A closure is stored as any value of one cell. -/
@[go_sem] theorem run_store_func {P : Program} (w : World) (a : Addr) (m : Mode) (f : Fn) (ts : Array Value) (caps : Array Value) : (store a (.func f ts caps) m).run P w = stored P w a (.func f ts caps) m := run_store P w a _ m rfl
theorem calls_named {P : Program} {f : FuncId} {args : Array Value} {w : World} {Q : Ending → World → Prop} (h : ∀ W, W = w → Calls P f args W Q) : Calls P f args w Q := h w rfl
/-- What is wrong with an amount and a least. -/
def shBad (amount least : Nat) : Bool := ((FloatKind.f32.format.order amount 0 == some .lt) || (FloatKind.f32.format.order amount 1098907648 == some .gt)) || (FloatKind.f32.format.order least 0 == some .lt)
def shE (amount least : Nat) : Int := if allNum [amount, least] then (if shBad amount least then 3 else 0) else 2
theorem shE_ok {amount least : Nat} (h : shE amount least = 0) : allNum [amount, least] = true ∧ shBad amount least = false := by
  unfold shE at h
  cases h1 : allNum [amount, least]
  · rw [h1] at h; cases h
  · rw [h1, if_pos rfl] at h
    cases h2 : shBad amount least
    · exact ⟨rfl, rfl⟩
    · rw [h2, if_pos rfl] at h; cases h
/-- A sharp frame, pixel by pixel. -/
def shG (x y v h : Int) (fs : Nat → Nat) (least amount : Nat) (k : Nat) : Nat → Nat := shP4 x y v h fs (x + (k : Int) % v) (y + (k : Int) / v) least amount (fun c => fs (4 * k + c))
theorem bad_ok {amount least : Nat} (h : shBad amount least = false) : (FloatKind.f32.format.order amount 0 == some .lt) = false ∧ (FloatKind.f32.format.order amount 1098907648 == some .gt) = false ∧ (FloatKind.f32.format.order least 0 == some .lt) = false := by
  unfold shBad at h
  simp only [Bool.or_eq_false_iff] at h
  exact ⟨h.1.1, h.1.2, h.2⟩
set_option maxRecDepth 100000 in
set_option maxHeartbeats 1600000 in
theorem Sharpen_yes (x y v h : Int) (b off n cap : Nat) (fs : Nat → Nat) (amount least : Nat) (w : World) (he : fraErr x y v h n = 0) (hE : shE amount least = 0) (hcap : n ≤ cap) (hcb : cap ≤ 9223372036854775807)
    (hcell : ∀ i, i < n → w.cell? ⟨b, off + i, none⟩ = some (.float .f32 (fs i))) (hfs : ∀ i, i < n → fs i < 2 ^ FloatKind.f32.format.width) :
    Calls Try.prog 69 #[.agg #[.int .i64 x, .int .i64 y, .int .i64 v, .int .i64 h, .slice (some ⟨b, off, none⟩) n cap], .float .f32 amount, .float .f32 least] w fun e w' =>
      (∃ g, e = .returned (.tuple #[.agg #[.int .i64 x, .int .i64 y, .int .i64 v, .int .i64 h, .slice (some ⟨g, 0, none⟩) n n], .int .i64 0]) ∧ w.heap.size ≤ g ∧ g < w'.heap.size ∧ ∀ i, i < n → w'.cell? ⟨g, i, none⟩ = some (.float .f32 (shG x y v h fs least amount (i / 4) (i % 4)))) ∧ Below w.heap.size w w' := by
  obtain ⟨hr, hl⟩ := fraErr_ok he
  obtain ⟨r1, r2, r3, r4, r5, r6, r7, r8, r9, r10⟩ := regErr_ok hr
  obtain ⟨hA, hB⟩ := shE_ok hE
  obtain ⟨z1, z2, z3⟩ := bad_ok hB
  have hn0 : 0 < n := by have : 4 ≤ 4 * v * h := by { rw [Int.mul_assoc]; omega }; omega
  have hbw : b < w.heap.size := cell_lt (hcell 0 hn0)
  have HC := Lib.hid (And.intro hcell hfs)
  have HR := Lib.hid (And.intro hr (And.intro hl (And.intro hcap hcb)))
  have HP := Lib.hid (And.intro r1 (And.intro r2 (And.intro r3 (And.intro r4 (And.intro r7 (And.intro r8 (And.intro r9 r10)))))))
  clear hcell hfs hr hl hcap hcb hB hE r1 r2 r3 r4 r5 r6 r7 r8 r9 r10
  go_enter Try.func69, Try.ntmps69
  go_wp2_with (first | (go_at_call 160; refine (FCheck_any _ _ _ _ _ _ _ _).mono ?_; rintro e w1 ⟨rfl, hb1⟩; obtain ⟨hc1, hf1, hs1⟩ := bcell hb1; simp at hs1; have hq0 : w.heap.size < w1.heap.size := (by omega); have hq1 : w.heap.size + 1 < w1.heap.size := (by omega); have hq2 : w.heap.size + 1 + 1 < w1.heap.size := (by omega); have hq3 : w.heap.size + 1 + 1 + 1 < w1.heap.size := (by omega); rw [he]) | (go_at_call 144; refine (All2_any _ _ _ amount least _ (by simp [go_sem]) (by simp [go_sem])).mono ?_; rintro e w' ⟨rfl, rfl⟩))
  refine calls_named (fun W hW => ?_)
  have B2 : Below w.heap.size w W := by rw [hW]; (repeat (first | exact Below.refl _ _ | assumption | (refine Below.setCell ?_ (by first | (simp; done) | (simp; omega) | omega) _) | (refine Below.drew ?_) | (refine below_drewN ?_ _) | (refine Below.alloc ?_ (by first | (simp; done) | (simp; omega) | omega) _) | (refine Below.trans ?_ (Below.mono (by assumption) (by first | (simp; done) | (simp; omega) | omega)))))
  have sW : W.heap.size = w1.heap.size + 1 + 1 := by rw [hW]; simp
  have B3 : Below w1.heap.size w1 W := by rw [hW]; (repeat (first | exact Below.refl _ _ | assumption | (refine Below.setCell ?_ (by first | (simp; done) | (simp; omega) | omega) _) | (refine Below.drew ?_) | (refine below_drewN ?_ _) | (refine Below.alloc ?_ (by first | (simp; done) | (simp; omega) | omega) _) | (refine Below.trans ?_ (Below.mono (by assumption) (by first | (simp; done) | (simp; omega) | omega)))))
  have ZF1 : FrameC w1 (w.heap.size + 1 + 1 + 1) 0 0 0 0 (.slice none 0 0) := FrameC.below (by exact ⟨by simp [go_sem], by simp [go_sem], by simp [go_sem], by simp [go_sem], by simp [go_sem], fun o => by simp [go_sem]⟩) hb1 (by simp)
  have ZF := ZF1.below B3 hq3
  have FF1 : FrameC w1 w.heap.size x y v h (.slice (some ⟨b, off, none⟩) n cap) := FrameC.below (by exact ⟨by simp [go_sem], by simp [go_sem], by simp [go_sem], by simp [go_sem], by simp [go_sem], fun o => by simp [go_sem]⟩) hb1 (by simp; omega)
  have FF := FF1.below B3 hq0
  have g1 : W.cell? ⟨w.heap.size + 1, 0, none⟩ = some (.float .f32 amount) := by rw [B3.cell (p := ⟨w.heap.size + 1, 0, none⟩) hq1, hc1 _ _ (by first | (simp; done) | (simp; omega) | omega)]; simp [go_sem]
  have g2 : W.cell? ⟨w.heap.size + 1 + 1, 0, none⟩ = some (.float .f32 least) := by rw [B3.cell (p := ⟨w.heap.size + 1 + 1, 0, none⟩) hq2, hc1 _ _ (by first | (simp; done) | (simp; omega) | omega)]; simp [go_sem]
  have g0 : W.cell? ⟨w1.heap.size + 1, 0, none⟩ = some (.func (.func 161) #[] #[.pointer (some ⟨w.heap.size, 0, none⟩)]) := by rw [hW]; simp [go_sem]
  obtain ⟨hr, hl, hcap, hcb⟩ := HR.out
  clear hc1 hf1 hb1 hW ZF1 FF1 B3
  have fl := FF.lt
  have l1 : w1.heap.size + 1 < W.heap.size := by omega
  have l2 : w.heap.size + 1 < W.heap.size := by omega
  have l3 : w.heap.size + 1 + 1 < W.heap.size := by omega
  refine (mapped_any 163 #[.pointer (some ⟨w1.heap.size + 1, 0, none⟩), .pointer (some ⟨w.heap.size + 1 + 1, 0, none⟩), .pointer (some ⟨w.heap.size + 1, 0, none⟩)] x y v h b off n cap fs (shG x y v h fs least amount) W hr hl hcap hcb (fun i hi => (B2.cell (p := ⟨b, off + i, none⟩) hbw).trans (HC.out.1 i hi)) (body_enters Try.func163 (by kernel_rfl) rfl) (fun k w' hk hb' => ?_)).mono ?_
  · obtain ⟨r1, r2, r3, r4, r7, r8, r9, r10⟩ := HP.out
    have hkv : (k : Int) < v * h := by have h1 := hl; rw [Int.mul_assoc] at h1; omega
    have m0 : 0 ≤ (k : Int) % v := Int.emod_nonneg _ (by omega)
    have m1 : (k : Int) % v < v := Int.emod_lt_of_pos _ (by omega)
    have m2 : 0 ≤ (k : Int) / v := Int.ediv_nonneg (by omega) (by omega)
    have m3 : (k : Int) / v < h := Int.ediv_lt_of_lt_mul (by omega) (by rw [Int.mul_comm]; exact hkv)
    refine (Sharpen_closure x y v h b off n cap fs (x + (k : Int) % v) (y + (k : Int) / v) least amount (fun c => fs (4 * k + c)) (w1.heap.size + 1) (w.heap.size + 1 + 1) (w.heap.size + 1) w.heap.size w' hr hl hcap hcb (by omega) (by omega) (fun c hc => HC.out.2 _ (by omega)) (FF.below hb' fl) (fun i hi => ((B2.trans (hb'.mono B2.size)).cell (p := ⟨b, off + i, none⟩) hbw).trans (HC.out.1 i hi)) ((hb'.cell (p := ⟨w1.heap.size + 1, 0, none⟩) l1).trans g0) ((hb'.cell (p := ⟨w.heap.size + 1 + 1, 0, none⟩) l3).trans g2) ((hb'.cell (p := ⟨w.heap.size + 1, 0, none⟩) l2).trans g1)).mono ?_
    rintro e w'' ⟨⟨q, rfl, hq⟩, hb⟩
    exact ⟨⟨q, rfl, fun c _ => by rw [hq]; exact shP4_cn⟩, hb⟩
  · rintro e w3 ⟨g, rfl, hg, hgc, hb3⟩
    have Z3 := ZF.below hb3 (by omega)
    have B4 := B2.trans (hb3.mono (by omega))
    have hgl : g < w3.heap.size := cell_lt (hgc 0 hn0)
    have HG := Lib.hid hgc
    clear hgc hb3 ZF B2 g0 g1 g2 FF
    obtain ⟨z0, z1, z2, z3, z4, zf⟩ := Z3
    go_wp2_with fail
    refine bodyPost_ret (v := .tuple #[.agg #[.int .i64 x, .int .i64 y, .int .i64 v, .int .i64 h, .slice (some ⟨g, 0, none⟩) n n], .int .i64 0]) (by simp [results, Try.results69, go_sem, z0, z1, z2, z3, z4]) rfl ⟨⟨g, rfl, by omega, by simp; omega, fun i hi => ?_⟩, ?_⟩
    · rw [← HG.out i hi]
      simp [go_sem]
    · exact ((((B4.setCell (by first | (simp; done) | (simp; omega) | omega) _).setCell (by first | (simp; done) | (simp; omega) | omega) _).setCell (by first | (simp; done) | (simp; omega) | omega) _).setCell (by first | (simp; done) | (simp; omega) | omega) _).setCell (by first | (simp; done) | (simp; omega) | omega) _
end Go.Proofs.Ytmnmcmmhnbnndaa

namespace Go.Proofs.Ytmnmcmmhnbnndaa
open Go.RowKit
set_option maxRecDepth 100000 in
set_option maxHeartbeats 1600000 in
theorem Sharpen_fr (x y v h : Int) (a : Option Addr) (n cap : Nat) (amount least : Nat) (w : World) (he : fraErr x y v h n ≠ 0) :
    Calls Try.prog 69 #[.agg #[.int .i64 x, .int .i64 y, .int .i64 v, .int .i64 h, .slice a n cap], .float .f32 amount, .float .f32 least] w fun e w' =>
      e = .returned (.tuple #[.agg #[.int .i64 0, .int .i64 0, .int .i64 0, .int .i64 0, .slice none 0 0], .int .i64 (fraErr x y v h n)]) ∧ Below w.heap.size w w' := by
  have hc : (fraErr x y v h n != 0) = true := by simpa using he
  clear he
  go_enter Try.func69, Try.ntmps69
  go_wp2_with (first | (go_at_call 160; refine (FCheck_any _ _ _ _ _ _ _ _).mono ?_; rintro e w1 ⟨rfl, hb1⟩; obtain ⟨hc1, hf1, hs1⟩ := bcell hb1; simp at hs1; have hq0 : w.heap.size < w1.heap.size := (by omega); have hq1 : w.heap.size + 1 < w1.heap.size := (by omega); have hq2 : w.heap.size + 1 + 1 < w1.heap.size := (by omega); have hq3 : w.heap.size + 1 + 1 + 1 < w1.heap.size := (by omega); have B1 : Below w.heap.size w w1 := (by (repeat (first | exact Below.refl _ _ | assumption | (refine Below.setCell ?_ (by first | (simp; done) | (simp; omega) | omega) _) | (refine Below.drew ?_) | (refine below_drewN ?_ _) | (refine Below.alloc ?_ (by first | (simp; done) | (simp; omega) | omega) _) | (refine Below.trans ?_ (Below.mono (by assumption) (by first | (simp; done) | (simp; omega) | omega)))))); have ZF1 : FrameC w1 (w.heap.size + 1 + 1 + 1) 0 0 0 0 (.slice none 0 0) := FrameC.below (by exact ⟨by simp [go_sem], by simp [go_sem], by simp [go_sem], by simp [go_sem], by simp [go_sem], fun o => by simp [go_sem]⟩) hb1 (by simp); have g1 : w1.cell? ⟨w.heap.size + 1, 0, none⟩ = some (.float .f32 amount) := (by rw [hc1 _ _ (by first | (simp; done) | (simp; omega) | omega)]; simp [go_sem]); have g2 : w1.cell? ⟨w.heap.size + 1 + 1, 0, none⟩ = some (.float .f32 least) := (by rw [hc1 _ _ (by first | (simp; done) | (simp; omega) | omega)]; simp [go_sem]); clear hc1 hf1 hb1; obtain ⟨z0, z1, z2, z3, z4, zf⟩ := ZF1))
  refine bodyPost_ret (v := .tuple #[.agg #[.int .i64 0, .int .i64 0, .int .i64 0, .int .i64 0, .slice none 0 0], .int .i64 (fraErr x y v h n)]) (by simp [results, Try.results69, go_sem, z0, z1, z2, z3, z4]) rfl ⟨rfl, ?_⟩
  exact ((((B1.setCell (by first | (simp; done) | (simp; omega) | omega) _).setCell (by first | (simp; done) | (simp; omega) | omega) _).setCell (by first | (simp; done) | (simp; omega) | omega) _).setCell (by first | (simp; done) | (simp; omega) | omega) _).setCell (by first | (simp; done) | (simp; omega) | omega) _
set_option maxRecDepth 100000 in
set_option maxHeartbeats 1600000 in
theorem Sharpen_form (x y v h : Int) (a : Option Addr) (n cap : Nat) (amount least : Nat) (w : World) (he : fraErr x y v h n = 0) (hA : allNum [amount, least] = false) :
    Calls Try.prog 69 #[.agg #[.int .i64 x, .int .i64 y, .int .i64 v, .int .i64 h, .slice a n cap], .float .f32 amount, .float .f32 least] w fun e w' =>
      e = .returned (.tuple #[.agg #[.int .i64 0, .int .i64 0, .int .i64 0, .int .i64 0, .slice none 0 0], .int .i64 (2)]) ∧ Below w.heap.size w w' := by
  go_enter Try.func69, Try.ntmps69
  go_wp2_with (first | (go_at_call 160; refine (FCheck_any _ _ _ _ _ _ _ _).mono ?_; rintro e w1 ⟨rfl, hb1⟩; obtain ⟨hc1, hf1, hs1⟩ := bcell hb1; simp at hs1; have hq0 : w.heap.size < w1.heap.size := (by omega); have hq1 : w.heap.size + 1 < w1.heap.size := (by omega); have hq2 : w.heap.size + 1 + 1 < w1.heap.size := (by omega); have hq3 : w.heap.size + 1 + 1 + 1 < w1.heap.size := (by omega); have B1 : Below w.heap.size w w1 := (by (repeat (first | exact Below.refl _ _ | assumption | (refine Below.setCell ?_ (by first | (simp; done) | (simp; omega) | omega) _) | (refine Below.drew ?_) | (refine below_drewN ?_ _) | (refine Below.alloc ?_ (by first | (simp; done) | (simp; omega) | omega) _) | (refine Below.trans ?_ (Below.mono (by assumption) (by first | (simp; done) | (simp; omega) | omega)))))); have ZF1 : FrameC w1 (w.heap.size + 1 + 1 + 1) 0 0 0 0 (.slice none 0 0) := FrameC.below (by exact ⟨by simp [go_sem], by simp [go_sem], by simp [go_sem], by simp [go_sem], by simp [go_sem], fun o => by simp [go_sem]⟩) hb1 (by simp); have g1 : w1.cell? ⟨w.heap.size + 1, 0, none⟩ = some (.float .f32 amount) := (by rw [hc1 _ _ (by first | (simp; done) | (simp; omega) | omega)]; simp [go_sem]); have g2 : w1.cell? ⟨w.heap.size + 1 + 1, 0, none⟩ = some (.float .f32 least) := (by rw [hc1 _ _ (by first | (simp; done) | (simp; omega) | omega)]; simp [go_sem]); clear hc1 hf1 hb1; rw [he]) | (go_at_call 144; refine (All2_any _ _ _ amount least _ (by simp [go_sem]) (by simp [go_sem])).mono ?_; rintro e w2 ⟨rfl, hw⟩; have B3 : Below w1.heap.size w1 w2 := (by rw [← hw]; (repeat (first | exact Below.refl _ _ | assumption | (refine Below.setCell ?_ (by first | (simp; done) | (simp; omega) | omega) _) | (refine Below.drew ?_) | (refine below_drewN ?_ _) | (refine Below.alloc ?_ (by first | (simp; done) | (simp; omega) | omega) _) | (refine Below.trans ?_ (Below.mono (by assumption) (by first | (simp; done) | (simp; omega) | omega)))))); have ZF := ZF1.below B3 hq3; have h1 := (B3.cell (p := ⟨w.heap.size + 1, 0, none⟩) hq1).trans g1; have h2 := (B3.cell (p := ⟨w.heap.size + 1 + 1, 0, none⟩) hq2).trans g2; have B2 := B1.trans (B3.mono B1.size); clear hw ZF1 g1 g2 B3 B1; obtain ⟨z0, z1, z2, z3, z4, zf⟩ := ZF))
  refine bodyPost_ret (v := .tuple #[.agg #[.int .i64 0, .int .i64 0, .int .i64 0, .int .i64 0, .slice none 0 0], .int .i64 (2)]) (by simp [results, Try.results69, go_sem, z0, z1, z2, z3, z4]) rfl ⟨rfl, ?_⟩
  exact ((((B2.setCell (by first | (simp; done) | (simp; omega) | omega) _).setCell (by first | (simp; done) | (simp; omega) | omega) _).setCell (by first | (simp; done) | (simp; omega) | omega) _).setCell (by first | (simp; done) | (simp; omega) | omega) _).setCell (by first | (simp; done) | (simp; omega) | omega) _
set_option maxRecDepth 100000 in
set_option maxHeartbeats 1600000 in
theorem Sharpen_range_a (x y v h : Int) (a : Option Addr) (n cap : Nat) (amount least : Nat) (w : World) (he : fraErr x y v h n = 0) (hA : allNum [amount, least] = true) (k1 : (FloatKind.f32.format.order amount 0 == some .lt) = true) :
    Calls Try.prog 69 #[.agg #[.int .i64 x, .int .i64 y, .int .i64 v, .int .i64 h, .slice a n cap], .float .f32 amount, .float .f32 least] w fun e w' =>
      e = .returned (.tuple #[.agg #[.int .i64 0, .int .i64 0, .int .i64 0, .int .i64 0, .slice none 0 0], .int .i64 (3)]) ∧ Below w.heap.size w w' := by
  go_enter Try.func69, Try.ntmps69
  go_wp2_with (first | (go_at_call 160; refine (FCheck_any _ _ _ _ _ _ _ _).mono ?_; rintro e w1 ⟨rfl, hb1⟩; obtain ⟨hc1, hf1, hs1⟩ := bcell hb1; simp at hs1; have hq0 : w.heap.size < w1.heap.size := (by omega); have hq1 : w.heap.size + 1 < w1.heap.size := (by omega); have hq2 : w.heap.size + 1 + 1 < w1.heap.size := (by omega); have hq3 : w.heap.size + 1 + 1 + 1 < w1.heap.size := (by omega); have B1 : Below w.heap.size w w1 := (by (repeat (first | exact Below.refl _ _ | assumption | (refine Below.setCell ?_ (by first | (simp; done) | (simp; omega) | omega) _) | (refine Below.drew ?_) | (refine below_drewN ?_ _) | (refine Below.alloc ?_ (by first | (simp; done) | (simp; omega) | omega) _) | (refine Below.trans ?_ (Below.mono (by assumption) (by first | (simp; done) | (simp; omega) | omega)))))); have ZF1 : FrameC w1 (w.heap.size + 1 + 1 + 1) 0 0 0 0 (.slice none 0 0) := FrameC.below (by exact ⟨by simp [go_sem], by simp [go_sem], by simp [go_sem], by simp [go_sem], by simp [go_sem], fun o => by simp [go_sem]⟩) hb1 (by simp); have g1 : w1.cell? ⟨w.heap.size + 1, 0, none⟩ = some (.float .f32 amount) := (by rw [hc1 _ _ (by first | (simp; done) | (simp; omega) | omega)]; simp [go_sem]); have g2 : w1.cell? ⟨w.heap.size + 1 + 1, 0, none⟩ = some (.float .f32 least) := (by rw [hc1 _ _ (by first | (simp; done) | (simp; omega) | omega)]; simp [go_sem]); clear hc1 hf1 hb1; rw [he]) | (go_at_call 144; refine (All2_any _ _ _ amount least _ (by simp [go_sem]) (by simp [go_sem])).mono ?_; rintro e w2 ⟨rfl, hw⟩; have B3 : Below w1.heap.size w1 w2 := (by rw [← hw]; (repeat (first | exact Below.refl _ _ | assumption | (refine Below.setCell ?_ (by first | (simp; done) | (simp; omega) | omega) _) | (refine Below.drew ?_) | (refine below_drewN ?_ _) | (refine Below.alloc ?_ (by first | (simp; done) | (simp; omega) | omega) _) | (refine Below.trans ?_ (Below.mono (by assumption) (by first | (simp; done) | (simp; omega) | omega)))))); have ZF := ZF1.below B3 hq3; have h1 := (B3.cell (p := ⟨w.heap.size + 1, 0, none⟩) hq1).trans g1; have h2 := (B3.cell (p := ⟨w.heap.size + 1 + 1, 0, none⟩) hq2).trans g2; have B2 := B1.trans (B3.mono B1.size); clear hw ZF1 g1 g2 B3 B1; obtain ⟨z0, z1, z2, z3, z4, zf⟩ := ZF))
  refine bodyPost_ret (v := .tuple #[.agg #[.int .i64 0, .int .i64 0, .int .i64 0, .int .i64 0, .slice none 0 0], .int .i64 (3)]) (by simp [results, Try.results69, go_sem, z0, z1, z2, z3, z4]) rfl ⟨rfl, ?_⟩
  exact ((((B2.setCell (by first | (simp; done) | (simp; omega) | omega) _).setCell (by first | (simp; done) | (simp; omega) | omega) _).setCell (by first | (simp; done) | (simp; omega) | omega) _).setCell (by first | (simp; done) | (simp; omega) | omega) _).setCell (by first | (simp; done) | (simp; omega) | omega) _
set_option maxRecDepth 100000 in
set_option maxHeartbeats 1600000 in
theorem Sharpen_range_b (x y v h : Int) (a : Option Addr) (n cap : Nat) (amount least : Nat) (w : World) (he : fraErr x y v h n = 0) (hA : allNum [amount, least] = true) (k1 : (FloatKind.f32.format.order amount 0 == some .lt) = false) (k2 : (FloatKind.f32.format.order amount 1098907648 == some .gt) = true) :
    Calls Try.prog 69 #[.agg #[.int .i64 x, .int .i64 y, .int .i64 v, .int .i64 h, .slice a n cap], .float .f32 amount, .float .f32 least] w fun e w' =>
      e = .returned (.tuple #[.agg #[.int .i64 0, .int .i64 0, .int .i64 0, .int .i64 0, .slice none 0 0], .int .i64 (3)]) ∧ Below w.heap.size w w' := by
  go_enter Try.func69, Try.ntmps69
  go_wp2_with (first | (go_at_call 160; refine (FCheck_any _ _ _ _ _ _ _ _).mono ?_; rintro e w1 ⟨rfl, hb1⟩; obtain ⟨hc1, hf1, hs1⟩ := bcell hb1; simp at hs1; have hq0 : w.heap.size < w1.heap.size := (by omega); have hq1 : w.heap.size + 1 < w1.heap.size := (by omega); have hq2 : w.heap.size + 1 + 1 < w1.heap.size := (by omega); have hq3 : w.heap.size + 1 + 1 + 1 < w1.heap.size := (by omega); have B1 : Below w.heap.size w w1 := (by (repeat (first | exact Below.refl _ _ | assumption | (refine Below.setCell ?_ (by first | (simp; done) | (simp; omega) | omega) _) | (refine Below.drew ?_) | (refine below_drewN ?_ _) | (refine Below.alloc ?_ (by first | (simp; done) | (simp; omega) | omega) _) | (refine Below.trans ?_ (Below.mono (by assumption) (by first | (simp; done) | (simp; omega) | omega)))))); have ZF1 : FrameC w1 (w.heap.size + 1 + 1 + 1) 0 0 0 0 (.slice none 0 0) := FrameC.below (by exact ⟨by simp [go_sem], by simp [go_sem], by simp [go_sem], by simp [go_sem], by simp [go_sem], fun o => by simp [go_sem]⟩) hb1 (by simp); have g1 : w1.cell? ⟨w.heap.size + 1, 0, none⟩ = some (.float .f32 amount) := (by rw [hc1 _ _ (by first | (simp; done) | (simp; omega) | omega)]; simp [go_sem]); have g2 : w1.cell? ⟨w.heap.size + 1 + 1, 0, none⟩ = some (.float .f32 least) := (by rw [hc1 _ _ (by first | (simp; done) | (simp; omega) | omega)]; simp [go_sem]); clear hc1 hf1 hb1; rw [he]) | (go_at_call 144; refine (All2_any _ _ _ amount least _ (by simp [go_sem]) (by simp [go_sem])).mono ?_; rintro e w2 ⟨rfl, hw⟩; have B3 : Below w1.heap.size w1 w2 := (by rw [← hw]; (repeat (first | exact Below.refl _ _ | assumption | (refine Below.setCell ?_ (by first | (simp; done) | (simp; omega) | omega) _) | (refine Below.drew ?_) | (refine below_drewN ?_ _) | (refine Below.alloc ?_ (by first | (simp; done) | (simp; omega) | omega) _) | (refine Below.trans ?_ (Below.mono (by assumption) (by first | (simp; done) | (simp; omega) | omega)))))); have ZF := ZF1.below B3 hq3; have h1 := (B3.cell (p := ⟨w.heap.size + 1, 0, none⟩) hq1).trans g1; have h2 := (B3.cell (p := ⟨w.heap.size + 1 + 1, 0, none⟩) hq2).trans g2; have B2 := B1.trans (B3.mono B1.size); clear hw ZF1 g1 g2 B3 B1; obtain ⟨z0, z1, z2, z3, z4, zf⟩ := ZF))
  refine bodyPost_ret (v := .tuple #[.agg #[.int .i64 0, .int .i64 0, .int .i64 0, .int .i64 0, .slice none 0 0], .int .i64 (3)]) (by simp [results, Try.results69, go_sem, z0, z1, z2, z3, z4]) rfl ⟨rfl, ?_⟩
  exact ((((B2.setCell (by first | (simp; done) | (simp; omega) | omega) _).setCell (by first | (simp; done) | (simp; omega) | omega) _).setCell (by first | (simp; done) | (simp; omega) | omega) _).setCell (by first | (simp; done) | (simp; omega) | omega) _).setCell (by first | (simp; done) | (simp; omega) | omega) _
set_option maxRecDepth 100000 in
set_option maxHeartbeats 1600000 in
theorem Sharpen_range_c (x y v h : Int) (a : Option Addr) (n cap : Nat) (amount least : Nat) (w : World) (he : fraErr x y v h n = 0) (hA : allNum [amount, least] = true) (k1 : (FloatKind.f32.format.order amount 0 == some .lt) = false) (k2 : (FloatKind.f32.format.order amount 1098907648 == some .gt) = false) (k3 : (FloatKind.f32.format.order least 0 == some .lt) = true) :
    Calls Try.prog 69 #[.agg #[.int .i64 x, .int .i64 y, .int .i64 v, .int .i64 h, .slice a n cap], .float .f32 amount, .float .f32 least] w fun e w' =>
      e = .returned (.tuple #[.agg #[.int .i64 0, .int .i64 0, .int .i64 0, .int .i64 0, .slice none 0 0], .int .i64 (3)]) ∧ Below w.heap.size w w' := by
  go_enter Try.func69, Try.ntmps69
  go_wp2_with (first | (go_at_call 160; refine (FCheck_any _ _ _ _ _ _ _ _).mono ?_; rintro e w1 ⟨rfl, hb1⟩; obtain ⟨hc1, hf1, hs1⟩ := bcell hb1; simp at hs1; have hq0 : w.heap.size < w1.heap.size := (by omega); have hq1 : w.heap.size + 1 < w1.heap.size := (by omega); have hq2 : w.heap.size + 1 + 1 < w1.heap.size := (by omega); have hq3 : w.heap.size + 1 + 1 + 1 < w1.heap.size := (by omega); have B1 : Below w.heap.size w w1 := (by (repeat (first | exact Below.refl _ _ | assumption | (refine Below.setCell ?_ (by first | (simp; done) | (simp; omega) | omega) _) | (refine Below.drew ?_) | (refine below_drewN ?_ _) | (refine Below.alloc ?_ (by first | (simp; done) | (simp; omega) | omega) _) | (refine Below.trans ?_ (Below.mono (by assumption) (by first | (simp; done) | (simp; omega) | omega)))))); have ZF1 : FrameC w1 (w.heap.size + 1 + 1 + 1) 0 0 0 0 (.slice none 0 0) := FrameC.below (by exact ⟨by simp [go_sem], by simp [go_sem], by simp [go_sem], by simp [go_sem], by simp [go_sem], fun o => by simp [go_sem]⟩) hb1 (by simp); have g1 : w1.cell? ⟨w.heap.size + 1, 0, none⟩ = some (.float .f32 amount) := (by rw [hc1 _ _ (by first | (simp; done) | (simp; omega) | omega)]; simp [go_sem]); have g2 : w1.cell? ⟨w.heap.size + 1 + 1, 0, none⟩ = some (.float .f32 least) := (by rw [hc1 _ _ (by first | (simp; done) | (simp; omega) | omega)]; simp [go_sem]); clear hc1 hf1 hb1; rw [he]) | (go_at_call 144; refine (All2_any _ _ _ amount least _ (by simp [go_sem]) (by simp [go_sem])).mono ?_; rintro e w2 ⟨rfl, hw⟩; have B3 : Below w1.heap.size w1 w2 := (by rw [← hw]; (repeat (first | exact Below.refl _ _ | assumption | (refine Below.setCell ?_ (by first | (simp; done) | (simp; omega) | omega) _) | (refine Below.drew ?_) | (refine below_drewN ?_ _) | (refine Below.alloc ?_ (by first | (simp; done) | (simp; omega) | omega) _) | (refine Below.trans ?_ (Below.mono (by assumption) (by first | (simp; done) | (simp; omega) | omega)))))); have ZF := ZF1.below B3 hq3; have h1 := (B3.cell (p := ⟨w.heap.size + 1, 0, none⟩) hq1).trans g1; have h2 := (B3.cell (p := ⟨w.heap.size + 1 + 1, 0, none⟩) hq2).trans g2; have B2 := B1.trans (B3.mono B1.size); clear hw ZF1 g1 g2 B3 B1; obtain ⟨z0, z1, z2, z3, z4, zf⟩ := ZF))
  refine bodyPost_ret (v := .tuple #[.agg #[.int .i64 0, .int .i64 0, .int .i64 0, .int .i64 0, .slice none 0 0], .int .i64 (3)]) (by simp [results, Try.results69, go_sem, z0, z1, z2, z3, z4]) rfl ⟨rfl, ?_⟩
  exact ((((B2.setCell (by first | (simp; done) | (simp; omega) | omega) _).setCell (by first | (simp; done) | (simp; omega) | omega) _).setCell (by first | (simp; done) | (simp; omega) | omega) _).setCell (by first | (simp; done) | (simp; omega) | omega) _).setCell (by first | (simp; done) | (simp; omega) | omega) _
theorem Sharpen_no (x y v h : Int) (a : Option Addr) (n cap : Nat) (amount least : Nat) (w : World) (hE : firstE (fraErr x y v h n) (shE amount least) ≠ 0) :
    Calls Try.prog 69 #[.agg #[.int .i64 x, .int .i64 y, .int .i64 v, .int .i64 h, .slice a n cap], .float .f32 amount, .float .f32 least] w fun e w' =>
      e = .returned (.tuple #[.agg #[.int .i64 0, .int .i64 0, .int .i64 0, .int .i64 0, .slice none 0 0], .int .i64 (firstE (fraErr x y v h n) (shE amount least))]) ∧ Below w.heap.size w w' := by
  by_cases he : fraErr x y v h n = 0
  · have eW : firstE (fraErr x y v h n) (shE amount least) = shE amount least := by rw [he]; rfl
    rw [eW] at hE ⊢
    cases hA : allNum [amount, least]
    · have eX : shE amount least = 2 := by unfold shE; rw [hA]; rfl
      rw [eX]
      exact Sharpen_form x y v h a n cap amount least w he hA
    · have hB : shBad amount least = true := by
        unfold shE at hE; rw [hA, if_pos rfl] at hE
        cases h2 : shBad amount least
        · rw [h2] at hE; exact absurd rfl hE
        · rfl
      have eX : shE amount least = 3 := by unfold shE; rw [hA, if_pos rfl, hB]; rfl
      rw [eX]
      unfold shBad at hB
      cases k1 : (FloatKind.f32.format.order amount 0 == some .lt)
      · cases k2 : (FloatKind.f32.format.order amount 1098907648 == some .gt)
        · rw [k1, k2] at hB
          exact Sharpen_range_c x y v h a n cap amount least w he hA k1 k2 (by simpa using hB)
        · exact Sharpen_range_b x y v h a n cap amount least w he hA k1 k2
      · exact Sharpen_range_a x y v h a n cap amount least w he hA k1
  · rw [firstE_of _ he]
    exact Sharpen_fr x y v h a n cap amount least w he
end Go.Proofs.Ytmnmcmmhnbnndaa

namespace Go.Proofs.Ytmnmcmmhnbnndaa
open Go.RowKit
theorem clampI_three (a n : Int) (hn : 1 ≤ n) : (a < 0 ∧ clampI a n = 0) ∨ (0 ≤ a ∧ a ≤ n - 1 ∧ clampI a n = a) ∨ (n - 1 < a ∧ clampI a n = n - 1) := by
  unfold clampI
  by_cases k : a < 0
  · rw [if_pos k]; omega
  · rw [if_neg k]
    by_cases k2 : n - 1 < a
    · rw [if_pos k2]; omega
    · rw [if_neg k2]; omega
set_option maxRecDepth 100000 in
set_option maxHeartbeats 1600000 in
theorem PixelAt_near (x y v h : Int) (b off n cap : Nat) (px py qx qy : Int) (k p0 p1 p2 p3 : Nat) (w : World) (he : regErr x y v h = 0) (hn : (n : Int) = 4 * v * h) (hqx : qx = x + clampI (px - x) v) (hqy : qy = y + clampI (py - y) h) (hk : 4 * ((qy - y) * v + qx - x) = (k : Int)) (hkn : k + 4 ≤ n) (hcap : n ≤ cap) (hcb : cap ≤ 9223372036854775807)
    (c0 : w.cell? ⟨b, off + k, none⟩ = some (.float .f32 p0)) (c1 : w.cell? ⟨b, off + k + 1, none⟩ = some (.float .f32 p1)) (c2 : w.cell? ⟨b, off + k + 2, none⟩ = some (.float .f32 p2)) (c3 : w.cell? ⟨b, off + k + 3, none⟩ = some (.float .f32 p3)) :
    Calls Try.prog 72 #[.agg #[.int .i64 x, .int .i64 y, .int .i64 v, .int .i64 h, .slice (some ⟨b, off, none⟩) n cap], .int .i64 px, .int .i64 py] w fun e w' => e = .returned (.agg #[.float .f32 p0, .float .f32 p1, .float .f32 p2, .float .f32 p3]) ∧ Below w.heap.size w w' := by
  obtain ⟨r1, r2, r3, r4, r5, r6, r7, r8, r9, r10⟩ := regErr_ok he
  have t1 := clampI_three (px - x) v r1
  have t2 := clampI_three (py - y) h r3
  have x1 : x ≤ qx := by omega
  have x2 : qx ≤ x + v - 1 := by omega
  have y1 : y ≤ qy := by omega
  have y2 : qy ≤ y + h - 1 := by omega
  have T := Lib.hid (And.intro t1 (And.intro t2 (And.intro hqx hqy)))
  have m0 : 0 ≤ (qy - y) * v := Int.mul_nonneg (by omega) (by omega)
  have m1 : (qy - y) * v ≤ 256 * 256 := Int.mul_le_mul (by omega) r2 (by omega) (by omega)
  clear he r5 r6 t1 t2 hqx hqy
  have hn' := Lib.hid hn; clear hn
  have sa := array_at
  have hbw : b < w.heap.size := cell_lt c0
  go_enter Try.func72, Try.ntmps72
  go_upto_region 1 with fail
  go_cut [1] (fun s1 wx => s1 = .int .i64 qx ∧ wx = (w.alloc (.cells #[.int .i64 x, .int .i64 y, .int .i64 v, .int .i64 h, .slice (some ⟨b, off, none⟩) n cap] 27)).alloc (.cells #[.float .f32 0, .float .f32 0, .float .f32 0, .float .f32 0] 55))
  case first =>
    go_wp2_with fail
    all_goals
      go_meet
      refine ⟨?_, rfl⟩
      have t := T.out
      congr 1
      omega
  case rest =>
    obtain ⟨rfl, rfl⟩ := hcut
    go_upto_region 2 with fail
    go_cut [2] (fun s2 wx => s2 = .int .i64 qy ∧ wx = (w.alloc (.cells #[.int .i64 x, .int .i64 y, .int .i64 v, .int .i64 h, .slice (some ⟨b, off, none⟩) n cap] 27)).alloc (.cells #[.float .f32 0, .float .f32 0, .float .f32 0, .float .f32 0] 55))
    case first =>
      go_wp2_with fail
      all_goals
        go_meet
        refine ⟨?_, rfl⟩
        have t := T.out
        congr 1
        omega
    case rest =>
      obtain ⟨rfl, rfl⟩ := hcut
      go_wp2_with fail
      refine bodyPost_ret (v := .agg #[.float .f32 p0, .float .f32 p1, .float .f32 p2, .float .f32 p3]) (by simp [results, Try.results72, go_sem]) rfl ⟨rfl, ?_⟩
      (repeat (first | exact Below.refl _ _ | assumption | (refine Below.setCell ?_ (by first | (simp; done) | (simp; omega) | omega) _) | (refine Below.drew ?_) | (refine below_drewN ?_ _) | (refine Below.alloc ?_ (by first | (simp; done) | (simp; omega) | omega) _) | (refine Below.trans ?_ (Below.mono (by assumption) (by first | (simp; done) | (simp; omega) | omega)))))
theorem PixelAt_any (x y v h : Int) (b off n cap : Nat) (fs : Nat → Nat) (px py : Int) (w : World) (he : regErr x y v h = 0) (hn : (n : Int) = 4 * v * h) (hcap : n ≤ cap) (hcb : cap ≤ 9223372036854775807)
    (hcell : ∀ i, i < n → w.cell? ⟨b, off + i, none⟩ = some (.float .f32 (fs i))) :
    Calls Try.prog 72 #[.agg #[.int .i64 x, .int .i64 y, .int .i64 v, .int .i64 h, .slice (some ⟨b, off, none⟩) n cap], .int .i64 px, .int .i64 py] w fun e w' => e = .returned (.agg #[.float .f32 (shT x y v h fs 0 px py), .float .f32 (shT x y v h fs 1 px py), .float .f32 (shT x y v h fs 2 px py), .float .f32 (shT x y v h fs 3 px py)]) ∧ Below w.heap.size w w' := by
  obtain ⟨r1, r2, r3, r4, r5, r6, r7, r8, r9, r10⟩ := regErr_ok he
  obtain ⟨s1, s2⟩ := spotI_bd (x := x) (y := y) (px := px) (py := py) r1 r3 hn
  obtain ⟨k, hk⟩ : ∃ k : Nat, (k : Int) = spotI x y v h px py := ⟨(spotI x y v h px py).toNat, by omega⟩
  have e0 : (spotI x y v h px py + 0).toNat = k := by omega
  have e1 : (spotI x y v h px py + 1).toNat = k + 1 := by omega
  have e2 : (spotI x y v h px py + 2).toNat = k + 2 := by omega
  have e3 : (spotI x y v h px py + 3).toNat = k + 3 := by omega
  unfold shT
  rw [e0, e1, e2, e3]
  refine PixelAt_near x y v h b off n cap px py _ _ k _ _ _ _ w he hn rfl rfl ?_ (by omega) hcap hcb (hcell k (by omega)) (hcell (k + 1) (by omega)) (hcell (k + 2) (by omega)) (hcell (k + 3) (by omega))
  rw [hk]
  unfold spotI
  have a1 : y + clampI (py - y) h - y = clampI (py - y) h := by omega
  rw [a1]
  omega
end Go.Proofs.Ytmnmcmmhnbnndaa

namespace Go.Proofs.Ytmnmcmmhnbnndaa
open Go.RowKit
/-- The document's sharp pixel. -/
def shQ (T : Nat → Int → Int → Nat) (X Y : Int) (least amount : Nat) : Nat → Nat := fun c =>
  if c < 3 then shF (shS (T c) X Y) least amount (T c X Y) else cn .f32 (T c X Y)
/-- What a closure of pixels answers. -/
def AtOK (K : Nat) (caps : Array Value) (w : World) (T : Nat → Int → Int → Nat) : Prop := ∀ a b w', Below w.heap.size w w' → Calls Try.prog K (#[.int .i64 a, .int .i64 b] ++ caps) w' fun e w'' =>
  e = .returned (.agg #[.float .f32 (T 0 a b), .float .f32 (T 1 a b), .float .f32 (T 2 a b), .float .f32 (T 3 a b)]) ∧ Below w'.heap.size w' w''
theorem mod_ord (r least : Nat) : FloatKind.f32.format.order (r % 2147483648) least = FloatKind.f32.format.order (absN r) least := by
  rw [← cn_mod]; exact (ford_cn_left .f32 _ _).symm
theorem shQ_row {w : World} {b c : Nat} {t : TypeId} {G : Nat → Nat} (h : w.rowIs b t 4 (grnK G c)) : (w.setCell ⟨b, c, none⟩ (.float .f32 (G c))).rowIs b t 4 (grnK G (c + 1)) := by
  refine (h.set c _).congr (fun j hj => ?_)
  unfold grnK
  by_cases hjk : j = c
  · subst hjk
    rw [if_pos rfl, if_pos (by omega)]
  · rw [if_neg hjk]
    by_cases h : j < c
    · rw [if_pos h, if_pos (by omega)]
    · rw [if_neg h, if_neg (show ¬ j < c + 1 by omega)]
theorem wp_world {P : Program} {c : Code} {Q : Exit → Act → World → Prop} {a : Act} {w : World} (h : ∀ W, W = w → c.wp P Q a W) : c.wp P Q a w := h w rfl
set_option maxRecDepth 100000 in
set_option maxHeartbeats 1600000 in
theorem SharpOf_any (K : Nat) (caps : Array Value) (T : Nat → Int → Int → Nat) (X Y : Int) (amount least : Nat) (w : World) (hX : -2000000 ≤ X ∧ X ≤ 2000000) (hY : -2000000 ≤ Y ∧ Y ≤ 2000000)
    (hent : ∀ args w, (callFunc K args).run Try.prog w = .ok (.enter K args) w) (hat : AtOK K caps w T) :
    Calls Try.prog 77 #[.func (.func K) #[] caps, .int .i64 X, .int .i64 Y, .float .f32 amount, .float .f32 least] w fun e w' =>
      (∃ q : Nat → Nat, e = .returned (.agg #[.float .f32 (q 0), .float .f32 (q 1), .float .f32 (q 2), .float .f32 (q 3)]) ∧ q = shQ T X Y least amount) ∧ Below w.heap.size w w' := by
  have HA := Lib.hid hat; clear hat
  obtain ⟨G, hG⟩ : ∃ G, G = shQ T X Y least amount := ⟨_, rfl⟩
  have G3 : cn .f32 (T 3 X Y) = G 3 := by rw [hG]; rfl
  have HG := Lib.hid hG
  rw [← hG]
  clear hG
  go_enter Try.func77, Try.ntmps77
  go_wp2_with fail
  refine (HA.out _ _ _ (by (repeat (first | exact Below.refl _ _ | assumption | (refine Below.setCell ?_ (by first | (simp; done) | (simp; omega) | omega) _) | (refine Below.drew ?_) | (refine below_drewN ?_ _) | (refine Below.alloc ?_ (by first | (simp; done) | (simp; omega) | omega) _) | (refine Below.trans ?_ (Below.mono (by assumption) (by first | (simp; done) | (simp; omega) | omega))))))).mono ?_
  rintro e w1 ⟨rfl, hb1⟩
  have Z1 : Pix4 w1 w.heap.size 0 0 0 0 := (Pix4.new w 0 0 0 0 _).below hb1 (by simp)
  have B1 : Below w.heap.size w w1 := by (repeat (first | exact Below.refl _ _ | assumption | (refine Below.setCell ?_ (by first | (simp; done) | (simp; omega) | omega) _) | (refine Below.drew ?_) | (refine below_drewN ?_ _) | (refine Below.alloc ?_ (by first | (simp; done) | (simp; omega) | omega) _) | (refine Below.trans ?_ (Below.mono (by assumption) (by first | (simp; done) | (simp; omega) | omega)))))
  have s1 := hb1.size
  simp at s1
  clear hb1
  go_wp2_with (first | (go_at_call 55; refine (Fix_any _ _).mono ?_; rintro e w' ⟨rfl, rfl⟩))
  refine wp_world (fun W hW => ?_)
  have P0 : W.rowIs w1.heap.size 55 4 (fun j => .float .f32 (T j X Y)) := by
    rw [hW]
    exact ((row4 w1 (T 0 X Y) (T 1 X Y) (T 2 X Y) (T 3 X Y) 55).congr (fun i hi => by rcases (show i = 0 ∨ i = 1 ∨ i = 2 ∨ i = 3 by omega) with rfl | rfl | rfl | rfl <;> rfl)).alloc _
  have Q0 : W.rowIs (w1.heap.size + 1) 55 4 (grnK G 0) := by
    have h := row4 (w1.alloc (.cells #[.float .f32 (T 0 X Y), .float .f32 (T 1 X Y), .float .f32 (T 2 X Y), .float .f32 (T 3 X Y)] 55)) 0 0 0 (G 3) 55
    rw [← hW] at h
    simp only [World.size_alloc] at h
    exact h.congr (fun i hi => by rcases (show i = 0 ∨ i = 1 ∨ i = 2 ∨ i = 3 by omega) with rfl | rfl | rfl | rfl <;> simp [pick4, grnK])
  have B0 : Below w.heap.size w W := by rw [hW]; (repeat (first | exact Below.refl _ _ | assumption | (refine Below.setCell ?_ (by first | (simp; done) | (simp; omega) | omega) _) | (refine Below.drew ?_) | (refine below_drewN ?_ _) | (refine Below.alloc ?_ (by first | (simp; done) | (simp; omega) | omega) _) | (refine Below.trans ?_ (Below.mono (by assumption) (by first | (simp; done) | (simp; omega) | omega)))))
  have sW : W.heap.size = w1.heap.size + 1 + 1 := by rw [hW]; simp
  have Z0 : Pix4 W w.heap.size 0 0 0 0 := by
    rw [hW]; exact (Z1.below (Below.alloc (Below.refl w1.heap.size _) (Nat.le_refl _) _) (by omega)).below (Below.alloc (Below.refl (w1.heap.size + 1) _) (by simp) _) (by omega)
  have SW := Lib.hid sW; have PP := Lib.hid P0; have ZZ := Lib.hid Z0; have BB := Lib.hid B0; have QQ := Lib.hid Q0
  clear hW P0 Z0 Q0 B0 sW G3 Z1 B1
  generalize hpb : w1.heap.size = pb at *
  clear hpb
  go_loopw [26] (fun s26 wr => ∃ c : Nat, c ≤ 3 ∧ s26 = .int .i64 c ∧ wr.rowIs (pb + 1) 55 4 (grnK G c) ∧ W.grownBy wr (some (pb + 1))) (fun i _ => 3 - (intOf i).toNat)
  case atStart => exact ⟨0, by omega, rfl, QQ.out, World.grownBy.refl _ _⟩
  case round =>
    obtain ⟨c, hc3, rfl, hq, hgr⟩ := hrel
    have sW := SW.out
    have bk : ∀ b, b < pb + 1 → wr.heap[b]? = W.heap[b]? := fun b hb => hgr.block b (by omega) (by simp; omega)
    have P2 := PP.out.of_block (bk pb (by omega))
    have hsr := hgr.size
    have wl : pb + 1 < wr.heap.size := by omega
    by_cases hc : c < 3
    · have hci : (c : Int) < 3 := by omega
      have HQ := Lib.hid hq; have HGR := Lib.hid hgr; have HP := Lib.hid P2
      clear hq hgr bk P2 hsr
      go_wp2_with fail
      obtain ⟨wo, rfl⟩ : ∃ wo : World, wo = wr := ⟨_, rfl⟩
      go_loopw [14, 29] (fun s14 s29 wr => ∃ n r : Nat, n ≤ 9 ∧ s29 = .int .i64 n ∧ s14 = .float .f32 r ∧ (n ≠ 0 → cn .f32 r = cn .f32 (shP (T c) X Y (n - 1))) ∧ Below wo.heap.size wo wr) (fun _ i _ => 9 - (intOf i).toNat)
      case atStart => exact ⟨0, 0, by omega, rfl, rfl, fun h => absurd rfl h, Below.refl _ _⟩
      case round =>
        obtain ⟨n, r, hn9, rfl, rfl, hr, hbi⟩ := hrel
        have BW : Below w.heap.size w wr := (BB.out.grown HGR.out (by omega) (by intro j hj; cases hj; omega)).trans (hbi.mono (by have := BB.out.size; have := HGR.out.size; omega))
        have HR := Lib.hid hr; have HBI := Lib.hid hbi; have HBW := Lib.hid BW
        clear hr hbi BW
        by_cases hn : n < 9
        · have d1 : ((n : Nat) : Int).tmod 3 = ((n : Nat) : Int) % 3 := Int.tmod_eq_emod_of_nonneg (by omega)
          have d2 : ((n : Nat) : Int).tdiv 3 = ((n : Nat) : Int) / 3 := Int.tdiv_eq_ediv_of_nonneg (by omega)
          have hni : (n : Int) < 9 := by omega
          go_wp2_with fail
          refine (HA.out _ _ _ HBW.out).mono ?_
          rintro e w2 ⟨rfl, hb2⟩
          have hix := fun a b => index4 (fun j => T j a b) c (by omega)
          have B3 := HBI.out.trans (hb2.mono HBI.out.size)
          have HB3 := Lib.hid B3
          clear hb2 B3 HBI HBW
          obtain ⟨A, hA⟩ : ∃ A, A = X - 1 + (n : Int) % 3 := ⟨_, rfl⟩
          obtain ⟨B, hB⟩ : ∃ B, B = Y - 1 + (n : Int) / 3 := ⟨_, rfl⟩
          rw [← hA, ← hB]
          have HAB := Lib.hid (And.intro hA hB)
          clear hA hB d1 d2
          by_cases hn0 : n = 0
          · have hz : (n : Int) = 0 := by omega
            clear hn0
            go_wp2_with fail
            go_roundw
            case rel =>
              refine ⟨n + 1, _, by omega, by go_num, rfl, fun _ => ?_, HB3.out⟩
              obtain ⟨hA, hB⟩ := HAB.out
              rw [hA, hB, hz]
              have e : n + 1 - 1 = 0 := by omega
              rw [e]
              simp [shP]
            case measure => simp [intOf]; omega
          · have hz : ¬ (n : Int) = 0 := by omega
            obtain ⟨m, hm⟩ : ∃ m, n = m + 1 := ⟨n - 1, by omega⟩
            have HM := Lib.hid hm; clear hm
            go_wp2_with (first | ((with_reducible apply wpList_farith); rfl; rfl; rfl; intro _ _ _) | ((with_reducible apply wpList_up); rfl; exact Try.underlying38; exact Try.underlying51; intro _ _ _))
            rename_i a1
            have hB3 := HB3.out
            go_roundw
            case rel =>
              refine ⟨n + 1, _, by omega, by go_num, rfl, fun _ => ?_, by (repeat (first | exact Below.refl _ _ | assumption | (refine Below.setCell ?_ (by first | (simp; done) | (simp; omega) | omega) _) | (refine Below.drew ?_) | (refine below_drewN ?_ _) | (refine Below.alloc ?_ (by first | (simp; done) | (simp; omega) | omega) _) | (refine Below.trans ?_ (Below.mono (by assumption) (by first | (simp; done) | (simp; omega) | omega)))))⟩
              obtain ⟨hA, hB⟩ := HAB.out
              have hm := HM.out
              have h := HR.out hn0
              have e : n + 1 - 1 = m + 1 := by omega
              have e2 : n - 1 = m := by omega
              rw [e2] at h
              rw [a1.eq, hA, hB, e, hm]
              unfold shP
              rw [cn_fop, fop_cn_left, fop_cn_right, ← fop_cn_left, h, fop_cn_left]
            case measure => simp [intOf]; omega
        · obtain rfl : n = 9 := by omega
          have hr := HR.out (by decide)
          have hb := HBI.out
          have wl2 : pb + 1 < wr.heap.size := by have := hb.size; omega
          have P3 := HP.out.of_block (hb.block pb (by omega))
          have Q3 := HQ.out.of_block (hb.block (pb + 1) (by omega))
          have G3 := grown_past HGR.out hb
          have HR := Lib.hid hr; have HB := Lib.hid hb; have HQ3 := Lib.hid Q3; have HG3 := Lib.hid G3
          have pc := P3.cell (show c < 4 by omega)
          have qc : wr.cell? ⟨pb + 1, c, none⟩ = some (.float .f32 0) := by
            have := Q3.cell (show c < 4 by omega)
            rw [this]; unfold grnK; rw [if_neg (by omega), if_neg (by omega)]
          have qf : wr.frozen? ⟨pb + 1, c, none⟩ = false := Q3.frozen _
          clear hr hb P3 Q3 G3 HBI HBW HP HQ HGR
          have c4i : (c : Int) < 4 := by omega
          have cz : (0 : Int) ≤ (c : Int) := by omega
          go_wp2_with (first | ((with_reducible apply wpList_farith); rfl; rfl; rfl; intro _ _ _) | ((with_reducible apply wpList_up); rfl; exact Try.underlying38; exact Try.underlying51; intro _ _ _) | (go_at_call 166; refine (AbsOf_any _ _ (FR.lt (by assumption))).mono ?_; rintro e w' ⟨rfl, rfl⟩) | (go_at_call 55; refine (Fix_any _ _).mono ?_; rintro e w' ⟨rfl, rfl⟩))
          all_goals
            have h8 := HR.out
            have q3 := HQ3.out
            have g3 := HG3.out
            clear HR HQ3 HG3 HB pc qc qf
          · rename_i a1 r2 _ a2 hl
            rw [mod_ord] at hl
            have hv : cn .f32 (T c X Y) = G c := by
              rw [HG.out]; unfold shQ; rw [if_pos hc]; exact (shF_lt (S := shS (T c) X Y) h8 a1 a2 hl).symm
            rw [hv]
            exact ⟨⟨c + 1, by omega, by simp, shQ_row (q3.of_block ((below_drewN (Below.refl wr.heap.size wr) _).block (pb + 1) wl2)) , grown_set (grown_past g3 (below_drewN (Below.refl _ _) _)) _ _⟩, by simp [intOf]; omega⟩
          · rename_i a1 r2 _ a2 hl _ _ a3 r4 _ a4
            rw [mod_ord] at hl
            have hv : cn .f32 r4 = G c := by
              rw [HG.out]; unfold shQ; rw [if_pos hc]; exact (shF_ge (S := shS (T c) X Y) h8 a1 a2 hl a3 a4).eq
            rw [hv]
            exact ⟨⟨c + 1, by omega, by simp, shQ_row (q3.of_block ((below_drewN (Below.refl wr.heap.size wr) _).block (pb + 1) wl2)) , grown_set (grown_past g3 (below_drewN (Below.refl _ _) _)) _ _⟩, by simp [intOf]; omega⟩
    · obtain rfl : c = 3 := by omega
      have q0 := hq.cell (show 0 < 4 by omega)
      have q1 := hq.cell (show 1 < 4 by omega)
      have q2 := hq.cell (show 2 < 4 by omega)
      have q3 := hq.cell (show 3 < 4 by omega)
      simp [grnK] at q0 q1 q2 q3
      have Z1 : Pix4 wr w.heap.size 0 0 0 0 := by
        have h := ZZ.out
        have bb := bk w.heap.size (by omega)
        exact ⟨(World.cell?_of_block bb).trans h.c0, (World.cell?_of_block bb).trans h.c1, (World.cell?_of_block bb).trans h.c2, (World.cell?_of_block bb).trans h.c3, fun o => (World.frozen?_of_block bb).trans (h.f o)⟩
      have B1 : Below w.heap.size w wr := BB.out.grown hgr (by omega) (by intro j hj; cases hj; omega)
      clear hq hgr bk P2
      obtain ⟨z0, z1, z2, z3, zf⟩ := Z1
      go_wp2_with fail
      refine bodyPost_ret (v := .agg #[.float .f32 (G 0), .float .f32 (G 1), .float .f32 (G 2), .float .f32 (G 3)]) (by simp [results, Try.results77, go_sem, z0, z1, z2, z3]) rfl ⟨⟨G, rfl, rfl⟩, ?_⟩
      exact (((B1.setCell (by first | (simp; done) | (simp; omega) | omega) _).setCell (by first | (simp; done) | (simp; omega) | omega) _).setCell (by first | (simp; done) | (simp; omega) | omega) _).setCell (by first | (simp; done) | (simp; omega) | omega) _
end Go.Proofs.Ytmnmcmmhnbnndaa

namespace Go.Proofs.Ytmnmcmmhnbnndaa
open Go.RowKit
set_option maxRecDepth 100000 in
set_option maxHeartbeats 1600000 in
theorem sl_at (x y v h : Int) (b off n cap : Nat) (fs : Nat → Nat) (pf : Nat) (px py : Int) (w : World) (he : regErr x y v h = 0) (hn : (n : Int) = 4 * v * h) (hcap : n ≤ cap) (hcb : cap ≤ 9223372036854775807)
    (hcell : ∀ i, i < n → w.cell? ⟨b, off + i, none⟩ = some (.float .f32 (fs i))) (hF : FrameC w pf x y v h (.slice (some ⟨b, off, none⟩) n cap)) :
    Calls Try.prog 71 #[.int .i64 px, .int .i64 py, .pointer (some ⟨pf, 0, none⟩)] w fun e w' => e = .returned (.agg #[.float .f32 (shT x y v h fs 0 px py), .float .f32 (shT x y v h fs 1 px py), .float .f32 (shT x y v h fs 2 px py), .float .f32 (shT x y v h fs 3 px py)]) ∧ Below w.heap.size w w' := by
  have hn0 : 0 < n := by
    obtain ⟨r1, r2, r3, r4, r5, r6, r7, r8, r9, r10⟩ := regErr_ok he
    have : 4 ≤ 4 * v * h := by { rw [Int.mul_assoc]; omega }
    omega
  have hbw : b < w.heap.size := cell_lt (hcell 0 hn0)
  have lf := hF.lt
  obtain ⟨f0, f1, f2, f3, f4, -⟩ := hF
  have HPA : Hid (∀ w', Below w.heap.size w w' → Calls Try.prog 72 #[.agg #[.int .i64 x, .int .i64 y, .int .i64 v, .int .i64 h, .slice (some ⟨b, off, none⟩) n cap], .int .i64 px, .int .i64 py] w' fun e w'' => e = .returned (.agg #[.float .f32 (shT x y v h fs 0 px py), .float .f32 (shT x y v h fs 1 px py), .float .f32 (shT x y v h fs 2 px py), .float .f32 (shT x y v h fs 3 px py)]) ∧ Below w'.heap.size w' w'') := fun w' hb =>
    PixelAt_any x y v h b off n cap fs px py w' he hn hcap hcb (fun i hi => (hb.cell (p := ⟨b, off + i, none⟩) hbw).trans (hcell i hi))
  clear hcell he hn hcap hcb
  go_enter Try.func71, Try.ntmps71
  go_wp2_with fail
  refine (HPA.out _ (by (repeat (first | exact Below.refl _ _ | assumption | (refine Below.setCell ?_ (by first | (simp; done) | (simp; omega) | omega) _) | (refine Below.drew ?_) | (refine below_drewN ?_ _) | (refine Below.alloc ?_ (by first | (simp; done) | (simp; omega) | omega) _) | (refine Below.trans ?_ (Below.mono (by assumption) (by first | (simp; done) | (simp; omega) | omega))))))).mono ?_
  rintro e w2 ⟨rfl, hb2⟩
  have R2 : Pix4 w2 w.heap.size 0 0 0 0 := (Pix4.new w 0 0 0 0 _).below hb2 (by simp)
  have B2 : Below w.heap.size w w2 := by (repeat (first | exact Below.refl _ _ | assumption | (refine Below.setCell ?_ (by first | (simp; done) | (simp; omega) | omega) _) | (refine Below.drew ?_) | (refine below_drewN ?_ _) | (refine Below.alloc ?_ (by first | (simp; done) | (simp; omega) | omega) _) | (refine Below.trans ?_ (Below.mono (by assumption) (by first | (simp; done) | (simp; omega) | omega)))))
  have sz := hb2.size
  simp at sz
  clear hb2 f0 f1 f2 f3 f4
  obtain ⟨d0, d1, d2, d3, df⟩ := R2
  go_wp2_with fail
  refine bodyPost_ret (v := .agg #[.float .f32 (shT x y v h fs 0 px py), .float .f32 (shT x y v h fs 1 px py), .float .f32 (shT x y v h fs 2 px py), .float .f32 (shT x y v h fs 3 px py)]) (by simp [results, Try.results71, go_sem, d0, d1, d2, d3]) rfl ⟨rfl, ?_⟩
  exact (((B2.setCell (by first | (simp; done) | (simp; omega) | omega) _).setCell (by first | (simp; done) | (simp; omega) | omega) _).setCell (by first | (simp; done) | (simp; omega) | omega) _).setCell (by first | (simp; done) | (simp; omega) | omega) _
/-- The document's sharp pixel within a frame. -/
theorem shQ_eq {x y v h : Int} {fs : Nat → Nat} {least amount i j : Nat} (r1 : 1 ≤ v) (hi : (i : Int) < v) (hj : (j : Int) < h) :
    shQ (fun c => shT x y v h fs c) (x + i) (y + j) least amount = shG x y v h fs least amount (v.toNat * j + i) := by
  obtain ⟨k1, k2, k3, k4⟩ := spot_in (x := x) (y := y) (h := h) r1 hi hj
  have c1 : clampI (x + (i : Int) - x) v = i := by unfold clampI; rw [if_neg (by omega), if_neg (by omega)]; omega
  have c2 : clampI (y + (j : Int) - y) h = j := by unfold clampI; rw [if_neg (by omega), if_neg (by omega)]; omega
  have e : spotI x y v h (x + i) (y + j) = ((4 * (v.toNat * j + i) : Nat) : Int) := by
    unfold spotI
    rw [c1, c2, ← k1]
    have a1 : y + (j : Int) - y = j := by omega
    rw [a1]; omega
  have t : ∀ c : Nat, shT x y v h fs c (x + i) (y + j) = fs (4 * (v.toNat * j + i) + c) := fun c => by
    unfold shT; rw [e]; congr 1
  funext c
  unfold shQ shG shP4
  rw [k2, k3]
  simp only [t]
set_option maxRecDepth 100000 in
set_option maxHeartbeats 1600000 in
theorem sl_closure (x y v h : Int) (b off n cap : Nat) (fs : Nat → Nat) (amount least : Nat) (pt pa pl pf : Nat) (i j : Nat) (w : World) (hr : regErr x y v h = 0) (hl : (n : Int) = 4 * v * h) (hcap : n ≤ cap) (hcb : cap ≤ 9223372036854775807)
    (hi : (i : Int) < v) (hj : (j : Int) < h)
    (hcell : ∀ k, k < n → w.cell? ⟨b, off + k, none⟩ = some (.float .f32 (fs k)))
    (g0 : w.cell? ⟨pt, 0, none⟩ = some (.func (.func 71) #[] #[.pointer (some ⟨pf, 0, none⟩)])) (g1 : w.cell? ⟨pa, 0, none⟩ = some (.float .f32 amount)) (g2 : w.cell? ⟨pl, 0, none⟩ = some (.float .f32 least))
    (hF : FrameC w pf x y v h (.slice (some ⟨b, off, none⟩) n cap)) :
    Calls Try.prog 76 #[.int .i64 (x + i), .int .i64 (y + j), .pointer (some ⟨pt, 0, none⟩), .pointer (some ⟨pa, 0, none⟩), .pointer (some ⟨pl, 0, none⟩)] w fun e w' =>
      (∃ q : Nat → Nat, e = .returned (.agg #[.float .f32 (q 0), .float .f32 (q 1), .float .f32 (q 2), .float .f32 (q 3)]) ∧ q = shG x y v h fs least amount (v.toNat * j + i)) ∧ Below w.heap.size w w' := by
  obtain ⟨r1, r2, r3, r4, r5, r6, r7, r8, r9, r10⟩ := regErr_ok hr
  have hn0 : 0 < n := by
    have : 4 ≤ 4 * v * h := by { rw [Int.mul_assoc]; omega }
    omega
  have hbw : b < w.heap.size := cell_lt (hcell 0 hn0)
  have lt := cell_lt g0; have la := cell_lt g1; have ll := cell_lt g2; have lf := hF.lt
  simp only at lt la ll
  have HSO : Hid (∀ w', Below w.heap.size w w' → Calls Try.prog 77 #[.func (.func 71) #[] #[.pointer (some ⟨pf, 0, none⟩)], .int .i64 (x + i), .int .i64 (y + j), .float .f32 amount, .float .f32 least] w' fun e w'' =>
      (∃ q : Nat → Nat, e = .returned (.agg #[.float .f32 (q 0), .float .f32 (q 1), .float .f32 (q 2), .float .f32 (q 3)]) ∧ q = shG x y v h fs least amount (v.toNat * j + i)) ∧ Below w'.heap.size w' w'') := fun w' hb => by
    rw [← shQ_eq r1 hi hj]
    exact SharpOf_any 71 #[.pointer (some ⟨pf, 0, none⟩)] (fun c => shT x y v h fs c) (x + i) (y + j) amount least w' (by omega) (by omega) (body_enters Try.func71 (by kernel_rfl) rfl)
      (fun a b' w2 hb2 => sl_at x y v h b off n cap fs pf a b' w2 hr hl hcap hcb (fun k hk => ((hb.trans (hb2.mono hb.size)).cell (p := ⟨b, off + k, none⟩) hbw).trans (hcell k hk)) (hF.below (hb.trans (hb2.mono hb.size)) lf))
  clear hcell hr hl hcap hcb hF r1 r2 r3 r4 r5 r6 r7 r8 r9 r10 hi hj
  go_enter Try.func76, Try.ntmps76
  go_wp2_with fail
  refine (HSO.out _ (by (repeat (first | exact Below.refl _ _ | assumption | (refine Below.setCell ?_ (by first | (simp; done) | (simp; omega) | omega) _) | (refine Below.drew ?_) | (refine below_drewN ?_ _) | (refine Below.alloc ?_ (by first | (simp; done) | (simp; omega) | omega) _) | (refine Below.trans ?_ (Below.mono (by assumption) (by first | (simp; done) | (simp; omega) | omega))))))).mono ?_
  rintro e w2 ⟨⟨q, rfl, hq⟩, hb2⟩
  have HQ := Lib.hid hq
  have R2 : Pix4 w2 w.heap.size 0 0 0 0 := (Pix4.new w 0 0 0 0 _).below hb2 (by simp)
  have B2 : Below w.heap.size w w2 := by (repeat (first | exact Below.refl _ _ | assumption | (refine Below.setCell ?_ (by first | (simp; done) | (simp; omega) | omega) _) | (refine Below.drew ?_) | (refine below_drewN ?_ _) | (refine Below.alloc ?_ (by first | (simp; done) | (simp; omega) | omega) _) | (refine Below.trans ?_ (Below.mono (by assumption) (by first | (simp; done) | (simp; omega) | omega)))))
  have sz := hb2.size
  simp at sz
  clear hb2 g0 g1 g2 hq
  obtain ⟨d0, d1, d2, d3, df⟩ := R2
  go_wp2_with fail
  refine bodyPost_ret (v := .agg #[.float .f32 (q 0), .float .f32 (q 1), .float .f32 (q 2), .float .f32 (q 3)]) (by simp [results, Try.results76, go_sem, d0, d1, d2, d3]) rfl ⟨⟨q, rfl, HQ.out⟩, ?_⟩
  exact (((B2.setCell (by first | (simp; done) | (simp; omega) | omega) _).setCell (by first | (simp; done) | (simp; omega) | omega) _).setCell (by first | (simp; done) | (simp; omega) | omega) _).setCell (by first | (simp; done) | (simp; omega) | omega) _
end Go.Proofs.Ytmnmcmmhnbnndaa
