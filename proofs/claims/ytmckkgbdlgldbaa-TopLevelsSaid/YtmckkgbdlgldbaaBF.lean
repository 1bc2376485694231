/- finish.Clip's closure, and three with it: it counts in a variable of Clip's. No condition. (with: ClipB, PixEq, GmA) -/
import Derived.Test.YtmckkgbdlgldbaaBE
namespace Go.Proofs.Ytmckkgbdlgldbaa
open Go.RowKit
/-- All but the block M is as it was. -/
structure Ex (M : Nat) (w w' : World) : Prop where
  b : ∀ n, n ≤ M → Below n w w'
  c : ∀ b o, b ≠ M → w'.cell? ⟨b, o, none⟩ = w.cell? ⟨b, o, none⟩
  f : ∀ b o, w'.frozen? ⟨b, o, none⟩ = w.frozen? ⟨b, o, none⟩
  s : w'.heap.size = w.heap.size
theorem Ex.refl (M : Nat) (w : World) : Ex M w w := ⟨fun _ _ => Below.refl _ _, fun _ _ _ => rfl, fun _ _ => rfl, rfl⟩
theorem Ex.set (M : Nat) (w : World) (v : Value) : Ex M w (w.setCell ⟨M, 0, none⟩ v) :=
  ⟨fun n hn => (Below.refl _ _).setCell hn _, fun b o h => World.cell?_setCell_other _ _ _ _ (by intro e; cases e; exact h rfl), fun _ _ => World.frozen?_setCell _ _ _ _, by simp [World.setCell]⟩
theorem Pix4.ex {w w' : World} {M b v0 v1 v2 v3 : Nat} (h : Pix4 w b v0 v1 v2 v3) (e : Ex M w w') (hb : b ≠ M) : Pix4 w' b v0 v1 v2 v3 :=
  ⟨(e.c _ _ hb).trans h.c0, (e.c _ _ hb).trans h.c1, (e.c _ _ hb).trans h.c2, (e.c _ _ hb).trans h.c3, fun o => (e.f _ o).trans (h.f o)⟩
theorem One.ex {w w' : World} {M b : Nat} {v : Value} (h : One w b v) (e : Ex M w w') (hb : b ≠ M) : One w' b v := ⟨(e.c _ _ hb).trans h.c, (e.f _ _).trans h.f⟩
/-- 1 where a value is not within the bounds. -/
def dltZ (v lo hi : Nat) : Int := if cn .f32 (limF v lo hi) = cn .f32 v then 0 else 1
set_option maxHeartbeats 800000 in
theorem clip_one (lo hi v pl ph pm : Nat) (k c : Int) (w : World) (hl : One w pl (.float .f32 lo)) (hh : One w ph (.float .f32 hi)) (hm : One w pm (.int .i64 k)) (hk : 0 ≤ k ∧ k ≤ 3) :
    Calls Try.prog 138 #[.int .i64 c, .float .f32 v, .pointer (some ⟨pl, 0, none⟩), .pointer (some ⟨ph, 0, none⟩), .pointer (some ⟨pm, 0, none⟩)] w fun e w' =>
      e = .returned (.float .f32 (limF v lo hi)) ∧ Ex pm w w' ∧ One w' pm (.int .i64 (k + dltZ v lo hi)) := by
  obtain ⟨l0, -⟩ := hl
  obtain ⟨h0, -⟩ := hh
  obtain ⟨m0, mf⟩ := id hm
  have hm' := Lib.hid hm; clear hm
  obtain ⟨k0, k1⟩ := hk
  go_enter Try.func138, Try.ntmps138
  go_wp2_with (first | (go_at_call 139; refine (Limit_any _ _ _ _).mono ?_; rintro e w' ⟨rfl, rfl⟩) | (go_at_call 140; refine (Bits_any _ _).mono ?_; rintro e w' ⟨rfl, rfl⟩))
  · rename_i h
    go_ret
    refine ⟨rfl, Ex.set _ _ _, ?_⟩
    have e : dltZ v lo hi = 1 := by
      have h' : ¬ ((cn .f32 (limF v lo hi) : Nat) : Int) = ((cn .f32 v : Nat) : Int) := by simpa using h
      unfold dltZ; rw [if_neg (by omega)]
    rw [e]; exact hm'.out.set _
  · rename_i h
    go_ret
    have e : dltZ v lo hi = 0 := by
      have h' : ((cn .f32 (limF v lo hi) : Nat) : Int) = ((cn .f32 v : Nat) : Int) := by simpa using h
      unfold dltZ; rw [if_pos (by omega)]
    refine ⟨rfl, Ex.refl _ _, ?_⟩
    rw [e, Int.add_zero]; exact hm'.out
theorem dlt_bd (v lo hi : Nat) : 0 ≤ dltZ v lo hi ∧ dltZ v lo hi ≤ 1 := by unfold dltZ; split <;> omega
theorem cn_lim (v lo hi : Nat) : cn .f32 (limF v lo hi) = limF v lo hi := by unfold limF; split; exact cn_cn _ _; split <;> exact cn_cn _ _
set_option maxRecDepth 100000 in
set_option maxHeartbeats 1600000 in
theorem three_clip (lo hi pl ph pm p0 p1 p2 p3 : Nat) (w : World) (hl : One w pl (.float .f32 lo)) (hh : One w ph (.float .f32 hi)) (hm : One w pm (.int .i64 0)) (ql : pl < w.heap.size) (qh : ph < w.heap.size) (qm : pm < w.heap.size) (nl : pl ≠ pm) (nh : ph ≠ pm) :
    Calls Try.prog 134 #[.agg #[.float .f32 p0, .float .f32 p1, .float .f32 p2, .float .f32 p3], .func (.func 138) #[] #[.pointer (some ⟨pl, 0, none⟩), .pointer (some ⟨ph, 0, none⟩), .pointer (some ⟨pm, 0, none⟩)]] w fun e w' =>
      e = .returned (.agg #[.float .f32 (limF p0 lo hi), .float .f32 (limF p1 lo hi), .float .f32 (limF p2 lo hi), .float .f32 (cn .f32 p3)]) ∧ Below pm w w' ∧ One w' pm (.int .i64 (dltZ p0 lo hi + dltZ p1 lo hi + dltZ p2 lo hi)) ∧ w.heap.size ≤ w'.heap.size := by
  have s0 := dlt_bd p0 lo hi
  have s1 := dlt_bd p1 lo hi
  have s2 := dlt_bd p2 lo hi
  have hd := Lib.hid (And.intro s0 (And.intro s1 s2)); clear s0 s1 s2
  have t0 := cn_lim p0 lo hi
  have t1 := cn_lim p1 lo hi
  have t2 := cn_lim p2 lo hi
  have hl' := Lib.hid hl; clear hl
  have hh' := Lib.hid hh; clear hh
  have hm' := Lib.hid hm; clear hm
  go_enter Try.func134, Try.ntmps134
  go_wp2
  refine wp_loop_rounds 4 ?_
  go_wp2_with (simp only [rounds_succ])
  have L0 := hl'.out.below (n := w.heap.size) (w := (w.alloc (.cells #[.float .f32 p0, .float .f32 p1, .float .f32 p2, .float .f32 p3] 65)).alloc (.cells #[.float .f32 0, .float .f32 0, .float .f32 0, .float .f32 0] 65)) (by (repeat (first | exact Below.refl _ _ | assumption | (refine Below.setCell ?_ (by first | (simp; done) | (simp; omega) | omega) _) | (refine Below.drew ?_) | (refine below_drewN ?_ _) | (refine Below.alloc ?_ (by first | (simp; done) | (simp; omega) | omega) _) | (refine Below.trans ?_ (Below.mono (by assumption) (by first | (simp; done) | (simp; omega) | omega)))))) ql
  have H0 := hh'.out.below (n := w.heap.size) (w := (w.alloc (.cells #[.float .f32 p0, .float .f32 p1, .float .f32 p2, .float .f32 p3] 65)).alloc (.cells #[.float .f32 0, .float .f32 0, .float .f32 0, .float .f32 0] 65)) (by (repeat (first | exact Below.refl _ _ | assumption | (refine Below.setCell ?_ (by first | (simp; done) | (simp; omega) | omega) _) | (refine Below.drew ?_) | (refine below_drewN ?_ _) | (refine Below.alloc ?_ (by first | (simp; done) | (simp; omega) | omega) _) | (refine Below.trans ?_ (Below.mono (by assumption) (by first | (simp; done) | (simp; omega) | omega)))))) qh
  have M0 := hm'.out.below (n := w.heap.size) (w := (w.alloc (.cells #[.float .f32 p0, .float .f32 p1, .float .f32 p2, .float .f32 p3] 65)).alloc (.cells #[.float .f32 0, .float .f32 0, .float .f32 0, .float .f32 0] 65)) (by (repeat (first | exact Below.refl _ _ | assumption | (refine Below.setCell ?_ (by first | (simp; done) | (simp; omega) | omega) _) | (refine Below.drew ?_) | (refine below_drewN ?_ _) | (refine Below.alloc ?_ (by first | (simp; done) | (simp; omega) | omega) _) | (refine Below.trans ?_ (Below.mono (by assumption) (by first | (simp; done) | (simp; omega) | omega)))))) qm
  have P0 : Pix4 ((w.alloc (.cells #[.float .f32 p0, .float .f32 p1, .float .f32 p2, .float .f32 p3] 65)).alloc (.cells #[.float .f32 0, .float .f32 0, .float .f32 0, .float .f32 0] 65)) w.heap.size p0 p1 p2 p3 := ⟨by simp [go_sem], by simp [go_sem], by simp [go_sem], by simp [go_sem], fun o => by simp [go_sem]⟩
  have R0 : Pix4 ((w.alloc (.cells #[.float .f32 p0, .float .f32 p1, .float .f32 p2, .float .f32 p3] 65)).alloc (.cells #[.float .f32 0, .float .f32 0, .float .f32 0, .float .f32 0] 65)) (w.heap.size + 1) 0 0 0 0 := ⟨by simp [go_sem], by simp [go_sem], by simp [go_sem], by simp [go_sem], fun o => by simp [go_sem]⟩
  have B0 : Below pm w ((w.alloc (.cells #[.float .f32 p0, .float .f32 p1, .float .f32 p2, .float .f32 p3] 65)).alloc (.cells #[.float .f32 0, .float .f32 0, .float .f32 0, .float .f32 0] 65)) := ((Below.refl _ _).alloc (Nat.le_of_lt qm) _).alloc (by simp; omega) _
  have Z0 : ((w.alloc (.cells #[.float .f32 p0, .float .f32 p1, .float .f32 p2, .float .f32 p3] 65)).alloc (.cells #[.float .f32 0, .float .f32 0, .float .f32 0, .float .f32 0] 65)).heap.size = w.heap.size + 1 + 1 := by simp
  refine (clip_one lo hi p0 pl ph pm (0) _ _ L0 H0 M0 (by have := hd.out; omega)).mono ?_
  rintro e w1 ⟨rfl, hx1, M1⟩
  have L1 := L0.ex hx1 nl
  have H1 := H0.ex hx1 nh
  have P1 := P0.ex hx1 (by omega)
  have R1 := R0.ex hx1 (by omega)
  have B1 := B0.trans (hx1.b pm (Nat.le_refl _))
  have Z1 : w1.heap.size = w.heap.size + 1 + 1 := by rw [hx1.s]; exact Z0
  clear L0 H0 M0 P0 R0 B0 Z0
  have hL1 := Lib.hid L1; have hH1 := Lib.hid H1; have hM1 := Lib.hid M1; have hP1 := Lib.hid P1; have hR1 := Lib.hid R1; have hZ1 := Lib.hid Z1
  obtain ⟨c0, c1, c2, c3, pf⟩ := P1
  obtain ⟨d0, d1, d2, d3, rf⟩ := R1
  have q1 : w.heap.size < w1.heap.size := by omega
  have qq1 : w.heap.size + 1 < w1.heap.size := by omega
  clear L1 H1 M1 Z1 hx1
  go_wp2_with (first | simp only [rounds_succ] | (go_at_call 164; refine (Clean_any _ _).mono ?_; rintro e w' ⟨rfl, rfl⟩))
  refine (clip_one lo hi p1 pl ph pm (0 + dltZ p0 lo hi) _ _ (hL1.out.far _ _ (by simp; omega)) (hH1.out.far _ _ (by simp; omega)) (hM1.out.far _ _ (by simp; omega)) (by have := hd.out; omega)).mono ?_
  rintro e w2 ⟨rfl, hx2, M2⟩
  have L2 := (hL1.out.far _ _ (by simp; omega)).ex hx2 nl
  have H2 := (hH1.out.far _ _ (by simp; omega)).ex hx2 nh
  have P2 := (hP1.out.set0 _).ex hx2 (by omega)
  have R2 := (hR1.out.far _ _ (by simp)).ex hx2 (by omega)
  have B2 := (B1.setCell (by simp; omega) _).trans (hx2.b pm (Nat.le_refl _))
  have Z2 : w2.heap.size = w.heap.size + 1 + 1 := by rw [hx2.s]; simpa using hZ1.out
  clear hL1 hH1 hM1 hP1 hR1 hZ1 c0 c1 c2 c3 pf d0 d1 d2 d3 rf B1
  have hL2 := Lib.hid L2; have hH2 := Lib.hid H2; have hM2 := Lib.hid M2; have hP2 := Lib.hid P2; have hR2 := Lib.hid R2; have hZ2 := Lib.hid Z2
  obtain ⟨c0, c1, c2, c3, pf⟩ := P2
  obtain ⟨d0, d1, d2, d3, rf⟩ := R2
  have q2 : w.heap.size < w2.heap.size := by omega
  have qq2 : w.heap.size + 1 < w2.heap.size := by omega
  clear L2 H2 M2 Z2 hx2
  go_wp2_with (first | simp only [rounds_succ] | (go_at_call 164; refine (Clean_any _ _).mono ?_; rintro e w' ⟨rfl, rfl⟩))
  refine (clip_one lo hi p2 pl ph pm (0 + dltZ p0 lo hi + dltZ p1 lo hi) _ _ (hL2.out.far _ _ (by simp; omega)) (hH2.out.far _ _ (by simp; omega)) (hM2.out.far _ _ (by simp; omega)) (by have := hd.out; omega)).mono ?_
  rintro e w3 ⟨rfl, hx3, M3⟩
  have L3 := (hL2.out.far _ _ (by simp; omega)).ex hx3 nl
  have H3 := (hH2.out.far _ _ (by simp; omega)).ex hx3 nh
  have P3 := (hP2.out.set1 _).ex hx3 (by omega)
  have R3 := (hR2.out.far _ _ (by simp)).ex hx3 (by omega)
  have B3 := (B2.setCell (by simp; omega) _).trans (hx3.b pm (Nat.le_refl _))
  have Z3 : w3.heap.size = w.heap.size + 1 + 1 := by rw [hx3.s]; simpa using hZ2.out
  clear hL2 hH2 hM2 hP2 hR2 hZ2 c0 c1 c2 c3 pf d0 d1 d2 d3 rf B2
  have hL3 := Lib.hid L3; have hH3 := Lib.hid H3; have hM3 := Lib.hid M3; have hP3 := Lib.hid P3; have hR3 := Lib.hid R3; have hZ3 := Lib.hid Z3
  obtain ⟨c0, c1, c2, c3, pf⟩ := P3
  obtain ⟨d0, d1, d2, d3, rf⟩ := R3
  have q3 : w.heap.size < w3.heap.size := by omega
  have qq3 : w.heap.size + 1 < w3.heap.size := by omega
  clear L3 H3 M3 Z3 hx3
  go_wp2_with (first | simp only [rounds_succ] | (go_at_call 164; refine (Clean_any _ _).mono ?_; rintro e w' ⟨rfl, rfl⟩))
  refine bodyPost_ret (v := .agg #[.float .f32 (limF p0 lo hi), .float .f32 (limF p1 lo hi), .float .f32 (limF p2 lo hi), .float .f32 (cn .f32 p3)]) ?_ rfl ⟨rfl, ?_, ?_, ?_⟩
  · simp [results, Try.results134, go_sem, *]
  · exact (((((B3.setCell (by simp; omega) _).setCell (by simp; omega) _).setCell (by simp; omega) _).setCell (by simp; omega) _).setCell (by simp; omega) _).setCell (by simp; omega) _
  · have := hM3.out
    rw [Int.zero_add] at this
    exact (((((this.far _ _ (by simp; omega)).far _ _ (by simp; omega)).far _ _ (by simp; omega)).far _ _ (by simp; omega)).far _ _ (by simp; omega)).far _ _ (by simp; omega)
  · simp; omega
end Go.Proofs.Ytmckkgbdlgldbaa

namespace Go.Proofs.Ytmckkgbdlgldbaa
open Go.RowKit
set_option maxRecDepth 100000 in
set_option maxHeartbeats 1600000 in
theorem Compress_form (p0 p1 p2 p3 f : Nat) (w : World) (hn : isNum .f32 f = false) :
    Calls Try.prog 43 #[.agg #[.float .f32 p0, .float .f32 p1, .float .f32 p2, .float .f32 p3], .float .f32 f] w fun e w' =>
      e = .returned (.tuple #[.agg #[.float .f32 0, .float .f32 0, .float .f32 0, .float .f32 0], .int .i64 2]) ∧ Below w.heap.size w w' := by
  go_enter Try.func43, Try.ntmps43
  go_wp2_with (first | (go_at_call 132; refine (IsNumber_any _ _).mono ?_; rintro e w' ⟨rfl, rfl⟩))
  refine bodyPost_ret (v := .tuple #[.agg #[.float .f32 0, .float .f32 0, .float .f32 0, .float .f32 0], .int .i64 2]) (by simp [results, Try.results43, go_sem, *]) rfl ⟨rfl, ?_⟩
  (repeat (first | exact Below.refl _ _ | assumption | (refine Below.setCell ?_ (by first | (simp; done) | (simp; omega) | omega) _) | (refine Below.drew ?_) | (refine below_drewN ?_ _) | (refine Below.alloc ?_ (by first | (simp; done) | (simp; omega) | omega) _) | (refine Below.trans ?_ (Below.mono (by assumption) (by first | (simp; done) | (simp; omega) | omega)))))
set_option maxRecDepth 100000 in
set_option maxHeartbeats 1600000 in
theorem Compress_range (p0 p1 p2 p3 f : Nat) (w : World) (hn : isNum .f32 f = true) (hr : (FloatKind.f32.format.order f 0 == some .lt) = true ∨ (FloatKind.f32.format.order f 0 == some .lt) = false ∧ ((FloatKind.f32.format.order f 1065353216 == some .gt) || (FloatKind.f32.format.order f 1065353216 == some .eq)) = true) :
    Calls Try.prog 43 #[.agg #[.float .f32 p0, .float .f32 p1, .float .f32 p2, .float .f32 p3], .float .f32 f] w fun e w' =>
      e = .returned (.tuple #[.agg #[.float .f32 0, .float .f32 0, .float .f32 0, .float .f32 0], .int .i64 3]) ∧ Below w.heap.size w w' := by
  rcases hr with hr | ⟨hr, hq⟩
  · go_enter Try.func43, Try.ntmps43
    go_wp2_with (first | (go_at_call 132; refine (IsNumber_any _ _).mono ?_; rintro e w' ⟨rfl, rfl⟩))
    refine bodyPost_ret (v := .tuple #[.agg #[.float .f32 0, .float .f32 0, .float .f32 0, .float .f32 0], .int .i64 3]) (by simp [results, Try.results43, go_sem, *]) rfl ⟨rfl, ?_⟩
    (repeat (first | exact Below.refl _ _ | assumption | (refine Below.setCell ?_ (by first | (simp; done) | (simp; omega) | omega) _) | (refine Below.drew ?_) | (refine below_drewN ?_ _) | (refine Below.alloc ?_ (by first | (simp; done) | (simp; omega) | omega) _) | (refine Below.trans ?_ (Below.mono (by assumption) (by first | (simp; done) | (simp; omega) | omega)))))
  · rcases (Bool.or_eq_true_iff.1 hq) with hq | hq
    all_goals
      go_enter Try.func43, Try.ntmps43
      go_wp2_with (first | (go_at_call 132; refine (IsNumber_any _ _).mono ?_; rintro e w' ⟨rfl, rfl⟩))
      refine bodyPost_ret (v := .tuple #[.agg #[.float .f32 0, .float .f32 0, .float .f32 0, .float .f32 0], .int .i64 3]) (by simp [results, Try.results43, go_sem, *]) rfl ⟨rfl, ?_⟩
      (repeat (first | exact Below.refl _ _ | assumption | (refine Below.setCell ?_ (by first | (simp; done) | (simp; omega) | omega) _) | (refine Below.drew ?_) | (refine below_drewN ?_ _) | (refine Below.alloc ?_ (by first | (simp; done) | (simp; omega) | omega) _) | (refine Below.trans ?_ (Below.mono (by assumption) (by first | (simp; done) | (simp; omega) | omega)))))
/-- The error of bounds. -/
def clipE (lo hi : Nat) : Int := if allNum [lo, hi] then (if FloatKind.f32.format.order hi lo == some .lt then 8 else 0) else 2
set_option maxRecDepth 100000 in
set_option maxHeartbeats 1600000 in
theorem Clip_err (p0 p1 p2 p3 lo hi : Nat) (w : World) (hE : clipE lo hi ≠ 0) :
    Calls Try.prog 47 #[.agg #[.float .f32 p0, .float .f32 p1, .float .f32 p2, .float .f32 p3], .float .f32 lo, .float .f32 hi] w fun e w' =>
      e = .returned (.tuple #[.agg #[.float .f32 0, .float .f32 0, .float .f32 0, .float .f32 0], .int .i64 0, .int .i64 (clipE lo hi)]) ∧ Below w.heap.size w w' := by
  unfold clipE at hE ⊢
  cases ha : allNum [lo, hi] with
  | false =>
    simp only [Bool.false_eq_true, if_false]
    go_enter Try.func47, Try.ntmps47
    go_wp2_with (first | (go_at_call 133; refine (All2_any _ _ _ lo hi _ (by simp [go_sem]) (by simp [go_sem])).mono ?_; rintro e w' ⟨rfl, rfl⟩))
    refine bodyPost_ret (v := .tuple #[.agg #[.float .f32 0, .float .f32 0, .float .f32 0, .float .f32 0], .int .i64 0, .int .i64 2]) (by simp [results, Try.results47, go_sem, *]) rfl ⟨rfl, ?_⟩
    (repeat (first | exact Below.refl _ _ | assumption | (refine Below.setCell ?_ (by first | (simp; done) | (simp; omega) | omega) _) | (refine Below.drew ?_) | (refine below_drewN ?_ _) | (refine Below.alloc ?_ (by first | (simp; done) | (simp; omega) | omega) _) | (refine Below.trans ?_ (Below.mono (by assumption) (by first | (simp; done) | (simp; omega) | omega)))))
  | true =>
    cases ho : (FloatKind.f32.format.order hi lo == some .lt) with
    | false => exfalso; apply hE; rw [ha, ho]; rfl
    | true =>
      simp only [if_true]
      clear hE
      go_enter Try.func47, Try.ntmps47
      go_wp2_with (first | (go_at_call 133; refine (All2_any _ _ _ lo hi _ (by simp [go_sem]) (by simp [go_sem])).mono ?_; rintro e w' ⟨rfl, rfl⟩))
      refine bodyPost_ret (v := .tuple #[.agg #[.float .f32 0, .float .f32 0, .float .f32 0, .float .f32 0], .int .i64 0, .int .i64 8]) (by simp [results, Try.results47, go_sem, *]) rfl ⟨rfl, ?_⟩
      (repeat (first | exact Below.refl _ _ | assumption | (refine Below.setCell ?_ (by first | (simp; done) | (simp; omega) | omega) _) | (refine Below.drew ?_) | (refine below_drewN ?_ _) | (refine Below.alloc ?_ (by first | (simp; done) | (simp; omega) | omega) _) | (refine Below.trans ?_ (Below.mono (by assumption) (by first | (simp; done) | (simp; omega) | omega)))))
set_option maxRecDepth 100000 in
set_option maxHeartbeats 1600000 in
theorem Clip_yes (p0 p1 p2 p3 lo hi : Nat) (w : World) (hE : clipE lo hi = 0) :
    Calls Try.prog 47 #[.agg #[.float .f32 p0, .float .f32 p1, .float .f32 p2, .float .f32 p3], .float .f32 lo, .float .f32 hi] w fun e w' =>
      e = .returned (.tuple #[.agg #[.float .f32 (limF p0 lo hi), .float .f32 (limF p1 lo hi), .float .f32 (limF p2 lo hi), .float .f32 (cn .f32 p3)], .int .i64 (dltZ p0 lo hi + dltZ p1 lo hi + dltZ p2 lo hi), .int .i64 0]) ∧ Below w.heap.size w w' := by
  have ha : allNum [lo, hi] = true := by
    unfold clipE at hE
    cases h : allNum [lo, hi] with
    | true => rfl
    | false => rw [h] at hE; simp at hE
  have ho : (FloatKind.f32.format.order hi lo == some .lt) = false := by
    unfold clipE at hE
    cases h : (FloatKind.f32.format.order hi lo == some .lt) with
    | false => rfl
    | true => rw [ha, h] at hE; simp at hE
  clear hE
  go_enter Try.func47, Try.ntmps47
  go_wp2_with (first | (go_at_call 133; refine (All2_any _ _ _ lo hi _ (by simp [go_sem]) (by simp [go_sem])).mono ?_; rintro e w' ⟨rfl, rfl⟩))
  refine (three_clip lo hi _ _ _ p0 p1 p2 p3 _ ⟨by simp [go_sem], by simp [go_sem]⟩ ⟨by simp [go_sem], by simp [go_sem]⟩ ⟨by simp [go_sem], by simp [go_sem]⟩ (by first | (simp; done) | (simp; omega)) (by first | (simp; done) | (simp; omega)) (by simp) (by omega) (by omega)).mono ?_
  rintro e w1 ⟨rfl, hb1, hM1, hs1⟩
  simp at hs1
  have R1 : Pix4 w1 (w.heap.size + 1 + 1 + 1) 0 0 0 0 := Pix4.below (n := w.heap.size + 1 + 1 + 1 + 1 + 1) ⟨by simp [go_sem], by simp [go_sem], by simp [go_sem], by simp [go_sem], fun o => by simp [go_sem]⟩ hb1 (by omega)
  have B1 : Below w.heap.size w w1 := by (repeat (first | exact Below.refl _ _ | assumption | (refine Below.setCell ?_ (by first | (simp; done) | (simp; omega) | omega) _) | (refine Below.drew ?_) | (refine below_drewN ?_ _) | (refine Below.alloc ?_ (by first | (simp; done) | (simp; omega) | omega) _) | (refine Below.trans ?_ (Below.mono (by assumption) (by first | (simp; done) | (simp; omega) | omega)))))
  obtain ⟨m0, mf⟩ := hM1
  obtain ⟨g0, g1, g2, g3, gf⟩ := R1
  clear hb1
  have q0 : w.heap.size + 1 + 1 + 1 < w1.heap.size := by omega
  have q1 : w.heap.size + 1 + 1 + 1 + 1 + 1 < w1.heap.size := by omega
  clear hs1
  go_wp2
  go_region
  all_goals (try go_wp2)
  all_goals
    refine bodyPost_ret (v := .tuple #[.agg #[.float .f32 (limF p0 lo hi), .float .f32 (limF p1 lo hi), .float .f32 (limF p2 lo hi), .float .f32 (cn .f32 p3)], .int .i64 (dltZ p0 lo hi + dltZ p1 lo hi + dltZ p2 lo hi), .int .i64 0]) (by simp [results, Try.results47, go_sem, *]) rfl ⟨rfl, ?_⟩
    (repeat (first | exact Below.refl _ _ | assumption | (refine Below.setCell ?_ (by first | (simp; done) | (simp; omega) | omega) _) | (refine Below.drew ?_) | (refine below_drewN ?_ _) | (refine Below.alloc ?_ (by first | (simp; done) | (simp; omega) | omega) _) | (refine Below.trans ?_ (Below.mono (by assumption) (by first | (simp; done) | (simp; omega) | omega)))))
end Go.Proofs.Ytmckkgbdlgldbaa

namespace Go.Proofs.Ytmckkgbdlgldbaa
open Go.RowKit
set_option maxHeartbeats 4000000 in
theorem pix_zero (w : World) : (Op.equalIn 10000 65 (.agg #[.float .f32 0, .float .f32 0, .float .f32 0, .float .f32 0]) (.agg #[.float .f32 0, .float .f32 0, .float .f32 0, .float .f32 0])).run Try.prog w = .ok true w := by
  have h1 := Try.underlying65
  have h2 := Try.underlying38
  have g0 : ∀ w, (part 38 #[.float .f32 0, .float .f32 0, .float .f32 0, .float .f32 0] 0).run Try.prog w = .ok (.float .f32 0) w := fun _ => by kernel_rfl
  have g1 : ∀ w, (part 38 #[.float .f32 0, .float .f32 0, .float .f32 0, .float .f32 0] 1).run Try.prog w = .ok (.float .f32 0) w := fun _ => by kernel_rfl
  have g2 : ∀ w, (part 38 #[.float .f32 0, .float .f32 0, .float .f32 0, .float .f32 0] 2).run Try.prog w = .ok (.float .f32 0) w := fun _ => by kernel_rfl
  have g3 : ∀ w, (part 38 #[.float .f32 0, .float .f32 0, .float .f32 0, .float .f32 0] 3).run Try.prog w = .ok (.float .f32 0) w := fun _ => by kernel_rfl
  rw [show (10000 : Nat) = 9998 + 1 + 1 from rfl]
  generalize 9998 = d
  have h4 : ∀ w, (sizeOf 38).run Try.prog w = .ok 1 w := fun _ => by kernel_rfl
  have h5 : Op.floatEq .f32 0 0 = true := by decide
  simp [Op.equalIn, run_underlying h1, run_underlying h2, Sem.run_bind, Sem.run_pure, Result.andThen_ok, List.range', h4, h5, g0, g1, g2, g3]
end Go.Proofs.Ytmckkgbdlgldbaa

namespace Go.Proofs.Ytmckkgbdlgldbaa
open Go Go.RowKit
theorem loose_pass {P : Program} {ops : Array Oper} {W : World} {Ψ : FuncId → Array Value → Value → Prop} {L : Act → Prop} {rest : List Oper} {a : Act} {o : Oper} (hw : Region.wanted o (yielded ops a.tmps) = false)
    (h : ∀ K : Act → Prop, (∀ a, wpLoose P ops W Ψ L rest a → K a) → K (a.put o.dst undef)) : wpLoose P ops W Ψ L (o :: rest) a := loose_skip hw (h _ fun _ h => h)
def oLt : Ordering → Bool | .lt => true | .eq => false | .gt => false
def oEq : Ordering → Bool | .lt => false | .eq => true | .gt => false
def oGt : Ordering → Bool | .lt => false | .eq => false | .gt => true
theorem ord_some {u v : Nat} (hu : isNum .f32 u = true) (hv : isNum .f32 v = true) : ∃ o, (FloatKind.f32.format.order u v == some .lt) = oLt o ∧ (FloatKind.f32.format.order u v == some .eq) = oEq o ∧ (FloatKind.f32.format.order u v == some .gt) = oGt o := by
  have nu := isNum_not_nan hu
  have nv := isNum_not_nan hv
  rw [ord_lt nu nv, ord_eq nu nv, ord_gt nu nv]
  rcases Int.lt_trichotomy (key FloatKind.f32.format u) (key FloatKind.f32.format v) with h | h | h
  · exact ⟨.lt, by simp [oLt]; omega, by simp [oEq]; omega, by simp [oGt]; omega⟩
  · exact ⟨.eq, by simp [oLt]; omega, by simp [oEq]; omega, by simp [oGt]; omega⟩
  · exact ⟨.gt, by simp [oLt]; omega, by simp [oEq]; omega, by simp [oGt]; omega⟩
theorem ord_flip {u v : Nat} (hu : isNum .f32 u = true) (hv : isNum .f32 v = true) : (FloatKind.f32.format.order u v == some .lt) = (FloatKind.f32.format.order v u == some .gt) := by
  have nu := isNum_not_nan hu
  have nv := isNum_not_nan hv
  rw [ord_lt nu nv, ord_gt nv nu]
theorem num_01 : isNum .f32 0 = true ∧ isNum .f32 1065353216 = true := by constructor <;> decide +kernel
/-- The error of a bound from which on it is compressed. -/
def cmpE (f : Nat) : Int := if isNum .f32 f then (if FloatKind.f32.format.order f 0 == some .lt then 3 else if (FloatKind.f32.format.order f 1065353216 == some .gt) || (FloatKind.f32.format.order f 1065353216 == some .eq) then 3 else 0) else 2
theorem cmpE_zero {f : Nat} (h : cmpE f = 0) : isNum .f32 f = true ∧ (FloatKind.f32.format.order f 0 == some .lt) = false ∧ (FloatKind.f32.format.order f 1065353216 == some .gt) = false ∧ (FloatKind.f32.format.order f 1065353216 == some .eq) = false ∧ (FloatKind.f32.format.order 1065353216 f == some .gt) = true := by
  unfold cmpE at h
  cases hn : isNum .f32 f with
  | false => rw [hn] at h; simp at h
  | true =>
    rw [hn] at h
    obtain ⟨o, h1, h2, h3⟩ := ord_some hn num_01.1
    obtain ⟨o', g1, g2, g3⟩ := ord_some hn num_01.2
    have g4 := ord_flip hn num_01.2
    rw [g1] at g4
    rw [h1, g2, g3] at h
    rw [h1, g2, g3, ← g4]
    cases o <;> cases o' <;> simp_all [oLt, oEq, oGt]
theorem Compress_any (p0 p1 p2 p3 f : Nat) (w : World) (h0 : p0 < 2 ^ FloatKind.f32.format.width) (h1 : p1 < 2 ^ FloatKind.f32.format.width) (h2 : p2 < 2 ^ FloatKind.f32.format.width) :
    Calls Try.prog 43 #[.agg #[.float .f32 p0, .float .f32 p1, .float .f32 p2, .float .f32 p3], .float .f32 f] w fun e w' =>
      ∃ q0 q1 q2 q3, e = .returned (.tuple #[.agg #[.float .f32 q0, .float .f32 q1, .float .f32 q2, .float .f32 q3], .int .i64 (cmpE f)]) ∧ (cmpE f ≠ 0 → q0 = 0 ∧ q1 = 0 ∧ q2 = 0 ∧ q3 = 0) ∧
        (cmpE f = 0 → q0 = docF (maxF p0 p1 p2) (staysF p0 p1 p2) f p0 ∧ q1 = docF (maxF p0 p1 p2) (staysF p0 p1 p2) f p1 ∧ q2 = docF (maxF p0 p1 p2) (staysF p0 p1 p2) f p2 ∧ q3 = cn .f32 p3) ∧ Below w.heap.size w w' := by
  cases hn : isNum .f32 f with
  | false =>
    have e : cmpE f = 2 := by unfold cmpE; rw [hn]; rfl
    refine (Compress_form p0 p1 p2 p3 f w hn).mono ?_
    rintro e w' ⟨rfl, hb⟩
    exact ⟨0, 0, 0, 0, by rw [e], fun _ => ⟨rfl, rfl, rfl, rfl⟩, fun h => absurd (e.symm.trans h) (by decide), hb⟩
  | true =>
    by_cases hr : (FloatKind.f32.format.order f 0 == some .lt) = true ∨ (FloatKind.f32.format.order f 0 == some .lt) = false ∧ ((FloatKind.f32.format.order f 1065353216 == some .gt) || (FloatKind.f32.format.order f 1065353216 == some .eq)) = true
    · have e : cmpE f = 3 := by
        unfold cmpE; rw [hn]
        rcases hr with h | ⟨h, h'⟩
        · rw [h]; rfl
        · rw [h, h']; rfl
      refine (Compress_range p0 p1 p2 p3 f w hn hr).mono ?_
      rintro e w' ⟨rfl, hb⟩
      exact ⟨0, 0, 0, 0, by rw [e], fun _ => ⟨rfl, rfl, rfl, rfl⟩, fun h => absurd (e.symm.trans h) (by decide), hb⟩
    · have e : cmpE f = 0 := by
        unfold cmpE; rw [hn]
        simp only [not_or, not_and, Bool.not_eq_true] at hr
        rw [hr.1, hr.2 hr.1]; rfl
      obtain ⟨-, c1, c2, c3, c4⟩ := cmpE_zero e
      refine (Compress_yes p0 p1 p2 p3 f w h0 h1 h2 hn c1 c2 c3).mono ?_
      rintro e w' ⟨rfl, hb⟩
      have E : ∀ a st v, compF a st f v = docF a st f v := fun a st v => by
        cases st with
        | false => exact comp_eq hn c1 c4
        | true => unfold compF docF; rfl
      exact ⟨_, _, _, _, by rw [e], fun h => absurd e h, fun _ => ⟨E _ _ _, E _ _ _, E _ _ _, rfl⟩, hb⟩
theorem Clip_any (p0 p1 p2 p3 lo hi : Nat) (w : World) :
    Calls Try.prog 47 #[.agg #[.float .f32 p0, .float .f32 p1, .float .f32 p2, .float .f32 p3], .float .f32 lo, .float .f32 hi] w fun e w' =>
      ∃ q0 q1 q2 q3 n, e = .returned (.tuple #[.agg #[.float .f32 q0, .float .f32 q1, .float .f32 q2, .float .f32 q3], .int .i64 n, .int .i64 (clipE lo hi)]) ∧ (clipE lo hi ≠ 0 → q0 = 0 ∧ q1 = 0 ∧ q2 = 0 ∧ q3 = 0 ∧ n = 0) ∧
        (clipE lo hi = 0 → q0 = limF p0 lo hi ∧ q1 = limF p1 lo hi ∧ q2 = limF p2 lo hi ∧ q3 = cn .f32 p3 ∧ n = dltZ p0 lo hi + dltZ p1 lo hi + dltZ p2 lo hi) ∧ Below w.heap.size w w' := by
  by_cases hE : clipE lo hi = 0
  · refine (Clip_yes p0 p1 p2 p3 lo hi w hE).mono ?_
    rintro e w' ⟨rfl, hb⟩
    exact ⟨_, _, _, _, _, by rw [hE], fun h => absurd hE h, fun _ => ⟨rfl, rfl, rfl, rfl, rfl⟩, hb⟩
  · refine (Clip_err p0 p1 p2 p3 lo hi w hE).mono ?_
    rintro e w' ⟨rfl, hb⟩
    exact ⟨0, 0, 0, 0, 0, rfl, fun _ => ⟨rfl, rfl, rfl, rfl, rfl⟩, fun h => absurd h hE, hb⟩
end Go.Proofs.Ytmckkgbdlgldbaa
