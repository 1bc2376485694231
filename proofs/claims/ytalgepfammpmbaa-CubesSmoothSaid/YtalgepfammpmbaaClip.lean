/- finish.Clip's closure, and three with it: it counts in a variable of Clip's. No condition. -/
import Derived.Test.YtalgepfammpmbaaCompB
namespace Go.Proofs.Ytalgepfammpmbaa
open Go.RowKit
/-- All but the block M is as it was. -/
structure Ex (M : Nat) (w w' : World) : Prop where
  b : ∀ n, n ≤ M → Below n w w'
  c : ∀ b o, b ≠ M → w'.cell? ⟨b, o, none⟩ = w.cell? ⟨b, o, none⟩
  f : ∀ b o, w'.frozen? ⟨b, o, none⟩ = w.frozen? ⟨b, o, none⟩
  s : w'.heap.size = w.heap.size
theorem Ex.refl (M : Nat) (w : World) : Ex M w w := ⟨fun _ _ => Below.refl _ _, fun _ _ _ => rfl, fun _ _ => rfl, rfl⟩
theorem Ex.set (M : Nat) (w : World) (v : Value) : Ex M w (w.setCell ⟨M, 0, none⟩ v) :=
  ⟨fun n hn => (Below.refl _ _).setCell hn _, fun b o h => World.cell?_setCell_other _ _ _ _ (by intro e; cases e; exact h rfl), fun _ _ => World.frozen?_setCell _ _ _ _, by simp [World.setCell]⟩
theorem Pix4.ex {w w' : World} {M b v0 v1 v2 v3 : Nat} (h : Pix4 w b v0 v1 v2 v3) (e : Ex M w w') (hb : b ≠ M) : Pix4 w' b v0 v1 v2 v3 :=
  ⟨(e.c _ _ hb).trans h.c0, (e.c _ _ hb).trans h.c1, (e.c _ _ hb).trans h.c2, (e.c _ _ hb).trans h.c3, fun o => (e.f _ o).trans (h.f o)⟩
theorem One.ex {w w' : World} {M b : Nat} {v : Value} (h : One w b v) (e : Ex M w w') (hb : b ≠ M) : One w' b v := ⟨(e.c _ _ hb).trans h.c, (e.f _ _).trans h.f⟩
/-- 1 where a value is not within the bounds. -/
def dltZ (v lo hi : Nat) : Int := if cn .f32 (limF v lo hi) = cn .f32 v then 0 else 1
set_option maxHeartbeats 800000 in
theorem clip_one (lo hi v pl ph pm : Nat) (k c : Int) (w : World) (hl : One w pl (.float .f32 lo)) (hh : One w ph (.float .f32 hi)) (hm : One w pm (.int .i64 k)) (hk : 0 ≤ k ∧ k ≤ 3) :
    Calls Try.prog 136 #[.int .i64 c, .float .f32 v, .pointer (some ⟨pl, 0, none⟩), .pointer (some ⟨ph, 0, none⟩), .pointer (some ⟨pm, 0, none⟩)] w fun e w' =>
      e = .returned (.float .f32 (limF v lo hi)) ∧ Ex pm w w' ∧ One w' pm (.int .i64 (k + dltZ v lo hi)) := by
  obtain ⟨l0, -⟩ := hl
  obtain ⟨h0, -⟩ := hh
  obtain ⟨m0, mf⟩ := id hm
  have hm' := Lib.hid hm; clear hm
  obtain ⟨k0, k1⟩ := hk
  go_enter Try.func136, Try.ntmps136
  go_wp2_with (first | (go_at_call 137; refine (Limit_any _ _ _ _).mono ?_; rintro e w' ⟨rfl, rfl⟩) | (go_at_call 112; refine (Bits_any _ _).mono ?_; rintro e w' ⟨rfl, rfl⟩))
  · rename_i h
    go_ret
    refine ⟨rfl, Ex.set _ _ _, ?_⟩
    have e : dltZ v lo hi = 1 := by
      have h' : ¬ ((cn .f32 (limF v lo hi) : Nat) : Int) = ((cn .f32 v : Nat) : Int) := by simpa using h
      unfold dltZ; rw [if_neg (by omega)]
    rw [e]; exact hm'.out.set _
  · rename_i h
    go_ret
    have e : dltZ v lo hi = 0 := by
      have h' : ((cn .f32 (limF v lo hi) : Nat) : Int) = ((cn .f32 v : Nat) : Int) := by simpa using h
      unfold dltZ; rw [if_pos (by omega)]
    refine ⟨rfl, Ex.refl _ _, ?_⟩
    rw [e, Int.add_zero]; exact hm'.out
theorem dlt_bd (v lo hi : Nat) : 0 ≤ dltZ v lo hi ∧ dltZ v lo hi ≤ 1 := by unfold dltZ; split <;> omega
theorem cn_lim (v lo hi : Nat) : cn .f32 (limF v lo hi) = limF v lo hi := by unfold limF; split; exact cn_cn _ _; split <;> exact cn_cn _ _
set_option maxRecDepth 100000 in
set_option maxHeartbeats 1600000 in
theorem three_clip (lo hi pl ph pm p0 p1 p2 p3 : Nat) (w : World) (hl : One w pl (.float .f32 lo)) (hh : One w ph (.float .f32 hi)) (hm : One w pm (.int .i64 0)) (ql : pl < w.heap.size) (qh : ph < w.heap.size) (qm : pm < w.heap.size) (nl : pl ≠ pm) (nh : ph ≠ pm) :
    Calls Try.prog 133 #[.agg #[.float .f32 p0, .float .f32 p1, .float .f32 p2, .float .f32 p3], .func (.func 136) #[] #[.pointer (some ⟨pl, 0, none⟩), .pointer (some ⟨ph, 0, none⟩), .pointer (some ⟨pm, 0, none⟩)]] w fun e w' =>
      e = .returned (.agg #[.float .f32 (limF p0 lo hi), .float .f32 (limF p1 lo hi), .float .f32 (limF p2 lo hi), .float .f32 (cn .f32 p3)]) ∧ Below pm w w' ∧ One w' pm (.int .i64 (dltZ p0 lo hi + dltZ p1 lo hi + dltZ p2 lo hi)) ∧ w.heap.size ≤ w'.heap.size := by
  have s0 := dlt_bd p0 lo hi
  have s1 := dlt_bd p1 lo hi
  have s2 := dlt_bd p2 lo hi
  have hd := Lib.hid (And.intro s0 (And.intro s1 s2)); clear s0 s1 s2
  have t0 := cn_lim p0 lo hi
  have t1 := cn_lim p1 lo hi
  have t2 := cn_lim p2 lo hi
  have hl' := Lib.hid hl; clear hl
  have hh' := Lib.hid hh; clear hh
  have hm' := Lib.hid hm; clear hm
  go_enter Try.func133, Try.ntmps133
  go_wp2
  refine wp_loop_rounds 4 ?_
  go_wp2_with (simp only [rounds_succ])
  have L0 := hl'.out.below (n := w.heap.size) (w := (w.alloc (.cells #[.float .f32 p0, .float .f32 p1, .float .f32 p2, .float .f32 p3] 41)).alloc (.cells #[.float .f32 0, .float .f32 0, .float .f32 0, .float .f32 0] 41)) (by (repeat (first | exact Below.refl _ _ | assumption | (refine Below.setCell ?_ (by first | (simp; done) | (simp; omega) | omega) _) | (refine Below.drew ?_) | (refine below_drewN ?_ _) | (refine Below.alloc ?_ (by first | (simp; done) | (simp; omega) | omega) _) | (refine Below.trans ?_ (Below.mono (by assumption) (by first | (simp; done) | (simp; omega) | omega)))))) ql
  have H0 := hh'.out.below (n := w.heap.size) (w := (w.alloc (.cells #[.float .f32 p0, .float .f32 p1, .float .f32 p2, .float .f32 p3] 41)).alloc (.cells #[.float .f32 0, .float .f32 0, .float .f32 0, .float .f32 0] 41)) (by (repeat (first | exact Below.refl _ _ | assumption | (refine Below.setCell ?_ (by first | (simp; done) | (simp; omega) | omega) _) | (refine Below.drew ?_) | (refine below_drewN ?_ _) | (refine Below.alloc ?_ (by first | (simp; done) | (simp; omega) | omega) _) | (refine Below.trans ?_ (Below.mono (by assumption) (by first | (simp; done) | (simp; omega) | omega)))))) qh
  have M0 := hm'.out.below (n := w.heap.size) (w := (w.alloc (.cells #[.float .f32 p0, .float .f32 p1, .float .f32 p2, .float .f32 p3] 41)).alloc (.cells #[.float .f32 0, .float .f32 0, .float .f32 0, .float .f32 0] 41)) (by (repeat (first | exact Below.refl _ _ | assumption | (refine Below.setCell ?_ (by first | (simp; done) | (simp; omega) | omega) _) | (refine Below.drew ?_) | (refine below_drewN ?_ _) | (refine Below.alloc ?_ (by first | (simp; done) | (simp; omega) | omega) _) | (refine Below.trans ?_ (Below.mono (by assumption) (by first | (simp; done) | (simp; omega) | omega)))))) qm
  have P0 : Pix4 ((w.alloc (.cells #[.float .f32 p0, .float .f32 p1, .float .f32 p2, .float .f32 p3] 41)).alloc (.cells #[.float .f32 0, .float .f32 0, .float .f32 0, .float .f32 0] 41)) w.heap.size p0 p1 p2 p3 := ⟨by simp [go_sem], by simp [go_sem], by simp [go_sem], by simp [go_sem], fun o => by simp [go_sem]⟩
  have R0 : Pix4 ((w.alloc (.cells #[.float .f32 p0, .float .f32 p1, .float .f32 p2, .float .f32 p3] 41)).alloc (.cells #[.float .f32 0, .float .f32 0, .float .f32 0, .float .f32 0] 41)) (w.heap.size + 1) 0 0 0 0 := ⟨by simp [go_sem], by simp [go_sem], by simp [go_sem], by simp [go_sem], fun o => by simp [go_sem]⟩
  have B0 : Below pm w ((w.alloc (.cells #[.float .f32 p0, .float .f32 p1, .float .f32 p2, .float .f32 p3] 41)).alloc (.cells #[.float .f32 0, .float .f32 0, .float .f32 0, .float .f32 0] 41)) := ((Below.refl _ _).alloc (Nat.le_of_lt qm) _).alloc (by simp; omega) _
  have Z0 : ((w.alloc (.cells #[.float .f32 p0, .float .f32 p1, .float .f32 p2, .float .f32 p3] 41)).alloc (.cells #[.float .f32 0, .float .f32 0, .float .f32 0, .float .f32 0] 41)).heap.size = w.heap.size + 1 + 1 := by simp
  refine (clip_one lo hi p0 pl ph pm (0) _ _ L0 H0 M0 (by have := hd.out; omega)).mono ?_
  rintro e w1 ⟨rfl, hx1, M1⟩
  have L1 := L0.ex hx1 nl
  have H1 := H0.ex hx1 nh
  have P1 := P0.ex hx1 (by omega)
  have R1 := R0.ex hx1 (by omega)
  have B1 := B0.trans (hx1.b pm (Nat.le_refl _))
  have Z1 : w1.heap.size = w.heap.size + 1 + 1 := by rw [hx1.s]; exact Z0
  clear L0 H0 M0 P0 R0 B0 Z0
  have hL1 := Lib.hid L1; have hH1 := Lib.hid H1; have hM1 := Lib.hid M1; have hP1 := Lib.hid P1; have hR1 := Lib.hid R1; have hZ1 := Lib.hid Z1
  obtain ⟨c0, c1, c2, c3, pf⟩ := P1
  obtain ⟨d0, d1, d2, d3, rf⟩ := R1
  have q1 : w.heap.size < w1.heap.size := by omega
  have qq1 : w.heap.size + 1 < w1.heap.size := by omega
  clear L1 H1 M1 Z1 hx1
  go_wp2_with (first | simp only [rounds_succ] | (go_at_call 180; refine (Clean_any _ _).mono ?_; rintro e w' ⟨rfl, rfl⟩))
  refine (clip_one lo hi p1 pl ph pm (0 + dltZ p0 lo hi) _ _ (hL1.out.far _ _ (by simp; omega)) (hH1.out.far _ _ (by simp; omega)) (hM1.out.far _ _ (by simp; omega)) (by have := hd.out; omega)).mono ?_
  rintro e w2 ⟨rfl, hx2, M2⟩
  have L2 := (hL1.out.far _ _ (by simp; omega)).ex hx2 nl
  have H2 := (hH1.out.far _ _ (by simp; omega)).ex hx2 nh
  have P2 := (hP1.out.set0 _).ex hx2 (by omega)
  have R2 := (hR1.out.far _ _ (by simp)).ex hx2 (by omega)
  have B2 := (B1.setCell (by simp; omega) _).trans (hx2.b pm (Nat.le_refl _))
  have Z2 : w2.heap.size = w.heap.size + 1 + 1 := by rw [hx2.s]; simpa using hZ1.out
  clear hL1 hH1 hM1 hP1 hR1 hZ1 c0 c1 c2 c3 pf d0 d1 d2 d3 rf B1
  have hL2 := Lib.hid L2; have hH2 := Lib.hid H2; have hM2 := Lib.hid M2; have hP2 := Lib.hid P2; have hR2 := Lib.hid R2; have hZ2 := Lib.hid Z2
  obtain ⟨c0, c1, c2, c3, pf⟩ := P2
  obtain ⟨d0, d1, d2, d3, rf⟩ := R2
  have q2 : w.heap.size < w2.heap.size := by omega
  have qq2 : w.heap.size + 1 < w2.heap.size := by omega
  clear L2 H2 M2 Z2 hx2
  go_wp2_with (first | simp only [rounds_succ] | (go_at_call 180; refine (Clean_any _ _).mono ?_; rintro e w' ⟨rfl, rfl⟩))
  refine (clip_one lo hi p2 pl ph pm (0 + dltZ p0 lo hi + dltZ p1 lo hi) _ _ (hL2.out.far _ _ (by simp; omega)) (hH2.out.far _ _ (by simp; omega)) (hM2.out.far _ _ (by simp; omega)) (by have := hd.out; omega)).mono ?_
  rintro e w3 ⟨rfl, hx3, M3⟩
  have L3 := (hL2.out.far _ _ (by simp; omega)).ex hx3 nl
  have H3 := (hH2.out.far _ _ (by simp; omega)).ex hx3 nh
  have P3 := (hP2.out.set1 _).ex hx3 (by omega)
  have R3 := (hR2.out.far _ _ (by simp)).ex hx3 (by omega)
  have B3 := (B2.setCell (by simp; omega) _).trans (hx3.b pm (Nat.le_refl _))
  have Z3 : w3.heap.size = w.heap.size + 1 + 1 := by rw [hx3.s]; simpa using hZ2.out
  clear hL2 hH2 hM2 hP2 hR2 hZ2 c0 c1 c2 c3 pf d0 d1 d2 d3 rf B2
  have hL3 := Lib.hid L3; have hH3 := Lib.hid H3; have hM3 := Lib.hid M3; have hP3 := Lib.hid P3; have hR3 := Lib.hid R3; have hZ3 := Lib.hid Z3
  obtain ⟨c0, c1, c2, c3, pf⟩ := P3
  obtain ⟨d0, d1, d2, d3, rf⟩ := R3
  have q3 : w.heap.size < w3.heap.size := by omega
  have qq3 : w.heap.size + 1 < w3.heap.size := by omega
  clear L3 H3 M3 Z3 hx3
  go_wp2_with (first | simp only [rounds_succ] | (go_at_call 180; refine (Clean_any _ _).mono ?_; rintro e w' ⟨rfl, rfl⟩))
  refine bodyPost_ret (v := .agg #[.float .f32 (limF p0 lo hi), .float .f32 (limF p1 lo hi), .float .f32 (limF p2 lo hi), .float .f32 (cn .f32 p3)]) ?_ rfl ⟨rfl, ?_, ?_, ?_⟩
  · simp [results, Try.results133, go_sem, *]
  · exact (((((B3.setCell (by simp; omega) _).setCell (by simp; omega) _).setCell (by simp; omega) _).setCell (by simp; omega) _).setCell (by simp; omega) _).setCell (by simp; omega) _
  · have := hM3.out
    rw [Int.zero_add] at this
    exact (((((this.far _ _ (by simp; omega)).far _ _ (by simp; omega)).far _ _ (by simp; omega)).far _ _ (by simp; omega)).far _ _ (by simp; omega)).far _ _ (by simp; omega)
  · simp; omega
end Go.Proofs.Ytalgepfammpmbaa
