/- A function done to red, green and blue (finish.three). No condition. -/
import Derived.Test.YtalgepfammpmbaaThree
import Derived.Test.YtalgepfammpmbaaLevC
namespace Go.Proofs.Ytalgepfammpmbaa
open Go.RowKit
/-- A block that holds a pixel. -/
structure Pix4 (w : World) (b v0 v1 v2 v3 : Nat) : Prop where
  c0 : w.cell? ⟨b, 0, none⟩ = some (.float .f32 v0)
  c1 : w.cell? ⟨b, 1, none⟩ = some (.float .f32 v1)
  c2 : w.cell? ⟨b, 2, none⟩ = some (.float .f32 v2)
  c3 : w.cell? ⟨b, 3, none⟩ = some (.float .f32 v3)
  f : ∀ o, w.frozen? ⟨b, o, none⟩ = false
theorem Pix4.below {W w : World} {n b v0 v1 v2 v3 : Nat} (h : Pix4 W b v0 v1 v2 v3) (hb : Below n W w) (hn : b < n) : Pix4 w b v0 v1 v2 v3 :=
  ⟨(hb.cell (p := ⟨b, 0, none⟩) hn).trans h.c0, (hb.cell (p := ⟨b, 1, none⟩) hn).trans h.c1, (hb.cell (p := ⟨b, 2, none⟩) hn).trans h.c2, (hb.cell (p := ⟨b, 3, none⟩) hn).trans h.c3, fun o => (hb.frozen (p := ⟨b, o, none⟩) hn).trans (h.f o)⟩
theorem Pix4.set0 {w : World} {b v0 v1 v2 v3 : Nat} (h : Pix4 w b v0 v1 v2 v3) (x : Nat) : Pix4 (w.setCell ⟨b, 0, none⟩ (.float .f32 x)) b x v1 v2 v3 :=
  ⟨World.cell?_setCell_same _ _ _ h.c0, (World.cell?_setCell_other _ _ _ _ (by simp)).trans h.c1, (World.cell?_setCell_other _ _ _ _ (by simp)).trans h.c2, (World.cell?_setCell_other _ _ _ _ (by simp)).trans h.c3, fun o => (World.frozen?_setCell _ _ _ _).trans (h.f o)⟩
theorem Pix4.set1 {w : World} {b v0 v1 v2 v3 : Nat} (h : Pix4 w b v0 v1 v2 v3) (x : Nat) : Pix4 (w.setCell ⟨b, 1, none⟩ (.float .f32 x)) b v0 x v2 v3 :=
  ⟨(World.cell?_setCell_other _ _ _ _ (by simp)).trans h.c0, World.cell?_setCell_same _ _ _ h.c1, (World.cell?_setCell_other _ _ _ _ (by simp)).trans h.c2, (World.cell?_setCell_other _ _ _ _ (by simp)).trans h.c3, fun o => (World.frozen?_setCell _ _ _ _).trans (h.f o)⟩
theorem Pix4.far {w : World} {b v0 v1 v2 v3 : Nat} (h : Pix4 w b v0 v1 v2 v3) (q : Addr) (x : Value) (hq : q.block ≠ b) : Pix4 (w.setCell q x) b v0 v1 v2 v3 :=
  ⟨(World.cell?_setCell_other _ _ _ _ (by rintro rfl; exact hq rfl)).trans h.c0, (World.cell?_setCell_other _ _ _ _ (by rintro rfl; exact hq rfl)).trans h.c1, (World.cell?_setCell_other _ _ _ _ (by rintro rfl; exact hq rfl)).trans h.c2, (World.cell?_setCell_other _ _ _ _ (by rintro rfl; exact hq rfl)).trans h.c3, fun o => (World.frozen?_setCell _ _ _ _).trans (h.f o)⟩
theorem Pix4.new (w : World) (v0 v1 v2 v3 t : Nat) : Pix4 (w.alloc (.cells #[.float .f32 v0, .float .f32 v1, .float .f32 v2, .float .f32 v3] t)) w.heap.size v0 v1 v2 v3 :=
  ⟨by simp [go_sem], by simp [go_sem], by simp [go_sem], by simp [go_sem], fun o => by simp [go_sem]⟩
set_option maxRecDepth 100000 in
set_option maxHeartbeats 800000 in
theorem three_any (K : Nat) (caps : Array Value) (g : Int → Nat → Nat) (p0 p1 p2 p3 : Nat) (w : World) (h0 : p0 < 2 ^ FloatKind.f32.format.width) (h1 : p1 < 2 ^ FloatKind.f32.format.width) (h2 : p2 < 2 ^ FloatKind.f32.format.width)
    (hent : ∀ args w, (callFunc K args).run Try.prog w = .ok (.enter K args) w)
    (hk : ∀ c v w', Below w.heap.size w w' → v < 2 ^ FloatKind.f32.format.width → Calls Try.prog K (#[.int .i64 c, .float .f32 v] ++ caps) w' fun e w'' => ∃ r, e = .returned (.float .f32 r) ∧ FR .f32 r (g c v) ∧ Below w'.heap.size w' w'') :
    Calls Try.prog 133 #[.agg #[.float .f32 p0, .float .f32 p1, .float .f32 p2, .float .f32 p3], .func (.func K) #[] caps] w fun e w' =>
      e = .returned (.agg #[.float .f32 (g 0 p0), .float .f32 (g 1 p1), .float .f32 (g 2 p2), .float .f32 (cn .f32 p3)]) ∧ Below w.heap.size w w' := by
  have hk' := Lib.hid hk; clear hk
  have h0' := Lib.hid h0; clear h0
  have h1' := Lib.hid h1; clear h1
  have h2' := Lib.hid h2; clear h2
  go_enter Try.func133, Try.ntmps133
  go_wp2
  refine wp_loop_rounds 4 ?_
  go_wp2_with (simp only [rounds_succ])
  refine (hk'.out _ _ _ ?_ h0'.out).mono ?_
  · (repeat (first | exact Below.refl _ _ | assumption | (refine Below.setCell ?_ (by first | (simp; done) | (simp; omega) | omega) _) | (refine Below.drew ?_) | (refine below_drewN ?_ _) | (refine Below.alloc ?_ (by first | (simp; done) | (simp; omega) | omega) _) | (refine Below.trans ?_ (Below.mono (by assumption) (by first | (simp; done) | (simp; omega) | omega)))))
  rintro e w1 ⟨r0, rfl, hr0, hb0⟩
  have e0 := hr0.eq
  have hs := hb0.size
  simp at hs
  have q0 : w.heap.size < w1.heap.size := by omega
  have qq0 : w.heap.size + 1 < w1.heap.size := by omega
  have P1 : Pix4 w1 w.heap.size p0 p1 p2 p3 := ((Pix4.new w p0 p1 p2 p3 _).below (Below.alloc (Below.refl (w.heap.size + 1) _) (by simp) _) (by omega)).below hb0 (by simp; omega)
  have R1 : Pix4 w1 (w.heap.size + 1) 0 0 0 0 := (by have := Pix4.new (w.alloc (.cells #[.float .f32 p0, .float .f32 p1, .float .f32 p2, .float .f32 p3] 41)) 0 0 0 0 41; simpa using this : Pix4 _ (w.heap.size + 1) 0 0 0 0).below hb0 (by simp)
  have B1 : Below w.heap.size w w1 := by (repeat (first | exact Below.refl _ _ | assumption | (refine Below.setCell ?_ (by first | (simp; done) | (simp; omega) | omega) _) | (refine Below.drew ?_) | (refine below_drewN ?_ _) | (refine Below.alloc ?_ (by first | (simp; done) | (simp; omega) | omega) _) | (refine Below.trans ?_ (Below.mono (by assumption) (by first | (simp; done) | (simp; omega) | omega)))))
  clear hb0
  have hP1 := Lib.hid P1; have hR1 := Lib.hid R1
  obtain ⟨c0, c1, c2, c3, pf⟩ := P1
  obtain ⟨d0, d1, d2, d3, rf⟩ := R1
  clear hs
  go_wp2_with (first | simp only [rounds_succ] | (go_at_call 180; refine (Clean_any _ _).mono ?_; rintro e w' ⟨rfl, rfl⟩))
  refine (hk'.out _ _ _ ?_ h1'.out).mono ?_
  · (repeat (first | exact Below.refl _ _ | assumption | (refine Below.setCell ?_ (by first | (simp; done) | (simp; omega) | omega) _) | (refine Below.drew ?_) | (refine below_drewN ?_ _) | (refine Below.alloc ?_ (by first | (simp; done) | (simp; omega) | omega) _) | (refine Below.trans ?_ (Below.mono (by assumption) (by first | (simp; done) | (simp; omega) | omega)))))
  rintro e w2 ⟨r1, rfl, hr1, hb1⟩
  have e1 := hr1.eq
  have hs := hb1.size
  simp at hs
  have q1 : w.heap.size < w2.heap.size := by omega
  have qq1 : w.heap.size + 1 < w2.heap.size := by omega
  have P2 : Pix4 w2 w.heap.size (g 0 p0) p1 p2 p3 := (hP1.out.set0 _).below hb1 (by simpa using q0)
  have R2 : Pix4 w2 (w.heap.size + 1) 0 0 0 0 := (hR1.out.far _ _ (by simp)).below hb1 (by simpa using qq0)
  clear hP1 hR1 c0 c1 c2 c3 pf d0 d1 d2 d3 rf
  have B2 : Below w.heap.size w w2 := by (repeat (first | exact Below.refl _ _ | assumption | (refine Below.setCell ?_ (by first | (simp; done) | (simp; omega) | omega) _) | (refine Below.drew ?_) | (refine below_drewN ?_ _) | (refine Below.alloc ?_ (by first | (simp; done) | (simp; omega) | omega) _) | (refine Below.trans ?_ (Below.mono (by assumption) (by first | (simp; done) | (simp; omega) | omega)))))
  clear hb1
  have hP2 := Lib.hid P2; have hR2 := Lib.hid R2
  obtain ⟨c0, c1, c2, c3, pf⟩ := P2
  obtain ⟨d0, d1, d2, d3, rf⟩ := R2
  clear hs
  go_wp2_with (first | simp only [rounds_succ] | (go_at_call 180; refine (Clean_any _ _).mono ?_; rintro e w' ⟨rfl, rfl⟩))
  refine (hk'.out _ _ _ ?_ h2'.out).mono ?_
  · (repeat (first | exact Below.refl _ _ | assumption | (refine Below.setCell ?_ (by first | (simp; done) | (simp; omega) | omega) _) | (refine Below.drew ?_) | (refine below_drewN ?_ _) | (refine Below.alloc ?_ (by first | (simp; done) | (simp; omega) | omega) _) | (refine Below.trans ?_ (Below.mono (by assumption) (by first | (simp; done) | (simp; omega) | omega)))))
  rintro e w3 ⟨r2, rfl, hr2, hb2⟩
  have e2 := hr2.eq
  have hs := hb2.size
  simp at hs
  have q2 : w.heap.size < w3.heap.size := by omega
  have qq2 : w.heap.size + 1 < w3.heap.size := by omega
  have P3 : Pix4 w3 w.heap.size (g 0 p0) (g 1 p1) p2 p3 := (hP2.out.set1 _).below hb2 (by simpa using q1)
  have R3 : Pix4 w3 (w.heap.size + 1) 0 0 0 0 := (hR2.out.far _ _ (by simp)).below hb2 (by simpa using qq1)
  clear hP2 hR2 c0 c1 c2 c3 pf d0 d1 d2 d3 rf
  have B3 : Below w.heap.size w w3 := by (repeat (first | exact Below.refl _ _ | assumption | (refine Below.setCell ?_ (by first | (simp; done) | (simp; omega) | omega) _) | (refine Below.drew ?_) | (refine below_drewN ?_ _) | (refine Below.alloc ?_ (by first | (simp; done) | (simp; omega) | omega) _) | (refine Below.trans ?_ (Below.mono (by assumption) (by first | (simp; done) | (simp; omega) | omega)))))
  clear hb2
  have hP3 := Lib.hid P3; have hR3 := Lib.hid R3
  obtain ⟨c0, c1, c2, c3, pf⟩ := P3
  obtain ⟨d0, d1, d2, d3, rf⟩ := R3
  clear hs
  go_wp2_with (first | simp only [rounds_succ] | (go_at_call 180; refine (Clean_any _ _).mono ?_; rintro e w' ⟨rfl, rfl⟩))
  refine bodyPost_ret (v := .agg #[.float .f32 (g 0 p0), .float .f32 (g 1 p1), .float .f32 (g 2 p2), .float .f32 (cn .f32 p3)]) ?_ rfl ⟨rfl, ?_⟩
  · simp [results, Try.results133, go_sem, *]
  · exact (((((B3.setCell (by simp) _).setCell (by simp) _).setCell (by simp) _).setCell (by simp) _).setCell (by simp) _).setCell (by simp) _
end Go.Proofs.Ytalgepfammpmbaa
