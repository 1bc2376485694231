/- finish.Compress, by its contract. No condition. -/
import Derived.Test.YtalgepfammpmbaaThreeB
namespace Go.Proofs.Ytalgepfammpmbaa
open Go.RowKit
/-- A function with a body is entered. -/
theorem body_enters {P : Program} {f : FuncId} {fn : Func} {c : Code} (hf : P.funcs[f]? = some fn) (hn : (fn.name == "runtime.NumGoroutine") = false) (hb : fn.body = some c) (args : Array Value) (w : World) : (callFunc f args).run P w = .ok (.enter f args) w := by
  have h1 : fn.name ≠ "runtime.NumGoroutine" := by simpa using hn
  simp [callFunc, hf, h1, hb]
theorem All3_any (b off cap p0 p1 p2 : Nat) (w : World) (c0 : w.cell? ⟨b, off, none⟩ = some (.float .f32 p0)) (c1 : w.cell? ⟨b, off + 1, none⟩ = some (.float .f32 p1)) (c2 : w.cell? ⟨b, off + 2, none⟩ = some (.float .f32 p2)) :
    Calls Try.prog 114 #[.slice (some ⟨b, off, none⟩) 3 cap] w fun e w' => e = .returned (.bool (allNum [p0, p1, p2])) ∧ w = w' :=
  AllNumbers_any b off 3 cap [p0, p1, p2] w rfl (by decide) (fun i hi => by rcases (show i = 0 ∨ i = 1 ∨ i = 2 by omega) with rfl | rfl | rfl; exact c0; exact c1; exact c2)
theorem All2_any (b off cap p0 p1 : Nat) (w : World) (c0 : w.cell? ⟨b, off, none⟩ = some (.float .f32 p0)) (c1 : w.cell? ⟨b, off + 1, none⟩ = some (.float .f32 p1)) :
    Calls Try.prog 114 #[.slice (some ⟨b, off, none⟩) 2 cap] w fun e w' => e = .returned (.bool (allNum [p0, p1])) ∧ w = w' :=
  AllNumbers_any b off 2 cap [p0, p1] w rfl (by decide) (fun i hi => by rcases (show i = 0 ∨ i = 1 by omega) with rfl | rfl; exact c0; exact c1)
/-- The greater of two, as the code picks it. -/
def pickF (a v : Nat) : Nat := if FloatKind.f32.format.order v a == some .gt then v else a
def maxF (p0 p1 p2 : Nat) : Nat := pickF (pickF p0 p1) p2
def staysF (p0 p1 p2 : Nat) : Bool := !(FloatKind.f32.format.order (maxF p0 p1 p2) 0 == some .gt) || !allNum [p0, p1, p2]
def pkF (p0 p1 p2 : Nat) : Nat → Nat
  | 0 => p0
  | 1 => pickF p0 p1
  | _ => maxF p0 p1 p2
theorem pick_t {a v : Nat} (h : (FloatKind.f32.format.order v a == some .gt) = true) : pickF a v = v := by unfold pickF; rw [if_pos h]
theorem pick_f {a v : Nat} (h : (FloatKind.f32.format.order v a == some .gt) = false) : pickF a v = a := by unfold pickF; rw [if_neg (by rw [h]; decide)]
/-- A block of one cell. -/
structure One (w : World) (b : Nat) (v : Value) : Prop where
  c : w.cell? ⟨b, 0, none⟩ = some v
  f : w.frozen? ⟨b, 0, none⟩ = false
theorem One.below {W w : World} {n b : Nat} {v : Value} (h : One W b v) (hb : Below n W w) (hn : b < n) : One w b v :=
  ⟨(hb.cell (p := ⟨b, 0, none⟩) hn).trans h.c, (hb.frozen (p := ⟨b, 0, none⟩) hn).trans h.f⟩
theorem One.set {w : World} {b : Nat} {v : Value} (h : One w b v) (u : Value) : One (w.setCell ⟨b, 0, none⟩ u) b u :=
  ⟨World.cell?_setCell_same _ _ _ h.c, (World.frozen?_setCell _ _ _ _).trans h.f⟩
theorem One.far {w : World} {b : Nat} {v : Value} (h : One w b v) (q : Addr) (x : Value) (hq : q.block ≠ b) : One (w.setCell q x) b v :=
  ⟨(World.cell?_setCell_other _ _ _ _ (by rintro rfl; exact hq rfl)).trans h.c, (World.frozen?_setCell _ _ _ _).trans h.f⟩
set_option maxRecDepth 100000 in
set_option maxHeartbeats 1600000 in
theorem Compress_yes (p0 p1 p2 p3 f : Nat) (w : World) (h0 : p0 < 2 ^ FloatKind.f32.format.width) (h1 : p1 < 2 ^ FloatKind.f32.format.width) (h2 : p2 < 2 ^ FloatKind.f32.format.width)
    (hn : isNum .f32 f = true) (hl : (FloatKind.f32.format.order f 0 == some .lt) = false) (hg : (FloatKind.f32.format.order f 1065353216 == some .gt) = false) (he : (FloatKind.f32.format.order f 1065353216 == some .eq) = false) :
    Calls Try.prog 43 #[.agg #[.float .f32 p0, .float .f32 p1, .float .f32 p2, .float .f32 p3], .float .f32 f] w fun e w' =>
      e = .returned (.tuple #[.agg #[.float .f32 (compF (maxF p0 p1 p2) (staysF p0 p1 p2) f p0), .float .f32 (compF (maxF p0 p1 p2) (staysF p0 p1 p2) f p1), .float .f32 (compF (maxF p0 p1 p2) (staysF p0 p1 p2) f p2), .float .f32 (cn .f32 p3)], .int .i64 0]) ∧ Below w.heap.size w w' := by
  go_enter Try.func43, Try.ntmps43
  go_wp2_with (first | (go_at_call 132; refine (IsNumber_any _ _).mono ?_; rintro e w' ⟨rfl, rfl⟩))
  go_loopw [27] (fun i wr => ∃ k : Nat, k ≤ 2 ∧ i = .int .i64 k ∧ One wr (w.heap.size + 1 + 1 + 1) (.float .f32 (pkF p0 p1 p2 k)) ∧ Pix4 wr w.heap.size p0 p1 p2 p3 ∧ One wr (w.heap.size + 1) (.float .f32 f) ∧ Pix4 wr (w.heap.size + 1 + 1) 0 0 0 0 ∧ wr.heap.size = w.heap.size + 1 + 1 + 1 + 1 ∧ Below w.heap.size w wr)
    (fun i _ => 2 - (intOf i).toNat)
  case atStart =>
    refine ⟨0, by decide, rfl, ⟨by simp [go_sem, pkF], by simp [go_sem]⟩, ⟨by simp [go_sem], by simp [go_sem], by simp [go_sem], by simp [go_sem], fun o => by simp [go_sem]⟩, ⟨by simp [go_sem], by simp [go_sem]⟩, ⟨by simp [go_sem], by simp [go_sem], by simp [go_sem], by simp [go_sem], fun o => by simp [go_sem]⟩, by simp, by (repeat (first | exact Below.refl _ _ | assumption | (refine Below.setCell ?_ (by first | (simp; done) | (simp; omega) | omega) _) | (refine Below.drew ?_) | (refine below_drewN ?_ _) | (refine Below.alloc ?_ (by first | (simp; done) | (simp; omega) | omega) _) | (refine Below.trans ?_ (Below.mono (by assumption) (by first | (simp; done) | (simp; omega) | omega)))))⟩
  case round =>
    obtain ⟨k, hk, rfl, ho, hp, hf, hr, hs, hb⟩ := hrel
    obtain ⟨oc, of⟩ := id ho
    obtain ⟨c0, c1, c2, c3, cf⟩ := id hp
    obtain ⟨fc, ff⟩ := id hf
    obtain ⟨d0, d1, d2, d3, df⟩ := id hr
    have ho' := Lib.hid ho; have hp' := Lib.hid hp; have hf' := Lib.hid hf; have hr' := Lib.hid hr
    clear ho hp hf hr
    rcases (show k = 0 ∨ k = 1 ∨ k = 2 by omega) with rfl | rfl | rfl
    · simp only [pkF] at oc
      go_wp2
      · rename_i h
        go_roundw
        case rel => exact ⟨1, by omega, rfl, by have := ho'.out.set (.float .f32 p1); simp only [pkF] at this ⊢; rw [pick_t h]; exact this, hp'.out.far _ _ (by first | (simp; done) | (simp; omega)), hf'.out.far _ _ (by first | (simp; done) | (simp; omega)), hr'.out.far _ _ (by first | (simp; done) | (simp; omega)), by simpa using hs, by (repeat (first | exact Below.refl _ _ | assumption | (refine Below.setCell ?_ (by first | (simp; done) | (simp; omega) | omega) _) | (refine Below.drew ?_) | (refine below_drewN ?_ _) | (refine Below.alloc ?_ (by first | (simp; done) | (simp; omega) | omega) _) | (refine Below.trans ?_ (Below.mono (by assumption) (by first | (simp; done) | (simp; omega) | omega)))))⟩
        case measure => simp [intOf]
      · rename_i h
        go_roundw
        case rel => exact ⟨1, by omega, rfl, by have := ho'.out; simp only [pkF] at this ⊢; rw [pick_f h]; exact this, hp'.out, hf'.out, hr'.out, hs, hb⟩
        case measure => simp [intOf]
    · simp only [pkF] at oc
      go_wp2
      · rename_i h
        go_roundw
        case rel => exact ⟨2, by omega, rfl, by have := ho'.out.set (.float .f32 p2); simp only [pkF, maxF] at this ⊢; rw [pick_t h]; exact this, hp'.out.far _ _ (by first | (simp; done) | (simp; omega)), hf'.out.far _ _ (by first | (simp; done) | (simp; omega)), hr'.out.far _ _ (by first | (simp; done) | (simp; omega)), by simpa using hs, by (repeat (first | exact Below.refl _ _ | assumption | (refine Below.setCell ?_ (by first | (simp; done) | (simp; omega) | omega) _) | (refine Below.drew ?_) | (refine below_drewN ?_ _) | (refine Below.alloc ?_ (by first | (simp; done) | (simp; omega) | omega) _) | (refine Below.trans ?_ (Below.mono (by assumption) (by first | (simp; done) | (simp; omega) | omega)))))⟩
        case measure => simp [intOf]
      · rename_i h
        go_roundw
        case rel => exact ⟨2, by omega, rfl, by have := ho'.out; simp only [pkF, maxF] at this ⊢; rw [pick_f h]; exact this, hp'.out, hf'.out, hr'.out, hs, hb⟩
        case measure => simp [intOf]
    · simp only [pkF] at oc
      generalize hA : maxF p0 p1 p2 = A at *
      go_wp2_with (first | (go_at_call 114; refine (All3_any _ _ _ p0 p1 p2 _ c0 c1 c2).mono ?_; rintro e w' ⟨rfl, rfl⟩))
      · rename_i hA0 _ _ _ _
        have hS : staysF p0 p1 p2 = (!allNum [p0, p1, p2]) := by unfold staysF; rw [hA]; rw [hA0]; rfl
        have b0 := (Below.refl wr.heap.size wr).alloc (Nat.le_refl _) (.cells #[.bool (!allNum [p0, p1, p2])] 4)
        have oA := (ho'.out.below b0 (by omega)); have oF := (hf'.out.below b0 (by omega)); have oR := (hr'.out.below b0 (by omega))
        have oS : One (wr.alloc (.cells #[.bool (!allNum [p0, p1, p2])] 4)) (w.heap.size + 1 + 1 + 1 + 1) (.bool (!allNum [p0, p1, p2])) := by rw [← hs]; exact ⟨by simp [go_sem], by simp [go_sem]⟩
        simp only [pkF, hA] at oA
        refine (three_any _ _ (fun _ v => compF A (!allNum [p0, p1, p2]) f v) p0 p1 p2 p3 _ h0 h1 h2 (body_enters Try.func134 (by kernel_rfl) rfl) (fun c v w' hb' hv => ?_)).mono ?_
        · refine (comp_code A f v _ _ _ (!allNum [p0, p1, p2]) c w' hv (oA.below hb' (by simp; omega)).c (oS.below hb' (by simp; omega)).c (oF.below hb' (by simp; omega)).c).mono ?_
          rintro e w'' ⟨r, m, rfl, hr, rfl⟩
          exact ⟨r, rfl, hr, below_drewN (Below.refl _ _) m⟩
        · rintro e w1 ⟨rfl, hb1⟩
          have oR1 := oR.below hb1 (by simp; omega)
          obtain ⟨g0, g1, g2, g3, gf⟩ := oR1
          clear c0 c1 c2 c3 cf d0 d1 d2 d3 df oc of fc ff
          go_wp2
          refine bodyPost_ret (v := .tuple #[.agg #[.float .f32 (compF A (!allNum [p0, p1, p2]) f p0), .float .f32 (compF A (!allNum [p0, p1, p2]) f p1), .float .f32 (compF A (!allNum [p0, p1, p2]) f p2), .float .f32 (cn .f32 p3)], .int .i64 0]) (by simp [results, Try.results43, go_sem, *]) rfl ⟨by rw [hA, hS], ?_⟩
          (repeat (first | exact Below.refl _ _ | assumption | (refine Below.setCell ?_ (by first | (simp; done) | (simp; omega) | omega) _) | (refine Below.drew ?_) | (refine below_drewN ?_ _) | (refine Below.alloc ?_ (by first | (simp; done) | (simp; omega) | omega) _) | (refine Below.trans ?_ (Below.mono (by assumption) (by first | (simp; done) | (simp; omega) | omega)))))
      · rename_i hA0 _ _ _ _
        have hS : staysF p0 p1 p2 = true := by unfold staysF; rw [hA]; simp [hA0]
        have b0 := (Below.refl wr.heap.size wr).alloc (Nat.le_refl _) (.cells #[.bool true] 4)
        have oA := (ho'.out.below b0 (by omega)); have oF := (hf'.out.below b0 (by omega)); have oR := (hr'.out.below b0 (by omega))
        have oS : One (wr.alloc (.cells #[.bool true] 4)) (w.heap.size + 1 + 1 + 1 + 1) (.bool true) := by rw [← hs]; exact ⟨by simp [go_sem], by simp [go_sem]⟩
        simp only [pkF, hA] at oA
        refine (three_any _ _ (fun _ v => compF A true f v) p0 p1 p2 p3 _ h0 h1 h2 (body_enters Try.func134 (by kernel_rfl) rfl) (fun c v w' hb' hv => ?_)).mono ?_
        · refine (comp_code A f v _ _ _ true c w' hv (oA.below hb' (by simp; omega)).c (oS.below hb' (by simp; omega)).c (oF.below hb' (by simp; omega)).c).mono ?_
          rintro e w'' ⟨r, m, rfl, hr, rfl⟩
          exact ⟨r, rfl, hr, below_drewN (Below.refl _ _) m⟩
        · rintro e w1 ⟨rfl, hb1⟩
          have oR1 := oR.below hb1 (by simp; omega)
          obtain ⟨g0, g1, g2, g3, gf⟩ := oR1
          clear c0 c1 c2 c3 cf d0 d1 d2 d3 df oc of fc ff
          go_wp2
          refine bodyPost_ret (v := .tuple #[.agg #[.float .f32 (compF A true f p0), .float .f32 (compF A true f p1), .float .f32 (compF A true f p2), .float .f32 (cn .f32 p3)], .int .i64 0]) (by simp [results, Try.results43, go_sem, *]) rfl ⟨by rw [hA, hS], ?_⟩
          (repeat (first | exact Below.refl _ _ | assumption | (refine Below.setCell ?_ (by first | (simp; done) | (simp; omega) | omega) _) | (refine Below.drew ?_) | (refine below_drewN ?_ _) | (refine Below.alloc ?_ (by first | (simp; done) | (simp; omega) | omega) _) | (refine Below.trans ?_ (Below.mono (by assumption) (by first | (simp; done) | (simp; omega) | omega)))))
end Go.Proofs.Ytalgepfammpmbaa
