/- What is wrong with a frame: frame.Check, dyeref2.FrameError. No condition. (with: FrB, FrC, FrD, FrE, FrF, Kit) -/
import Derived.Test.YtcdcfkgdgimmcaaDoorBF
import Derived.Test.YtcdcfkgdgimmcaaDoorBB
import Derived.Deep.DeepCutAuto
import Derived.Deep.AppendLies
import Derived.Deep.RegionLaw
import Derived.BigQuiet
import Derived.Test.YtcdcfkgdgimmcaaDoorBC
import Derived.Deep.RegionHeld3
namespace Go.Proofs.YtcdcfkgdgimmcaaDoor
open Go.RowKit
/-- The error of a frame. -/
def fraErr (x y v h : Int) (len : Nat) : Int := if regErr x y v h = 0 then (if (len : Int) = 4 * v * h then 0 else 2) else regErr x y v h
theorem fraErr_ok {x y v h : Int} {len : Nat} (he : fraErr x y v h len = 0) : regErr x y v h = 0 ∧ (len : Int) = 4 * v * h := by
  unfold fraErr at he
  by_cases h1 : regErr x y v h = 0
  · rw [if_pos h1] at he
    by_cases h2 : (len : Int) = 4 * v * h
    · exact ⟨h1, h2⟩
    · rw [if_neg h2] at he; cases he
  · rw [if_neg h1] at he; exact absurd he h1
set_option maxRecDepth 100000 in
set_option maxHeartbeats 1600000 in
theorem FCheck_any (x y v h : Int) (a : Option Addr) (len cap : Nat) (w : World) : Calls Tryd.prog 91 #[.agg #[.int .i64 x, .int .i64 y, .int .i64 v, .int .i64 h, .slice a len cap]] w fun e w' => e = .returned (.int .i64 (fraErr x y v h len)) ∧ Below w.heap.size w w' := by
  unfold fraErr
  by_cases he : regErr x y v h = 0
  · rw [if_pos he]
    obtain ⟨r1, r2, r3, r4, r5, r6, -⟩ := regErr_ok he
    have hlt : 4 * v * h ≤ 65536 := by rw [Int.mul_assoc]; omega
    have hlt0 : 0 ≤ 4 * v * h := by rw [Int.mul_assoc]; omega
    clear r5 r6
    by_cases hl : (len : Int) = 4 * v * h
    · rw [if_pos hl]
      have hne : ((len : Int) != 4 * v * h) = false := by simpa using hl
      have hl' := Lib.hid hl; clear hl
      go_enter Tryd.func91, Tryd.ntmps91
      go_wp2_with (first | (go_at_call 60; refine (CheckRegion_any _ _ _ _ _).mono ?_; rintro e w1 ⟨rfl, hb1⟩; obtain ⟨hc1, hf1, hs1⟩ := bcell hb1; simp at hs1; have hq0 : w.heap.size < w1.heap.size := (by omega); rw [he]))
      go_ret
      refine ⟨rfl, ?_⟩
      (repeat (first | exact Below.refl _ _ | assumption | (refine Below.setCell ?_ (by first | (simp; done) | (simp; omega) | omega) _) | (refine Below.drew ?_) | (refine below_drewN ?_ _) | (refine Below.alloc ?_ (by first | (simp; done) | (simp; omega) | omega) _) | (refine Below.trans ?_ (Below.mono (by assumption) (by first | (simp; done) | (simp; omega) | omega)))))
    · rw [if_neg hl]
      have hne : ((len : Int) != 4 * v * h) = true := by simpa using hl
      have hl' := Lib.hid hl; clear hl
      go_enter Tryd.func91, Tryd.ntmps91
      go_wp2_with (first | (go_at_call 60; refine (CheckRegion_any _ _ _ _ _).mono ?_; rintro e w1 ⟨rfl, hb1⟩; obtain ⟨hc1, hf1, hs1⟩ := bcell hb1; simp at hs1; have hq0 : w.heap.size < w1.heap.size := (by omega); rw [he]))
      go_ret
      refine ⟨rfl, ?_⟩
      (repeat (first | exact Below.refl _ _ | assumption | (refine Below.setCell ?_ (by first | (simp; done) | (simp; omega) | omega) _) | (refine Below.drew ?_) | (refine below_drewN ?_ _) | (refine Below.alloc ?_ (by first | (simp; done) | (simp; omega) | omega) _) | (refine Below.trans ?_ (Below.mono (by assumption) (by first | (simp; done) | (simp; omega) | omega)))))
  · rw [if_neg he]
    have hc : (regErr x y v h != 0) = true := by simpa using he
    have he' := Lib.hid he; clear he
    go_enter Tryd.func91, Tryd.ntmps91
    go_wp2_with (first | (go_at_call 60; refine (CheckRegion_any _ _ _ _ _).mono ?_; rintro e w1 ⟨rfl, hb1⟩))
    go_ret
    refine ⟨rfl, ?_⟩
    (repeat (first | exact Below.refl _ _ | assumption | (refine Below.setCell ?_ (by first | (simp; done) | (simp; omega) | omega) _) | (refine Below.drew ?_) | (refine below_drewN ?_ _) | (refine Below.alloc ?_ (by first | (simp; done) | (simp; omega) | omega) _) | (refine Below.trans ?_ (Below.mono (by assumption) (by first | (simp; done) | (simp; omega) | omega)))))
end Go.Proofs.YtcdcfkgdgimmcaaDoor

namespace Go.Proofs.YtcdcfkgdgimmcaaDoor
open Go.RowKit
set_option maxRecDepth 100000 in
set_option maxHeartbeats 1600000 in
theorem FrameErr_walk (x y v h : Int) (a : Option Addr) (len cap : Nat) (w : World) (hx : -9223372036854775808 ≤ x ∧ x ≤ 9223372036854775807) (hy : -9223372036854775808 ≤ y ∧ y ≤ 9223372036854775807) (E : Int) (b : Bool) (hE : regErr x y v h = E) (hB : ((len : Int) != IntKind.i64.wrap (IntKind.i64.wrap (4 * v) * h)) = b) :
    Calls Tryd.prog 15 #[.agg #[.int .i64 x, .int .i64 y, .int .i64 v, .int .i64 h, .slice a len cap]] w fun e w' => e = .returned (.int .i64 (firstE E (whenE b 2))) ∧ Below w.heap.size w w' := by
  have hx' := Lib.hid hx; clear hx
  have hy' := Lib.hid hy; clear hy
  have hE' := Lib.hid hE; clear hE
  have hB' := Lib.hid hB; clear hB
  go_enter Tryd.func15, Tryd.ntmps15
  go_wp2_with fail
  refine wp_region_loose 16 (fun f' _ u => (f' = 52 ∧ u = .int .i64 E) ∨ (f' = 14 ∧ u = .int .i64 (whenE b 2))) (by kernel_rfl) (by kernel_rfl) ?_
  simp only [List.take_succ_cons, List.take_zero, List.drop_succ_cons, List.drop_zero]
  iterate 2 (refine loose_wanted rfl (fun K hK => ?_); go_simp; refine hK _ ?_; clear hK K)
  refine loose_wanted rfl (fun K hK => ?_)
  go_simp
  refine ⟨fun p => (RegionError_any _ _ _ _ p.w hx'.out hy'.out).mono ?_, ?_⟩
  · rintro e w' ⟨rfl, hb⟩
    exact ⟨_, rfl, by rw [hE'.out], by first | exact p.h.trans (hb.mono p.h.size) | simpa using p.h.trans (hb.mono p.h.size)⟩
  refine hK _ ?_
  clear hK K
  iterate 12 (refine loose_wanted rfl (fun K hK => ?_); go_simp; refine hK _ ?_; clear hK K)
  refine loose_wanted rfl (fun K hK => ?_)
  go_simp
  refine ⟨fun p => (When_any _ _ p.w).mono ?_, ?_⟩
  · rintro e w' ⟨rfl, rfl⟩
    exact ⟨_, rfl, by rw [hB'.out], by first | exact p.h | simpa using p.h⟩
  refine hK _ ?_
  clear hK K
  refine loose_nil (fun w2 hb2 => ?_)
  have B2 : Below w.heap.size w w2 := by (repeat (first | exact Below.refl _ _ | assumption | (refine Below.setCell ?_ (by first | (simp; done) | (simp; omega) | omega) _) | (refine Below.drew ?_) | (refine below_drewN ?_ _) | (refine Below.alloc ?_ (by first | (simp; done) | (simp; omega) | omega) _) | (refine Below.trans ?_ (Below.mono (by assumption) (by first | (simp; done) | (simp; omega) | omega)))))
  go_wp2_with (first | (go_at_call 13; refine (First2_new _ _ _ _ _ (heap_new _ _ _ (by simp))).mono ?_; rintro e w' ⟨rfl, rfl⟩))
  go_ret
  refine ⟨rfl, ?_⟩
  have zz := hb2.size
  simp at zz
  (repeat (first | exact Below.refl _ _ | assumption | (refine Below.setCell ?_ (by first | (simp; done) | (simp; omega) | omega) _) | (refine Below.drew ?_) | (refine below_drewN ?_ _) | (refine Below.alloc ?_ (by first | (simp; done) | (simp; omega) | omega) _) | (refine Below.trans ?_ (Below.mono (by assumption) (by first | (simp; done) | (simp; omega) | omega)))))
theorem FrameError_any (x y v h : Int) (a : Option Addr) (len cap : Nat) (w : World) (hx : -9223372036854775808 ≤ x ∧ x ≤ 9223372036854775807) (hy : -9223372036854775808 ≤ y ∧ y ≤ 9223372036854775807) :
    Calls Tryd.prog 15 #[.agg #[.int .i64 x, .int .i64 y, .int .i64 v, .int .i64 h, .slice a len cap]] w fun e w' => e = .returned (.int .i64 (fraErr x y v h len)) ∧ Below w.heap.size w w' := by
  refine (FrameErr_walk x y v h a len cap w hx hy _ _ rfl rfl).mono ?_
  rintro e w' ⟨rfl, hb⟩
  refine ⟨ret_i ?_, hb⟩
  unfold fraErr
  by_cases he : regErr x y v h = 0
  · obtain ⟨r1, r2, r3, r4, r5, r6, -⟩ := regErr_ok he
    have hlt : 4 * v * h ≤ 65536 := by rw [Int.mul_assoc]; omega
    have hlt0 : 0 ≤ 4 * v * h := by rw [Int.mul_assoc]; omega
    have e1 : IntKind.i64.wrap (4 * v) = 4 * v := by rw [IntKind.wrap_i64]; omega
    have e2 : IntKind.i64.wrap (4 * v * h) = 4 * v * h := by
      rw [IntKind.wrap_i64]
      generalize 4 * v * h = z at *
      omega
    rw [e1, e2, he, if_pos rfl]
    by_cases hl : (len : Int) = 4 * v * h
    · have hne : ((len : Int) != 4 * v * h) = false := by simpa using hl
      rw [if_pos hl, hne]; rfl
    · have hne : ((len : Int) != 4 * v * h) = true := by simpa using hl
      rw [if_neg hl, hne]; rfl
  · rw [if_neg he, firstE_of _ he]
end Go.Proofs.YtcdcfkgdgimmcaaDoor

namespace Go.Proofs.YtcdcfkgdgimmcaaDoor
open Go.RowKit
set_option maxRecDepth 100000 in
set_option maxHeartbeats 1600000 in
theorem SameFrame_yes (x y v h : Int) (b1 o1 b2 o2 n k1 k2 : Nat) (fs : Nat → Nat) (w : World) (hn : n ≤ 65536) (q1 : b1 < w.heap.size) (q2 : b2 < w.heap.size)
    (h1 : ∀ i, i < n → w.cell? ⟨b1, o1 + i, none⟩ = some (.float .f32 (fs i))) (h2 : ∀ i, i < n → w.cell? ⟨b2, o2 + i, none⟩ = some (.float .f32 (fs i))) :
    Calls Tryd.prog 24 #[.agg #[.int .i64 x, .int .i64 y, .int .i64 v, .int .i64 h, .slice (some ⟨b1, o1, none⟩) n k1], .agg #[.int .i64 x, .int .i64 y, .int .i64 v, .int .i64 h, .slice (some ⟨b2, o2, none⟩) n k2]] w fun e w' => e = .returned (.bool true) ∧ Below w.heap.size w w' := by
  have H1 := Lib.hid h1; clear h1
  have H2 := Lib.hid h2; clear h2
  go_enter Tryd.func24, Tryd.ntmps24
  go_wp2
  obtain ⟨W, hW⟩ : ∃ W, W = (w.alloc (.cells #[.int .i64 x, .int .i64 y, .int .i64 v, .int .i64 h, .slice (some ⟨b1, o1, none⟩) n k1] 38)).alloc (.cells #[.int .i64 x, .int .i64 y, .int .i64 v, .int .i64 h, .slice (some ⟨b2, o2, none⟩) n k2] 38) := ⟨_, rfl⟩
  rw [← hW]
  have s1 : W.cell? ⟨w.heap.size, 4, none⟩ = some (.slice (some ⟨b1, o1, none⟩) n k1) := by rw [hW]; simp [go_sem]
  have s2 : W.cell? ⟨w.heap.size + 1, 4, none⟩ = some (.slice (some ⟨b2, o2, none⟩) n k2) := by rw [hW]; simp [go_sem]
  have B : Below w.heap.size w W := by rw [hW]; (repeat (first | exact Below.refl _ _ | assumption | (refine Below.setCell ?_ (by first | (simp; done) | (simp; omega) | omega) _) | (refine Below.drew ?_) | (refine below_drewN ?_ _) | (refine Below.alloc ?_ (by first | (simp; done) | (simp; omega) | omega) _) | (refine Below.trans ?_ (Below.mono (by assumption) (by first | (simp; done) | (simp; omega) | omega)))))
  clear hW
  go_loopw [23] (fun i wr => ∃ k : Nat, k ≤ n ∧ i = .int .i64 k ∧ ∃ m, wr = W.drewN m) (fun i _ => n - (intOf i).toNat)
  case atStart => exact ⟨0, Nat.zero_le _, rfl, 0, rfl⟩
  case round =>
    obtain ⟨k, hk, rfl, m, rfl⟩ := hrel
    by_cases hkn : k < n
    · have hc1 : W.cell? ⟨b1, o1 + k, none⟩ = some (.float .f32 (fs k)) := by rw [B.cell (p := ⟨b1, o1 + k, none⟩) q1]; exact H1.out k hkn
      have hc2 : W.cell? ⟨b2, o2 + k, none⟩ = some (.float .f32 (fs k)) := by rw [B.cell (p := ⟨b2, o2 + k, none⟩) q2]; exact H2.out k hkn
      generalize fs k = z at *
      go_wp2_with fail
      go_quiet (fail)
      go_wp2_with fail
      go_roundw
      case rel => exact ⟨k + 1, by omega, by first | rfl | go_num | simp, _, rfl⟩
      case measure => simp [intOf]; omega
    · have hke : k = n := by omega
      subst hke
      go_wp2
      go_ret
      exact ⟨rfl, by (repeat (first | exact Below.refl _ _ | assumption | (refine Below.setCell ?_ (by first | (simp; done) | (simp; omega) | omega) _) | (refine Below.drew ?_) | (refine below_drewN ?_ _) | (refine Below.alloc ?_ (by first | (simp; done) | (simp; omega) | omega) _) | (refine Below.trans ?_ (Below.mono (by assumption) (by first | (simp; done) | (simp; omega) | omega)))))⟩
end Go.Proofs.YtcdcfkgdgimmcaaDoor

namespace Go.Proofs.YtcdcfkgdgimmcaaDoor
open Go.RowKit
theorem array_at (b o c : Nat) (w : World) : (Instr.arrayAt 52 (.slice (some ⟨b, o, none⟩) 4 c)).run Tryd.prog w = .ok (.pointer (some ⟨b, o, none⟩)) w := by kernel_rfl
set_option maxRecDepth 100000 in
set_option maxHeartbeats 1600000 in
theorem PixelAt_in (x y v h : Int) (b off n cap : Nat) (px py : Int) (k p0 p1 p2 p3 : Nat) (w : World) (he : regErr x y v h = 0) (hn : (n : Int) = 4 * v * h) (hx : x ≤ px ∧ px ≤ x + v - 1) (hy : y ≤ py ∧ py ≤ y + h - 1) (hk : 4 * ((py - y) * v + px - x) = (k : Int)) (hkn : k + 4 ≤ n) (hcap : n ≤ cap) (hcb : cap ≤ 9223372036854775807)
    (c0 : w.cell? ⟨b, off + k, none⟩ = some (.float .f32 p0)) (c1 : w.cell? ⟨b, off + k + 1, none⟩ = some (.float .f32 p1)) (c2 : w.cell? ⟨b, off + k + 2, none⟩ = some (.float .f32 p2)) (c3 : w.cell? ⟨b, off + k + 3, none⟩ = some (.float .f32 p3)) :
    Calls Tryd.prog 20 #[.agg #[.int .i64 x, .int .i64 y, .int .i64 v, .int .i64 h, .slice (some ⟨b, off, none⟩) n cap], .int .i64 px, .int .i64 py] w fun e w' => e = .returned (.agg #[.float .f32 p0, .float .f32 p1, .float .f32 p2, .float .f32 p3]) ∧ Below w.heap.size w w' := by
  obtain ⟨r1, r2, r3, r4, r5, r6, r7, r8, r9, r10⟩ := regErr_ok he
  obtain ⟨x1, x2⟩ := hx
  obtain ⟨y1, y2⟩ := hy
  have m0 : 0 ≤ (py - y) * v := Int.mul_nonneg (by omega) (by omega)
  have m1 : (py - y) * v ≤ 256 * 256 := Int.mul_le_mul (by omega) r2 (by omega) (by omega)
  clear he r5 r6
  have hn' := Lib.hid hn; clear hn
  have sa := array_at
  have hbw : b < w.heap.size := cell_lt c0
  go_enter Tryd.func20, Tryd.ntmps20
  go_wp2_with fail
  refine bodyPost_ret (v := .agg #[.float .f32 p0, .float .f32 p1, .float .f32 p2, .float .f32 p3]) (by simp [results, Tryd.results20, go_sem]) rfl ⟨rfl, ?_⟩
  (repeat (first | exact Below.refl _ _ | assumption | (refine Below.setCell ?_ (by first | (simp; done) | (simp; omega) | omega) _) | (refine Below.drew ?_) | (refine below_drewN ?_ _) | (refine Below.alloc ?_ (by first | (simp; done) | (simp; omega) | omega) _) | (refine Below.trans ?_ (Below.mono (by assumption) (by first | (simp; done) | (simp; omega) | omega)))))
end Go.Proofs.YtcdcfkgdgimmcaaDoor

namespace Go.Proofs.YtcdcfkgdgimmcaaDoor
open Go.RowKit
/-- A frame's variable at block n: the region, and the slice's value s. -/
structure FrameC (w : World) (n : Nat) (x y v h : Int) (s : Value) : Prop where
  c0 : w.cell? ⟨n, 0, none⟩ = some (.int .i64 x)
  c1 : w.cell? ⟨n, 1, none⟩ = some (.int .i64 y)
  c2 : w.cell? ⟨n, 2, none⟩ = some (.int .i64 v)
  c3 : w.cell? ⟨n, 3, none⟩ = some (.int .i64 h)
  c4 : w.cell? ⟨n, 4, none⟩ = some s
  f : ∀ o, w.frozen? ⟨n, o, none⟩ = false
theorem FrameC.below {W w : World} {m n : Nat} {x y v h : Int} {s : Value} (k : FrameC W n x y v h s) (hb : Below m W w) (hn : n < m) : FrameC w n x y v h s :=
  ⟨(hb.cell (p := ⟨n, 0, none⟩) hn).trans k.c0, (hb.cell (p := ⟨n, 1, none⟩) hn).trans k.c1, (hb.cell (p := ⟨n, 2, none⟩) hn).trans k.c2, (hb.cell (p := ⟨n, 3, none⟩) hn).trans k.c3, (hb.cell (p := ⟨n, 4, none⟩) hn).trans k.c4, fun o => (hb.frozen (p := ⟨n, o, none⟩) hn).trans (k.f o)⟩
theorem FrameC.block {W w : World} {n : Nat} {x y v h : Int} {s : Value} (k : FrameC W n x y v h s) (hb : w.heap[n]? = W.heap[n]?) : FrameC w n x y v h s :=
  ⟨(World.cell?_of_block hb).trans k.c0, (World.cell?_of_block hb).trans k.c1, (World.cell?_of_block hb).trans k.c2, (World.cell?_of_block hb).trans k.c3, (World.cell?_of_block hb).trans k.c4, fun o => (World.frozen?_of_block hb).trans (k.f o)⟩
theorem FrameC.lt {w : World} {n : Nat} {x y v h : Int} {s : Value} (k : FrameC w n x y v h s) : n < w.heap.size := cell_lt k.c0
/-- What a change of pixels gives: at pixel k of a frame of width v at (x, y). -/
def PixelOK (K : Nat) (caps : Array Value) (w : World) (x y v : Int) (n : Nat) (fs : Nat → Nat) (G : Nat → Nat → Nat) : Prop :=
  ∀ k w', 4 * k + 4 ≤ n → Below w.heap.size w w' → Calls Tryd.prog K (#[.int .i64 (x + (k : Int) % v), .int .i64 (y + (k : Int) / v), .agg #[.float .f32 (fs (4 * k)), .float .f32 (fs (4 * k + 1)), .float .f32 (fs (4 * k + 2)), .float .f32 (fs (4 * k + 3))]] ++ caps) w' fun e w'' =>
    (∃ q : Nat → Nat, e = .returned (.agg #[.float .f32 (q 0), .float .f32 (q 1), .float .f32 (q 2), .float .f32 (q 3)]) ∧ ∀ c, c < 4 → cn .f32 (q c) = G k c) ∧ Below w'.heap.size w' w''
/-- A pixel whose singles are these, one NaN for all. -/
def PixV (g : Nat → Nat) (u : Value) : Prop := ∃ q : Nat → Nat, u = .agg #[.float .f32 (q 0), .float .f32 (q 1), .float .f32 (q 2), .float .f32 (q 3)] ∧ ∀ c, c < 4 → cn .f32 (q c) = g c
/-- Four singles by their place. -/
def pick4 (q0 q1 q2 q3 : Nat) : Nat → Nat
  | 0 => q0
  | 1 => q1
  | 2 => q2
  | _ => q3
theorem index4 (q : Nat → Nat) (c : Nat) (hc : c < 4) (w : World) : (Instr.index 52 (.agg #[.float .f32 (q 0), .float .f32 (q 1), .float .f32 (q 2), .float .f32 (q 3)]) (.int .i64 (c : Int))).run Tryd.prog w = .ok (.float .f32 (q c)) w := by
  rcases (show c = 0 ∨ c = 1 ∨ c = 2 ∨ c = 3 by omega) with rfl | rfl | rfl | rfl <;> kernel_rfl
theorem grown_far {W a : World} {g : Nat} (h : W.grownBy a (some g)) (q : Addr) (v : Value) (hq : W.heap.size ≤ q.block) : W.grownBy (a.setCell q v) (some g) :=
  ⟨h.os, h.tape, h.output, by have := h.size; simp [World.setCell]; omega, fun j hj hne => by
    have h1 : j ≠ q.block := by omega
    rw [Below.heap_setCell _ _ _ _ h1]
    exact h.block j hj hne⟩
theorem grown_set {W a : World} {g : Nat} (h : W.grownBy a (some g)) (k : Nat) (v : Value) : W.grownBy (a.setCell ⟨g, k, none⟩ v) (some g) := grown_step h (Below.refl _ _) v
theorem grown_past {W a b : World} {g : Nat} (h : W.grownBy a (some g)) (hb : Below a.heap.size a b) : W.grownBy b (some g) :=
  ⟨hb.os.trans h.os, hb.tape.trans h.tape, hb.output.trans h.output, by have := h.size; have := hb.size; omega, fun j hj hne => by rw [hb.block j (by have := h.size; omega)]; exact h.block j hj hne⟩
end Go.Proofs.YtcdcfkgdgimmcaaDoor

namespace Go.Proofs.YtcdcfkgdgimmcaaDoor
open Go.RowKit
theorem infoF32 : (Tryd.prog.info? 50).map (fun i => (i.zero, i.size, i.bytes)) = some (some (.float .f32 0), 1, 4) := by kernel_rfl
theorem own_past {W w : World} {base : Nat} {e : TypeId} {size : Nat} {v : Value} {n : Nat} {xs : List Value} (h : W.ownsRow base e size v n xs) (hb : Below W.heap.size W w) : w.ownsRow base e size v n xs :=
  ⟨h.1, h.2.imp id fun ⟨g, cap, cur, h1, h2, h3, h4⟩ => ⟨g, cap, cur, h1, h2, by
    have hl : g < W.heap.size := by
      rcases Nat.lt_or_ge g W.heap.size with h' | h'
      · exact h'
      · rw [Array.getElem?_eq_none h'] at h3; cases h3
    rw [hb.block g hl]; exact h3, h4⟩⟩
theorem own_far {W : World} {base : Nat} {e : TypeId} {size : Nat} {v : Value} {n : Nat} {xs : List Value} (h : W.ownsRow base e size v n xs) (q : Addr) (x : Value) (hq : q.block < base) : (W.setCell q x).ownsRow base e size v n xs :=
  ⟨h.1, h.2.imp id fun ⟨g, cap, cur, h1, h2, h3, h4⟩ => ⟨g, cap, cur, h1, h2, by rw [Below.heap_setCell _ _ _ _ (by omega)]; exact h3, h4⟩⟩
theorem FrameC.set4 {w : World} {n : Nat} {x y v h : Int} {s : Value} (k : FrameC w n x y v h s) (t : Value) : FrameC (w.setCell ⟨n, 4, none⟩ t) n x y v h t :=
  ⟨(World.cell?_setCell_other _ _ _ _ (by simp)).trans k.c0, (World.cell?_setCell_other _ _ _ _ (by simp)).trans k.c1, (World.cell?_setCell_other _ _ _ _ (by simp)).trans k.c2, (World.cell?_setCell_other _ _ _ _ (by simp)).trans k.c3, World.cell?_setCell_same _ _ _ k.c4, fun o => (World.frozen?_setCell _ _ _ _).trans (k.f o)⟩
theorem FrameC.far {w : World} {n : Nat} {x y v h : Int} {s : Value} (k : FrameC w n x y v h s) (q : Addr) (t : Value) (hq : q.block ≠ n) : FrameC (w.setCell q t) n x y v h s :=
  k.block (Below.heap_setCell _ _ _ _ (Ne.symm hq))
/-- A region's variable. -/
structure RegC (w : World) (n : Nat) (x y v h : Int) : Prop where
  c0 : w.cell? ⟨n, 0, none⟩ = some (.int .i64 x)
  c1 : w.cell? ⟨n, 1, none⟩ = some (.int .i64 y)
  c2 : w.cell? ⟨n, 2, none⟩ = some (.int .i64 v)
  c3 : w.cell? ⟨n, 3, none⟩ = some (.int .i64 h)
theorem RegC.block {W w : World} {n : Nat} {x y v h : Int} (k : RegC W n x y v h) (hb : w.heap[n]? = W.heap[n]?) : RegC w n x y v h :=
  ⟨(World.cell?_of_block hb).trans k.c0, (World.cell?_of_block hb).trans k.c1, (World.cell?_of_block hb).trans k.c2, (World.cell?_of_block hb).trans k.c3⟩
def madeL (G : Nat → Nat → Nat) (N : Nat) : List Value := (List.range N).map fun j => .float .f32 (G (j / 4) (j % 4))
theorem madeL_succ (G : Nat → Nat → Nat) (N : Nat) : madeL G (N + 1) = madeL G N ++ [.float .f32 (G (N / 4) (N % 4))] := by simp [madeL, List.range_succ]
/-- What stands behind N singles. -/
structure MadeR (w wr : World) (x y v h : Int) (G : Nat → Nat → Nat) (N : Nat) (s : Value) : Prop where
  frm : FrameC wr (w.heap.size + 1 + 1) x y v h s
  own : wr.ownsRow (w.heap.size + 3) 50 1 s N (madeL G N)
  reg : RegC wr w.heap.size x y v h
  res : FrameC wr (w.heap.size + 1) 0 0 0 0 (.slice none 0 0)
  bel : Below w.heap.size w wr
theorem MadeR.past {w wr w2 : World} {x y v h : Int} {G : Nat → Nat → Nat} {N : Nat} {s : Value} (k : MadeR w wr x y v h G N s) (hb : Below wr.heap.size wr w2) : MadeR w w2 x y v h G N s :=
  ⟨k.frm.below hb k.frm.lt, own_past k.own hb, k.reg.block (hb.block _ (cell_lt k.reg.c0)), k.res.below hb k.res.lt, k.bel.trans (hb.mono k.bel.size)⟩
theorem own_block {w : World} {base : Nat} {e : TypeId} {size : Nat} {v : Value} {n : Nat} {xs : List Value} (h : w.ownsRow base e size v n xs) {j : Nat} (hj : j < base) : some j ≠ v.ownBlock := by
  intro e'
  have := h.lt j e'.symm
  omega
theorem MadeR.step {w wa w1 : World} {x y v h : Int} {G : Nat → Nat → Nat} {N : Nat} {s s' : Value} (k : MadeR w wa x y v h G N s) (hown : w1.ownsRow (w.heap.size + 3) 50 1 s' (N + 1) (madeL G N ++ [.float .f32 (G (N / 4) (N % 4))])) (hg : wa.grownBy w1 s.ownBlock) :
    MadeR w (w1.setCell ⟨w.heap.size + 1 + 1, 4, none⟩ s') x y v h G (N + 1) s' := by
  have f2 := hg.block _ k.frm.lt (own_block k.own (by omega))
  have f1 := hg.block _ k.res.lt (own_block k.own (by omega))
  have f0 := hg.block _ (cell_lt k.reg.c0) (own_block k.own (show w.heap.size < w.heap.size + 3 by omega))
  refine ⟨(k.frm.block f2).set4 s', ?_, (k.reg.block f0).block (Below.heap_setCell _ _ _ _ (by simp; omega)), (k.res.block f1).far _ _ (by simp), ?_⟩
  · rw [madeL_succ]; exact own_far hown _ _ (by simp)
  · refine (k.bel.grown hg (by have := cell_lt k.reg.c0; simp at this; omega) (fun j hj => ?_)).setCell (by simp; omega) _
    have := k.own.lt j hj
    omega
theorem MadeR.app {w wr wa w1 : World} {x y v h : Int} {G : Nat → Nat → Nat} {N : Nat} {s s' : Value} {b : Nat} (k0 : MadeR w wr x y v h G N s) (hb : Below wr.heap.size wr wa) (hown : w1.ownsRow (w.heap.size + 3) 50 1 s' (N + 1) (madeL G N ++ [.float .f32 b])) (hv : b = G (N / 4) (N % 4)) (hg : wa.grownBy w1 s.ownBlock) :
    w1.cell? ⟨w.heap.size + 1 + 1, 4, none⟩ = some s ∧ w1.frozen? ⟨w.heap.size + 1 + 1, 4, none⟩ = false ∧ MadeR w (w1.setCell ⟨w.heap.size + 1 + 1, 4, none⟩ s') x y v h G (N + 1) s' := by
  have k := k0.past hb
  have blk := hg.block (w.heap.size + 1 + 1) k.frm.lt (own_block k.own (by omega))
  exact ⟨(World.cell?_of_block blk).trans k.frm.c4, (World.frozen?_of_block blk).trans (k.frm.f _), k.step (by rw [← hv]; exact hown) hg⟩
/-- What a maker of pixels gives within the region. -/
def MakerOK (K : Nat) (caps : Array Value) (w : World) (x y v h : Int) (G : Nat → Nat → Nat) : Prop :=
  ∀ (i j : Nat) w', (i : Int) < v → (j : Int) < h → Below w.heap.size w w' → Calls Tryd.prog K (#[.int .i64 (x + i), .int .i64 (y + j)] ++ caps) w' fun e w'' =>
    (∃ q : Nat → Nat, e = .returned (.agg #[.float .f32 (q 0), .float .f32 (q 1), .float .f32 (q 2), .float .f32 (q 3)]) ∧ ∀ c, c < 4 → cn .f32 (q c) = G (v.toNat * j + i) c) ∧ Below w'.heap.size w' w''
set_option maxRecDepth 100000 in
set_option maxHeartbeats 1600000 in
theorem Made_any (K : Nat) (caps : Array Value) (x y v h : Int) (G : Nat → Nat → Nat) (w : World) (he : regErr x y v h = 0)
    (hent : ∀ args w, (callFunc K args).run Tryd.prog w = .ok (.enter K args) w) (hk : MakerOK K caps w x y v h G) :
    Calls Tryd.prog 18 #[.agg #[.int .i64 x, .int .i64 y, .int .i64 v, .int .i64 h], .func (.func K) #[] caps] w fun e w' =>
      ∃ g n cap : Nat, (n : Int) = 4 * v * h ∧ e = .returned (.agg #[.int .i64 x, .int .i64 y, .int .i64 v, .int .i64 h, .slice (some ⟨g, 0, none⟩) n cap]) ∧ w.heap.size ≤ g ∧ g < w'.heap.size ∧ (∀ i, i < n → w'.cell? ⟨g, i, none⟩ = some (.float .f32 (G (i / 4) (i % 4)))) ∧ Below w.heap.size w w' := by
  obtain ⟨r1, r2, r3, r4, r5, r6, r7, r8, r9, r10⟩ := regErr_ok he
  obtain ⟨V, rfl⟩ : ∃ V : Nat, v = V := ⟨v.toNat, by omega⟩
  obtain ⟨H, rfl⟩ : ∃ H : Nat, h = H := ⟨h.toNat, by omega⟩
  have hk' := Lib.hid hk; clear hk
  obtain ⟨i0, hi, hz0, hz1, hz2⟩ := info_parts infoF32
  have hVH : V * H ≤ 16384 := by have : ((V * H : Nat) : Int) ≤ 16384 := by { rw [Int.natCast_mul]; exact r5 }; omega
  clear r5 r6 he
  go_enter Tryd.func18, Tryd.ntmps18
  go_wp2_with fail
  obtain ⟨W, hW⟩ : ∃ W, W = ((w.alloc (.cells #[.int .i64 x, .int .i64 y, .int .i64 V, .int .i64 H] 35)).alloc (.cells #[.int .i64 0, .int .i64 0, .int .i64 0, .int .i64 0, .slice none 0 0] 38)).alloc (.cells #[.int .i64 x, .int .i64 y, .int .i64 V, .int .i64 H, .slice none 0 0] 38) := ⟨_, rfl⟩
  have M0 : MadeR w W x y V H G 0 (.slice none 0 0) := by
    rw [hW]
    exact ⟨⟨by simp [go_sem], by simp [go_sem], by simp [go_sem], by simp [go_sem], by simp [go_sem], fun o => by simp [go_sem]⟩, World.ownsRow_nil _ _ _ _, ⟨by simp [go_sem], by simp [go_sem], by simp [go_sem], by simp [go_sem]⟩, ⟨by simp [go_sem], by simp [go_sem], by simp [go_sem], by simp [go_sem], by simp [go_sem], fun o => by simp [go_sem]⟩, by (repeat (first | exact Below.refl _ _ | assumption | (refine Below.setCell ?_ (by first | (simp; done) | (simp; omega) | omega) _) | (refine Below.drew ?_) | (refine below_drewN ?_ _) | (refine Below.alloc ?_ (by first | (simp; done) | (simp; omega) | omega) _) | (refine Below.trans ?_ (Below.mono (by assumption) (by first | (simp; done) | (simp; omega) | omega)))))⟩
  rw [← hW]
  clear hW
  go_loopw [6] (fun s6 wr => ∃ j : Nat, j ≤ H ∧ s6 = .int .i64 (y + j) ∧ ∃ s, MadeR w wr x y V H G (4 * (V * j)) s) (fun s6 _ => (y + H - intOf s6).toNat)
  case atStart => exact ⟨0, Nat.zero_le _, by simp, _, by simpa using M0⟩
  case round =>
    obtain ⟨j, hj, rfl, s, M⟩ := hrel
    have HM := Lib.hid M
    obtain ⟨p0, p1, p2, p3⟩ := M.reg
    clear M M0
    by_cases hjH : j < H
    · go_wp2_with fail
      clear p0 p1 p2 p3
      go_loopw [7] (fun s7 wt => ∃ i : Nat, i ≤ V ∧ s7 = .int .i64 (x + i) ∧ ∃ s, MadeR w wt x y V H G (4 * (V * j + i)) s) (fun s7 _ => (x + V - intOf s7).toNat)
      case atStart => exact ⟨0, Nat.zero_le _, by simp, s, HM.out⟩
      case round =>
        obtain ⟨i, hi2, rfl, t, M⟩ := hrel
        have HM2 := Lib.hid M
        obtain ⟨p0, p1, p2, p3⟩ := M.reg
        have hmul : V * (j + 1) ≤ V * H := Nat.mul_le_mul_left V hjH
        rw [Nat.mul_add, Nat.mul_one] at hmul
        clear M HM
        by_cases hiV : i < V
        · go_wp2_with fail
          refine (hk'.out i j _ (by omega) (by omega) HM2.out.bel).mono ?_
          rintro e w1 ⟨⟨q, rfl, hq⟩, hb1⟩
          have M1 := HM2.out.past hb1
          clear hb1 HM2 p0 p1 p2 p3
          have HQ := Lib.hid hq; have HM1 := Lib.hid M1
          clear hq M1
          simp only [Int.toNat_natCast] at HQ
          obtain ⟨kk, hkk⟩ : ∃ kk, kk = V * j + i := ⟨_, rfl⟩
          rw [← hkk] at HQ HM1
          have HKK := Lib.hid hkk; clear hkk
          go_wp2_with fail
          go_loopw [38] (fun s38 wu => ∃ c : Nat, c ≤ 4 ∧ s38 = .int .i64 c ∧ ∃ s, MadeR w wu x y V H G (4 * kk + c) s) (fun s38 _ => 4 - (intOf s38).toNat)
          case atStart => exact ⟨0, by omega, by simp, t, HM1.out⟩
          case round =>
            obtain ⟨c, hc4, rfl, u, M⟩ := hrel
            clear HM1
            have HM := Lib.hid M
            by_cases hc : c < 4
            · have hix := index4 q c hc
              have f4 := M.frm.c4
              have ff := M.frm.f
              have hfl := M.frm.lt
              clear M
              go_wp2_with fail
              have hb1 : 4 * kk + c + 1 ≤ 65536 := by
                have := HKK.out
                omega
              have hb2 := HM.out.bel.size
              have HV := Lib.hid (by rw [HQ.out c hc, show (4 * kk + c) / 4 = kk by omega, show (4 * kk + c) % 4 = c by omega] : cn .f32 (q c) = G ((4 * kk + c) / 4) ((4 * kk + c) % 4))
              go_region_law (first | (refine step_append_lies _ rfl (.tmp 42) (.tmp 45) 36 rfl (w.heap.size + 3) 50 i0 (.float .f32 0) 1 4 Tryd.underlying36 hi hz0 hz1 hz2 rfl (by decide) u (4 * kk + c) (madeL G (4 * kk + c)) rfl (World.ownsRow.alloc HM.out.own _) ⟨wr.heap.size, 0, none⟩ 1 1 [.float .f32 (cn .f32 (q c))] rfl rfl (by intro j u hj; match j, hj with | 0, hj => (simp at hj; subst hj; simp [Addr.add])) (by intro u hu; simp at hu; subst hu; rfl) (by decide) (by unfold maxLen; omega) (by omega) (by simp; omega) _ rfl ?_; intro g cap w1 hown hgrow hat hlt; obtain ⟨f4w, ffw, MS0⟩ := MadeR.app HM.out (by (repeat (first | exact Below.refl _ _ | assumption | (refine Below.setCell ?_ (by first | (simp; done) | (simp; omega) | omega) _) | (refine Below.drew ?_) | (refine below_drewN ?_ _) | (refine Below.alloc ?_ (by first | (simp; done) | (simp; omega) | omega) _) | (refine Below.trans ?_ (Below.mono (by assumption) (by first | (simp; done) | (simp; omega) | omega)))))) hown HV.out hgrow; have MS := Lib.hid MS0; clear MS0 hown hgrow) | (go_simp; go_at_call 54; refine (Fix_any _ _).mono ?_; rintro e w' ⟨rfl, rfl⟩))
              all_goals
                go_wp2_with fail
                go_roundw
                case rel => exact ⟨c + 1, by omega, by go_num, _, by simpa [Nat.add_assoc] using MS.out⟩
                case measure => simp [intOf]; omega
            · have hce : c = 4 := by omega
              subst hce
              clear M
              go_wp2_with fail
              go_roundw
              case rel => exact ⟨i + 1, by omega, by simp [Int.add_assoc], u, by have e := HKK.out; rw [show 4 * (V * j + (i + 1)) = 4 * kk + 4 by omega]; exact HM.out⟩
              case measure => simp [intOf]; omega
        · have hie : i = V := by omega
          subst hie
          go_wp2_with fail
          go_roundw
          case rel => exact ⟨j + 1, by omega, by simp [Int.add_assoc], t, by rw [Nat.mul_add, Nat.mul_one]; exact HM2.out⟩
          case measure => simp [intOf]; omega
    · have hje : j = H := by omega
      subst hje
      have FR := HM.out.frm
      have RS := HM.out.res
      obtain ⟨f0, f1, f2, f3, f4, -⟩ := FR
      obtain ⟨z0, z1, z2, z3, z4, zf⟩ := RS
      have hVH0 : 0 < V * j := Nat.mul_pos (by omega) (by omega)
      obtain ⟨g, cap, rfl, hg1, hg2⟩ := HM.out.own.form (by omega)
      have hcells := HM.out.own.cells (g := g) rfl
      have HC := Lib.hid hcells; clear hcells
      go_wp2_with fail
      refine bodyPost_ret (v := .agg #[.int .i64 x, .int .i64 y, .int .i64 V, .int .i64 j, .slice (some ⟨g, 0, none⟩) (4 * (V * j)) cap]) (by simp [results, Tryd.results18, go_sem, z0, z1, z2, z3, z4]) rfl ⟨g, 4 * (V * j), cap, by rw [Int.natCast_mul, Int.natCast_mul, Int.mul_assoc]; rfl, rfl, by omega, by simp; omega, fun k hk => ?_, ?_⟩
      · have := HC.out k (.float .f32 (G (k / 4) (k % 4))) (by simp [madeL, hk])
        rw [Go.WideShapes.add_plain] at this
        rw [← this]
        simp [go_sem]
      · exact ((((HM.out.bel.setCell (by simp) _).setCell (by simp) _).setCell (by simp) _).setCell (by simp) _).setCell (by simp) _
end Go.Proofs.YtcdcfkgdgimmcaaDoor

namespace Go.Proofs.YtcdcfkgdgimmcaaDoor
open Go Go.RowKit
theorem wp_world {P : Program} {c : Code} {Q : Exit → Act → World → Prop} {a : Act} {w : World} (h : ∀ W, W = w → c.wp P Q a W) : c.wp P Q a w := h w rfl
theorem calls_world {P : Program} {f : FuncId} {args : Array Value} {w : World} {Q : Ending → World → Prop} (h : ∀ W, W = w → Calls P f args W Q) : Calls P f args w Q := h w rfl
/-- A closure is stored as any value of one cell. -/
@[go_sem] theorem run_store_fn {P : Program} (w : World) (a : Addr) (m : Mode) (f : Fn) (ts : Array Value) (caps : Array Value) : (store a (.func f ts caps) m).run P w = stored P w a (.func f ts caps) m := run_store P w a _ m rfl
/-- A block whose first cells are these; none of its cells is frozen. -/
structure Blk (w : World) (n : Nat) (vs : List Value) : Prop where
  lt : n < w.heap.size
  c : ∀ i v, vs[i]? = some v → w.cell? ⟨n, i, none⟩ = some v
  f : ∀ o, w.frozen? ⟨n, o, none⟩ = false
theorem Blk.new (w : World) (vs : List Value) (t : TypeId) (n : Nat) (hn : n = w.heap.size) : Blk (w.alloc (.cells vs.toArray t)) n vs := by
  subst hn
  exact ⟨by simp, fun i v h => by rw [World.cell?_alloc_new]; simpa using h, fun o => World.frozen?_alloc_new _ _ _ _⟩
theorem Blk.block {W w : World} {n : Nat} {vs : List Value} (k : Blk W n vs) (hs : W.heap.size ≤ w.heap.size) (hb : w.heap[n]? = W.heap[n]?) : Blk w n vs :=
  ⟨Nat.lt_of_lt_of_le k.lt hs, fun i v h => (World.cell?_of_block hb).trans (k.c i v h), fun o => (World.frozen?_of_block hb).trans (k.f o)⟩
theorem Blk.below {W w : World} {m n : Nat} {vs : List Value} (k : Blk W n vs) (hb : Below m W w) (hn : n < m) : Blk w n vs := k.block hb.size (hb.block n hn)
theorem Blk.past {W w : World} {n : Nat} {vs : List Value} (k : Blk W n vs) (hb : Below W.heap.size W w) : Blk w n vs := k.below hb k.lt
theorem Blk.far {w : World} {n : Nat} {vs : List Value} (k : Blk w n vs) (q : Addr) (t : Value) (hq : q.block ≠ n) : Blk (w.setCell q t) n vs :=
  k.block (by simp [World.setCell]) (Below.heap_setCell _ _ _ _ (Ne.symm hq))
theorem Blk.set {w : World} {n : Nat} {vs : List Value} (k : Blk w n vs) (i : Nat) (t : Value) : Blk (w.setCell ⟨n, i, none⟩ t) n (vs.set i t) := by
  refine ⟨by have := k.lt; simpa [World.setCell] using this, fun j v h => ?_, fun o => (World.frozen?_setCell _ _ _ _).trans (k.f o)⟩
  by_cases e : i = j
  · subst e
    rw [List.getElem?_set] at h
    simp only [if_true] at h
    split at h
    · rename_i hl
      cases h
      exact World.cell?_setCell_same _ _ _ (k.c i vs[i] (List.getElem?_eq_getElem hl))
    · cases h
  · rw [List.getElem?_set_ne e] at h
    rw [World.cell?_setCell_other _ _ _ _ (by first | (simp; omega) | (simp; done) | omega)]
    exact k.c j v h
theorem Blk.alloc {w : World} {n : Nat} {vs : List Value} (k : Blk w n vs) (o : Obj) : Blk (w.alloc o) n vs := k.past ((Below.refl _ _).alloc (Nat.le_refl _) _)
theorem Blk.drew {w : World} {n : Nat} {vs : List Value} (k : Blk w n vs) : Blk w.drew n vs := k.past ((Below.refl _ _).drew)
theorem Blk.drewN {w : World} {n : Nat} {vs : List Value} (k : Blk w n vs) (m : Nat) : Blk (w.drewN m) n vs := k.past (below_drewN (Below.refl _ _) m)
/-- Cells of one row, as a function of their place. -/
def Row (w : World) (b off n : Nat) (fs : Nat → Nat) : Prop := ∀ i, i < n → w.cell? ⟨b, off + i, none⟩ = some (.float .f32 (fs i))
theorem Row.below {W w : World} {m b off n : Nat} {fs : Nat → Nat} (k : Row W b off n fs) (hb : Below m W w) (hn : b < m) : Row w b off n fs := fun i hi => (hb.cell (p := ⟨b, off + i, none⟩) hn).trans (k i hi)
theorem Row.lt {w : World} {b off n : Nat} {fs : Nat → Nat} (k : Row w b off n fs) (h : 0 < n) : b < w.heap.size := cell_lt (k 0 h)
theorem Row.past {W w : World} {b off n : Nat} {fs : Nat → Nat} (k : Row W b off n fs) (hb : Below W.heap.size W w) : Row w b off n fs := fun i hi => k.below hb (k.lt (by omega)) i hi
/-- The number that an argument is. -/
def argF (args : Array Value) (i : Nat) : Nat := match args[i]? with | some (.float _ b) => b | _ => 0
def argI (args : Array Value) (i : Nat) : Int := match args[i]? with | some (.int _ b) => b | _ => 0
def argB (args : Array Value) (i : Nat) : Bool := match args[i]? with | some (.bool b) => b | _ => false
@[go_sem] theorem argF_0 (k : FloatKind) (b : Nat) (l : List Value) : argF (List.toArray (.float k b :: l)) 0 = b := rfl
@[go_sem] theorem argF_1 (k : FloatKind) (x : Value) (b : Nat) (l : List Value) : argF (List.toArray (x :: .float k b :: l)) 1 = b := rfl
@[go_sem] theorem argF_2 (k : FloatKind) (x y : Value) (b : Nat) (l : List Value) : argF (List.toArray (x :: y :: .float k b :: l)) 2 = b := rfl
@[go_sem] theorem argI_0 (k : IntKind) (b : Int) (l : List Value) : argI (List.toArray (.int k b :: l)) 0 = b := rfl
@[go_sem] theorem argI_1 (k : IntKind) (x : Value) (b : Int) (l : List Value) : argI (List.toArray (x :: .int k b :: l)) 1 = b := rfl
@[go_sem] theorem argI_2 (k : IntKind) (x y : Value) (b : Int) (l : List Value) : argI (List.toArray (x :: y :: .int k b :: l)) 2 = b := rfl
@[go_sem] theorem argI_3 (k : IntKind) (x y z : Value) (b : Int) (l : List Value) : argI (List.toArray (x :: y :: z :: .int k b :: l)) 3 = b := rfl
@[go_sem] theorem argB_0 (b : Bool) (l : List Value) : argB (List.toArray (.bool b :: l)) 0 = b := rfl
end Go.Proofs.YtcdcfkgdgimmcaaDoor
