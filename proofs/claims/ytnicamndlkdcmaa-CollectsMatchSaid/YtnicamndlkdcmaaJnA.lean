/- Frames put together: frame.offset, frame.Inside, frame.Common. Conditions: what each theorem names. -/
import Derived.Test.YtnicamndlkdcmaaSpC
namespace Go.Proofs.Ytnicamndlkdcmaa
open Go Go.RowKit
/-- A later world whose older blocks stand, but for one. -/
structure OneB (g : Nat) (w w' : World) : Prop where
  os : w'.os = w.os
  tape : w'.tape = w.tape
  output : w'.output = w.output
  size : w.heap.size ≤ w'.heap.size
  block : ∀ k, k < w.heap.size → k ≠ g → w'.heap[k]? = w.heap[k]?
theorem OneB.refl (g : Nat) (w : World) : OneB g w w := ⟨rfl, rfl, rfl, Nat.le_refl _, fun _ _ _ => rfl⟩
theorem OneB.trans {g : Nat} {a b c : World} (h : OneB g a b) (k : OneB g b c) : OneB g a c := ⟨k.os.trans h.os, k.tape.trans h.tape, k.output.trans h.output, Nat.le_trans h.size k.size, fun i hi hg => (k.block i (Nat.lt_of_lt_of_le hi h.size) hg).trans (h.block i hi hg)⟩
theorem OneB.of_below {g : Nat} {w w' : World} (h : Below w.heap.size w w') : OneB g w w' := ⟨h.os, h.tape, h.output, h.size, fun k hk _ => h.block k hk⟩
theorem OneB.setCell {g k : Nat} {w w' : World} {v : Value} (h : OneB g w w') : OneB g w (w'.setCell ⟨g, k, none⟩ v) := h.trans ⟨rfl, rfl, rfl, by simp [World.setCell], fun _ _ hk => Below.heap_setCell _ _ _ _ hk⟩
theorem OneB.below {g N : Nat} {w w' : World} (h : OneB g w w') (hg : N ≤ g) (hN : N ≤ w.heap.size) : Below N w w' := ⟨h.os, h.tape, h.output, h.size, fun k hk => h.block k (by omega) (by omega)⟩
theorem Blk.one {g n : Nat} {w w' : World} {vs : List Value} (k : Blk w n vs) (h : OneB g w w') (hn : n ≠ g) : Blk w' n vs := k.block h.size (h.block n k.lt hn)
theorem offset_any (X Y W H x y k : Int) (w : World) (_ : -1048576 ≤ Y ∧ Y ≤ 1048576) (hX : -1048576 ≤ X ∧ X ≤ 1048576) (hx : X ≤ x ∧ x ≤ X + 256) (hy : Y ≤ y ∧ y ≤ Y + 256) (hW : 1 ≤ W ∧ W ≤ 256) (hk : k = (y - Y) * W + x - X) :
    Calls Try.prog 62 #[.agg #[.int .i64 X, .int .i64 Y, .int .i64 W, .int .i64 H], .int .i64 x, .int .i64 y] w fun e w' => e = .returned (.int .i64 (4 * k)) ∧ Below w.heap.size w w' := by
  obtain ⟨P, hP⟩ : ∃ P, P = (y - Y) * W := ⟨_, rfl⟩
  have hP0 : 0 ≤ P ∧ P ≤ 65536 := by
    rw [hP]
    have h1 : 0 ≤ (y - Y) * W := Int.mul_nonneg (by omega) (by omega)
    have h2 : (y - Y) * W ≤ 256 * 256 := Int.mul_le_mul (by omega) (by omega) (by omega) (by omega)
    omega
  rw [← hP] at hk
  have wP : IntKind.i64.wrap ((y - Y) * W) = P := by rw [← hP, IntKind.wrap_i64]; omega
  have wk : IntKind.i64.wrap (P + x - X) = k := by rw [IntKind.wrap_i64]; omega
  have hkb : 0 ≤ k ∧ k ≤ 65792 := by omega
  clear hP
  go_enter Try.func62, Try.ntmps62
  go_wp2_with fail
  go_ret
  refine ⟨by simp [hk], ?_⟩
  (repeat (first | exact Below.refl _ _ | assumption | (refine Below.setCell ?_ (by first | (simp; done) | (simp; omega) | omega) _) | (refine Below.drew ?_) | (refine below_drewN ?_ _) | (refine Below.alloc ?_ (by first | (simp; done) | (simp; omega) | omega) _) | (refine Below.trans ?_ (Below.mono (by assumption) (by first | (simp; done) | (simp; omega) | omega)))))
theorem Inside_yes (x y v h X Y W H : Int) (w : World) (hX : -1048576 ≤ X ∧ X ≤ 1048576) (hY : -1048576 ≤ Y ∧ Y ≤ 1048576) (hx : -1048576 ≤ x ∧ x ≤ 1048576) (hy : -1048576 ≤ y ∧ y ≤ 1048576) (hv : 1 ≤ v ∧ v ≤ 256) (hh : 1 ≤ h ∧ h ≤ 256) (hW : 1 ≤ W ∧ W ≤ 256) (hH : 1 ≤ H ∧ H ≤ 256) (c1 : X ≤ x) (c2 : Y ≤ y) (c3 : x + v ≤ X + W) (c4 : y + h ≤ Y + H) :
    Calls Try.prog 61 #[.agg #[.int .i64 x, .int .i64 y, .int .i64 v, .int .i64 h], .agg #[.int .i64 X, .int .i64 Y, .int .i64 W, .int .i64 H]] w fun e w' => e = .returned (.bool true) ∧ Below w.heap.size w w' := by
  go_enter Try.func61, Try.ntmps61
  go_wp2_with fail
  go_ret
  refine ⟨rfl, ?_⟩
  (repeat (first | exact Below.refl _ _ | assumption | (refine Below.setCell ?_ (by first | (simp; done) | (simp; omega) | omega) _) | (refine Below.drew ?_) | (refine below_drewN ?_ _) | (refine Below.alloc ?_ (by first | (simp; done) | (simp; omega) | omega) _) | (refine Below.trans ?_ (Below.mono (by assumption) (by first | (simp; done) | (simp; omega) | omega)))))
theorem Inside_no (x y v h X Y W H : Int) (w : World) (hX : -1048576 ≤ X ∧ X ≤ 1048576) (hY : -1048576 ≤ Y ∧ Y ≤ 1048576) (hx : -1048576 ≤ x ∧ x ≤ 1048576) (hy : -1048576 ≤ y ∧ y ≤ 1048576) (hv : 1 ≤ v ∧ v ≤ 256) (hh : 1 ≤ h ∧ h ≤ 256) (hW : 1 ≤ W ∧ W ≤ 256) (hH : 1 ≤ H ∧ H ≤ 256) (hno : ¬ (X ≤ x ∧ Y ≤ y ∧ x + v ≤ X + W ∧ y + h ≤ Y + H)) :
    Calls Try.prog 61 #[.agg #[.int .i64 x, .int .i64 y, .int .i64 v, .int .i64 h], .agg #[.int .i64 X, .int .i64 Y, .int .i64 W, .int .i64 H]] w fun e w' => e = .returned (.bool false) ∧ Below w.heap.size w w' := by
  have hc : ¬ X ≤ x ∨ (X ≤ x ∧ ¬ Y ≤ y) ∨ (X ≤ x ∧ Y ≤ y ∧ ¬ x + v ≤ X + W) ∨ (X ≤ x ∧ Y ≤ y ∧ x + v ≤ X + W ∧ ¬ y + h ≤ Y + H) := by omega
  clear hno
  rcases hc with c1 | ⟨c1, c2⟩ | ⟨c1, c2, c3⟩ | ⟨c1, c2, c3, c4⟩
  all_goals
    go_enter Try.func61, Try.ntmps61
    go_wp2_with fail
    go_ret
    refine ⟨rfl, ?_⟩
    (repeat (first | exact Below.refl _ _ | assumption | (refine Below.setCell ?_ (by first | (simp; done) | (simp; omega) | omega) _) | (refine Below.drew ?_) | (refine below_drewN ?_ _) | (refine Below.alloc ?_ (by first | (simp; done) | (simp; omega) | omega) _) | (refine Below.trans ?_ (Below.mono (by assumption) (by first | (simp; done) | (simp; omega) | omega)))))
set_option maxRecDepth 100000 in
set_option maxHeartbeats 12800000 in
theorem Common_gen (X Y W H x y p q : Int) (w : World) (hX : -1048576 ≤ X ∧ X ≤ 1048576) (hY : -1048576 ≤ Y ∧ Y ≤ 1048576) (hW : 1 ≤ W ∧ W ≤ 256) (hH : 1 ≤ H ∧ H ≤ 256) (hp : 1 ≤ p ∧ p ≤ 256) (hq : 1 ≤ q ∧ q ≤ 256) (hx : x < X + W ∧ X < x + p) (hy : y < Y + H ∧ Y < y + q) :
    Calls Try.prog 60 #[.agg #[.int .i64 X, .int .i64 Y, .int .i64 W, .int .i64 H], .agg #[.int .i64 x, .int .i64 y, .int .i64 p, .int .i64 q]] w fun e w' => e = .returned (.tuple #[.agg #[.int .i64 (max X x), .int .i64 (max Y y), .int .i64 (min (X + W) (x + p) - max X x), .int .i64 (min (Y + H) (y + q) - max Y y)], .bool true]) ∧ Below w.heap.size w w' := by
  obtain ⟨mx, hmx⟩ : ∃ m, m = max X x := ⟨_, rfl⟩
  obtain ⟨my, hmy⟩ : ∃ m, m = max Y y := ⟨_, rfl⟩
  obtain ⟨ex, hex⟩ : ∃ m, m = min (X + W) (x + p) := ⟨_, rfl⟩
  obtain ⟨ey, hey⟩ : ∃ m, m = min (Y + H) (y + q) := ⟨_, rfl⟩
  have i1 : (if X < x then x else X) = mx := by rw [hmx]; split <;> omega
  have i2 : (if Y < y then y else Y) = my := by rw [hmy]; split <;> omega
  have i3 : (if x + p < X + W then x + p else X + W) = ex := by rw [hex]; split <;> omega
  have i4 : (if y + q < Y + H then y + q else Y + H) = ey := by rw [hey]; split <;> omega
  have b1 : -1048576 ≤ mx ∧ mx ≤ 1048832 := by omega
  have b2 : -1048576 ≤ my ∧ my ≤ 1048832 := by omega
  have b3 : 1 ≤ ex - mx ∧ ex - mx ≤ 256 := by omega
  have b4 : 1 ≤ ey - my ∧ ey - my ≤ 256 := by omega
  rw [← hmx, ← hmy, ← hex, ← hey]
  have hx1 : -1048832 ≤ x ∧ x ≤ 1048832 := by omega
  have hy1 : -1048832 ≤ y ∧ y ≤ 1048832 := by omega
  clear hmx hmy hex hey hx hy
  go_enter Try.func60, Try.ntmps60
  go_upto_region 1 with fail
  refine wp_world (fun W0 hW0 => ?_)
  have B0 : Below w.heap.size w W0 := by rw [hW0]; (repeat (first | exact Below.refl _ _ | assumption | (refine Below.setCell ?_ (by first | (simp; done) | (simp; omega) | omega) _) | (refine Below.drew ?_) | (refine below_drewN ?_ _) | (refine Below.alloc ?_ (by first | (simp; done) | (simp; omega) | omega) _) | (refine Below.trans ?_ (Below.mono (by assumption) (by first | (simp; done) | (simp; omega) | omega)))))
  have R1 : Blk W0 w.heap.size [.int .i64 X, .int .i64 Y, .int .i64 W, .int .i64 H] := by rw [hW0]; exact ((Blk.new _ _ _ _ rfl).alloc _).alloc _
  have R2 : Blk W0 (w.heap.size + 1) [.int .i64 x, .int .i64 y, .int .i64 p, .int .i64 q] := by rw [hW0]; exact (Blk.new _ _ _ _ (by simp)).alloc _
  have R3 : Blk W0 (w.heap.size + 1 + 1) [.int .i64 0, .int .i64 0, .int .i64 0, .int .i64 0] := by rw [hW0]; exact Blk.new _ _ _ _ (by simp)
  have HR := Lib.hid (And.intro R1 (And.intro R2 (And.intro R3 B0)))
  have p0 := R1.c 0 _ rfl; have p1 := R1.c 1 _ rfl; have p2 := R1.c 2 _ rfl; have p3 := R1.c 3 _ rfl; have pl := R1.lt
  have q0 := R2.c 0 _ rfl; have q1 := R2.c 1 _ rfl; have q2 := R2.c 2 _ rfl; have q3 := R2.c 3 _ rfl; have ql := R2.lt
  clear hW0 B0 R1 R2 R3
  go_quiet (fail)
  refine sp_exit (fun W1 hW1 => ?_)
  have B1 : Below W0.heap.size W0 W1 := by rw [hW1]; exact below_drewN (Below.refl _ _) _
  have HS := Lib.hid (And.intro (HR.out.1.past B1) (And.intro (HR.out.2.1.past B1) (And.intro (HR.out.2.2.1.past B1) (HR.out.2.2.2.trans (B1.mono HR.out.2.2.2.size)))))
  clear hW1 B1 p0 p1 p2 p3 pl q0 q1 q2 q3 ql HR
  have p0 := HS.out.1.c 0 _ rfl; have p1 := HS.out.1.c 1 _ rfl; have p2 := HS.out.1.c 2 _ rfl; have p3 := HS.out.1.c 3 _ rfl; have pl := HS.out.1.lt
  have q0 := HS.out.2.1.c 0 _ rfl; have q1 := HS.out.2.1.c 1 _ rfl; have q2 := HS.out.2.1.c 2 _ rfl; have q3 := HS.out.2.1.c 3 _ rfl; have ql := HS.out.2.1.lt
  go_upto_region 3 with fail
  refine wp_world (fun W3 hW3 => ?_)
  have B3 : Below W1.heap.size W1 W3 := by rw [hW3]; (repeat (first | exact Below.refl _ _ | assumption | (refine Below.setCell ?_ (by first | (simp; done) | (simp; omega) | omega) _) | (refine Below.drew ?_) | (refine below_drewN ?_ _) | (refine Below.alloc ?_ (by first | (simp; done) | (simp; omega) | omega) _) | (refine Below.trans ?_ (Below.mono (by assumption) (by first | (simp; done) | (simp; omega) | omega)))))
  have N3 : Blk W3 W1.heap.size [.int .i64 mx, .int .i64 my, .int .i64 (ex - mx), .int .i64 (ey - my)] := by rw [hW3]; exact Blk.new _ _ _ _ rfl
  have Z3 := HS.out.2.2.1.past B3
  have HB := Lib.hid (HS.out.2.2.2.trans (B3.mono HS.out.2.2.2.size))
  have hne : w.heap.size + 1 + 1 < W1.heap.size := HS.out.2.2.1.lt
  clear hW3 B3 p0 p1 p2 p3 pl q0 q1 q2 q3 ql HS
  have n0 := N3.c 0 _ rfl; have n1 := N3.c 1 _ rfl; have n2 := N3.c 2 _ rfl; have n3 := N3.c 3 _ rfl; have nl := N3.lt
  have z0 := Z3.c 0 _ rfl; have z1 := Z3.c 1 _ rfl; have z2 := Z3.c 2 _ rfl; have z3 := Z3.c 3 _ rfl; have zf := Z3.f; have zl := Z3.lt
  clear N3 Z3
  go_wp2_with fail
  refine bodyPost_ret (v := .tuple #[.agg #[.int .i64 mx, .int .i64 my, .int .i64 (ex - mx), .int .i64 (ey - my)], .bool true]) (by simp [results, Try.results60, go_sem, z0, z1, z2, z3]) rfl ⟨rfl, ?_⟩
  have B2 := HB.out
  exact (((B2.setCell (by first | (simp; done) | (simp; omega) | omega) _).setCell (by first | (simp; done) | (simp; omega) | omega) _).setCell (by first | (simp; done) | (simp; omega) | omega) _).setCell (by first | (simp; done) | (simp; omega) | omega) _
end Go.Proofs.Ytnicamndlkdcmaa
