/- Tiles: frame.floorDiv, frame.Common. Conditions: what each theorem names. -/
import Derived.Test.YtnicamndlkdcmaaBG
namespace Go.Proofs.Ytnicamndlkdcmaa
open Go Go.RowKit
theorem sp_exit {next : Act → World → Prop} {Q : Exit → Act → World → Prop} {e : Exit} {a : Act} {w : World} (h : ∀ W, W = w → Exit.then next Q e a W) : Exit.then next Q e a w := h w rfl
theorem tdivS (a : Int) {b : Int} (hb : 1 ≤ b) : b * a.tdiv b + a.tmod b = a ∧ -b < a.tmod b ∧ a.tmod b < b := by
  refine ⟨Int.mul_tdiv_add_tmod a b, ?_, ?_⟩
  · have := Int.lt_tmod_of_pos a (show 0 < b by omega); omega
  · exact Int.tmod_lt_of_pos a (by omega)
theorem floorS {a b q r : Int} (hb : 1 ≤ b) (h : b * q + r = a) (h0 : 0 ≤ r) (h1 : r < b) : q = a / b ∧ r = a % b := by
  have e : q = a / b := by
    symm
    rw [← h, Int.mul_add_ediv_left _ _ (by omega), Int.ediv_eq_zero_of_lt h0 h1, Int.add_zero]
  refine ⟨e, ?_⟩
  have := Int.mul_ediv_add_emod a b
  rw [← e] at this
  omega
set_option maxHeartbeats 800000 in
theorem fdiv_any (a b : Int) (w : World) (ha : -1048576 ≤ a ∧ a ≤ 1048576) (hb : 1 ≤ b ∧ b ≤ 256) : Calls Try.prog 59 #[.int .i64 a, .int .i64 b] w fun e w' => e = .returned (.tuple #[.int .i64 (a / b), .int .i64 (a % b)]) ∧ ∃ n, w' = w.drewN n := by
  obtain ⟨e1, e2, e3⟩ := tdivS a hb.1
  have hq : -1048576 ≤ a.tdiv b ∧ a.tdiv b ≤ 1048576 := by
    have := Int.natAbs_tdiv_le_natAbs a b
    omega
  have H := Lib.hid (And.intro e1 (And.intro hb hq))
  have hb0 : ¬ b = 0 := by omega
  clear e1
  go_enter Try.func59, Try.ntmps59
  go_wp2_with fail
  go_quiet (fail)
  go_upto_region 2 with fail
  by_cases h0 : a.tmod b < 0
  · obtain ⟨f1, f2⟩ := floorS (a := a) (b := b) (q := a.tdiv b - 1) (r := a.tmod b + b) hb.1 (by rw [Int.mul_sub, Int.mul_one]; have := H.out; omega) (by omega) (by omega)
    have hq := H.out.2.2
    have HF := Lib.hid (And.intro f1 f2)
    clear f1 f2
    go_wp2_with fail
    go_ret2
    exact ⟨by rw [← HF.out.1, ← HF.out.2]; rfl, _, rfl⟩
  · obtain ⟨f1, f2⟩ := floorS (a := a) (b := b) (q := a.tdiv b) (r := a.tmod b) hb.1 (by have := H.out; omega) (by omega) (by omega)
    have HF := Lib.hid (And.intro f1 f2)
    clear f1 f2
    go_wp2_with fail
    go_ret2
    exact ⟨by rw [← HF.out.1, ← HF.out.2]; rfl, _, rfl⟩
set_option maxRecDepth 100000 in
set_option maxHeartbeats 12800000 in
theorem Common_in (X Y W H x y s : Int) (w : World) (hX : -1048576 ≤ X ∧ X ≤ 1048576) (hY : -1048576 ≤ Y ∧ Y ≤ 1048576) (hW : 1 ≤ W ∧ W ≤ 256) (hH : 1 ≤ H ∧ H ≤ 256) (hs : 1 ≤ s ∧ s ≤ 256) (hx : x < X + W ∧ X < x + s) (hy : y < Y + H ∧ Y < y + s) :
    Calls Try.prog 60 #[.agg #[.int .i64 X, .int .i64 Y, .int .i64 W, .int .i64 H], .agg #[.int .i64 x, .int .i64 y, .int .i64 s, .int .i64 s]] w fun e w' => e = .returned (.tuple #[.agg #[.int .i64 (max X x), .int .i64 (max Y y), .int .i64 (min (X + W) (x + s) - max X x), .int .i64 (min (Y + H) (y + s) - max Y y)], .bool true]) ∧ Below w.heap.size w w' := by
  obtain ⟨mx, hmx⟩ : ∃ m, m = max X x := ⟨_, rfl⟩
  obtain ⟨my, hmy⟩ : ∃ m, m = max Y y := ⟨_, rfl⟩
  obtain ⟨ex, hex⟩ : ∃ m, m = min (X + W) (x + s) := ⟨_, rfl⟩
  obtain ⟨ey, hey⟩ : ∃ m, m = min (Y + H) (y + s) := ⟨_, rfl⟩
  have i1 : (if X < x then x else X) = mx := by rw [hmx]; split <;> omega
  have i2 : (if Y < y then y else Y) = my := by rw [hmy]; split <;> omega
  have i3 : (if x + s < X + W then x + s else X + W) = ex := by rw [hex]; split <;> omega
  have i4 : (if y + s < Y + H then y + s else Y + H) = ey := by rw [hey]; split <;> omega
  have b1 : -1048576 ≤ mx ∧ mx ≤ 1048832 := by omega
  have b2 : -1048576 ≤ my ∧ my ≤ 1048832 := by omega
  have b3 : 1 ≤ ex - mx ∧ ex - mx ≤ 256 := by omega
  have b4 : 1 ≤ ey - my ∧ ey - my ≤ 256 := by omega
  rw [← hmx, ← hmy, ← hex, ← hey]
  have hx1 : -1048832 ≤ x ∧ x ≤ 1048832 := by omega
  have hy1 : -1048832 ≤ y ∧ y ≤ 1048832 := by omega
  clear hmx hmy hex hey hx hy
  go_enter Try.func60, Try.ntmps60
  go_upto_region 1 with fail
  refine wp_world (fun W0 hW0 => ?_)
  have B0 : Below w.heap.size w W0 := by rw [hW0]; (repeat (first | exact Below.refl _ _ | assumption | (refine Below.setCell ?_ (by first | (simp; done) | (simp; omega) | omega) _) | (refine Below.drew ?_) | (refine below_drewN ?_ _) | (refine Below.alloc ?_ (by first | (simp; done) | (simp; omega) | omega) _) | (refine Below.trans ?_ (Below.mono (by assumption) (by first | (simp; done) | (simp; omega) | omega)))))
  have R1 : Blk W0 w.heap.size [.int .i64 X, .int .i64 Y, .int .i64 W, .int .i64 H] := by rw [hW0]; exact ((Blk.new _ _ _ _ rfl).alloc _).alloc _
  have R2 : Blk W0 (w.heap.size + 1) [.int .i64 x, .int .i64 y, .int .i64 s, .int .i64 s] := by rw [hW0]; exact (Blk.new _ _ _ _ (by simp)).alloc _
  have R3 : Blk W0 (w.heap.size + 1 + 1) [.int .i64 0, .int .i64 0, .int .i64 0, .int .i64 0] := by rw [hW0]; exact Blk.new _ _ _ _ (by simp)
  have HR := Lib.hid (And.intro R1 (And.intro R2 (And.intro R3 B0)))
  have p0 := R1.c 0 _ rfl; have p1 := R1.c 1 _ rfl; have p2 := R1.c 2 _ rfl; have p3 := R1.c 3 _ rfl; have pl := R1.lt
  have q0 := R2.c 0 _ rfl; have q1 := R2.c 1 _ rfl; have q2 := R2.c 2 _ rfl; have q3 := R2.c 3 _ rfl; have ql := R2.lt
  clear hW0 B0 R1 R2 R3
  go_quiet (fail)
  refine sp_exit (fun W1 hW1 => ?_)
  have B1 : Below W0.heap.size W0 W1 := by rw [hW1]; exact below_drewN (Below.refl _ _) _
  have HS := Lib.hid (And.intro (HR.out.1.past B1) (And.intro (HR.out.2.1.past B1) (And.intro (HR.out.2.2.1.past B1) (HR.out.2.2.2.trans (B1.mono HR.out.2.2.2.size)))))
  clear hW1 B1 p0 p1 p2 p3 pl q0 q1 q2 q3 ql HR
  have p0 := HS.out.1.c 0 _ rfl; have p1 := HS.out.1.c 1 _ rfl; have p2 := HS.out.1.c 2 _ rfl; have p3 := HS.out.1.c 3 _ rfl; have pl := HS.out.1.lt
  have q0 := HS.out.2.1.c 0 _ rfl; have q1 := HS.out.2.1.c 1 _ rfl; have q2 := HS.out.2.1.c 2 _ rfl; have q3 := HS.out.2.1.c 3 _ rfl; have ql := HS.out.2.1.lt
  go_upto_region 3 with fail
  refine wp_world (fun W3 hW3 => ?_)
  have B3 : Below W1.heap.size W1 W3 := by rw [hW3]; (repeat (first | exact Below.refl _ _ | assumption | (refine Below.setCell ?_ (by first | (simp; done) | (simp; omega) | omega) _) | (refine Below.drew ?_) | (refine below_drewN ?_ _) | (refine Below.alloc ?_ (by first | (simp; done) | (simp; omega) | omega) _) | (refine Below.trans ?_ (Below.mono (by assumption) (by first | (simp; done) | (simp; omega) | omega)))))
  have N3 : Blk W3 W1.heap.size [.int .i64 mx, .int .i64 my, .int .i64 (ex - mx), .int .i64 (ey - my)] := by rw [hW3]; exact Blk.new _ _ _ _ rfl
  have Z3 := HS.out.2.2.1.past B3
  have HB := Lib.hid (HS.out.2.2.2.trans (B3.mono HS.out.2.2.2.size))
  have hne : w.heap.size + 1 + 1 < W1.heap.size := HS.out.2.2.1.lt
  clear hW3 B3 p0 p1 p2 p3 pl q0 q1 q2 q3 ql HS
  have n0 := N3.c 0 _ rfl; have n1 := N3.c 1 _ rfl; have n2 := N3.c 2 _ rfl; have n3 := N3.c 3 _ rfl; have nl := N3.lt
  have z0 := Z3.c 0 _ rfl; have z1 := Z3.c 1 _ rfl; have z2 := Z3.c 2 _ rfl; have z3 := Z3.c 3 _ rfl; have zf := Z3.f; have zl := Z3.lt
  clear N3 Z3
  go_wp2_with fail
  refine bodyPost_ret (v := .tuple #[.agg #[.int .i64 mx, .int .i64 my, .int .i64 (ex - mx), .int .i64 (ey - my)], .bool true]) (by simp [results, Try.results60, go_sem, z0, z1, z2, z3]) rfl ⟨rfl, ?_⟩
  have B2 := HB.out
  exact (((B2.setCell (by first | (simp; done) | (simp; omega) | omega) _).setCell (by first | (simp; done) | (simp; omega) | omega) _).setCell (by first | (simp; done) | (simp; omega) | omega) _).setCell (by first | (simp; done) | (simp; omega) | omega) _
end Go.Proofs.Ytnicamndlkdcmaa
