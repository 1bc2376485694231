/- A pixel of a frame: dyeref2.PixelAt within it. No condition. -/
import Derived.Test.YtalgepfammpmbaaFrC
namespace Go.Proofs.Ytalgepfammpmbaa
open Go.RowKit
theorem array_at (b o c : Nat) (w : World) : (Instr.arrayAt 41 (.slice (some ⟨b, o, none⟩) 4 c)).run Try.prog w = .ok (.pointer (some ⟨b, o, none⟩)) w := by kernel_rfl
set_option maxRecDepth 100000 in
set_option maxHeartbeats 1600000 in
theorem PixelAt_in (x y v h : Int) (b off n cap : Nat) (px py : Int) (k p0 p1 p2 p3 : Nat) (w : World) (he : regErr x y v h = 0) (hn : (n : Int) = 4 * v * h) (hx : x ≤ px ∧ px ≤ x + v - 1) (hy : y ≤ py ∧ py ≤ y + h - 1) (hk : 4 * ((py - y) * v + px - x) = (k : Int)) (hkn : k + 4 ≤ n) (hcap : n ≤ cap) (hcb : cap ≤ 9223372036854775807)
    (c0 : w.cell? ⟨b, off + k, none⟩ = some (.float .f32 p0)) (c1 : w.cell? ⟨b, off + k + 1, none⟩ = some (.float .f32 p1)) (c2 : w.cell? ⟨b, off + k + 2, none⟩ = some (.float .f32 p2)) (c3 : w.cell? ⟨b, off + k + 3, none⟩ = some (.float .f32 p3)) :
    Calls Try.prog 29 #[.agg #[.int .i64 x, .int .i64 y, .int .i64 v, .int .i64 h, .slice (some ⟨b, off, none⟩) n cap], .int .i64 px, .int .i64 py] w fun e w' => e = .returned (.agg #[.float .f32 p0, .float .f32 p1, .float .f32 p2, .float .f32 p3]) ∧ Below w.heap.size w w' := by
  obtain ⟨r1, r2, r3, r4, r5, r6, r7, r8, r9, r10⟩ := regErr_ok he
  obtain ⟨x1, x2⟩ := hx
  obtain ⟨y1, y2⟩ := hy
  have m0 : 0 ≤ (py - y) * v := Int.mul_nonneg (by omega) (by omega)
  have m1 : (py - y) * v ≤ 256 * 256 := Int.mul_le_mul (by omega) r2 (by omega) (by omega)
  clear he r5 r6
  have hn' := Lib.hid hn; clear hn
  have sa := array_at
  have hbw : b < w.heap.size := cell_lt c0
  go_enter Try.func29, Try.ntmps29
  go_wp2_with fail
  refine bodyPost_ret (v := .agg #[.float .f32 p0, .float .f32 p1, .float .f32 p2, .float .f32 p3]) (by simp [results, Try.results29, go_sem]) rfl ⟨rfl, ?_⟩
  (repeat (first | exact Below.refl _ _ | assumption | (refine Below.setCell ?_ (by first | (simp; done) | (simp; omega) | omega) _) | (refine Below.drew ?_) | (refine below_drewN ?_ _) | (refine Below.alloc ?_ (by first | (simp; done) | (simp; omega) | omega) _) | (refine Below.trans ?_ (Below.mono (by assumption) (by first | (simp; done) | (simp; omega) | omega)))))
end Go.Proofs.Ytalgepfammpmbaa
