/- What is made of the parameters of an operation: tone, grain, vignette, ramp. Conditions: the numbers can be read. (with: PgH) -/
import Derived.Test.YtbaocallhnehfaaGreatDoorQD
import Derived.Test.YtbaocallhnehfaaGreatDoorQE
namespace Go.Proofs.YtbaocallhnehfaaGreatDoor
open Go Go.RowKit
set_option maxRecDepth 100000 in
set_option maxHeartbeats 1600000 in
theorem mk_tone (bi oi : Nat) (i0 : Int) (br ro : Nat) (r0 r1 : Nat) (ci cr n m : Nat) (hn : 1 ≤ n) (hm : 2 ≤ m) (w : World) (c0 : w.cell? ⟨bi, oi, none⟩ = some (.int .i64 i0)) (d0 : w.cell? ⟨br, ro, none⟩ = some (.float .f32 r0)) (d1 : w.cell? ⟨br, ro + 1, none⟩ = some (.float .f32 r1)) : Calls Tryz.prog 57 #[.slice (some ⟨bi, oi, none⟩) n ci, .slice (some ⟨br, ro, none⟩) m cr] w fun e w' => e = .returned (.agg #[.int .i64 i0, .float .f32 r0, .float .f32 r1]) ∧ Below w.heap.size w w' := by
  have lc := cell_lt c0; simp only at lc
  have ld := cell_lt d0; simp only at ld
  have x0 : (0 : Int) < (n : Int) := by omega
  have u0 : 0 < n := by omega
  have y0 : (0 : Int) < (m : Int) := by omega
  have v0 : 0 < m := by omega
  have y1 : (1 : Int) < (m : Int) := by omega
  have v1 : 1 < m := by omega
  go_enter Tryz.func57, Tryz.ntmps57
  go_upto_region 1 with fail
  refine wp_world (fun W hW => ?_)
  have HW : Hid (Below w.heap.size w W ∧ Blk W w.heap.size [.int .i64 0, .float .f32 0, .float .f32 0]) := Lib.hid (by rw [hW]; exact ⟨by (repeat (first | exact Below.refl _ _ | assumption | (refine Below.setCell ?_ (by first | (simp; done) | (simp; omega) | omega) _) | (refine Below.drew ?_) | (refine below_drewN ?_ _) | (refine Below.alloc ?_ (by first | (simp; done) | (simp; omega) | omega) _) | (refine Below.trans ?_ (Below.mono (by assumption) (by first | (simp; done) | (simp; omega) | omega))))), Blk.new _ _ _ _ rfl⟩)
  have c0' := (HW.out.1.cell (p := ⟨bi, oi, none⟩) lc).trans c0
  have d0' := (HW.out.1.cell (p := ⟨br, ro, none⟩) ld).trans d0
  have d1' := (HW.out.1.cell (p := ⟨br, ro + 1, none⟩) ld).trans d1
  have hs := HW.out.1.size
  have lc' : bi < W.heap.size := by omega
  have ld' : br < W.heap.size := by omega
  clear hW lc c0 ld d0 d1
  refine wp_region_loose 10 (fun _ _ _ => False) (by kernel_rfl) (by kernel_rfl) ?_
  simp only [List.take_succ_cons, List.take_zero, List.drop_succ_cons, List.drop_zero]
  iterate 10 (refine loose_wanted rfl (fun K hK => ?_); go_simp; refine hK _ ?_; clear hK K)
  refine loose_nil (fun X hX => ?_)
  have hk := HW.out.2.past hX
  have HX := Lib.hid (HW.out.1.trans (hX.mono hs))
  have z0 := hk.c 0 _ rfl
  have z1 := hk.c 1 _ rfl
  have z2 := hk.c 2 _ rfl
  have zl := hk.lt; have zf := hk.f
  clear hk hX
  go_wp2_with fail
  refine bodyPost_retN (v := .agg #[.int .i64 i0, .float .f32 r0, .float .f32 r1]) (by simp [results, Tryz.results57, go_sem, z0, z1, z2]) rfl (fun WF hWF => ⟨rfl, ?_⟩)
  exact below_own HX.out (show Tch (fun b => b = w.heap.size) X WF by rw [hWF]; exact (((Tch.refl (fun b => b = w.heap.size) X).set ⟨w.heap.size, 0, none⟩ _ rfl).set ⟨w.heap.size, 1, none⟩ _ rfl).set ⟨w.heap.size, 2, none⟩ _ rfl) (Nat.le_refl _)
set_option maxRecDepth 100000 in
set_option maxHeartbeats 1600000 in
theorem mk_grain (bi oi : Nat) (i0 i1 i2 : Int) (br ro : Nat) (r0 r1 : Nat) (ci cr n m : Nat) (hn : 3 ≤ n) (hm : 2 ≤ m) (w : World) (c0 : w.cell? ⟨bi, oi, none⟩ = some (.int .i64 i0)) (c1 : w.cell? ⟨bi, oi + 1, none⟩ = some (.int .i64 i1)) (c2 : w.cell? ⟨bi, oi + 2, none⟩ = some (.int .i64 i2)) (d0 : w.cell? ⟨br, ro, none⟩ = some (.float .f32 r0)) (d1 : w.cell? ⟨br, ro + 1, none⟩ = some (.float .f32 r1)) : Calls Tryz.prog 60 #[.slice (some ⟨bi, oi, none⟩) n ci, .slice (some ⟨br, ro, none⟩) m cr] w fun e w' => e = .returned (.agg #[.int .u32 (i0 % 4294967296), .int .i64 i1, .float .f32 r0, .float .f32 r1, .bool (i2 == 1)]) ∧ Below w.heap.size w w' := by
  have lc := cell_lt c0; simp only at lc
  have ld := cell_lt d0; simp only at ld
  have x0 : (0 : Int) < (n : Int) := by omega
  have u0 : 0 < n := by omega
  have x1 : (1 : Int) < (n : Int) := by omega
  have u1 : 1 < n := by omega
  have x2 : (2 : Int) < (n : Int) := by omega
  have u2 : 2 < n := by omega
  have y0 : (0 : Int) < (m : Int) := by omega
  have v0 : 0 < m := by omega
  have y1 : (1 : Int) < (m : Int) := by omega
  have v1 : 1 < m := by omega
  go_enter Tryz.func60, Tryz.ntmps60
  go_upto_region 1 with fail
  refine wp_world (fun W hW => ?_)
  have HW : Hid (Below w.heap.size w W ∧ Blk W w.heap.size [.int .u32 0, .int .i64 0, .float .f32 0, .float .f32 0, .bool false]) := Lib.hid (by rw [hW]; exact ⟨by (repeat (first | exact Below.refl _ _ | assumption | (refine Below.setCell ?_ (by first | (simp; done) | (simp; omega) | omega) _) | (refine Below.drew ?_) | (refine below_drewN ?_ _) | (refine Below.alloc ?_ (by first | (simp; done) | (simp; omega) | omega) _) | (refine Below.trans ?_ (Below.mono (by assumption) (by first | (simp; done) | (simp; omega) | omega))))), Blk.new _ _ _ _ rfl⟩)
  have c0' := (HW.out.1.cell (p := ⟨bi, oi, none⟩) lc).trans c0
  have c1' := (HW.out.1.cell (p := ⟨bi, oi + 1, none⟩) lc).trans c1
  have c2' := (HW.out.1.cell (p := ⟨bi, oi + 2, none⟩) lc).trans c2
  have d0' := (HW.out.1.cell (p := ⟨br, ro, none⟩) ld).trans d0
  have d1' := (HW.out.1.cell (p := ⟨br, ro + 1, none⟩) ld).trans d1
  have hs := HW.out.1.size
  have lc' : bi < W.heap.size := by omega
  have ld' : br < W.heap.size := by omega
  clear hW lc c0 c1 c2 ld d0 d1
  refine wp_region_loose 18 (fun _ _ _ => False) (by kernel_rfl) (by kernel_rfl) ?_
  simp only [List.take_succ_cons, List.take_zero, List.drop_succ_cons, List.drop_zero]
  iterate 18 (refine loose_wanted rfl (fun K hK => ?_); go_simp; refine hK _ ?_; clear hK K)
  refine loose_nil (fun X hX => ?_)
  have hk := HW.out.2.past hX
  have HX := Lib.hid (HW.out.1.trans (hX.mono hs))
  have z0 := hk.c 0 _ rfl
  have z1 := hk.c 1 _ rfl
  have z2 := hk.c 2 _ rfl
  have z3 := hk.c 3 _ rfl
  have z4 := hk.c 4 _ rfl
  have zl := hk.lt; have zf := hk.f
  clear hk hX
  go_wp2_with fail
  refine bodyPost_retN (v := .agg #[.int .u32 (i0 % 4294967296), .int .i64 i1, .float .f32 r0, .float .f32 r1, .bool (i2 == 1)]) (by simp [results, Tryz.results60, go_sem, z0, z1, z2, z3, z4]) rfl (fun WF hWF => ⟨rfl, ?_⟩)
  exact below_own HX.out (show Tch (fun b => b = w.heap.size) X WF by rw [hWF]; exact (((((Tch.refl (fun b => b = w.heap.size) X).set ⟨w.heap.size, 0, none⟩ _ rfl).set ⟨w.heap.size, 1, none⟩ _ rfl).set ⟨w.heap.size, 2, none⟩ _ rfl).set ⟨w.heap.size, 3, none⟩ _ rfl).set ⟨w.heap.size, 4, none⟩ _ rfl) (Nat.le_refl _)
set_option maxRecDepth 100000 in
set_option maxHeartbeats 1600000 in
theorem mk_grainOf (bi oi : Nat) (i0 i1 i2 : Int) (br ro : Nat) (r0 r1 : Nat) (ci cr n m : Nat) (hn : 3 ≤ n) (hm : 2 ≤ m) (w : World) (c0 : w.cell? ⟨bi, oi, none⟩ = some (.int .i64 i0)) (c1 : w.cell? ⟨bi, oi + 1, none⟩ = some (.int .i64 i1)) (c2 : w.cell? ⟨bi, oi + 2, none⟩ = some (.int .i64 i2)) (d0 : w.cell? ⟨br, ro, none⟩ = some (.float .f32 r0)) (d1 : w.cell? ⟨br, ro + 1, none⟩ = some (.float .f32 r1)) : Calls Tryz.prog 41 #[.slice (some ⟨bi, oi, none⟩) n ci, .slice (some ⟨br, ro, none⟩) m cr] w fun e w' => e = .returned (.agg #[.int .u32 (i0 % 4294967296), .int .i64 i1, .float .f32 r0, .float .f32 r1, .bool (i2 == 1)]) ∧ Below w.heap.size w w' := by
  have lc := cell_lt c0; simp only at lc
  have ld := cell_lt d0; simp only at ld
  have x0 : (0 : Int) < (n : Int) := by omega
  have u0 : 0 < n := by omega
  have x1 : (1 : Int) < (n : Int) := by omega
  have u1 : 1 < n := by omega
  have x2 : (2 : Int) < (n : Int) := by omega
  have u2 : 2 < n := by omega
  have y0 : (0 : Int) < (m : Int) := by omega
  have v0 : 0 < m := by omega
  have y1 : (1 : Int) < (m : Int) := by omega
  have v1 : 1 < m := by omega
  go_enter Tryz.func41, Tryz.ntmps41
  go_upto_region 1 with fail
  refine wp_world (fun W hW => ?_)
  have HW : Hid (Below w.heap.size w W ∧ Blk W w.heap.size [.int .u32 0, .int .i64 0, .float .f32 0, .float .f32 0, .bool false]) := Lib.hid (by rw [hW]; exact ⟨by (repeat (first | exact Below.refl _ _ | assumption | (refine Below.setCell ?_ (by first | (simp; done) | (simp; omega) | omega) _) | (refine Below.drew ?_) | (refine below_drewN ?_ _) | (refine Below.alloc ?_ (by first | (simp; done) | (simp; omega) | omega) _) | (refine Below.trans ?_ (Below.mono (by assumption) (by first | (simp; done) | (simp; omega) | omega))))), Blk.new _ _ _ _ rfl⟩)
  have c0' := (HW.out.1.cell (p := ⟨bi, oi, none⟩) lc).trans c0
  have c1' := (HW.out.1.cell (p := ⟨bi, oi + 1, none⟩) lc).trans c1
  have c2' := (HW.out.1.cell (p := ⟨bi, oi + 2, none⟩) lc).trans c2
  have d0' := (HW.out.1.cell (p := ⟨br, ro, none⟩) ld).trans d0
  have d1' := (HW.out.1.cell (p := ⟨br, ro + 1, none⟩) ld).trans d1
  have hs := HW.out.1.size
  have lc' : bi < W.heap.size := by omega
  have ld' : br < W.heap.size := by omega
  clear hW lc c0 c1 c2 ld d0 d1
  refine wp_region_loose 18 (fun _ _ _ => False) (by kernel_rfl) (by kernel_rfl) ?_
  simp only [List.take_succ_cons, List.take_zero, List.drop_succ_cons, List.drop_zero]
  iterate 18 (refine loose_wanted rfl (fun K hK => ?_); go_simp; refine hK _ ?_; clear hK K)
  refine loose_nil (fun X hX => ?_)
  have hk := HW.out.2.past hX
  have HX := Lib.hid (HW.out.1.trans (hX.mono hs))
  have z0 := hk.c 0 _ rfl
  have z1 := hk.c 1 _ rfl
  have z2 := hk.c 2 _ rfl
  have z3 := hk.c 3 _ rfl
  have z4 := hk.c 4 _ rfl
  have zl := hk.lt; have zf := hk.f
  clear hk hX
  go_wp2_with fail
  refine bodyPost_retN (v := .agg #[.int .u32 (i0 % 4294967296), .int .i64 i1, .float .f32 r0, .float .f32 r1, .bool (i2 == 1)]) (by simp [results, Tryz.results41, go_sem, z0, z1, z2, z3, z4]) rfl (fun WF hWF => ⟨rfl, ?_⟩)
  exact below_own HX.out (show Tch (fun b => b = w.heap.size) X WF by rw [hWF]; exact (((((Tch.refl (fun b => b = w.heap.size) X).set ⟨w.heap.size, 0, none⟩ _ rfl).set ⟨w.heap.size, 1, none⟩ _ rfl).set ⟨w.heap.size, 2, none⟩ _ rfl).set ⟨w.heap.size, 3, none⟩ _ rfl).set ⟨w.heap.size, 4, none⟩ _ rfl) (Nat.le_refl _)
set_option maxRecDepth 100000 in
set_option maxHeartbeats 1600000 in
theorem mk_vignette (br ro : Nat) (r0 r1 r2 r3 r4 : Nat) (cr m : Nat) (hm : 5 ≤ m) (w : World) (d0 : w.cell? ⟨br, ro, none⟩ = some (.float .f32 r0)) (d1 : w.cell? ⟨br, ro + 1, none⟩ = some (.float .f32 r1)) (d2 : w.cell? ⟨br, ro + 2, none⟩ = some (.float .f32 r2)) (d3 : w.cell? ⟨br, ro + 3, none⟩ = some (.float .f32 r3)) (d4 : w.cell? ⟨br, ro + 4, none⟩ = some (.float .f32 r4)) : Calls Tryz.prog 63 #[.slice (some ⟨br, ro, none⟩) m cr] w fun e w' => e = .returned (.agg #[.float .f32 r0, .float .f32 r1, .float .f32 r2, .float .f32 r3, .float .f32 r4]) ∧ Below w.heap.size w w' := by
  have ld := cell_lt d0; simp only at ld
  have y0 : (0 : Int) < (m : Int) := by omega
  have v0 : 0 < m := by omega
  have y1 : (1 : Int) < (m : Int) := by omega
  have v1 : 1 < m := by omega
  have y2 : (2 : Int) < (m : Int) := by omega
  have v2 : 2 < m := by omega
  have y3 : (3 : Int) < (m : Int) := by omega
  have v3 : 3 < m := by omega
  have y4 : (4 : Int) < (m : Int) := by omega
  have v4 : 4 < m := by omega
  go_enter Tryz.func63, Tryz.ntmps63
  go_upto_region 1 with fail
  refine wp_world (fun W hW => ?_)
  have HW : Hid (Below w.heap.size w W ∧ Blk W w.heap.size [.float .f32 0, .float .f32 0, .float .f32 0, .float .f32 0, .float .f32 0]) := Lib.hid (by rw [hW]; exact ⟨by (repeat (first | exact Below.refl _ _ | assumption | (refine Below.setCell ?_ (by first | (simp; done) | (simp; omega) | omega) _) | (refine Below.drew ?_) | (refine below_drewN ?_ _) | (refine Below.alloc ?_ (by first | (simp; done) | (simp; omega) | omega) _) | (refine Below.trans ?_ (Below.mono (by assumption) (by first | (simp; done) | (simp; omega) | omega))))), Blk.new _ _ _ _ rfl⟩)
  have d0' := (HW.out.1.cell (p := ⟨br, ro, none⟩) ld).trans d0
  have d1' := (HW.out.1.cell (p := ⟨br, ro + 1, none⟩) ld).trans d1
  have d2' := (HW.out.1.cell (p := ⟨br, ro + 2, none⟩) ld).trans d2
  have d3' := (HW.out.1.cell (p := ⟨br, ro + 3, none⟩) ld).trans d3
  have d4' := (HW.out.1.cell (p := ⟨br, ro + 4, none⟩) ld).trans d4
  have hs := HW.out.1.size
  have ld' : br < W.heap.size := by omega
  clear hW  ld d0 d1 d2 d3 d4
  refine wp_region_loose 16 (fun _ _ _ => False) (by kernel_rfl) (by kernel_rfl) ?_
  simp only [List.take_succ_cons, List.take_zero, List.drop_succ_cons, List.drop_zero]
  iterate 16 (refine loose_wanted rfl (fun K hK => ?_); go_simp; refine hK _ ?_; clear hK K)
  refine loose_nil (fun X hX => ?_)
  have hk := HW.out.2.past hX
  have HX := Lib.hid (HW.out.1.trans (hX.mono hs))
  have z0 := hk.c 0 _ rfl
  have z1 := hk.c 1 _ rfl
  have z2 := hk.c 2 _ rfl
  have z3 := hk.c 3 _ rfl
  have z4 := hk.c 4 _ rfl
  have zl := hk.lt; have zf := hk.f
  clear hk hX
  go_wp2_with fail
  refine bodyPost_retN (v := .agg #[.float .f32 r0, .float .f32 r1, .float .f32 r2, .float .f32 r3, .float .f32 r4]) (by simp [results, Tryz.results63, go_sem, z0, z1, z2, z3, z4]) rfl (fun WF hWF => ⟨rfl, ?_⟩)
  exact below_own HX.out (show Tch (fun b => b = w.heap.size) X WF by rw [hWF]; exact (((((Tch.refl (fun b => b = w.heap.size) X).set ⟨w.heap.size, 0, none⟩ _ rfl).set ⟨w.heap.size, 1, none⟩ _ rfl).set ⟨w.heap.size, 2, none⟩ _ rfl).set ⟨w.heap.size, 3, none⟩ _ rfl).set ⟨w.heap.size, 4, none⟩ _ rfl) (Nat.le_refl _)
set_option maxRecDepth 100000 in
set_option maxHeartbeats 1600000 in
theorem mk_ramp (br ro : Nat) (r0 r1 r2 : Nat) (cr m : Nat) (hm : 3 ≤ m) (w : World) (d0 : w.cell? ⟨br, ro, none⟩ = some (.float .f32 r0)) (d1 : w.cell? ⟨br, ro + 1, none⟩ = some (.float .f32 r1)) (d2 : w.cell? ⟨br, ro + 2, none⟩ = some (.float .f32 r2)) : Calls Tryz.prog 65 #[.slice (some ⟨br, ro, none⟩) m cr] w fun e w' => e = .returned (.agg #[.float .f32 r0, .float .f32 r1, .float .f32 r2]) ∧ Below w.heap.size w w' := by
  have ld := cell_lt d0; simp only at ld
  have y0 : (0 : Int) < (m : Int) := by omega
  have v0 : 0 < m := by omega
  have y1 : (1 : Int) < (m : Int) := by omega
  have v1 : 1 < m := by omega
  have y2 : (2 : Int) < (m : Int) := by omega
  have v2 : 2 < m := by omega
  go_enter Tryz.func65, Tryz.ntmps65
  go_upto_region 1 with fail
  refine wp_world (fun W hW => ?_)
  have HW : Hid (Below w.heap.size w W ∧ Blk W w.heap.size [.float .f32 0, .float .f32 0, .float .f32 0]) := Lib.hid (by rw [hW]; exact ⟨by (repeat (first | exact Below.refl _ _ | assumption | (refine Below.setCell ?_ (by first | (simp; done) | (simp; omega) | omega) _) | (refine Below.drew ?_) | (refine below_drewN ?_ _) | (refine Below.alloc ?_ (by first | (simp; done) | (simp; omega) | omega) _) | (refine Below.trans ?_ (Below.mono (by assumption) (by first | (simp; done) | (simp; omega) | omega))))), Blk.new _ _ _ _ rfl⟩)
  have d0' := (HW.out.1.cell (p := ⟨br, ro, none⟩) ld).trans d0
  have d1' := (HW.out.1.cell (p := ⟨br, ro + 1, none⟩) ld).trans d1
  have d2' := (HW.out.1.cell (p := ⟨br, ro + 2, none⟩) ld).trans d2
  have hs := HW.out.1.size
  have ld' : br < W.heap.size := by omega
  clear hW  ld d0 d1 d2
  refine wp_region_loose 10 (fun _ _ _ => False) (by kernel_rfl) (by kernel_rfl) ?_
  simp only [List.take_succ_cons, List.take_zero, List.drop_succ_cons, List.drop_zero]
  iterate 10 (refine loose_wanted rfl (fun K hK => ?_); go_simp; refine hK _ ?_; clear hK K)
  refine loose_nil (fun X hX => ?_)
  have hk := HW.out.2.past hX
  have HX := Lib.hid (HW.out.1.trans (hX.mono hs))
  have z0 := hk.c 0 _ rfl
  have z1 := hk.c 1 _ rfl
  have z2 := hk.c 2 _ rfl
  have zl := hk.lt; have zf := hk.f
  clear hk hX
  go_wp2_with fail
  refine bodyPost_retN (v := .agg #[.float .f32 r0, .float .f32 r1, .float .f32 r2]) (by simp [results, Tryz.results65, go_sem, z0, z1, z2]) rfl (fun WF hWF => ⟨rfl, ?_⟩)
  exact below_own HX.out (show Tch (fun b => b = w.heap.size) X WF by rw [hWF]; exact (((Tch.refl (fun b => b = w.heap.size) X).set ⟨w.heap.size, 0, none⟩ _ rfl).set ⟨w.heap.size, 1, none⟩ _ rfl).set ⟨w.heap.size, 2, none⟩ _ rfl) (Nat.le_refl _)
set_option maxRecDepth 100000 in
set_option maxHeartbeats 1600000 in
theorem mk_rampOf (br ro : Nat) (r0 r1 r2 : Nat) (cr m : Nat) (hm : 3 ≤ m) (w : World) (d0 : w.cell? ⟨br, ro, none⟩ = some (.float .f32 r0)) (d1 : w.cell? ⟨br, ro + 1, none⟩ = some (.float .f32 r1)) (d2 : w.cell? ⟨br, ro + 2, none⟩ = some (.float .f32 r2)) : Calls Tryz.prog 44 #[.slice (some ⟨br, ro, none⟩) m cr] w fun e w' => e = .returned (.agg #[.float .f32 r0, .float .f32 r1, .float .f32 r2]) ∧ Below w.heap.size w w' := by
  have ld := cell_lt d0; simp only at ld
  have y0 : (0 : Int) < (m : Int) := by omega
  have v0 : 0 < m := by omega
  have y1 : (1 : Int) < (m : Int) := by omega
  have v1 : 1 < m := by omega
  have y2 : (2 : Int) < (m : Int) := by omega
  have v2 : 2 < m := by omega
  go_enter Tryz.func44, Tryz.ntmps44
  go_upto_region 1 with fail
  refine wp_world (fun W hW => ?_)
  have HW : Hid (Below w.heap.size w W ∧ Blk W w.heap.size [.float .f32 0, .float .f32 0, .float .f32 0]) := Lib.hid (by rw [hW]; exact ⟨by (repeat (first | exact Below.refl _ _ | assumption | (refine Below.setCell ?_ (by first | (simp; done) | (simp; omega) | omega) _) | (refine Below.drew ?_) | (refine below_drewN ?_ _) | (refine Below.alloc ?_ (by first | (simp; done) | (simp; omega) | omega) _) | (refine Below.trans ?_ (Below.mono (by assumption) (by first | (simp; done) | (simp; omega) | omega))))), Blk.new _ _ _ _ rfl⟩)
  have d0' := (HW.out.1.cell (p := ⟨br, ro, none⟩) ld).trans d0
  have d1' := (HW.out.1.cell (p := ⟨br, ro + 1, none⟩) ld).trans d1
  have d2' := (HW.out.1.cell (p := ⟨br, ro + 2, none⟩) ld).trans d2
  have hs := HW.out.1.size
  have ld' : br < W.heap.size := by omega
  clear hW  ld d0 d1 d2
  refine wp_region_loose 10 (fun _ _ _ => False) (by kernel_rfl) (by kernel_rfl) ?_
  simp only [List.take_succ_cons, List.take_zero, List.drop_succ_cons, List.drop_zero]
  iterate 10 (refine loose_wanted rfl (fun K hK => ?_); go_simp; refine hK _ ?_; clear hK K)
  refine loose_nil (fun X hX => ?_)
  have hk := HW.out.2.past hX
  have HX := Lib.hid (HW.out.1.trans (hX.mono hs))
  have z0 := hk.c 0 _ rfl
  have z1 := hk.c 1 _ rfl
  have z2 := hk.c 2 _ rfl
  have zl := hk.lt; have zf := hk.f
  clear hk hX
  go_wp2_with fail
  refine bodyPost_retN (v := .agg #[.float .f32 r0, .float .f32 r1, .float .f32 r2]) (by simp [results, Tryz.results44, go_sem, z0, z1, z2]) rfl (fun WF hWF => ⟨rfl, ?_⟩)
  exact below_own HX.out (show Tch (fun b => b = w.heap.size) X WF by rw [hWF]; exact (((Tch.refl (fun b => b = w.heap.size) X).set ⟨w.heap.size, 0, none⟩ _ rfl).set ⟨w.heap.size, 1, none⟩ _ rfl).set ⟨w.heap.size, 2, none⟩ _ rfl) (Nat.le_refl _)
end Go.Proofs.YtbaocallhnehfaaGreatDoor

namespace Go.Proofs.YtbaocallhnehfaaGreatDoor
open Go Go.RowKit
set_option maxRecDepth 100000 in
set_option maxHeartbeats 3200000 in
theorem mk_hue (br ro : Nat) (r0 r1 r2 r3 r4 r5 r6 r7 r8 : Nat) (cr : Nat) (hcr : 9 ≤ cr) (hcb : cr ≤ 9223372036854775807) (w : World) (d0 : w.cell? ⟨br, ro, none⟩ = some (.float .f32 r0)) (d1 : w.cell? ⟨br, ro + 1, none⟩ = some (.float .f32 r1)) (d2 : w.cell? ⟨br, ro + 2, none⟩ = some (.float .f32 r2)) (d3 : w.cell? ⟨br, ro + 3, none⟩ = some (.float .f32 r3)) (d4 : w.cell? ⟨br, ro + 4, none⟩ = some (.float .f32 r4)) (d5 : w.cell? ⟨br, ro + 5, none⟩ = some (.float .f32 r5)) (d6 : w.cell? ⟨br, ro + 6, none⟩ = some (.float .f32 r6)) (d7 : w.cell? ⟨br, ro + 7, none⟩ = some (.float .f32 r7)) (d8 : w.cell? ⟨br, ro + 8, none⟩ = some (.float .f32 r8)) : Calls Tryz.prog 66 #[.slice (some ⟨br, ro, none⟩) 9 cr] w fun e w' => e = .returned (.agg #[.float .f32 r0, .float .f32 r1, .float .f32 r2, .float .f32 r3, .float .f32 r4, .float .f32 r5, .float .f32 r6, .float .f32 r7, .float .f32 r8]) ∧ Below w.heap.size w w' := by
  have ld := cell_lt d0; simp only at ld
  have y1 : (9 : Int) ≤ (cr : Int) := by omega
  have y2 : (cr : Int) ≤ 9223372036854775807 := by omega
  have n3 : ¬ cr = 3 := by omega
  have n6 : ¬ cr = 6 := by omega
  go_enter Tryz.func66, Tryz.ntmps66
  go_upto_region 1 with fail
  refine wp_world (fun W hW => ?_)
  have HW : Hid (Below w.heap.size w W ∧ Blk W w.heap.size [.float .f32 0, .float .f32 0, .float .f32 0, .float .f32 0, .float .f32 0, .float .f32 0, .float .f32 0, .float .f32 0, .float .f32 0]) := Lib.hid (by rw [hW]; exact ⟨by (repeat (first | exact Below.refl _ _ | assumption | (refine Below.setCell ?_ (by first | (simp; done) | (simp; omega) | omega) _) | (refine Below.drew ?_) | (refine below_drewN ?_ _) | (refine Below.alloc ?_ (by first | (simp; done) | (simp; omega) | omega) _) | (refine Below.trans ?_ (Below.mono (by assumption) (by first | (simp; done) | (simp; omega) | omega))))), Blk.new _ _ _ _ rfl⟩)
  have e0 := (HW.out.1.cell (p := ⟨br, ro, none⟩) ld).trans d0
  have e1 := (HW.out.1.cell (p := ⟨br, ro + 1, none⟩) ld).trans d1
  have e2 := (HW.out.1.cell (p := ⟨br, ro + 2, none⟩) ld).trans d2
  have e3 := (HW.out.1.cell (p := ⟨br, ro + 3, none⟩) ld).trans d3
  have e4 := (HW.out.1.cell (p := ⟨br, ro + 4, none⟩) ld).trans d4
  have e5 := (HW.out.1.cell (p := ⟨br, ro + 5, none⟩) ld).trans d5
  have e6 := (HW.out.1.cell (p := ⟨br, ro + 6, none⟩) ld).trans d6
  have e7 := (HW.out.1.cell (p := ⟨br, ro + 7, none⟩) ld).trans d7
  have e8 := (HW.out.1.cell (p := ⟨br, ro + 8, none⟩) ld).trans d8
  have hs := HW.out.1.size
  have ld' : br < W.heap.size := by omega
  have HE := Lib.hid (And.intro e3 (And.intro e4 (And.intro e5 (And.intro e6 (And.intro e7 e8)))))
  have HCP : Hid (∀ w', Below W.heap.size W w' → w'.cell? ⟨br, ro, none⟩ = some (.float .f32 r0) ∧ w'.cell? ⟨br, ro + 1, none⟩ = some (.float .f32 r1) ∧ w'.cell? ⟨br, ro + 2, none⟩ = some (.float .f32 r2)) := Lib.hid (fun w' h' => ⟨(h'.cell (p := ⟨br, ro, none⟩) ld').trans e0, (h'.cell (p := ⟨br, ro + 1, none⟩) ld').trans e1, (h'.cell (p := ⟨br, ro + 2, none⟩) ld').trans e2⟩)
  clear hW ld e0 e1 e2 e3 e4 e5 e6 e7 e8 d0 d1 d2 d3 d4 d5 d6 d7 d8
  refine wp_region_C (fun w' => w'.cell? ⟨br, ro, none⟩ = some (.float .f32 r0) ∧ w'.cell? ⟨br, ro + 1, none⟩ = some (.float .f32 r1) ∧ w'.cell? ⟨br, ro + 2, none⟩ = some (.float .f32 r2)) 16 17 (by kernel_rfl) rfl ?_
  have hC := HCP.out W.drew ((Below.refl _ _).drew)
  refine wpAnyC_take (i := 0) (v := .slice (some ⟨br, ro, none⟩) 9 cr) rfl (by kernel_rfl) (by kernel_rfl) (fun _ _ _ h => h) (.inl ⟨rfl, fun w' hw' => ?_⟩) hC ?_
  · obtain ⟨k0, k1, k2⟩ := hw'
    go_simp
  refine wpAnyC_act (by rfl) ?_
  simp only [Act.put, List.setIfInBounds_toArray, List.set_cons_zero, List.set_cons_succ]
  refine wpAnyC_take (i := 1) (v := .pointer (some ⟨br, ro, none⟩)) rfl (by kernel_rfl) (by kernel_rfl) (fun _ _ _ h => h) (.inl ⟨rfl, fun w' hw' => ?_⟩) hC ?_
  · obtain ⟨k0, k1, k2⟩ := hw'
    go_simp
  refine wpAnyC_act (by rfl) ?_
  simp only [Act.put, List.setIfInBounds_toArray, List.set_cons_zero, List.set_cons_succ]
  refine wpAnyC_take (i := 2) (v := .float .f32 r0) rfl (by kernel_rfl) (by kernel_rfl) (fun _ _ _ h => h) (.inl ⟨rfl, fun w' hw' => ?_⟩) hC ?_
  · obtain ⟨k0, k1, k2⟩ := hw'
    go_simp
  refine wpAnyC_act (by rfl) ?_
  simp only [Act.put, List.setIfInBounds_toArray, List.set_cons_zero, List.set_cons_succ]
  refine wpAnyC_take (i := 3) (v := .slice (some ⟨br, ro, none⟩) 9 cr) rfl (by kernel_rfl) (by kernel_rfl) (fun _ _ _ h => h) (.inl ⟨rfl, fun w' hw' => ?_⟩) hC ?_
  · obtain ⟨k0, k1, k2⟩ := hw'
    go_simp
  refine wpAnyC_act (by rfl) ?_
  simp only [Act.put, List.setIfInBounds_toArray, List.set_cons_zero, List.set_cons_succ]
  refine wpAnyC_take (i := 4) (v := .pointer (some ⟨br, ro + 1, none⟩)) rfl (by kernel_rfl) (by kernel_rfl) (fun _ _ _ h => h) (.inl ⟨rfl, fun w' hw' => ?_⟩) hC ?_
  · obtain ⟨k0, k1, k2⟩ := hw'
    go_simp
  refine wpAnyC_act (by rfl) ?_
  simp only [Act.put, List.setIfInBounds_toArray, List.set_cons_zero, List.set_cons_succ]
  refine wpAnyC_take (i := 5) (v := .float .f32 r1) rfl (by kernel_rfl) (by kernel_rfl) (fun _ _ _ h => h) (.inl ⟨rfl, fun w' hw' => ?_⟩) hC ?_
  · obtain ⟨k0, k1, k2⟩ := hw'
    go_simp
  refine wpAnyC_act (by rfl) ?_
  simp only [Act.put, List.setIfInBounds_toArray, List.set_cons_zero, List.set_cons_succ]
  refine wpAnyC_take (i := 6) (v := .slice (some ⟨br, ro, none⟩) 9 cr) rfl (by kernel_rfl) (by kernel_rfl) (fun _ _ _ h => h) (.inl ⟨rfl, fun w' hw' => ?_⟩) hC ?_
  · obtain ⟨k0, k1, k2⟩ := hw'
    go_simp
  refine wpAnyC_act (by rfl) ?_
  simp only [Act.put, List.setIfInBounds_toArray, List.set_cons_zero, List.set_cons_succ]
  refine wpAnyC_take (i := 7) (v := .pointer (some ⟨br, ro + 2, none⟩)) rfl (by kernel_rfl) (by kernel_rfl) (fun _ _ _ h => h) (.inl ⟨rfl, fun w' hw' => ?_⟩) hC ?_
  · obtain ⟨k0, k1, k2⟩ := hw'
    go_simp
  refine wpAnyC_act (by rfl) ?_
  simp only [Act.put, List.setIfInBounds_toArray, List.set_cons_zero, List.set_cons_succ]
  refine wpAnyC_take (i := 8) (v := .float .f32 r2) rfl (by kernel_rfl) (by kernel_rfl) (fun _ _ _ h => h) (.inl ⟨rfl, fun w' hw' => ?_⟩) hC ?_
  · obtain ⟨k0, k1, k2⟩ := hw'
    go_simp
  refine wpAnyC_act (by rfl) ?_
  simp only [Act.put, List.setIfInBounds_toArray, List.set_cons_zero, List.set_cons_succ]
  refine wpAnyC_take (i := 9) (v := .slice (some ⟨br, ro, none⟩) 9 cr) rfl (by kernel_rfl) (by kernel_rfl) (fun _ _ _ h => h) (.inl ⟨rfl, fun w' hw' => ?_⟩) hC ?_
  · obtain ⟨k0, k1, k2⟩ := hw'
    go_simp
  refine wpAnyC_act (by rfl) ?_
  simp only [Act.put, List.setIfInBounds_toArray, List.set_cons_zero, List.set_cons_succ]
  refine wpAnyC_take (i := 10) (v := .slice (some ⟨br, ro + 3, none⟩) 6 (cr - 3)) rfl (by kernel_rfl) (by kernel_rfl) (fun _ _ _ h => h) (.inl ⟨rfl, fun w' hw' => ?_⟩) hC ?_
  · obtain ⟨k0, k1, k2⟩ := hw'
    go_simp
  refine wpAnyC_act (by rfl) ?_
  simp only [Act.put, List.setIfInBounds_toArray, List.set_cons_zero, List.set_cons_succ]
  refine wpAnyC_take (i := 12) (v := .slice (some ⟨br, ro, none⟩) 9 cr) rfl (by kernel_rfl) (by kernel_rfl) (fun _ _ _ h => h) (.inl ⟨rfl, fun w' hw' => ?_⟩) hC ?_
  · obtain ⟨k0, k1, k2⟩ := hw'
    go_simp
  refine wpAnyC_act (by rfl) ?_
  simp only [Act.put, List.setIfInBounds_toArray, List.set_cons_zero, List.set_cons_succ]
  refine wpAnyC_take (i := 13) (v := .slice (some ⟨br, ro + 6, none⟩) 3 (cr - 6)) rfl (by kernel_rfl) (by kernel_rfl) (fun _ _ _ h => h) (.inl ⟨rfl, fun w' hw' => ?_⟩) hC ?_
  · obtain ⟨k0, k1, k2⟩ := hw'
    go_simp
  refine wpAnyC_act (by rfl) ?_
  simp only [Act.put, List.setIfInBounds_toArray, List.set_cons_zero, List.set_cons_succ]
  refine wpAnyC_one (i := 11) rfl (by kernel_rfl) (fun K hK => ?_)
  ·
    go_simp
    refine (mk_ramp br (ro + 3) r3 r4 r5 (cr - 3) 6 (by omega) _ ((((Below.refl _ _).drew).cell (p := ⟨br, ro + 3, none⟩) ld').trans HE.out.1) ((((Below.refl _ _).drew).cell (p := ⟨br, ro + 3 + 1, none⟩) ld').trans HE.out.2.1) ((((Below.refl _ _).drew).cell (p := ⟨br, ro + 3 + 2, none⟩) ld').trans HE.out.2.2.1)).mono ?_
    rintro e w1 ⟨rfl, hb⟩
    have HB1 : Hid (Below W.heap.size W w1) := Lib.hid (((Below.refl _ _).drew).trans (hb.mono (by simp)))
    go_simp
    refine hK _ _ (fun _ => HCP.out _ HB1.out) ?_
    clear hK K hC hb
    refine wpAnyC_one (i := 14) rfl (by kernel_rfl) (fun K hK => ?_)
    go_simp
    refine (mk_ramp br (ro + 6) r6 r7 r8 (cr - 6) 3 (by omega) _ ((HB1.out.cell (p := ⟨br, ro + 6, none⟩) ld').trans HE.out.2.2.2.1) ((HB1.out.cell (p := ⟨br, ro + 6 + 1, none⟩) ld').trans HE.out.2.2.2.2.1) ((HB1.out.cell (p := ⟨br, ro + 6 + 2, none⟩) ld').trans HE.out.2.2.2.2.2)).mono ?_
    rintro e w2 ⟨rfl, hb⟩
    have HB2 : Hid (Below W.heap.size W w2) := Lib.hid (HB1.out.trans (hb.mono HB1.out.size))
    go_simp
    refine hK _ _ (fun _ => HCP.out _ HB2.out) ?_
    clear hK K hb
    have hC := HCP.out _ HB2.out
    refine wpAnyC_one (i := 15) rfl (by kernel_rfl) (fun K hK => ?_)
    go_simp
    refine hK _ _ (fun _ => hC) ?_
    clear hK K
    have hk := HW.out.2.past HB2.out
    have HX := Lib.hid (HW.out.1.trans (HB2.out.mono hs))
    have z0 := hk.c 0 _ rfl
    have z1 := hk.c 1 _ rfl
    have z2 := hk.c 2 _ rfl
    have z3 := hk.c 3 _ rfl
    have z4 := hk.c 4 _ rfl
    have z5 := hk.c 5 _ rfl
    have z6 := hk.c 6 _ rfl
    have z7 := hk.c 7 _ rfl
    have z8 := hk.c 8 _ rfl
    have zl := hk.lt; have zf := hk.f
    clear hk HB1 HB2 HW
    refine wpAnyC_one (i := 16) rfl (by kernel_rfl) (fun K hK => ?_)
    go_simp
    refine hK _ _ (fun h => by rw [getD_setSelf] at h; cases h) ?_
    clear hK K
    refine wpAnyC_done (by kernel_rfl) ?_
    go_wp2_with fail
    refine bodyPost_retN (v := .agg #[.float .f32 r0, .float .f32 r1, .float .f32 r2, .float .f32 r3, .float .f32 r4, .float .f32 r5, .float .f32 r6, .float .f32 r7, .float .f32 r8]) (by simp [results, Tryz.results66, go_sem, z0, z1, z2, z3, z4, z5, z6, z7, z8]) rfl (fun WF hWF => ⟨rfl, ?_⟩)
    exact below_own HX.out (show Tch (fun b => b = w.heap.size) w2 WF by rw [hWF]; exact ((((((((((Tch.refl (fun b => b = w.heap.size) w2).set ⟨w.heap.size, 0, none⟩ _ rfl).set ⟨w.heap.size, 1, none⟩ _ rfl).set ⟨w.heap.size, 2, none⟩ _ rfl).set ⟨w.heap.size, 3, none⟩ _ rfl).set ⟨w.heap.size, 4, none⟩ _ rfl).set ⟨w.heap.size, 5, none⟩ _ rfl).set ⟨w.heap.size, 6, none⟩ _ rfl).set ⟨w.heap.size, 7, none⟩ _ rfl).set ⟨w.heap.size, 8, none⟩ _ rfl)) (Nat.le_refl _)
set_option maxRecDepth 100000 in
set_option maxHeartbeats 3200000 in
theorem mk_hueOf (br ro : Nat) (r0 r1 r2 r3 r4 r5 r6 r7 r8 : Nat) (cr : Nat) (hcr : 9 ≤ cr) (hcb : cr ≤ 9223372036854775807) (w : World) (d0 : w.cell? ⟨br, ro, none⟩ = some (.float .f32 r0)) (d1 : w.cell? ⟨br, ro + 1, none⟩ = some (.float .f32 r1)) (d2 : w.cell? ⟨br, ro + 2, none⟩ = some (.float .f32 r2)) (d3 : w.cell? ⟨br, ro + 3, none⟩ = some (.float .f32 r3)) (d4 : w.cell? ⟨br, ro + 4, none⟩ = some (.float .f32 r4)) (d5 : w.cell? ⟨br, ro + 5, none⟩ = some (.float .f32 r5)) (d6 : w.cell? ⟨br, ro + 6, none⟩ = some (.float .f32 r6)) (d7 : w.cell? ⟨br, ro + 7, none⟩ = some (.float .f32 r7)) (d8 : w.cell? ⟨br, ro + 8, none⟩ = some (.float .f32 r8)) : Calls Tryz.prog 46 #[.slice (some ⟨br, ro, none⟩) 9 cr] w fun e w' => e = .returned (.agg #[.float .f32 r0, .float .f32 r1, .float .f32 r2, .float .f32 r3, .float .f32 r4, .float .f32 r5, .float .f32 r6, .float .f32 r7, .float .f32 r8]) ∧ Below w.heap.size w w' := by
  have ld := cell_lt d0; simp only at ld
  have y1 : (9 : Int) ≤ (cr : Int) := by omega
  have y2 : (cr : Int) ≤ 9223372036854775807 := by omega
  have n3 : ¬ cr = 3 := by omega
  have n6 : ¬ cr = 6 := by omega
  go_enter Tryz.func46, Tryz.ntmps46
  go_upto_region 1 with fail
  refine wp_world (fun W hW => ?_)
  have HW : Hid (Below w.heap.size w W ∧ Blk W w.heap.size [.float .f32 0, .float .f32 0, .float .f32 0, .float .f32 0, .float .f32 0, .float .f32 0, .float .f32 0, .float .f32 0, .float .f32 0]) := Lib.hid (by rw [hW]; exact ⟨by (repeat (first | exact Below.refl _ _ | assumption | (refine Below.setCell ?_ (by first | (simp; done) | (simp; omega) | omega) _) | (refine Below.drew ?_) | (refine below_drewN ?_ _) | (refine Below.alloc ?_ (by first | (simp; done) | (simp; omega) | omega) _) | (refine Below.trans ?_ (Below.mono (by assumption) (by first | (simp; done) | (simp; omega) | omega))))), Blk.new _ _ _ _ rfl⟩)
  have e0 := (HW.out.1.cell (p := ⟨br, ro, none⟩) ld).trans d0
  have e1 := (HW.out.1.cell (p := ⟨br, ro + 1, none⟩) ld).trans d1
  have e2 := (HW.out.1.cell (p := ⟨br, ro + 2, none⟩) ld).trans d2
  have e3 := (HW.out.1.cell (p := ⟨br, ro + 3, none⟩) ld).trans d3
  have e4 := (HW.out.1.cell (p := ⟨br, ro + 4, none⟩) ld).trans d4
  have e5 := (HW.out.1.cell (p := ⟨br, ro + 5, none⟩) ld).trans d5
  have e6 := (HW.out.1.cell (p := ⟨br, ro + 6, none⟩) ld).trans d6
  have e7 := (HW.out.1.cell (p := ⟨br, ro + 7, none⟩) ld).trans d7
  have e8 := (HW.out.1.cell (p := ⟨br, ro + 8, none⟩) ld).trans d8
  have hs := HW.out.1.size
  have ld' : br < W.heap.size := by omega
  have HE := Lib.hid (And.intro e3 (And.intro e4 (And.intro e5 (And.intro e6 (And.intro e7 e8)))))
  have HCP : Hid (∀ w', Below W.heap.size W w' → w'.cell? ⟨br, ro, none⟩ = some (.float .f32 r0) ∧ w'.cell? ⟨br, ro + 1, none⟩ = some (.float .f32 r1) ∧ w'.cell? ⟨br, ro + 2, none⟩ = some (.float .f32 r2)) := Lib.hid (fun w' h' => ⟨(h'.cell (p := ⟨br, ro, none⟩) ld').trans e0, (h'.cell (p := ⟨br, ro + 1, none⟩) ld').trans e1, (h'.cell (p := ⟨br, ro + 2, none⟩) ld').trans e2⟩)
  clear hW ld e0 e1 e2 e3 e4 e5 e6 e7 e8 d0 d1 d2 d3 d4 d5 d6 d7 d8
  refine wp_region_C (fun w' => w'.cell? ⟨br, ro, none⟩ = some (.float .f32 r0) ∧ w'.cell? ⟨br, ro + 1, none⟩ = some (.float .f32 r1) ∧ w'.cell? ⟨br, ro + 2, none⟩ = some (.float .f32 r2)) 16 17 (by kernel_rfl) rfl ?_
  have hC := HCP.out W.drew ((Below.refl _ _).drew)
  refine wpAnyC_take (i := 0) (v := .slice (some ⟨br, ro, none⟩) 9 cr) rfl (by kernel_rfl) (by kernel_rfl) (fun _ _ _ h => h) (.inl ⟨rfl, fun w' hw' => ?_⟩) hC ?_
  · obtain ⟨k0, k1, k2⟩ := hw'
    go_simp
  refine wpAnyC_act (by rfl) ?_
  simp only [Act.put, List.setIfInBounds_toArray, List.set_cons_zero, List.set_cons_succ]
  refine wpAnyC_take (i := 1) (v := .pointer (some ⟨br, ro, none⟩)) rfl (by kernel_rfl) (by kernel_rfl) (fun _ _ _ h => h) (.inl ⟨rfl, fun w' hw' => ?_⟩) hC ?_
  · obtain ⟨k0, k1, k2⟩ := hw'
    go_simp
  refine wpAnyC_act (by rfl) ?_
  simp only [Act.put, List.setIfInBounds_toArray, List.set_cons_zero, List.set_cons_succ]
  refine wpAnyC_take (i := 2) (v := .float .f32 r0) rfl (by kernel_rfl) (by kernel_rfl) (fun _ _ _ h => h) (.inl ⟨rfl, fun w' hw' => ?_⟩) hC ?_
  · obtain ⟨k0, k1, k2⟩ := hw'
    go_simp
  refine wpAnyC_act (by rfl) ?_
  simp only [Act.put, List.setIfInBounds_toArray, List.set_cons_zero, List.set_cons_succ]
  refine wpAnyC_take (i := 3) (v := .slice (some ⟨br, ro, none⟩) 9 cr) rfl (by kernel_rfl) (by kernel_rfl) (fun _ _ _ h => h) (.inl ⟨rfl, fun w' hw' => ?_⟩) hC ?_
  · obtain ⟨k0, k1, k2⟩ := hw'
    go_simp
  refine wpAnyC_act (by rfl) ?_
  simp only [Act.put, List.setIfInBounds_toArray, List.set_cons_zero, List.set_cons_succ]
  refine wpAnyC_take (i := 4) (v := .pointer (some ⟨br, ro + 1, none⟩)) rfl (by kernel_rfl) (by kernel_rfl) (fun _ _ _ h => h) (.inl ⟨rfl, fun w' hw' => ?_⟩) hC ?_
  · obtain ⟨k0, k1, k2⟩ := hw'
    go_simp
  refine wpAnyC_act (by rfl) ?_
  simp only [Act.put, List.setIfInBounds_toArray, List.set_cons_zero, List.set_cons_succ]
  refine wpAnyC_take (i := 5) (v := .float .f32 r1) rfl (by kernel_rfl) (by kernel_rfl) (fun _ _ _ h => h) (.inl ⟨rfl, fun w' hw' => ?_⟩) hC ?_
  · obtain ⟨k0, k1, k2⟩ := hw'
    go_simp
  refine wpAnyC_act (by rfl) ?_
  simp only [Act.put, List.setIfInBounds_toArray, List.set_cons_zero, List.set_cons_succ]
  refine wpAnyC_take (i := 6) (v := .slice (some ⟨br, ro, none⟩) 9 cr) rfl (by kernel_rfl) (by kernel_rfl) (fun _ _ _ h => h) (.inl ⟨rfl, fun w' hw' => ?_⟩) hC ?_
  · obtain ⟨k0, k1, k2⟩ := hw'
    go_simp
  refine wpAnyC_act (by rfl) ?_
  simp only [Act.put, List.setIfInBounds_toArray, List.set_cons_zero, List.set_cons_succ]
  refine wpAnyC_take (i := 7) (v := .pointer (some ⟨br, ro + 2, none⟩)) rfl (by kernel_rfl) (by kernel_rfl) (fun _ _ _ h => h) (.inl ⟨rfl, fun w' hw' => ?_⟩) hC ?_
  · obtain ⟨k0, k1, k2⟩ := hw'
    go_simp
  refine wpAnyC_act (by rfl) ?_
  simp only [Act.put, List.setIfInBounds_toArray, List.set_cons_zero, List.set_cons_succ]
  refine wpAnyC_take (i := 8) (v := .float .f32 r2) rfl (by kernel_rfl) (by kernel_rfl) (fun _ _ _ h => h) (.inl ⟨rfl, fun w' hw' => ?_⟩) hC ?_
  · obtain ⟨k0, k1, k2⟩ := hw'
    go_simp
  refine wpAnyC_act (by rfl) ?_
  simp only [Act.put, List.setIfInBounds_toArray, List.set_cons_zero, List.set_cons_succ]
  refine wpAnyC_take (i := 9) (v := .slice (some ⟨br, ro, none⟩) 9 cr) rfl (by kernel_rfl) (by kernel_rfl) (fun _ _ _ h => h) (.inl ⟨rfl, fun w' hw' => ?_⟩) hC ?_
  · obtain ⟨k0, k1, k2⟩ := hw'
    go_simp
  refine wpAnyC_act (by rfl) ?_
  simp only [Act.put, List.setIfInBounds_toArray, List.set_cons_zero, List.set_cons_succ]
  refine wpAnyC_take (i := 10) (v := .slice (some ⟨br, ro + 3, none⟩) 6 (cr - 3)) rfl (by kernel_rfl) (by kernel_rfl) (fun _ _ _ h => h) (.inl ⟨rfl, fun w' hw' => ?_⟩) hC ?_
  · obtain ⟨k0, k1, k2⟩ := hw'
    go_simp
  refine wpAnyC_act (by rfl) ?_
  simp only [Act.put, List.setIfInBounds_toArray, List.set_cons_zero, List.set_cons_succ]
  refine wpAnyC_take (i := 12) (v := .slice (some ⟨br, ro, none⟩) 9 cr) rfl (by kernel_rfl) (by kernel_rfl) (fun _ _ _ h => h) (.inl ⟨rfl, fun w' hw' => ?_⟩) hC ?_
  · obtain ⟨k0, k1, k2⟩ := hw'
    go_simp
  refine wpAnyC_act (by rfl) ?_
  simp only [Act.put, List.setIfInBounds_toArray, List.set_cons_zero, List.set_cons_succ]
  refine wpAnyC_take (i := 13) (v := .slice (some ⟨br, ro + 6, none⟩) 3 (cr - 6)) rfl (by kernel_rfl) (by kernel_rfl) (fun _ _ _ h => h) (.inl ⟨rfl, fun w' hw' => ?_⟩) hC ?_
  · obtain ⟨k0, k1, k2⟩ := hw'
    go_simp
  refine wpAnyC_act (by rfl) ?_
  simp only [Act.put, List.setIfInBounds_toArray, List.set_cons_zero, List.set_cons_succ]
  refine wpAnyC_one (i := 11) rfl (by kernel_rfl) (fun K hK => ?_)
  ·
    go_simp
    refine (mk_rampOf br (ro + 3) r3 r4 r5 (cr - 3) 6 (by omega) _ ((((Below.refl _ _).drew).cell (p := ⟨br, ro + 3, none⟩) ld').trans HE.out.1) ((((Below.refl _ _).drew).cell (p := ⟨br, ro + 3 + 1, none⟩) ld').trans HE.out.2.1) ((((Below.refl _ _).drew).cell (p := ⟨br, ro + 3 + 2, none⟩) ld').trans HE.out.2.2.1)).mono ?_
    rintro e w1 ⟨rfl, hb⟩
    have HB1 : Hid (Below W.heap.size W w1) := Lib.hid (((Below.refl _ _).drew).trans (hb.mono (by simp)))
    go_simp
    refine hK _ _ (fun _ => HCP.out _ HB1.out) ?_
    clear hK K hC hb
    refine wpAnyC_one (i := 14) rfl (by kernel_rfl) (fun K hK => ?_)
    go_simp
    refine (mk_rampOf br (ro + 6) r6 r7 r8 (cr - 6) 3 (by omega) _ ((HB1.out.cell (p := ⟨br, ro + 6, none⟩) ld').trans HE.out.2.2.2.1) ((HB1.out.cell (p := ⟨br, ro + 6 + 1, none⟩) ld').trans HE.out.2.2.2.2.1) ((HB1.out.cell (p := ⟨br, ro + 6 + 2, none⟩) ld').trans HE.out.2.2.2.2.2)).mono ?_
    rintro e w2 ⟨rfl, hb⟩
    have HB2 : Hid (Below W.heap.size W w2) := Lib.hid (HB1.out.trans (hb.mono HB1.out.size))
    go_simp
    refine hK _ _ (fun _ => HCP.out _ HB2.out) ?_
    clear hK K hb
    have hC := HCP.out _ HB2.out
    refine wpAnyC_one (i := 15) rfl (by kernel_rfl) (fun K hK => ?_)
    go_simp
    refine hK _ _ (fun _ => hC) ?_
    clear hK K
    have hk := HW.out.2.past HB2.out
    have HX := Lib.hid (HW.out.1.trans (HB2.out.mono hs))
    have z0 := hk.c 0 _ rfl
    have z1 := hk.c 1 _ rfl
    have z2 := hk.c 2 _ rfl
    have z3 := hk.c 3 _ rfl
    have z4 := hk.c 4 _ rfl
    have z5 := hk.c 5 _ rfl
    have z6 := hk.c 6 _ rfl
    have z7 := hk.c 7 _ rfl
    have z8 := hk.c 8 _ rfl
    have zl := hk.lt; have zf := hk.f
    clear hk HB1 HB2 HW
    refine wpAnyC_one (i := 16) rfl (by kernel_rfl) (fun K hK => ?_)
    go_simp
    refine hK _ _ (fun h => by rw [getD_setSelf] at h; cases h) ?_
    clear hK K
    refine wpAnyC_done (by kernel_rfl) ?_
    go_wp2_with fail
    refine bodyPost_retN (v := .agg #[.float .f32 r0, .float .f32 r1, .float .f32 r2, .float .f32 r3, .float .f32 r4, .float .f32 r5, .float .f32 r6, .float .f32 r7, .float .f32 r8]) (by simp [results, Tryz.results46, go_sem, z0, z1, z2, z3, z4, z5, z6, z7, z8]) rfl (fun WF hWF => ⟨rfl, ?_⟩)
    exact below_own HX.out (show Tch (fun b => b = w.heap.size) w2 WF by rw [hWF]; exact ((((((((((Tch.refl (fun b => b = w.heap.size) w2).set ⟨w.heap.size, 0, none⟩ _ rfl).set ⟨w.heap.size, 1, none⟩ _ rfl).set ⟨w.heap.size, 2, none⟩ _ rfl).set ⟨w.heap.size, 3, none⟩ _ rfl).set ⟨w.heap.size, 4, none⟩ _ rfl).set ⟨w.heap.size, 5, none⟩ _ rfl).set ⟨w.heap.size, 6, none⟩ _ rfl).set ⟨w.heap.size, 7, none⟩ _ rfl).set ⟨w.heap.size, 8, none⟩ _ rfl)) (Nat.le_refl _)
end Go.Proofs.YtbaocallhnehfaaGreatDoor
