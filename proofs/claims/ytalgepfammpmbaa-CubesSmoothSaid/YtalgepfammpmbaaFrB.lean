/- What is wrong with a frame, in the document: dyeref2.FrameError. No condition. -/
import Derived.Test.YtalgepfammpmbaaFrA
namespace Go.Proofs.Ytalgepfammpmbaa
open Go.RowKit
set_option maxRecDepth 100000 in
set_option maxHeartbeats 1600000 in
theorem FrameErr_walk (x y v h : Int) (a : Option Addr) (len cap : Nat) (w : World) (hx : -9223372036854775808 ≤ x ∧ x ≤ 9223372036854775807) (hy : -9223372036854775808 ≤ y ∧ y ≤ 9223372036854775807) (E : Int) (b : Bool) (hE : regErr x y v h = E) (hB : ((len : Int) != IntKind.i64.wrap (IntKind.i64.wrap (4 * v) * h)) = b) :
    Calls Try.prog 20 #[.agg #[.int .i64 x, .int .i64 y, .int .i64 v, .int .i64 h, .slice a len cap]] w fun e w' => e = .returned (.int .i64 (firstE E (whenE b 2))) ∧ Below w.heap.size w w' := by
  have hx' := Lib.hid hx; clear hx
  have hy' := Lib.hid hy; clear hy
  have hE' := Lib.hid hE; clear hE
  have hB' := Lib.hid hB; clear hB
  go_enter Try.func20, Try.ntmps20
  go_wp2_with fail
  refine wp_region_loose 16 (fun f' _ u => (f' = 41 ∧ u = .int .i64 E) ∨ (f' = 42 ∧ u = .int .i64 (whenE b 2))) (by kernel_rfl) (by kernel_rfl) ?_
  simp only [List.take_succ_cons, List.take_zero, List.drop_succ_cons, List.drop_zero]
  iterate 2 (refine loose_wanted rfl (fun K hK => ?_); go_simp; refine hK _ ?_; clear hK K)
  refine loose_wanted rfl (fun K hK => ?_)
  go_simp
  refine ⟨fun p => (RegionError_any _ _ _ _ p.w hx'.out hy'.out).mono ?_, ?_⟩
  · rintro e w' ⟨rfl, hb⟩
    exact ⟨_, rfl, by rw [hE'.out], by first | exact p.h.trans (hb.mono p.h.size) | simpa using p.h.trans (hb.mono p.h.size)⟩
  refine hK _ ?_
  clear hK K
  iterate 12 (refine loose_wanted rfl (fun K hK => ?_); go_simp; refine hK _ ?_; clear hK K)
  refine loose_wanted rfl (fun K hK => ?_)
  go_simp
  refine ⟨fun p => (When_any _ _ p.w).mono ?_, ?_⟩
  · rintro e w' ⟨rfl, rfl⟩
    exact ⟨_, rfl, by rw [hB'.out], by first | exact p.h | simpa using p.h⟩
  refine hK _ ?_
  clear hK K
  refine loose_nil (fun w2 hb2 => ?_)
  have B2 : Below w.heap.size w w2 := by (repeat (first | exact Below.refl _ _ | assumption | (refine Below.setCell ?_ (by first | (simp; done) | (simp; omega) | omega) _) | (refine Below.drew ?_) | (refine below_drewN ?_ _) | (refine Below.alloc ?_ (by first | (simp; done) | (simp; omega) | omega) _) | (refine Below.trans ?_ (Below.mono (by assumption) (by first | (simp; done) | (simp; omega) | omega)))))
  go_wp2_with (first | (go_at_call 19; refine (First2_new _ _ _ _ _ (heap_new _ _ _ (by simp))).mono ?_; rintro e w' ⟨rfl, rfl⟩))
  go_ret
  refine ⟨rfl, ?_⟩
  have zz := hb2.size
  simp at zz
  (repeat (first | exact Below.refl _ _ | assumption | (refine Below.setCell ?_ (by first | (simp; done) | (simp; omega) | omega) _) | (refine Below.drew ?_) | (refine below_drewN ?_ _) | (refine Below.alloc ?_ (by first | (simp; done) | (simp; omega) | omega) _) | (refine Below.trans ?_ (Below.mono (by assumption) (by first | (simp; done) | (simp; omega) | omega)))))
theorem FrameError_any (x y v h : Int) (a : Option Addr) (len cap : Nat) (w : World) (hx : -9223372036854775808 ≤ x ∧ x ≤ 9223372036854775807) (hy : -9223372036854775808 ≤ y ∧ y ≤ 9223372036854775807) :
    Calls Try.prog 20 #[.agg #[.int .i64 x, .int .i64 y, .int .i64 v, .int .i64 h, .slice a len cap]] w fun e w' => e = .returned (.int .i64 (fraErr x y v h len)) ∧ Below w.heap.size w w' := by
  refine (FrameErr_walk x y v h a len cap w hx hy _ _ rfl rfl).mono ?_
  rintro e w' ⟨rfl, hb⟩
  refine ⟨ret_i ?_, hb⟩
  unfold fraErr
  by_cases he : regErr x y v h = 0
  · obtain ⟨r1, r2, r3, r4, r5, r6, -⟩ := regErr_ok he
    have hlt : 4 * v * h ≤ 65536 := by rw [Int.mul_assoc]; omega
    have hlt0 : 0 ≤ 4 * v * h := by rw [Int.mul_assoc]; omega
    have e1 : IntKind.i64.wrap (4 * v) = 4 * v := by rw [IntKind.wrap_i64]; omega
    have e2 : IntKind.i64.wrap (4 * v * h) = 4 * v * h := by
      rw [IntKind.wrap_i64]
      generalize 4 * v * h = z at *
      omega
    rw [e1, e2, he, if_pos rfl]
    by_cases hl : (len : Int) = 4 * v * h
    · have hne : ((len : Int) != 4 * v * h) = false := by simpa using hl
      rw [if_pos hl, hne]; rfl
    · have hne : ((len : Int) != 4 * v * h) = true := by simpa using hl
      rw [if_neg hl, hne]; rfl
  · rw [if_neg he, firstE_of _ he]
end Go.Proofs.Ytalgepfammpmbaa
