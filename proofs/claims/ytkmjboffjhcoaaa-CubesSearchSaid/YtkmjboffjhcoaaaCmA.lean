/- CubesMatch: the walk of the statement where the cube is wrong; sameThree. -/
import Derived.Test.YtkmjboffjhcoaaaCR
import Derived.Test.YtkmjboffjhcoaaaBO
namespace Go.Proofs.Ytkmjboffjhcoaaa
open Go.RowKit
set_option maxHeartbeats 800000 in
theorem sameThree_any (a0 a1 a2 b0 b1 b2 : Nat) (w : World) : Calls Try.prog 61 #[.agg #[.float .f32 a0, .float .f32 a1, .float .f32 a2], .agg #[.float .f32 b0, .float .f32 b1, .float .f32 b2]] w fun e w' => e = .returned (.bool (decide (a0 = b0) && decide (a1 = b1) && decide (a2 = b2))) ∧ Below w.heap.size w w' := by
  go_enter Try.func61, Try.ntmps61
  go_wp2_with (first | (go_at_call 25; refine (same_any _ _ _).mono ?_; rintro e w' ⟨rfl, rfl⟩))
  all_goals (go_ret; refine ⟨ret_b ?_, by (repeat (first | exact Below.refl _ _ | assumption | (refine Below.setCell ?_ (by first | (simp; done) | (simp; omega) | omega) _) | (refine Below.drew ?_) | (refine below_drewN ?_ _) | (refine Below.alloc ?_ (by first | (simp; done) | (simp; omega) | omega) _) | (refine Below.trans ?_ (Below.mono (by assumption) (by first | (simp; done) | (simp; omega) | omega)))))⟩; simp [*])
/-- What stands of the statement's parameters. -/
structure CmR (w wr : World) (L : List Value) (p : Nat → Nat) : Prop where
  c : Blk wr w.heap.size L
  p : VecF wr (w.heap.size + 1) 4 p
  b : Below w.heap.size w wr
theorem CmR.past {w wr wy : World} {L : List Value} {p : Nat → Nat} (k : CmR w wr L p) (h : Below wr.heap.size wr wy) : CmR w wy L p := ⟨k.c.past h, k.p.past h, k.b.trans (h.mono k.b.size)⟩
set_option maxRecDepth 100000 in
set_option maxHeartbeats 4000000 in
theorem cm_no (size : Int) (lo hi : Nat) (a : Option Addr) (n cap : Nat) (i j k : Int) (p : Nat → Nat) (w : World) (hE : cubErr size lo hi n ≠ 0) :
    Calls Try.prog 14 #[.agg #[.int .i64 size, .float .f32 lo, .float .f32 hi, .slice a n cap], .int .i64 i, .int .i64 j, .int .i64 k, .agg #[.float .f32 (p 0), .float .f32 (p 1), .float .f32 (p 2), .float .f32 (p 3)]] w fun e w' => e = .returned (.bool true) ∧ Below w.heap.size w w' := by
  have hc : (cubErr size lo hi n != 0) = true := by simpa using hE
  have HNE := Lib.hid hE
  obtain ⟨E, hEE⟩ : ∃ E, E = cubErr size lo hi n := ⟨_, rfl⟩
  rw [← hEE] at hc
  have HE := Lib.hid hEE
  clear hEE hE
  go_enter Try.func14, Try.ntmps14
  go_upto_region 1 with fail
  refine wp_world (fun W hW => ?_)
  have CB : Blk W w.heap.size [.int .i64 size, .float .f32 lo, .float .f32 hi, .slice a n cap] := by rw [hW]; exact (Blk.new _ _ _ _ rfl).alloc _
  have PB : VecF W (w.heap.size + 1) 4 p := by rw [hW]; exact VecF.of4 (Blk.new _ _ _ _ (by simp))
  have BW : Below w.heap.size w W := by rw [hW]; (repeat (first | exact Below.refl _ _ | assumption | (refine Below.setCell ?_ (by first | (simp; done) | (simp; omega) | omega) _) | (refine Below.drew ?_) | (refine below_drewN ?_ _) | (refine Below.alloc ?_ (by first | (simp; done) | (simp; omega) | omega) _) | (refine Below.trans ?_ (Below.mono (by assumption) (by first | (simp; done) | (simp; omega) | omega)))))
  have HR : Hid (CmR w W [.int .i64 size, .float .f32 lo, .float .f32 hi, .slice a n cap] p) := ⟨CB, PB, BW⟩
  clear hW CB PB BW
  have c0 := HR.out.c.c 0 _ rfl; have c1 := HR.out.c.c 1 _ rfl; have c2 := HR.out.c.c 2 _ rfl; have c3 := HR.out.c.c 3 _ rfl; have cl := HR.out.c.lt
  have p0 := HR.out.p.c 0 (by omega); have p1 := HR.out.p.c 1 (by omega); have p2 := HR.out.p.c 2 (by omega); have p3 := HR.out.p.c 3 (by omega); have pl := HR.out.p.lt
  go_wp2_with fail
  refine (CubeError_any _ _ _ _ _ _ _).mono ?_
  rintro e w1 ⟨rfl, hb1⟩
  rw [← HE.out]
  have HR1 := Lib.hid (HR.out.past hb1)
  clear hb1 HR c0 c1 c2 c3 cl p0 p1 p2 p3 pl
  have c0 := HR1.out.c.c 0 _ rfl; have c1 := HR1.out.c.c 1 _ rfl; have c2 := HR1.out.c.c 2 _ rfl; have c3 := HR1.out.c.c 3 _ rfl; have cl := HR1.out.c.lt
  have p0 := HR1.out.p.c 0 (by omega); have p1 := HR1.out.p.c 1 (by omega); have p2 := HR1.out.p.c 2 (by omega); have p3 := HR1.out.p.c 3 (by omega); have pl := HR1.out.p.lt
  go_wp2_with fail
  refine (Entry_no _ _ _ _ _ _ _ _ _ _ HNE.out).mono ?_
  rintro e w2 ⟨rfl, hb2⟩
  rw [← HE.out]
  have HR2 := Lib.hid (HR1.out.past hb2)
  clear hb2 HR1 c0 c1 c2 c3 cl p0 p1 p2 p3 pl
  go_upto_region 3 with fail
  refine wp_world (fun W3 hW3 => ?_)
  have XB : Blk W3 w2.heap.size [.float .f32 0, .float .f32 0, .float .f32 0] := by rw [hW3]; exact Blk.new _ _ _ _ rfl
  have B3 : Below w2.heap.size w2 W3 := by rw [hW3]; (repeat (first | exact Below.refl _ _ | assumption | (refine Below.setCell ?_ (by first | (simp; done) | (simp; omega) | omega) _) | (refine Below.drew ?_) | (refine below_drewN ?_ _) | (refine Below.alloc ?_ (by first | (simp; done) | (simp; omega) | omega) _) | (refine Below.trans ?_ (Below.mono (by assumption) (by first | (simp; done) | (simp; omega) | omega)))))
  have HR3 := Lib.hid (HR2.out.past B3); have HX3 := Lib.hid XB
  clear hW3 XB B3 HR2
  generalize w2.heap.size = nx at *
  have c0 := HR3.out.c.c 0 _ rfl; have c1 := HR3.out.c.c 1 _ rfl; have c2 := HR3.out.c.c 2 _ rfl; have c3 := HR3.out.c.c 3 _ rfl; have cl := HR3.out.c.lt
  have p0 := HR3.out.p.c 0 (by omega); have p1 := HR3.out.p.c 1 (by omega); have p2 := HR3.out.p.c 2 (by omega); have p3 := HR3.out.p.c 3 (by omega); have pl := HR3.out.p.lt
  go_wp2_with fail
  refine (Tetra_no _ _ _ _ _ _ _ _ HNE.out).mono ?_
  rintro e w4 ⟨rfl, hb4⟩
  rw [← HE.out]
  have HR4 := Lib.hid (HR3.out.past hb4); have HX4 := Lib.hid (HX3.out.past hb4)
  clear hb4 HR3 HX3 c0 c1 c2 c3 cl p0 p1 p2 p3 pl
  go_upto_region 4 with fail
  refine wp_world (fun W5 hW5 => ?_)
  have TB : Blk W5 w4.heap.size [.float .f32 0, .float .f32 0, .float .f32 0, .float .f32 0] := by rw [hW5]; exact Blk.new _ _ _ _ rfl
  have B5 : Below w4.heap.size w4 W5 := by rw [hW5]; (repeat (first | exact Below.refl _ _ | assumption | (refine Below.setCell ?_ (by first | (simp; done) | (simp; omega) | omega) _) | (refine Below.drew ?_) | (refine below_drewN ?_ _) | (refine Below.alloc ?_ (by first | (simp; done) | (simp; omega) | omega) _) | (refine Below.trans ?_ (Below.mono (by assumption) (by first | (simp; done) | (simp; omega) | omega)))))
  have HR5 := Lib.hid (HR4.out.past B5); have HX5 := Lib.hid (HX4.out.past B5); have HT5 := Lib.hid TB
  clear hW5 TB B5 HR4 HX4
  generalize w4.heap.size = nt at *
  have c0 := HR5.out.c.c 0 _ rfl; have c1 := HR5.out.c.c 1 _ rfl; have c2 := HR5.out.c.c 2 _ rfl; have c3 := HR5.out.c.c 3 _ rfl; have cl := HR5.out.c.lt
  have p0 := HR5.out.p.c 0 (by omega); have p1 := HR5.out.p.c 1 (by omega); have p2 := HR5.out.p.c 2 (by omega); have p3 := HR5.out.p.c 3 (by omega); have pl := HR5.out.p.lt
  go_wp2_with fail
  refine (Linear_no _ _ _ _ _ _ _ _ HNE.out).mono ?_
  rintro e w6 ⟨rfl, hb6⟩
  rw [← HE.out]
  have HR6 := Lib.hid (HR5.out.past hb6); have HX6 := Lib.hid (HX5.out.past hb6); have HT6 := Lib.hid (HT5.out.past hb6)
  clear hb6 HR5 HX5 HT5 c0 c1 c2 c3 cl p0 p1 p2 p3 pl
  go_upto_region 5 with fail
  refine wp_world (fun W7 hW7 => ?_)
  have LB : Blk W7 w6.heap.size [.float .f32 0, .float .f32 0, .float .f32 0, .float .f32 0] := by rw [hW7]; exact Blk.new _ _ _ _ rfl
  have B7 : Below w6.heap.size w6 W7 := by rw [hW7]; (repeat (first | exact Below.refl _ _ | assumption | (refine Below.setCell ?_ (by first | (simp; done) | (simp; omega) | omega) _) | (refine Below.drew ?_) | (refine below_drewN ?_ _) | (refine Below.alloc ?_ (by first | (simp; done) | (simp; omega) | omega) _) | (refine Below.trans ?_ (Below.mono (by assumption) (by first | (simp; done) | (simp; omega) | omega)))))
  have HR7 := Lib.hid (HR6.out.past B7); have HX7 := Lib.hid (HX6.out.past B7); have HT7 := Lib.hid (HT6.out.past B7); have HL7 := Lib.hid LB
  clear hW7 LB B7 HR6 HX6 HT6
  generalize w6.heap.size = nl at *
  have c0 := HR7.out.c.c 0 _ rfl; have c1 := HR7.out.c.c 1 _ rfl; have c2 := HR7.out.c.c 2 _ rfl; have c3 := HR7.out.c.c 3 _ rfl; have cl := HR7.out.c.lt
  have p0 := HR7.out.p.c 0 (by omega); have p1 := HR7.out.p.c 1 (by omega); have p2 := HR7.out.p.c 2 (by omega); have p3 := HR7.out.p.c 3 (by omega); have pl := HR7.out.p.lt
  go_wp2_with fail
  refine (Place_no _ _ _ _ _ _ _ _ HNE.out).mono ?_
  rintro e w8 ⟨rfl, hb8⟩
  have HR8 := Lib.hid (HR7.out.past hb8); have HX8 := Lib.hid (HX7.out.past hb8); have HT8 := Lib.hid (HT7.out.past hb8); have HL8 := Lib.hid (HL7.out.past hb8)
  clear hb8 HR7 HX7 HT7 HL7 c0 c1 c2 c3 cl p0 p1 p2 p3 pl
  go_wp2_with fail
  refine (cubes_any _).mono ?_
  rintro e w9 ⟨rfl, hb9⟩
  have HR9 := Lib.hid (HR8.out.past hb9); have HX9 := Lib.hid (HX8.out.past hb9); have HT9 := Lib.hid (HT8.out.past hb9); have HL9 := Lib.hid (HL8.out.past hb9)
  clear hb9 HR8 HX8 HT8 HL8
  have c0 := HR9.out.c.c 0 _ rfl; have c1 := HR9.out.c.c 1 _ rfl; have c2 := HR9.out.c.c 2 _ rfl; have c3 := HR9.out.c.c 3 _ rfl; have cl := HR9.out.c.lt
  have p0 := HR9.out.p.c 0 (by omega); have p1 := HR9.out.p.c 1 (by omega); have p2 := HR9.out.p.c 2 (by omega); have p3 := HR9.out.p.c 3 (by omega); have pl := HR9.out.p.lt
  go_wp2_with fail
  refine (CuCheck_any _ _ _ _ _ _ _).mono ?_
  rintro e wa ⟨rfl, hba⟩
  rw [← HE.out]
  have HRa := Lib.hid (HR9.out.past hba); have HXa := Lib.hid (HX9.out.past hba); have HTa := Lib.hid (HT9.out.past hba); have HLa := Lib.hid (HL9.out.past hba)
  clear hba HR9 HX9 HT9 HL9 c0 c1 c2 c3 cl p0 p1 p2 p3 pl
  go_wp2_with fail
  refine (cubes_any _).mono ?_
  rintro e wb ⟨rfl, hbb⟩
  have HRb := Lib.hid (HRa.out.past hbb); have HXb := Lib.hid (HXa.out.past hbb); have HTb := Lib.hid (HTa.out.past hbb); have HLb := Lib.hid (HLa.out.past hbb)
  clear hbb HRa HXa HTa HLa
  have c0 := HRb.out.c.c 0 _ rfl; have c1 := HRb.out.c.c 1 _ rfl; have c2 := HRb.out.c.c 2 _ rfl; have c3 := HRb.out.c.c 3 _ rfl; have cl := HRb.out.c.lt
  have p0 := HRb.out.p.c 0 (by omega); have p1 := HRb.out.p.c 1 (by omega); have p2 := HRb.out.p.c 2 (by omega); have p3 := HRb.out.p.c 3 (by omega); have pl := HRb.out.p.lt
  go_wp2_with fail
  refine (CuCheck_any _ _ _ _ _ _ _).mono ?_
  rintro e wc ⟨rfl, hbc⟩
  rw [← HE.out]
  have HXc := HXb.out.past hbc; have HTc := HTb.out.past hbc; have HLc := HLb.out.past hbc; have Bc := (HRb.out.past hbc).b
  clear hbc HRb HXb HTb HLb c0 c1 c2 c3 cl p0 p1 p2 p3 pl
  have x0 := HXc.c 0 _ rfl; have x1 := HXc.c 1 _ rfl; have x2 := HXc.c 2 _ rfl; have xl := HXc.lt
  have t0 := HTc.c 0 _ rfl; have t1 := HTc.c 1 _ rfl; have t2 := HTc.c 2 _ rfl; have t3 := HTc.c 3 _ rfl; have tl := HTc.lt
  have l0 := HLc.c 0 _ rfl; have l1 := HLc.c 1 _ rfl; have l2 := HLc.c 2 _ rfl; have l3 := HLc.c 3 _ rfl; have ll := HLc.lt
  clear HXc HTc HLc
  have ez3 : ∀ w, Sem.run Try.prog (Op.equalIn 10000 58 (.agg #[.float .f32 0, .float .f32 0, .float .f32 0]) (.agg #[.float .f32 0, .float .f32 0, .float .f32 0])) w = .ok true w := fun w => by kernel_rfl
  have ez4 : ∀ w, Sem.run Try.prog (Op.equalIn 10000 65 (.agg #[.float .f32 0, .float .f32 0, .float .f32 0, .float .f32 0]) (.agg #[.float .f32 0, .float .f32 0, .float .f32 0, .float .f32 0])) w = .ok true w := fun w => by kernel_rfl
  have o0 : (FloatKind.f32.format.order 0 0 == some .eq) = true := by decide +kernel
  go_wp2_with fail
  go_ret
  exact ⟨ret_b (by simp), Bc⟩
end Go.Proofs.Ytkmjboffjhcoaaa
