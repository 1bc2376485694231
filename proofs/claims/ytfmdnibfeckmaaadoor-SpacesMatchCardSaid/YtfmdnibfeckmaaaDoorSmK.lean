/- The document's six spaces. No condition. -/
import Derived.Test.YtfmdnibfeckmaaaDoorSmJ
namespace Go.Proofs.YtfmdnibfeckmaaaDoor
open Go Go.RowKit
abbrev spcS (i : Nat) : List Value := spcL (nmS i) (prS i) (kiS i) (taS i) (tbS i) (tcS i)
def allS : List Value := spcS 0 ++ (spcS 1 ++ (spcS 2 ++ (spcS 3 ++ (spcS 4 ++ spcS 5))))
theorem spot_any (x y : Nat) (w : World) : Calls Tryd.prog 12 #[.float .f32 x, .float .f32 y] w fun e w' => e = .returned (.agg #[.float .f32 x, .float .f32 y]) ∧ Below w.heap.size w w' := by
  go_enter Tryd.func12, Tryd.ntmps12
  go_wp2
  refine bodyPost_ret (v := .agg #[.float .f32 x, .float .f32 y]) (by simp [results, Tryd.results12, go_sem]) rfl ⟨rfl, ?_⟩
  (repeat (first | exact Below.refl _ _ | assumption | (refine Below.setCell ?_ (by first | (simp; done) | (simp; omega) | omega) _) | (refine Below.drew ?_) | (refine below_drewN ?_ _) | (refine Below.alloc ?_ (by first | (simp; done) | (simp; omega) | omega) _) | (refine Below.trans ?_ (Below.mono (by assumption) (by first | (simp; done) | (simp; omega) | omega)))))
set_option maxRecDepth 100000 in
set_option maxHeartbeats 6400000 in
theorem SpacesOf_any (w : World) : Calls Tryd.prog 4 #[] w fun e w' => (∃ g, e = .returned (.slice (some ⟨g, 0, none⟩) 6 6) ∧ w.heap.size ≤ g ∧ Blk w' g allS) ∧ Below w.heap.size w w' := by
  go_enter Tryd.func4, Tryd.ntmps4
  go_upto_region 3 with (go_at_call 12; refine (spot_any _ _ _).mono ?_; rintro e w1 ⟨rfl, hb1⟩)
  refine wp_world (fun W hW => ?_)
  have HW : Hid (Blk W w1.heap.size [.float .f32 1050679863, .float .f32 1051226800] ∧ Below w.heap.size w W) := Lib.hid (by rw [hW]; exact ⟨Blk.new _ _ _ _ rfl, hb1.alloc hb1.size _⟩)
  have hlw := hb1.size
  clear hW hb1
  generalize w1.heap.size = nd at *
  have c0 := HW.out.1.c 0 _ rfl; have c1 := HW.out.1.c 1 _ rfl; have cl := HW.out.1.lt
  refine wp_region_looseM 9 (fun _ args u => u = .agg args) [(8, 3, .cells #[.float .f32 0, .float .f32 0, .float .f32 0, .float .f32 0, .float .f32 0, .float .f32 0, .float .f32 0, .float .f32 0] 26)] (by kernel_rfl) (by kernel_rfl) (by kernel_rfl) (by intro m hm; cases hm with | head => exact ⟨_, rfl, ⟨rfl, rfl, fun ev w => by kernel_rfl⟩⟩ | tail _ h => cases h) (by intro m hm; cases hm with | head => exact of_decide_eq_true (by kernel_rfl) | tail _ h => cases h) ?_
  simp only [List.take_succ_cons, List.take_zero, List.drop_succ_cons, List.drop_zero]
  (refine looseM_wanted rfl (fun K hK => ?_); go_simp; refine hK _ ?_; clear hK K)
  refine looseM_wanted rfl (fun K hK => ?_)
  go_simp
  refine ⟨fun z => (spot_any _ _ z.w).mono ?_, ?_⟩
  · rintro e w' ⟨rfl, hb⟩
    exact ⟨_, rfl, rfl, hb⟩
  refine hK _ ?_
  clear hK K
  (refine looseM_wanted rfl (fun K hK => ?_); go_simp; refine hK _ ?_; clear hK K)
  refine looseM_wanted rfl (fun K hK => ?_)
  go_simp
  refine ⟨fun z => (spot_any _ _ z.w).mono ?_, ?_⟩
  · rintro e w' ⟨rfl, hb⟩
    exact ⟨_, rfl, rfl, hb⟩
  refine hK _ ?_
  clear hK K
  (refine looseM_wanted rfl (fun K hK => ?_); go_simp; refine hK _ ?_; clear hK K)
  refine looseM_wanted rfl (fun K hK => ?_)
  go_simp
  refine ⟨fun z => (spot_any _ _ z.w).mono ?_, ?_⟩
  · rintro e w' ⟨rfl, hb⟩
    exact ⟨_, rfl, rfl, hb⟩
  refine hK _ ?_
  clear hK K
  (refine looseM_wanted rfl (fun K hK => ?_); go_simp; refine hK _ ?_; clear hK K)
  (refine looseM_wanted rfl (fun K hK => ?_); go_simp; refine hK _ ?_; clear hK K)
  refine looseM_lays (d := 3) (blk := .cells #[.float .f32 0, .float .f32 0, .float .f32 0, .float .f32 0, .float .f32 0, .float .f32 0, .float .f32 0, .float .f32 0] 26) ⟨rfl, rfl, fun ev w => by kernel_rfl⟩ (fun pg hpg => ?_)
  refine looseM_nil (fun w5 hb5 hg5 _ => ?_)
  obtain ⟨pg', hpg1, hpg2⟩ := hg5 _ (List.Mem.head _)
  obtain rfl : pg = pg' := by cases hpg1; rfl
  have hgl : pg < w5.heap.size := (Array.getElem?_eq_some_iff.1 hpg2).1
  have GP : Blk w5 pg [.float .f32 0, .float .f32 0, .float .f32 0, .float .f32 0, .float .f32 0, .float .f32 0, .float .f32 0, .float .f32 0] := ⟨hgl, fun i v hv => by simp [World.cell?, hpg2, hv], fun o => by simp [World.frozen?, hpg2]⟩
  have g0 := GP.c 0 _ rfl; have g1 := GP.c 1 _ rfl; have g2 := GP.c 2 _ rfl; have g3 := GP.c 3 _ rfl; have g4 := GP.c 4 _ rfl; have g5 := GP.c 5 _ rfl; have g6 := GP.c 6 _ rfl; have g7 := GP.c 7 _ rfl; have gf := GP.f
  have hpd : nd < pg := by have := HW.out.1.lt; omega
  have H5 : Hid (Blk w5 nd [.float .f32 1050679863, .float .f32 1051226800] ∧ Below w.heap.size w w5 ∧ Blk w5 pg [.float .f32 0, .float .f32 0, .float .f32 0, .float .f32 0, .float .f32 0, .float .f32 0, .float .f32 0, .float .f32 0]) := Lib.hid ⟨HW.out.1.past hb5, HW.out.2.trans (hb5.mono HW.out.2.size), GP⟩
  clear hpg1 hg5 hpg2 hb5 c0 c1 cl GP HW hpg
  go_upto_region 4 with fail
  refine wp_world (fun V hV => ?_)
  have HV : Hid (Blk V nd [.float .f32 1050679863, .float .f32 1051226800] ∧ Blk V pg [.float .f32 1059313418, .float .f32 1051260355, .float .f32 1050253722, .float .f32 1058642330, .float .f32 1041865114, .float .f32 1031127695, .float .f32 1050679863, .float .f32 1051226800] ∧ Below w.heap.size w V) := Lib.hid (by
    rw [hV]
    have hx := H5.out
    have ne : pg ≠ nd := by omega
    refine ⟨((((((((hx.1.far _ _ ne).far _ _ ne).far _ _ ne).far _ _ ne).far _ _ ne).far _ _ ne).far _ _ ne).far _ _ ne), (((((((hx.2.2.set 0 _).set 1 _).set 2 _).set 3 _).set 4 _).set 5 _).set 6 _).set 7 _, ?_⟩
    (repeat (first | (with_reducible exact hx.2.1) | (refine Below.setCell ?_ (by first | (simp; done) | (simp; omega) | omega) _))))
  clear hV g0 g1 g2 g3 g4 g5 g6 g7 gf hgl H5
  go_wp2_with fail
  refine (spot_any _ _ _).mono ?_
  rintro e x0 ⟨rfl, hb⟩
  have HX0 : Hid (Blk x0 nd [.float .f32 1050679863, .float .f32 1051226800] ∧ Blk x0 pg [.float .f32 1059313418, .float .f32 1051260355, .float .f32 1050253722, .float .f32 1058642330, .float .f32 1041865114, .float .f32 1031127695, .float .f32 1050679863, .float .f32 1051226800] ∧ Below w.heap.size w x0) := Lib.hid ⟨HV.out.1.past hb, HV.out.2.1.past hb, HV.out.2.2.trans (hb.mono HV.out.2.2.size)⟩
  clear hb HV
  go_wp2_with fail
  refine (spot_any _ _ _).mono ?_
  rintro e x1 ⟨rfl, hb⟩
  have HX1 : Hid (Blk x1 nd [.float .f32 1050679863, .float .f32 1051226800] ∧ Blk x1 pg [.float .f32 1059313418, .float .f32 1051260355, .float .f32 1050253722, .float .f32 1058642330, .float .f32 1041865114, .float .f32 1031127695, .float .f32 1050679863, .float .f32 1051226800] ∧ Below w.heap.size w x1) := Lib.hid ⟨HX0.out.1.past hb, HX0.out.2.1.past hb, HX0.out.2.2.trans (hb.mono HX0.out.2.2.size)⟩
  clear hb HX0
  go_wp2_with fail
  refine (spot_any _ _ _).mono ?_
  rintro e x2 ⟨rfl, hb⟩
  have HX2 : Hid (Blk x2 nd [.float .f32 1050679863, .float .f32 1051226800] ∧ Blk x2 pg [.float .f32 1059313418, .float .f32 1051260355, .float .f32 1050253722, .float .f32 1058642330, .float .f32 1041865114, .float .f32 1031127695, .float .f32 1050679863, .float .f32 1051226800] ∧ Below w.heap.size w x2) := Lib.hid ⟨HX1.out.1.past hb, HX1.out.2.1.past hb, HX1.out.2.2.trans (hb.mono HX1.out.2.2.size)⟩
  clear hb HX1
  go_wp2_with fail
  refine (spot_any _ _ _).mono ?_
  rintro e x3 ⟨rfl, hb⟩
  have HX3 : Hid (Blk x3 nd [.float .f32 1050679863, .float .f32 1051226800] ∧ Blk x3 pg [.float .f32 1059313418, .float .f32 1051260355, .float .f32 1050253722, .float .f32 1058642330, .float .f32 1041865114, .float .f32 1031127695, .float .f32 1050679863, .float .f32 1051226800] ∧ Below w.heap.size w x3) := Lib.hid ⟨HX2.out.1.past hb, HX2.out.2.1.past hb, HX2.out.2.2.trans (hb.mono HX2.out.2.2.size)⟩
  clear hb HX2
  go_upto_region 5 with fail
  refine wp_world (fun U hU => ?_)
  have HU : Hid (Blk U nd [.float .f32 1050679863, .float .f32 1051226800] ∧ Blk U pg [.float .f32 1059313418, .float .f32 1051260355, .float .f32 1050253722, .float .f32 1058642330, .float .f32 1041865114, .float .f32 1031127695, .float .f32 1050679863, .float .f32 1051226800] ∧ Blk U x3.heap.size [.float .f32 1060538155, .float .f32 1050018841, .float .f32 1042871747, .float .f32 1062501089, .float .f32 1040388719, .float .f32 1026832728, .float .f32 1050981182, .float .f32 1051517717] ∧ Below w.heap.size w U) := Lib.hid (by
    rw [hU]; exact ⟨HX3.out.1.alloc _, HX3.out.2.1.alloc _, Blk.new _ _ _ _ rfl, HX3.out.2.2.alloc HX3.out.2.2.size _⟩)
  clear hU HX3
  generalize x3.heap.size = ps at *
  have d0 := HU.out.1.c 0 _ rfl; have d1 := HU.out.1.c 1 _ rfl; have dl := HU.out.1.lt
  have v0 := HU.out.2.1.c 0 _ rfl; have v1 := HU.out.2.1.c 1 _ rfl; have v2 := HU.out.2.1.c 2 _ rfl; have v3 := HU.out.2.1.c 3 _ rfl; have v4 := HU.out.2.1.c 4 _ rfl; have v5 := HU.out.2.1.c 5 _ rfl; have v6 := HU.out.2.1.c 6 _ rfl; have v7 := HU.out.2.1.c 7 _ rfl; have vl := HU.out.2.1.lt
  have s0 := HU.out.2.2.1.c 0 _ rfl; have s1 := HU.out.2.2.1.c 1 _ rfl; have s2 := HU.out.2.2.1.c 2 _ rfl; have s3 := HU.out.2.2.1.c 3 _ rfl; have s4 := HU.out.2.2.1.c 4 _ rfl; have s5 := HU.out.2.2.1.c 5 _ rfl; have s6 := HU.out.2.2.1.c 6 _ rfl; have s7 := HU.out.2.2.1.c 7 _ rfl; have sl := HU.out.2.2.1.lt
  refine wp_region_loose 33 (fun _ args u => u = .agg args) (by kernel_rfl) (by kernel_rfl) ?_
  simp only [List.take_succ_cons, List.take_zero, List.drop_succ_cons, List.drop_zero]
  iterate 7 (refine loose_wanted rfl (fun K hK => ?_); go_simp; refine hK _ ?_; clear hK K)
  refine loose_wanted rfl (fun K hK => ?_)
  go_simp
  refine ⟨fun z => (spot_any _ _ z.w).mono ?_, ?_⟩
  · rintro e w' ⟨rfl, hb⟩
    exact ⟨_, rfl, rfl, z.h.trans (hb.mono z.h.size)⟩
  refine hK _ ?_
  clear hK K
  (refine loose_wanted rfl (fun K hK => ?_); go_simp; refine hK _ ?_; clear hK K)
  refine loose_wanted rfl (fun K hK => ?_)
  go_simp
  refine ⟨fun z => (spot_any _ _ z.w).mono ?_, ?_⟩
  · rintro e w' ⟨rfl, hb⟩
    exact ⟨_, rfl, rfl, z.h.trans (hb.mono z.h.size)⟩
  refine hK _ ?_
  clear hK K
  (refine loose_wanted rfl (fun K hK => ?_); go_simp; refine hK _ ?_; clear hK K)
  refine loose_wanted rfl (fun K hK => ?_)
  go_simp
  refine ⟨fun z => (spot_any _ _ z.w).mono ?_, ?_⟩
  · rintro e w' ⟨rfl, hb⟩
    exact ⟨_, rfl, rfl, z.h.trans (hb.mono z.h.size)⟩
  refine hK _ ?_
  clear hK K
  (refine loose_wanted rfl (fun K hK => ?_); go_simp; refine hK _ ?_; clear hK K)
  refine loose_wanted rfl (fun K hK => ?_)
  go_simp
  refine ⟨fun z => (spot_any _ _ z.w).mono ?_, ?_⟩
  · rintro e w' ⟨rfl, hb⟩
    exact ⟨_, rfl, rfl, z.h.trans (hb.mono z.h.size)⟩
  refine hK _ ?_
  clear hK K
  iterate 4 (refine loose_wanted rfl (fun K hK => ?_); go_simp; refine hK _ ?_; clear hK K)
  refine loose_wanted rfl (fun K hK => ?_)
  go_simp
  refine ⟨fun z => (spot_any _ _ z.w).mono ?_, ?_⟩
  · rintro e w' ⟨rfl, hb⟩
    exact ⟨_, rfl, rfl, z.h.trans (hb.mono z.h.size)⟩
  refine hK _ ?_
  clear hK K
  (refine loose_wanted rfl (fun K hK => ?_); go_simp; refine hK _ ?_; clear hK K)
  refine loose_wanted rfl (fun K hK => ?_)
  go_simp
  refine ⟨fun z => (spot_any _ _ z.w).mono ?_, ?_⟩
  · rintro e w' ⟨rfl, hb⟩
    exact ⟨_, rfl, rfl, z.h.trans (hb.mono z.h.size)⟩
  refine hK _ ?_
  clear hK K
  (refine loose_wanted rfl (fun K hK => ?_); go_simp; refine hK _ ?_; clear hK K)
  refine loose_wanted rfl (fun K hK => ?_)
  go_simp
  refine ⟨fun z => (spot_any _ _ z.w).mono ?_, ?_⟩
  · rintro e w' ⟨rfl, hb⟩
    exact ⟨_, rfl, rfl, z.h.trans (hb.mono z.h.size)⟩
  refine hK _ ?_
  clear hK K
  iterate 10 (refine loose_wanted rfl (fun K hK => ?_); go_simp; refine hK _ ?_; clear hK K)
  refine loose_nil (fun w6 hb6 => ?_)
  have HB6 : Hid (Below w.heap.size w w6) := Lib.hid (HU.out.2.2.2.trans (hb6.mono HU.out.2.2.2.size))
  clear hb6 d0 d1 dl v0 v1 v2 v3 v4 v5 v6 v7 vl s0 s1 s2 s3 s4 s5 s6 s7 sl HU
  go_wp2_with fail
  go_ret
  exact ⟨⟨_, rfl, HB6.out.size, Blk.new _ allS _ _ rfl⟩, HB6.out.alloc HB6.out.size _⟩
end Go.Proofs.YtfmdnibfeckmaaaDoor
