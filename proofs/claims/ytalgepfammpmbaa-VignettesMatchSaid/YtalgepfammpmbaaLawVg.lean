/- VignettesMatch: the walk of the statement, whole. No condition. -/
import Derived.Test.YtalgepfammpmbaaVgG
import Derived.Test.YtalgepfammpmbaaOpenB
namespace Go.Proofs.Ytalgepfammpmbaa
open Go.RowKit
theorem Vignette_no (x y v h : Int) (a : Option Addr) (n cap : Nat) (vx vy vi vo vd : Nat) (w : World) (hW : firstE (fraErr x y v h n) (vigE vx vy vi vo vd) ≠ 0) :
    Calls Try.prog 18 #[.agg #[.int .i64 x, .int .i64 y, .int .i64 v, .int .i64 h, .slice a n cap], .agg #[.float .f32 vx, .float .f32 vy, .float .f32 vi, .float .f32 vo, .float .f32 vd]] w fun e w' =>
      e = .returned (.tuple #[.agg #[.int .i64 0, .int .i64 0, .int .i64 0, .int .i64 0, .slice none 0 0], .int .i64 (firstE (fraErr x y v h n) (vigE vx vy vi vo vd))]) ∧ Below w.heap.size w w' := by
  by_cases he : fraErr x y v h n = 0
  · rw [he, firstE_0] at hW ⊢
    exact Vignette_own x y v h a n cap vx vy vi vo vd w he _ rfl hW
  · rw [firstE_of _ he]
    exact Vignette_fr x y v h a n cap vx vy vi vo vd w he
set_option maxRecDepth 100000 in
set_option maxHeartbeats 4000000 in
theorem vl_no (x y v h : Int) (a : Option Addr) (len cap : Nat) (vx vy vi vo vd : Nat) (w : World) (hx : -9223372036854775808 ≤ x ∧ x ≤ 9223372036854775807) (hy : -9223372036854775808 ≤ y ∧ y ≤ 9223372036854775807) (hW : firstE (fraErr x y v h len) (vigE vx vy vi vo vd) ≠ 0) :
    Calls Try.prog 3 #[.agg #[.int .i64 x, .int .i64 y, .int .i64 v, .int .i64 h, .slice a len cap], .agg #[.float .f32 vx, .float .f32 vy, .float .f32 vi, .float .f32 vo, .float .f32 vd]] w fun e w' => e = .returned (.bool true) ∧ Below w.heap.size w w' := by
  have HX := Lib.hid (And.intro hx hy)
  clear hx hy
  have hWb : (firstE (fraErr x y v h len) (vigE vx vy vi vo vd) != 0) = true := by simpa using hW
  have HWb := Lib.hid hWb
  clear hWb
  go_enter Try.func3, Try.ntmps3
  go_upto_region 2 with (first | (go_at_call 18; refine (Vignette_no _ _ _ _ _ _ _ _ _ _ _ _ _ hW).mono ?_; rintro e w2 ⟨rfl, hb2⟩))
  clear hW
  refine wp_world (fun V hV => ?_)
  have sz := hb2.size
  simp at sz
  have F2 : Blk w2 w.heap.size [.int .i64 x, .int .i64 y, .int .i64 v, .int .i64 h, .slice a len cap] := ((Blk.new _ _ _ _ rfl).alloc _).below hb2 (by first | (simp; done) | (simp; omega) | omega)
  have V2 : Blk w2 (w.heap.size + 1) (vigL vx vy vi vo vd) := (Blk.new _ _ _ _ (by first | (simp; done) | (simp; omega) | omega)).below hb2 (by first | (simp; done) | (simp; omega) | omega)
  have BV : Below w2.heap.size w2 V := by rw [hV]; (repeat (first | exact Below.refl _ _ | assumption | (refine Below.setCell ?_ (by first | (simp; done) | (simp; omega) | omega) _) | (refine Below.drew ?_) | (refine below_drewN ?_ _) | (refine Below.alloc ?_ (by first | (simp; done) | (simp; omega) | omega) _) | (refine Below.trans ?_ (Below.mono (by assumption) (by first | (simp; done) | (simp; omega) | omega)))))
  have H2 : Blk V w2.heap.size [.int .i64 0, .int .i64 0, .int .i64 0, .int .i64 0, .slice none 0 0] := by rw [hV]; exact Blk.new _ _ _ _ rfl
  have FV := F2.past BV; have VV := V2.past BV
  have Bw2 : Below w.heap.size w w2 := by (repeat (first | exact Below.refl _ _ | assumption | (refine Below.setCell ?_ (by first | (simp; done) | (simp; omega) | omega) _) | (refine Below.drew ?_) | (refine below_drewN ?_ _) | (refine Below.alloc ?_ (by first | (simp; done) | (simp; omega) | omega) _) | (refine Below.trans ?_ (Below.mono (by assumption) (by first | (simp; done) | (simp; omega) | omega)))))
  have BW : Below w.heap.size w V := Bw2.trans (BV.mono (by omega))
  clear hV hb2 F2 V2 BV Bw2
  generalize w2.heap.size = hb at *
  have f0 := FV.c 0 _ rfl; have f1 := FV.c 1 _ rfl; have f2 := FV.c 2 _ rfl; have f3 := FV.c 3 _ rfl; have f4 := FV.c 4 _ rfl
  have g0 := VV.c 0 _ rfl; have g1 := VV.c 1 _ rfl; have g2 := VV.c 2 _ rfl; have g3 := VV.c 3 _ rfl; have g4 := VV.c 4 _ rfl
  have l1 := FV.lt; have l2 := VV.lt
  have S := Lib.hid (And.intro H2 BW)
  clear FV VV H2 BW
  refine wp_region_loose 4 (fun f _ u => (f = 20 ∧ u = .int .i64 (fraErr x y v h len)) ∨ (f = 21 ∧ u = .int .i64 (vigE vx vy vi vo vd))) (by kernel_rfl) (by kernel_rfl) ?_
  simp only [List.take_succ_cons, List.take_zero, List.drop_succ_cons, List.drop_zero]
  iterate 1 (refine loose_wanted rfl (fun K hK => ?_); go_simp; refine hK _ ?_; clear hK K)
  refine loose_wanted rfl (fun K1 hK => ?_)
  go_simp
  refine ⟨fun p => (FrameError_any _ _ _ _ _ _ _ p.w HX.out.1 HX.out.2).mono ?_, ?_⟩
  · rintro e w' ⟨rfl, hb⟩
    exact ⟨_, rfl, by first | rfl | simp, p.h.trans (hb.mono p.h.size)⟩
  refine hK _ ?_
  clear hK K1
  iterate 1 (refine loose_wanted rfl (fun K hK => ?_); go_simp; refine hK _ ?_; clear hK K)
  refine loose_wanted rfl (fun K1 hK => ?_)
  go_simp
  refine ⟨fun p => (VignetteError_any _ _ _ _ _ p.w).mono ?_, ?_⟩
  · rintro e w' ⟨rfl, hb⟩
    exact ⟨_, rfl, by first | rfl | simp, p.h.trans (hb.mono p.h.size)⟩
  refine hK _ ?_
  clear hK K1
  refine loose_nil (fun w5 hb5 => ?_)
  clear f0 f1 f2 f3 f4 g0 g1 g2 g3 g4 l1 l2
  have H5 := S.out.1.past hb5
  have B5 := S.out.2.trans (hb5.mono S.out.2.size)
  have h0 := H5.c 0 _ rfl; have h1 := H5.c 1 _ rfl; have h2 := H5.c 2 _ rfl; have h3 := H5.c 3 _ rfl; have h4 := H5.c 4 _ rfl
  have lh := H5.lt
  clear hb5 S H5
  have hWb := HWb.out
  go_wp2_with (first | (go_at_call 19; refine (First2_new _ _ _ _ _ (heap_new _ _ _ (by simp))).mono ?_; rintro e w' ⟨rfl, rfl⟩) | (go_at_call 22; refine (finishes_any _).mono ?_; rintro e w' ⟨n, rfl, rfl⟩) | (go_at_call 23; refine (none_any _ _ _ _ _ _ _ _).mono ?_; rintro e w7 ⟨rfl, hb7⟩; have hs7 := hb7.size; simp at hs7))
  go_ret
  refine ⟨ret_b (by simp), ?_⟩
  have z5 := B5.size
  (repeat (first | exact Below.refl _ _ | assumption | (refine Below.setCell ?_ (by first | (simp; done) | (simp; omega) | omega) _) | (refine Below.drew ?_) | (refine below_drewN ?_ _) | (refine Below.alloc ?_ (by first | (simp; done) | (simp; omega) | omega) _) | (refine Below.trans ?_ (Below.mono (by assumption) (by first | (simp; done) | (simp; omega) | omega)))))
/-- What stands of the statement's variables. -/
structure VgSt (w wx : World) (vx vy vi vo vd : Nat) (fl : List Value) (hb : Nat) (hl : List Value) : Prop where
  f : Blk wx w.heap.size fl
  v : Blk wx (w.heap.size + 1) (vigL vx vy vi vo vd)
  h : Blk wx hb hl
  b : Below w.heap.size w wx
theorem VgSt.past {w wx wy : World} {vx vy vi vo vd : Nat} {fl : List Value} {hb : Nat} {hl : List Value} (k : VgSt w wx vx vy vi vo vd fl hb hl) (hw : Below wx.heap.size wx wy) : VgSt w wy vx vy vi vo vd fl hb hl :=
  ⟨k.f.past hw, k.v.past hw, k.h.past hw, k.b.trans (hw.mono k.b.size)⟩
theorem vg_maker {w W : World} {vx vy vi vo vd : Nat} {x y v h : Int} {b off len cap hb : Nat} {hl' : List Value} {fs : Nat → Nat}
    (k : VgSt w W vx vy vi vo vd [.int .i64 x, .int .i64 y, .int .i64 v, .int .i64 h, .slice (some ⟨b, off, none⟩) len cap] hb hl') (hr : regErr x y v h = 0) (hl : (len : Int) = 4 * v * h) (hcap : len ≤ cap) (hcb : cap ≤ 9223372036854775807)
    (hbw : b < w.heap.size) (hcell : Row w b off len fs) (hfs : ∀ i, i < len → fs i < 2 ^ FloatKind.f32.format.width) :
    MakerOK 27 #[.pointer (some ⟨w.heap.size + 1, 0, none⟩), .pointer (some ⟨w.heap.size, 0, none⟩)] W x y v h (vgG x y v fs vx vy vi vo vd) := fun i j w' hi hj hb' => by
  have k' := k.past hb'
  refine (vl_closure x y v h b off len cap fs vx vy vi vo vd (w.heap.size + 1) w.heap.size i j w' hr hl hcap hcb hi hj (hcell.below k'.b hbw) hfs k'.v k'.f).mono ?_
  rintro e w'' ⟨⟨q, rfl, hq⟩, hb⟩
  exact ⟨⟨q, rfl, fun c _ => by rw [hq]; exact vgG_cn⟩, hb⟩
theorem vg_keep {w V W : World} {vx vy vi vo vd : Nat} {x y v h : Int} {sl : Value} {hb : Nat} {x' y' v' h' : Int} {sl' : Value}
    (k : VgSt w V vx vy vi vo vd [.int .i64 x, .int .i64 y, .int .i64 v, .int .i64 h, sl] hb [.int .i64 x', .int .i64 y', .int .i64 v', .int .i64 h', sl']) (hW : Below V.heap.size V W) :
    W.cell? ⟨w.heap.size, 0, none⟩ = some (.int .i64 x) ∧ W.cell? ⟨w.heap.size, 1, none⟩ = some (.int .i64 y) ∧ W.cell? ⟨w.heap.size, 2, none⟩ = some (.int .i64 v) ∧ W.cell? ⟨w.heap.size, 3, none⟩ = some (.int .i64 h) ∧ W.cell? ⟨w.heap.size, 4, none⟩ = some sl ∧
    W.cell? ⟨hb, 0, none⟩ = some (.int .i64 x') ∧ W.cell? ⟨hb, 1, none⟩ = some (.int .i64 y') ∧ W.cell? ⟨hb, 2, none⟩ = some (.int .i64 v') ∧ W.cell? ⟨hb, 3, none⟩ = some (.int .i64 h') ∧ W.cell? ⟨hb, 4, none⟩ = some sl' := by
  have k := k.past hW
  exact ⟨k.f.c 0 _ rfl, k.f.c 1 _ rfl, k.f.c 2 _ rfl, k.f.c 3 _ rfl, k.f.c 4 _ rfl, k.h.c 0 _ rfl, k.h.c 1 _ rfl, k.h.c 2 _ rfl, k.h.c 3 _ rfl, k.h.c 4 _ rfl⟩
set_option maxRecDepth 100000 in
set_option maxHeartbeats 4000000 in
theorem vl_yes (x y v h : Int) (b off : Nat) (len cap : Nat) (fs : Nat → Nat) (vx vy vi vo vd : Nat) (w : World) (hx : -9223372036854775808 ≤ x ∧ x ≤ 9223372036854775807) (hy : -9223372036854775808 ≤ y ∧ y ≤ 9223372036854775807) (hFE : fraErr x y v h len = 0) (hE : vigE vx vy vi vo vd = 0) (hcap : len ≤ cap) (hcb : cap ≤ 9223372036854775807)
    (hcell : Row w b off len fs) (hfs : ∀ i, i < len → fs i < 2 ^ FloatKind.f32.format.width) :
    Calls Try.prog 3 #[.agg #[.int .i64 x, .int .i64 y, .int .i64 v, .int .i64 h, .slice (some ⟨b, off, none⟩) len cap], .agg #[.float .f32 vx, .float .f32 vy, .float .f32 vi, .float .f32 vo, .float .f32 vd]] w fun e w' => e = .returned (.bool true) ∧ Below w.heap.size w w' := by
  have HX := Lib.hid (And.intro hx hy)
  obtain ⟨hr, hl⟩ := fraErr_ok hFE
  obtain ⟨r1, r2, r3, r4, r5, r6, r7, r8, r9, r10⟩ := regErr_ok hr
  have hn0 : 0 < len := by have : 4 ≤ 4 * v * h := by { rw [Int.mul_assoc]; omega }; omega
  have hn6 : len ≤ 65536 := by have : 4 * v * h ≤ 65536 := by { rw [Int.mul_assoc]; omega }; omega
  have hbw : b < w.heap.size := hcell.lt hn0
  have HFA := Lib.hid (And.intro hFE (And.intro hE (And.intro hcap hcb)))
  have HC := Lib.hid (And.intro hcell hfs)
  have HR := Lib.hid (And.intro hr hl)
  clear hx hy hcap hcb hcell hfs hr hl hFE hE r1 r2 r3 r4 r5 r6 r7 r8 r9 r10
  go_enter Try.func3, Try.ntmps3
  go_upto_region 2 with (first | (go_at_call 18; refine (Vignette_yes _ _ _ _ b off len cap fs _ _ _ _ _ _ HFA.out.1 HFA.out.2.1 HFA.out.2.2.1 HFA.out.2.2.2 (HC.out.1.below (((Below.refl w.heap.size w).alloc (Nat.le_refl _) _).alloc (by simp) _) hbw) HC.out.2).mono ?_; rintro e w2 ⟨⟨g, rfl, hg1, hg2, hg3⟩, hb2⟩))
  refine wp_world (fun V hV => ?_)
  have sz := hb2.size
  simp at sz
  have F2 : Blk w2 w.heap.size [.int .i64 x, .int .i64 y, .int .i64 v, .int .i64 h, .slice (some ⟨b, off, none⟩) len cap] := ((Blk.new _ _ _ _ rfl).alloc _).below hb2 (by first | (simp; done) | (simp; omega) | omega)
  have V2 : Blk w2 (w.heap.size + 1) (vigL vx vy vi vo vd) := (Blk.new _ _ _ _ (by first | (simp; done) | (simp; omega) | omega)).below hb2 (by first | (simp; done) | (simp; omega) | omega)
  have BV : Below w2.heap.size w2 V := by rw [hV]; (repeat (first | exact Below.refl _ _ | assumption | (refine Below.setCell ?_ (by first | (simp; done) | (simp; omega) | omega) _) | (refine Below.drew ?_) | (refine below_drewN ?_ _) | (refine Below.alloc ?_ (by first | (simp; done) | (simp; omega) | omega) _) | (refine Below.trans ?_ (Below.mono (by assumption) (by first | (simp; done) | (simp; omega) | omega)))))
  have H2 : Blk V w2.heap.size [.int .i64 x, .int .i64 y, .int .i64 v, .int .i64 h, .slice (some ⟨g, 0, none⟩) len len] := by rw [hV]; exact Blk.new _ _ _ _ rfl
  have FV := F2.past BV; have VV := V2.past BV
  have Bw2 : Below w.heap.size w w2 := by (repeat (first | exact Below.refl _ _ | assumption | (refine Below.setCell ?_ (by first | (simp; done) | (simp; omega) | omega) _) | (refine Below.drew ?_) | (refine below_drewN ?_ _) | (refine Below.alloc ?_ (by first | (simp; done) | (simp; omega) | omega) _) | (refine Below.trans ?_ (Below.mono (by assumption) (by first | (simp; done) | (simp; omega) | omega)))))
  have BW : Below w.heap.size w V := Bw2.trans (BV.mono (by omega))
  have gV : g < V.heap.size := by have := BV.size; omega
  have HGC := Lib.hid (fun i hi => (BV.cell (p := ⟨g, i, none⟩) hg2).trans (hg3 i hi) : ∀ i, i < len → V.cell? ⟨g, i, none⟩ = some (.float .f32 (vgG x y v fs vx vy vi vo vd (i / 4) (i % 4))))
  clear hV hb2 F2 V2 BV Bw2 hg1 hg2 hg3
  generalize w2.heap.size = hb at *
  have f0 := FV.c 0 _ rfl; have f1 := FV.c 1 _ rfl; have f2 := FV.c 2 _ rfl; have f3 := FV.c 3 _ rfl; have f4 := FV.c 4 _ rfl
  have g0 := VV.c 0 _ rfl; have g1 := VV.c 1 _ rfl; have g2 := VV.c 2 _ rfl; have g3 := VV.c 3 _ rfl; have g4 := VV.c 4 _ rfl
  have l1 := FV.lt; have l2 := VV.lt
  have S := Lib.hid (VgSt.mk FV VV H2 BW)
  clear FV VV H2 BW
  refine wp_region_loose 4 (fun f _ u => (f = 20 ∧ u = .int .i64 (fraErr x y v h len)) ∨ (f = 21 ∧ u = .int .i64 (vigE vx vy vi vo vd))) (by kernel_rfl) (by kernel_rfl) ?_
  simp only [List.take_succ_cons, List.take_zero, List.drop_succ_cons, List.drop_zero]
  iterate 1 (refine loose_wanted rfl (fun K hK => ?_); go_simp; refine hK _ ?_; clear hK K)
  refine loose_wanted rfl (fun K1 hK => ?_)
  go_simp
  refine ⟨fun p => (FrameError_any _ _ _ _ _ _ _ p.w HX.out.1 HX.out.2).mono ?_, ?_⟩
  · rintro e w' ⟨rfl, hb⟩
    exact ⟨_, rfl, by first | rfl | simp, p.h.trans (hb.mono p.h.size)⟩
  refine hK _ ?_
  clear hK K1
  iterate 1 (refine loose_wanted rfl (fun K hK => ?_); go_simp; refine hK _ ?_; clear hK K)
  refine loose_wanted rfl (fun K1 hK => ?_)
  go_simp
  refine ⟨fun p => (VignetteError_any _ _ _ _ _ p.w).mono ?_, ?_⟩
  · rintro e w' ⟨rfl, hb⟩
    exact ⟨_, rfl, by first | rfl | simp, p.h.trans (hb.mono p.h.size)⟩
  refine hK _ ?_
  clear hK K1
  refine loose_nil (fun w5 hb5 => ?_)
  clear f0 f1 f2 f3 f4 g0 g1 g2 g3 g4 l1 l2
  have S5 := S.out.past hb5
  have W0 : firstE (fraErr x y v h len) (vigE vx vy vi vo vd) = 0 := by rw [HFA.out.1, HFA.out.2.1]; rfl
  have HS5 := Lib.hid S5
  clear S5
  go_upto_region 5 with (first | (go_at_call 19; refine (First2_new _ _ _ _ _ (heap_new _ _ _ (by simp))).mono ?_; rintro e w' ⟨rfl, rfl⟩) | (go_at_call 22; refine (finishes_any _).mono ?_; rintro e w6 ⟨n6, rfl, rfl⟩))
  refine wp_world (fun Wc hWc => ?_)
  have B7 : Below w5.heap.size w5 Wc := by rw [hWc]; (repeat (first | exact Below.refl _ _ | assumption | (refine Below.setCell ?_ (by first | (simp; done) | (simp; omega) | omega) _) | (refine Below.drew ?_) | (refine below_drewN ?_ _) | (refine Below.alloc ?_ (by first | (simp; done) | (simp; omega) | omega) _) | (refine Below.trans ?_ (Below.mono (by assumption) (by first | (simp; done) | (simp; omega) | omega)))))
  have BC : Below V.heap.size V Wc := hb5.trans (B7.mono hb5.size)
  have SX := Lib.hid (HS5.out.past B7)
  clear hWc B7 hb5 HS5
  have HBC := Lib.hid BC; clear BC
  have gW : g < Wc.heap.size := by have := HBC.out.size; omega
  have HGW := Lib.hid (fun i hi => (HBC.out.cell (p := ⟨g, i, none⟩) gV).trans (HGC.out i hi) : ∀ i, i < len → Wc.cell? ⟨g, i, none⟩ = some (.float .f32 (vgG x y v fs vx vy vi vo vd (i / 4) (i % 4))))
  by_cases hL : (len : Int) ≤ 400
  · have h4b : decide ((len : Int) ≤ 400) = true := by simpa using hL
    have BCH : Hid (Below Wc.heap.size Wc Wc) := Below.refl _ _
    go_region_held3 (fun W => W.cell? ⟨w.heap.size, 0, none⟩ = some (.int .i64 x) ∧ W.cell? ⟨w.heap.size, 1, none⟩ = some (.int .i64 y) ∧ W.cell? ⟨w.heap.size, 2, none⟩ = some (.int .i64 v) ∧ W.cell? ⟨w.heap.size, 3, none⟩ = some (.int .i64 h) ∧ W.cell? ⟨w.heap.size, 4, none⟩ = some (.slice (some ⟨b, off, none⟩) len cap) ∧ W.cell? ⟨hb, 0, none⟩ = some (.int .i64 x) ∧ W.cell? ⟨hb, 1, none⟩ = some (.int .i64 y) ∧ W.cell? ⟨hb, 2, none⟩ = some (.int .i64 v) ∧ W.cell? ⟨hb, 3, none⟩ = some (.int .i64 h) ∧ W.cell? ⟨hb, 4, none⟩ = some (.slice (some ⟨g, 0, none⟩) len len))
      (first | exact vg_keep SX.out BCH.out.drew | exact vg_keep SX.out B8.out | exact vg_keep SX.out B9.out | exact vg_keep SX.out B10.out)
      (first | (go_at_call 24; refine (few_anyV _ _ _ _ _ _ _ _).mono ?_; rintro e w8 ⟨rfl, hb8⟩; have B8 : Hid (Below Wc.heap.size Wc w8) := BCH.out.drew.trans (hb8.mono (by simp)); rw [h4b]) | (go_at_call 26; refine (Made_any 27 #[.pointer (some ⟨w.heap.size + 1, 0, none⟩), .pointer (some ⟨w.heap.size, 0, none⟩)] x y v h (vgG x y v fs vx vy vi vo vd) _ HR.out.1 (body_enters Try.func27 (by kernel_rfl) rfl) (vg_maker (SX.out.past B8.out) HR.out.1 HR.out.2 HFA.out.2.2.1 HFA.out.2.2.2 hbw HC.out.1 HC.out.2)).mono ?_; rintro e w9 ⟨g9, n9, cap9, hn9, rfl, hg9, hgl9, hc9, hb9⟩; have B9 : Hid (Below Wc.heap.size Wc w9) := B8.out.trans (hb9.mono (B8.out.size)); obtain rfl : len = n9 := (by have := HR.out.2; omega); have H9 := Lib.hid hc9; clear hc9) | (go_at_call 25; refine (SameFrame_yes x y v h g 0 g9 0 len len cap9 (fun i => vgG x y v fs vx vy vi vo vd (i / 4) (i % 4)) _ hn6 (by have := B9.out.size; omega) hgl9 (fun i hi => by rw [Nat.zero_add]; exact (B9.out.cell (p := ⟨g, i, none⟩) gW).trans (HGW.out i hi)) (fun i hi => by rw [Nat.zero_add]; exact H9.out i hi)).mono ?_; rintro e w10 ⟨rfl, hb10⟩; have B10 : Hid (Below Wc.heap.size Wc w10) := B9.out.trans (hb10.mono (B9.out.size))))
    go_wp2_with fail
    go_ret
    exact ⟨rfl, (SX.out.past B10.out).b⟩
  · have h4b : decide ((len : Int) ≤ 400) = false := by simpa using hL
    have f0 := SX.out.f.c 0 _ rfl; have f1 := SX.out.f.c 1 _ rfl; have f2 := SX.out.f.c 2 _ rfl; have f3 := SX.out.f.c 3 _ rfl; have f4 := SX.out.f.c 4 _ rfl
    have l1 := SX.out.f.lt
    refine wp_region_loose 15 (fun _ _ u => u = .bool false) (by kernel_rfl) (by kernel_rfl) ?_
    simp only [List.take_succ_cons, List.take_zero, List.drop_succ_cons, List.drop_zero]
    iterate 1 (refine loose_wanted rfl (fun K hK => ?_); go_simp; refine hK _ ?_; clear hK K)
    refine loose_wanted rfl (fun K hK => ?_)
    go_simp
    refine ⟨fun p' => (few_anyV _ _ _ _ _ _ _ p'.w).mono ?_, ?_⟩
    · rintro e w' ⟨rfl, hb⟩
      exact ⟨_, rfl, by rw [h4b], p'.h.trans (hb.mono p'.h.size)⟩
    refine hK _ ?_
    clear hK K
    iterate 2 (refine loose_wanted rfl (fun K hK => ?_); go_simp; refine hK _ ?_; clear hK K)
    iterate 10 ((with_reducible refine loose_pass (by kernel_rfl) (fun K hK => ?_)); go_simp; refine hK _ ?_; clear hK K)
    iterate 1 (refine loose_wanted rfl (fun K hK => ?_); go_simp; refine hK _ ?_; clear hK K)
    refine loose_nil (fun w9 hb9 => ?_)
    go_wp2_with fail
    go_ret
    exact ⟨rfl, SX.out.b.trans (hb9.mono SX.out.b.size)⟩
theorem vl_walk (x y v h : Int) (a : Option Addr) (len cap : Nat) (fs : Nat → Nat) (vx vy vi vo vd : Nat) (w : World)
    (hx : IntKind.i64.min ≤ x ∧ x ≤ IntKind.i64.max) (hy : IntKind.i64.min ≤ y ∧ y ≤ IntKind.i64.max) (_ : IntKind.i64.min ≤ v ∧ v ≤ IntKind.i64.max) (_ : IntKind.i64.min ≤ h ∧ h ≤ IntKind.i64.max) (hf : IsFloats w a len cap fs)
    (_ : vx < 2 ^ FloatKind.f32.format.width) (_ : vy < 2 ^ FloatKind.f32.format.width) (_ : vi < 2 ^ FloatKind.f32.format.width) (_ : vo < 2 ^ FloatKind.f32.format.width) (_ : vd < 2 ^ FloatKind.f32.format.width) :
    Calls Try.prog 3 #[.agg #[.int .i64 x, .int .i64 y, .int .i64 v, .int .i64 h, .slice a len cap], .agg #[.float .f32 vx, .float .f32 vy, .float .f32 vi, .float .f32 vo, .float .f32 vd]] w fun e w' => e = .returned (.bool true) ∧ Below w.heap.size w w' := by
  by_cases hW : firstE (fraErr x y v h len) (vigE vx vy vi vo vd) = 0
  · have hFE : fraErr x y v h len = 0 := by
      by_cases hz : fraErr x y v h len = 0
      · exact hz
      · rw [firstE_of _ hz] at hW; exact hW
    have hE : vigE vx vy vi vo vd = 0 := by rw [hFE] at hW; exact hW
    obtain ⟨hr, hl⟩ := fraErr_ok hFE
    obtain ⟨r1, r2, r3, r4, r5, r6, -⟩ := regErr_ok hr
    have hn0 : 0 < len := by have : 4 ≤ 4 * v * h := by { rw [Int.mul_assoc]; omega }; omega
    rcases hf with ⟨hz, -⟩ | ⟨b, off, rfl, -, hcap, hm, hcell⟩
    · omega
    · exact vl_yes x y v h b off len cap fs vx vy vi vo vd w hx hy hFE hE hcap hm (fun i hi => (hcell i (by omega)).1) (fun i hi => (hcell i (by omega)).2)
  · exact vl_no x y v h a len cap vx vy vi vo vd w hx hy hW
end Go.Proofs.Ytalgepfammpmbaa
