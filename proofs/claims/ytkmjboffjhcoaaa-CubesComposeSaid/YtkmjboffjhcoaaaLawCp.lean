/- CubesCompose: the walk of the statement, whole. No condition. -/
import Derived.Test.YtkmjboffjhcoaaaCpF
import Derived.Test.YtkmjboffjhcoaaaCmA
namespace Go.Proofs.Ytkmjboffjhcoaaa
open Go Go.RowKit
/-- What stands of the statement's variables. -/
structure CoR (w W : World) (La Lb : List Value) (T : Int) (nc nd nx : Nat) (Lc Ld Lx : List Value) : Prop where
  a : Blk W w.heap.size La
  b : Blk W (w.heap.size + 1) Lb
  t : Blk W (w.heap.size + 2) [.int .i64 T]
  c : Blk W nc Lc
  d : Blk W nd Ld
  x : Blk W nx Lx
  w : Below w.heap.size w W
theorem CoR.past {w W V : World} {La Lb : List Value} {T : Int} {nc nd nx : Nat} {Lc Ld Lx : List Value} (k : CoR w W La Lb T nc nd nx Lc Ld Lx) (h : Below W.heap.size W V) : CoR w V La Lb T nc nd nx Lc Ld Lx :=
  ⟨k.a.past h, k.b.past h, k.t.past h, k.c.past h, k.d.past h, k.x.past h, k.w.trans (h.mono k.w.size)⟩
theorem cp_keepd {w W V : World} {sa : Int} {la ha : Nat} {x : Value} {Lb : List Value} {T : Int} {nc nd nx : Nat} {Lc : List Value} {ds : Int} {dl dh : Nat} {y : Value} {Lx : List Value} (k0 : CoR w W [.int .i64 sa, .float .f32 la, .float .f32 ha, x] Lb T nc nd nx Lc [.int .i64 ds, .float .f32 dl, .float .f32 dh, y] Lx) (h : Below W.heap.size W V) :
    V.cell? ⟨w.heap.size + 2, 0, none⟩ = some (.int .i64 T) ∧ V.cell? ⟨w.heap.size, 1, none⟩ = some (.float .f32 la) ∧ V.cell? ⟨w.heap.size, 2, none⟩ = some (.float .f32 ha) ∧ V.cell? ⟨nd, 0, none⟩ = some (.int .i64 ds) ∧ V.cell? ⟨nd, 1, none⟩ = some (.float .f32 dl) ∧ V.cell? ⟨nd, 2, none⟩ = some (.float .f32 dh) ∧ V.cell? ⟨nd, 3, none⟩ = some y := by
  have k := k0.past h
  exact ⟨k.t.c 0 _ rfl, k.a.c 1 _ rfl, k.a.c 2 _ rfl, k.d.c 0 _ rfl, k.d.c 1 _ rfl, k.d.c 2 _ rfl, k.d.c 3 _ rfl⟩
theorem cp_keepc {w W V : World} {sa : Int} {la ha : Nat} {x : Value} {Lb : List Value} {T : Int} {nc nd nx : Nat} {cs : Int} {cl ch : Nat} {y : Value} {Ld Lx : List Value} (k0 : CoR w W [.int .i64 sa, .float .f32 la, .float .f32 ha, x] Lb T nc nd nx [.int .i64 cs, .float .f32 cl, .float .f32 ch, y] Ld Lx) (h : Below W.heap.size W V) :
    V.cell? ⟨w.heap.size, 0, none⟩ = some (.int .i64 sa) ∧ V.cell? ⟨w.heap.size, 1, none⟩ = some (.float .f32 la) ∧ V.cell? ⟨w.heap.size, 2, none⟩ = some (.float .f32 ha) ∧ V.cell? ⟨nc, 0, none⟩ = some (.int .i64 cs) ∧ V.cell? ⟨nc, 1, none⟩ = some (.float .f32 cl) ∧ V.cell? ⟨nc, 2, none⟩ = some (.float .f32 ch) ∧ V.cell? ⟨nc, 3, none⟩ = some y := by
  have k := k0.past h
  exact ⟨k.a.c 0 _ rfl, k.a.c 1 _ rfl, k.a.c 2 _ rfl, k.c.c 0 _ rfl, k.c.c 1 _ rfl, k.c.c 2 _ rfl, k.c.c 3 _ rfl⟩
set_option maxRecDepth 100000 in
set_option maxHeartbeats 8000000 in
theorem cp_go (sa : Int) (la ha : Nat) (aa : Option Addr) (na ca : Nat) (fa : Nat → Nat) (sb : Int) (lb hb : Nat) (ab : Option Addr) (nb cb : Nat) (fb : Nat → Nat) (T : Int) (t : Nat) (w : World) (ia : CubIn w sa la ha aa na ca fa) (ib : CubIn w sb lb hb ab nb cb fb) :
    Calls Try.prog 16 #[.agg #[.int .i64 sa, .float .f32 la, .float .f32 ha, .slice aa na ca], .agg #[.int .i64 sb, .float .f32 lb, .float .f32 hb, .slice ab nb cb], .int .i64 T, .float .f32 t] w fun e w' => e = .returned (.bool true) ∧ Below w.heap.size w w' := by
  have HI := Lib.hid (And.intro ia ib)
  obtain ⟨EF, hEF⟩ : ∃ E, E = firstE (cubErr sa la ha na) (cubErr sb lb hb nb) := ⟨_, rfl⟩
  obtain ⟨EZ, hEZ⟩ : ∃ E, E = rzE (cubErr sa la ha na) T := ⟨_, rfl⟩
  have HEF := Lib.hid hEF; have HEZ := Lib.hid hEZ
  clear ia ib hEF hEZ
  go_enter Try.func16, Try.ntmps16
  go_upto_region 1 with fail
  refine wp_world (fun W hW => ?_)
  have A0 : Blk W w.heap.size [.int .i64 sa, .float .f32 la, .float .f32 ha, .slice aa na ca] := by rw [hW]; exact ((Blk.new _ _ _ _ rfl).alloc _).alloc _
  have B0 : Blk W (w.heap.size + 1) [.int .i64 sb, .float .f32 lb, .float .f32 hb, .slice ab nb cb] := by rw [hW]; exact (Blk.new _ _ _ _ (by simp)).alloc _
  have T0 : Blk W (w.heap.size + 2) [.int .i64 T] := by rw [hW]; exact Blk.new _ _ _ _ (by simp)
  have BW : Below w.heap.size w W := by rw [hW]; (repeat (first | exact Below.refl _ _ | assumption | (refine Below.setCell ?_ (by first | (simp; done) | (simp; omega) | omega) _) | (refine Below.drew ?_) | (refine below_drewN ?_ _) | (refine Below.alloc ?_ (by first | (simp; done) | (simp; omega) | omega) _) | (refine Below.trans ?_ (Below.mono (by assumption) (by first | (simp; done) | (simp; omega) | omega)))))
  have H0 := Lib.hid (And.intro A0 (And.intro B0 (And.intro T0 BW)))
  clear hW A0 B0 T0 BW
  have p0 := H0.out.1.c 0 _ rfl; have p1 := H0.out.1.c 1 _ rfl; have p2 := H0.out.1.c 2 _ rfl; have p3 := H0.out.1.c 3 _ rfl; have pl := H0.out.1.lt
  have q0 := H0.out.2.1.c 0 _ rfl; have q1 := H0.out.2.1.c 1 _ rfl; have q2 := H0.out.2.1.c 2 _ rfl; have q3 := H0.out.2.1.c 3 _ rfl; have ql := H0.out.2.1.lt
  go_wp2_with fail
  refine (Compose_all _ _ _ _ _ _ fa _ _ _ _ _ _ fb _ (HI.out.1.below H0.out.2.2.2 (Nat.le_refl _)) (HI.out.2.below H0.out.2.2.2 (Nat.le_refl _))).mono ?_
  rintro e w1 ⟨⟨cs, cl, ch, cA, cm, cc, ce, rfl, hres⟩, hb1⟩
  rw [← HEF.out] at hres
  have H1 := Lib.hid (And.intro (H0.out.1.past hb1) (And.intro (H0.out.2.1.past hb1) (And.intro (H0.out.2.2.1.past hb1) (H0.out.2.2.2.trans (hb1.mono H0.out.2.2.2.size)))))
  have HC1 := Lib.hid hres
  clear hres hb1 H0 p0 p1 p2 p3 pl q0 q1 q2 q3 ql
  go_upto_region 2 with fail
  refine wp_world (fun W2 hW2 => ?_)
  have B2 : Below w1.heap.size w1 W2 := by rw [hW2]; (repeat (first | exact Below.refl _ _ | assumption | (refine Below.setCell ?_ (by first | (simp; done) | (simp; omega) | omega) _) | (refine Below.drew ?_) | (refine below_drewN ?_ _) | (refine Below.alloc ?_ (by first | (simp; done) | (simp; omega) | omega) _) | (refine Below.trans ?_ (Below.mono (by assumption) (by first | (simp; done) | (simp; omega) | omega)))))
  have C2 : Blk W2 w1.heap.size [.int .i64 cs, .float .f32 cl, .float .f32 ch, .slice cA cm cc] := by rw [hW2]; exact Blk.new _ _ _ _ rfl
  have H2 := Lib.hid (And.intro (H1.out.1.past B2) (And.intro (H1.out.2.1.past B2) (And.intro (H1.out.2.2.1.past B2) (And.intro (H1.out.2.2.2.trans (B2.mono H1.out.2.2.2.size)) C2))))
  have HC2 := Lib.hid (HC1.out.past B2)
  clear hW2 B2 C2 H1 HC1
  generalize w1.heap.size = nc at *
  have p0 := H2.out.1.c 0 _ rfl; have p1 := H2.out.1.c 1 _ rfl; have p2 := H2.out.1.c 2 _ rfl; have p3 := H2.out.1.c 3 _ rfl; have pl := H2.out.1.lt
  have t0 := H2.out.2.2.1.c 0 _ rfl; have tl := H2.out.2.2.1.lt
  go_wp2_with fail
  refine (Resize_all _ _ _ _ _ _ fa _ _ (HI.out.1.below H2.out.2.2.2.1 (Nat.le_refl _))).mono ?_
  rintro e w3 ⟨⟨ds, dl, dh, dA, dm, dc, de, rfl, hres⟩, hb3⟩
  rw [← HEZ.out] at hres
  have H3 := Lib.hid (And.intro (H2.out.1.past hb3) (And.intro (H2.out.2.1.past hb3) (And.intro (H2.out.2.2.1.past hb3) (And.intro (H2.out.2.2.2.1.trans (hb3.mono H2.out.2.2.2.1.size)) (H2.out.2.2.2.2.past hb3)))))
  have HC3 := Lib.hid (HC2.out.past hb3); have HD3 := Lib.hid hres
  clear hres hb3 H2 HC2 p0 p1 p2 p3 pl t0 tl
  go_upto_region 3 with fail
  refine wp_world (fun W4 hW4 => ?_)
  have B4 : Below w3.heap.size w3 W4 := by rw [hW4]; (repeat (first | exact Below.refl _ _ | assumption | (refine Below.setCell ?_ (by first | (simp; done) | (simp; omega) | omega) _) | (refine Below.drew ?_) | (refine below_drewN ?_ _) | (refine Below.alloc ?_ (by first | (simp; done) | (simp; omega) | omega) _) | (refine Below.trans ?_ (Below.mono (by assumption) (by first | (simp; done) | (simp; omega) | omega)))))
  have D4 : Blk W4 w3.heap.size [.int .i64 ds, .float .f32 dl, .float .f32 dh, .slice dA dm dc] := by rw [hW4]; exact Blk.new _ _ _ _ rfl
  have H4 := Lib.hid (And.intro (H3.out.1.past B4) (And.intro (H3.out.2.1.past B4) (And.intro (H3.out.2.2.1.past B4) (And.intro (H3.out.2.2.2.1.trans (B4.mono H3.out.2.2.2.1.size)) (And.intro (H3.out.2.2.2.2.past B4) D4)))))
  have HC4 := Lib.hid (HC3.out.past B4); have HD4 := Lib.hid (HD3.out.past B4)
  clear hW4 B4 D4 H3 HC3 HD3
  generalize w3.heap.size = nd at *
  have p0 := H4.out.1.c 0 _ rfl; have p1 := H4.out.1.c 1 _ rfl; have p2 := H4.out.1.c 2 _ rfl; have p3 := H4.out.1.c 3 _ rfl; have pl := H4.out.1.lt
  have q0 := H4.out.2.1.c 0 _ rfl; have q1 := H4.out.2.1.c 1 _ rfl; have q2 := H4.out.2.1.c 2 _ rfl; have q3 := H4.out.2.1.c 3 _ rfl; have ql := H4.out.2.1.lt
  go_wp2_with fail
  refine (Blend_all _ _ _ _ _ _ fa _ _ _ _ _ _ fb _ _ (HI.out.1.below H4.out.2.2.2.1 (Nat.le_refl _)) (HI.out.2.below H4.out.2.2.2.1 (Nat.le_refl _))).mono ?_
  rintro e w5 ⟨⟨xs, xl, xh, xA, xm, xc, xe, rfl, hres⟩, hb5⟩
  have H5 := Lib.hid (And.intro (H4.out.1.past hb5) (And.intro (H4.out.2.1.past hb5) (And.intro (H4.out.2.2.1.past hb5) (And.intro (H4.out.2.2.2.1.trans (hb5.mono H4.out.2.2.2.1.size)) (And.intro (H4.out.2.2.2.2.1.past hb5) (H4.out.2.2.2.2.2.past hb5))))))
  have HC5 := Lib.hid (HC4.out.past hb5); have HD5 := Lib.hid (HD4.out.past hb5); have HX5 := Lib.hid hres
  clear hres hb5 H4 HC4 HD4 p0 p1 p2 p3 pl q0 q1 q2 q3 ql
  go_upto_region 4 with fail
  refine wp_world (fun W6 hW6 => ?_)
  have B6 : Below w5.heap.size w5 W6 := by rw [hW6]; (repeat (first | exact Below.refl _ _ | assumption | (refine Below.setCell ?_ (by first | (simp; done) | (simp; omega) | omega) _) | (refine Below.drew ?_) | (refine below_drewN ?_ _) | (refine Below.alloc ?_ (by first | (simp; done) | (simp; omega) | omega) _) | (refine Below.trans ?_ (Below.mono (by assumption) (by first | (simp; done) | (simp; omega) | omega)))))
  have X6 : Blk W6 w5.heap.size [.int .i64 xs, .float .f32 xl, .float .f32 xh, .slice xA xm xc] := by rw [hW6]; exact Blk.new _ _ _ _ rfl
  have HR6 := Lib.hid (CoR.mk (H5.out.1.past B6) (H5.out.2.1.past B6) (H5.out.2.2.1.past B6) (H5.out.2.2.2.2.1.past B6) (H5.out.2.2.2.2.2.past B6) X6 (H5.out.2.2.2.1.trans (B6.mono H5.out.2.2.2.1.size)))
  have HC6 := Lib.hid (HC5.out.past B6); have HD6 := Lib.hid (HD5.out.past B6); have HX6 := Lib.hid (HX5.out.past B6)
  clear hW6 B6 X6 H5 HC5 HD5 HX5
  generalize w5.heap.size = nx at *
  have p0 := HR6.out.a.c 0 _ rfl; have p1 := HR6.out.a.c 1 _ rfl; have p2 := HR6.out.a.c 2 _ rfl; have p3 := HR6.out.a.c 3 _ rfl; have pl := HR6.out.a.lt
  have q0 := HR6.out.b.c 0 _ rfl; have q1 := HR6.out.b.c 1 _ rfl; have q2 := HR6.out.b.c 2 _ rfl; have q3 := HR6.out.b.c 3 _ rfl; have ql := HR6.out.b.lt
  go_upto_region 5 with (first | (go_at_call 35; refine (CubeError_any _ _ _ _ _ _ _).mono ?_; rintro e w7 ⟨rfl, hb7⟩))
  have HR7 := Lib.hid (HR6.out.past hb7); have HC7 := Lib.hid (HC6.out.past hb7); have HD7 := Lib.hid (HD6.out.past hb7); have HX7 := Lib.hid (HX6.out.past hb7)
  clear p0 p1 p2 p3 pl q0 q1 q2 q3 ql HR6 HC6 HD6 HX6 hb7
  have q0 := HR7.out.b.c 0 _ rfl; have q1 := HR7.out.b.c 1 _ rfl; have q2 := HR7.out.b.c 2 _ rfl; have q3 := HR7.out.b.c 3 _ rfl; have ql := HR7.out.b.lt
  go_upto_region 6 with (first | (go_at_call 35; refine (CubeError_any _ _ _ _ _ _ _).mono ?_; rintro e w8 ⟨rfl, hb8⟩) | (go_at_call 19; refine (First2_new _ _ _ _ _ (heap_new _ _ _ (by simp))).mono ?_; rintro e w' ⟨rfl, rfl⟩))
  refine wp_world (fun W9 hW9 => ?_)
  have s8 := hb8.size
  have B9 : Below w7.heap.size w7 W9 := by rw [hW9]; (repeat (first | exact Below.refl _ _ | assumption | (refine Below.setCell ?_ (by first | (simp; done) | (simp; omega) | omega) _) | (refine Below.drew ?_) | (refine below_drewN ?_ _) | (refine Below.alloc ?_ (by first | (simp; done) | (simp; omega) | omega) _) | (refine Below.trans ?_ (Below.mono (by assumption) (by first | (simp; done) | (simp; omega) | omega)))))
  have HR9 := Lib.hid (HR7.out.past B9); have HC9 := Lib.hid (HC7.out.past B9); have HD9 := Lib.hid (HD7.out.past B9); have HX9 := Lib.hid (HX7.out.past B9)
  clear s8 hW9 B9 HR7 HC7 HD7 HX7 hb8 q0 q1 q2 q3 ql
  go_upto_if 49 with (first | (go_at_call 36; refine (cubes_any _).mono ?_; rintro e wa ⟨rfl, hba⟩))
  have HRa := Lib.hid (HR9.out.past hba); have HCa := Lib.hid (HC9.out.past hba); have HDa := Lib.hid (HD9.out.past hba); have HXa := Lib.hid (HX9.out.past hba)
  clear HR9 HC9 HD9 HX9 hba
  rw [← HEF.out]
  go_cut [12] (fun s12 wx => s12 = .int .i64 de ∧ Below wa.heap.size wa wx)
  case first =>
    have c0 := HRa.out.c.c 0 _ rfl; have c1 := HRa.out.c.c 1 _ rfl; have c2 := HRa.out.c.c 2 _ rfl; have c3 := HRa.out.c.c 3 _ rfl; have cl' := HRa.out.c.lt
    have x0 := HRa.out.x.c 0 _ rfl; have x1 := HRa.out.x.c 1 _ rfl; have x2 := HRa.out.x.c 2 _ rfl; have x3 := HRa.out.x.c 3 _ rfl; have xl' := HRa.out.x.lt
    by_cases hF : EF = 0
    · obtain ⟨z1, z2⟩ := firstE_zero (HEF.out.symm.trans hF)
      have hsa := (cubErr_ok z1).1
      have hce : ce = 0 := HCa.out.1.trans hF
      subst hce
      obtain ⟨rfl, rfl, rfl, rfl, gc, rfl, hgc, hrowc⟩ := HCa.out.2.2 hF
      have HG := Lib.hid (And.intro hgc hrowc)
      have HZ1 := Lib.hid z1; have HZ2 := Lib.hid z2; have HS := Lib.hid hsa
      have HN := Lib.hid (And.intro (cub_n z1) (cub_pos z1))
      subst hF
      have p0 := HRa.out.a.c 0 _ rfl; have p1 := HRa.out.a.c 1 _ rfl; have p2 := HRa.out.a.c 2 _ rfl; have p3 := HRa.out.a.c 3 _ rfl; have pl := HRa.out.a.lt
      clear z1 z2 hsa hgc hrowc HCa HDa c0 c1 c2 c3 cl' x0 x1 x2 x3 xl'
      go_upto_if 69 with (first | (go_at_call 104; refine (little_any _ _ _ _ _ _ _).mono ?_; rintro e wb ⟨rfl, hbb⟩))
      have HRb := Lib.hid (HRa.out.past hbb); have HXb := Lib.hid (HXa.out.past hbb); have HB := Lib.hid hbb
      clear p0 p1 p2 p3 pl hbb HRa HXa
      by_cases h4 : sa ≤ 4
      · rw [show decide (sa ≤ 4) = true by simpa using h4]
        clear h4
        go_upto_region 12 with fail
        have BCH : Hid (Below wb.heap.size wb wb) := Below.refl _ _
        go_cut [84] (fun s84 wx => s84 = .bool false ∧ Below wb.heap.size wb wx)
        case first =>
          go_region_held3 (fun W => W.cell? ⟨w.heap.size, 0, none⟩ = some (.int .i64 sa) ∧ W.cell? ⟨w.heap.size, 1, none⟩ = some (.float .f32 la) ∧ W.cell? ⟨w.heap.size, 2, none⟩ = some (.float .f32 ha) ∧ W.cell? ⟨nc, 0, none⟩ = some (.int .i64 sa) ∧ W.cell? ⟨nc, 1, none⟩ = some (.float .f32 la) ∧ W.cell? ⟨nc, 2, none⟩ = some (.float .f32 ha) ∧ W.cell? ⟨nc, 3, none⟩ = some (.slice (some ⟨gc, 0, none⟩) na cc))
            (first | exact cp_keepc HRb.out BCH.out.drew | exact cp_keepc HRb.out B9.out | exact cp_keepc HRb.out B10.out)
            (first | (go_at_call 38; refine (MadeOf_int 105 #[.pointer (some ⟨w.heap.size, 0, none⟩), .pointer (some ⟨w.heap.size + 1, 0, none⟩)] sa la ha na (cpoG sb.toNat lb hb fb fa) _ HS.out HN.out.1 (body_enters Try.func105 (by kernel_rfl) rfl) (cp_ent1 _ _ _ _ _ _ _ _ _ _ _ _ _ _ _ _ _ (HI.out.1.below (HRb.out.past BCH.out.drew).w (Nat.le_refl _)) (HI.out.2.below (HRb.out.past BCH.out.drew).w (Nat.le_refl _)) HZ1.out HZ2.out (HRb.out.past BCH.out.drew).a (HRb.out.past BCH.out.drew).b)).mono ?_; rintro e w9 ⟨g9, cap9, rfl, hg9, hgl9, hrow9, hb9⟩; have B9 : Hid (Below wb.heap.size wb w9) := BCH.out.drew.trans (hb9.mono (by simp)); have H9 := Lib.hid hrow9; clear hrow9) | (go_at_call 42; refine (sameCube_g sa la ha gc g9 na cc cap9 _ _ _ HN.out.2.2 HN.out.2.1 (HG.out.2.past (HB.out.trans (B9.out.mono HB.out.size))) H9.out (fun _ _ => rfl)).mono ?_; rintro e w10 ⟨rfl, hb10⟩; have B10 : Hid (Below wb.heap.size wb w10) := B9.out.trans (hb10.mono B9.out.size)))
          go_wp2_with fail
          go_meet
          exact ⟨rfl, B10.out⟩
        case rest =>
          obtain ⟨rfl, hB⟩ := hcut
          have HRc := Lib.hid (HRb.out.past hB); have HXc := Lib.hid (HXb.out.past hB); have HBc : Hid (Below wa.heap.size wa wc) := HB.out.trans (hB.mono HB.out.size)
          clear hB HRb HXb HB BCH HG
          have p0 := HRc.out.a.c 0 _ rfl; have p1 := HRc.out.a.c 1 _ rfl; have p2 := HRc.out.a.c 2 _ rfl; have p3 := HRc.out.a.c 3 _ rfl; have pl := HRc.out.a.lt
          have q0 := HRc.out.b.c 0 _ rfl; have q1 := HRc.out.b.c 1 _ rfl; have q2 := HRc.out.b.c 2 _ rfl; have ql := HRc.out.b.lt
          go_upto_region 14 with fail
          go_cut [103] (fun s103 wx => s103 = .bool (confB sa sb la lb ha hb) ∧ wc = wx)
          case first =>
            by_cases hs : sa = sb
            · subst hs
              cases hl : (FloatKind.f32.format.order la lb != some .eq)
              · cases hh : (FloatKind.f32.format.order ha hb != some .eq)
                · go_wp2_with fail
                  go_meet
                  exact ⟨by unfold confB; rw [hl, hh]; simp, rfl⟩
                · go_wp2_with fail
                  go_meet
                  exact ⟨by unfold confB; rw [hl, hh]; simp, rfl⟩
              · go_wp2_with fail
                go_meet
                exact ⟨by unfold confB; rw [hl]; simp, rfl⟩
            · go_wp2_with fail
              go_meet
              exact ⟨by unfold confB; simp [hs], rfl⟩
          case rest =>
            obtain ⟨rfl, rfl⟩ := hcut
            cases hcf : confB sa sb la lb ha hb
            · have hxe : bothE (cubErr sa la ha na) (cubErr sb lb hb nb) (confB sa sb la lb ha hb) = 0 := by unfold bothE; rw [hcf, HZ1.out, HZ2.out]; rfl
              have hss : sa = sb := by
                unfold confB at hcf; simp at hcf; exact hcf.1.1
              have hnn : nb = na := by
                have e1 := (cubErr_ok HZ1.out).2.1; have e2 := (cubErr_ok HZ2.out).2.1
                rw [hss] at e1
                omega
              have HNN := Lib.hid hnn
              have hxe' : xe = 0 := HXc.out.1.trans hxe
              subst hxe'
              obtain ⟨rfl, rfl, rfl, rfl, gx, rfl, hgx, hrowx⟩ := HXc.out.2.2 hxe
              obtain ⟨b, off, rfl, hca, hra⟩ := HI.out.1 HZ1.out
              obtain ⟨b', off', rfl, hcb, hrb⟩ := HI.out.2 HZ2.out
              have hbw : b < w.heap.size := hra.lt HN.out.2.1
              have hbw' : b' < w.heap.size := hrb.lt (by have := HN.out.2.1; have := HNN.out; omega)
              have HRA := Lib.hid hra; have HRB := Lib.hid hrb; have HGX := Lib.hid (And.intro hgx hrowx)
              have hn6 := HN.out.2.2
              obtain ⟨i0, hi0, hz0, hz1, hz2⟩ := info_parts infoF32
              clear hra hrb hgx hrowx hxe hcf hss hnn HXc HEF HEZ q0 q1 q2 ql
              go_upto_region 18 with fail
              refine wp_world (fun W1 hW1 => ?_)
              have M0 : YR wc W1 wc.heap.size sa la ha (fun i => lerpF (fa i) (fb i) t) 0 (.slice none 0 0) := by rw [hW1]; exact ⟨Blk.new _ _ _ _ rfl, World.ownsRow_nil _ _ _ _, by (repeat (first | exact Below.refl _ _ | assumption | (refine Below.setCell ?_ (by first | (simp; done) | (simp; omega) | omega) _) | (refine Below.drew ?_) | (refine below_drewN ?_ _) | (refine Below.alloc ?_ (by first | (simp; done) | (simp; omega) | omega) _) | (refine Below.trans ?_ (Below.mono (by assumption) (by first | (simp; done) | (simp; omega) | omega))))), Nat.le_refl _⟩
              have HM0 := Lib.hid M0
              clear hW1 M0 p0 p1 p2 p3 pl
              generalize hny : wc.heap.size = ny at HM0 ⊢
              have HNY := Lib.hid hny
              clear hny
              have R1 := HRc.out.past HM0.out.bel
              have p3 := R1.a.c 3 _ rfl; have pl := R1.a.lt
              clear R1
              go_wp2_with fail
              clear p3 pl
              go_loopw [121] (fun s121 wr => ∃ k : Nat, k ≤ na ∧ s121 = .int .i64 k ∧ ∃ v, YR wc wr ny sa la ha (fun i => lerpF (fa i) (fb i) t) k v) (fun s121 _ => na - (intOf s121).toNat)
              case atStart => exact ⟨0, Nat.zero_le _, rfl, _, HM0.out⟩
              case round =>
                obtain ⟨k, hk, rfl, v, hM⟩ := hrel
                have HM := Lib.hid hM
                clear hM HM0
                have R1 := HRc.out.past HM.out.bel
                by_cases hkn : k < na
                · have cA : wr.cell? ⟨b, off + k, none⟩ = some (.float .f32 (fa k)) := (HRA.out.below R1.w hbw) k hkn
                  have cB : wr.cell? ⟨b', off' + k, none⟩ = some (.float .f32 (fb k)) := (HRB.out.below R1.w hbw') k (by have := HNN.out; omega)
                  obtain ⟨x, hx⟩ : ∃ x, x = fa k := ⟨_, rfl⟩
                  obtain ⟨y, hy⟩ : ∃ y, y = fb k := ⟨_, rfl⟩
                  obtain ⟨z, hz⟩ : ∃ z, z = lerpF x y t := ⟨_, rfl⟩
                  rw [← hx] at cA; rw [← hy] at cB
                  have HXY := Lib.hid (show z = lerpF (fa k) (fb k) t by rw [hz, hx, hy])
                  have HZZ := Lib.hid hz
                  have p3 := R1.a.c 3 _ rfl; have q3 := R1.b.c 3 _ rfl; have y3 := HM.out.cub.c 3 _ rfl
                  have pl := R1.a.lt; have ql := R1.b.lt; have yl := HM.out.cub.lt; have bwr := cell_lt cA; have bwr' := cell_lt cB
                  simp only at bwr bwr'
                  have hka : (k : Int) < (na : Int) := by omega
                  have hkb : (k : Int) < (nb : Int) := by have := HNN.out; omega
                  have hCp : ∀ w', Below wr.heap.size wr w' → w'.cell? ⟨ny, 3, none⟩ = some v ∧ w'.cell? ⟨w.heap.size, 3, none⟩ = some (.slice (some ⟨b, off, none⟩) na ca) ∧ w'.cell? ⟨w.heap.size + 1, 3, none⟩ = some (.slice (some ⟨b', off', none⟩) nb cb) ∧ w'.cell? ⟨b, off + k, none⟩ = some (.float .f32 x) ∧ w'.cell? ⟨b', off' + k, none⟩ = some (.float .f32 y) := fun w' hb =>
                    ⟨(hb.cell (p := ⟨ny, 3, none⟩) yl).trans y3, (hb.cell (p := ⟨w.heap.size, 3, none⟩) pl).trans p3, (hb.cell (p := ⟨w.heap.size + 1, 3, none⟩) ql).trans q3, (hb.cell (p := ⟨b, off + k, none⟩) bwr).trans cA, (hb.cell (p := ⟨b', off' + k, none⟩) bwr').trans cB⟩
                  have HCP := Lib.hid hCp
                  have yf := HM.out.cub.f
                  have hbs := HM.out.bel.size; have hly := HM.out.lay
                  clear hx hy hz R1 hCp p3 q3 y3 cA cB
                  go_upto_region 21 with fail
                  refine wp_region_C (fun w' => w'.cell? ⟨ny, 3, none⟩ = some v ∧ w'.cell? ⟨w.heap.size, 3, none⟩ = some (.slice (some ⟨b, off, none⟩) na ca) ∧ w'.cell? ⟨w.heap.size + 1, 3, none⟩ = some (.slice (some ⟨b', off', none⟩) nb cb) ∧ w'.cell? ⟨b, off + k, none⟩ = some (.float .f32 x) ∧ w'.cell? ⟨b', off' + k, none⟩ = some (.float .f32 y)) 15 18 (by kernel_rfl) rfl ?_
                  have hC := HCP.out wr.drew ((Below.refl _ _).drew)
                  refine wpAnyC_take (i := 0) (v := .pointer (some ⟨ny, 3, none⟩)) rfl (by kernel_rfl) (by kernel_rfl) (fun _ _ _ h => h) (.inl ⟨rfl, fun w' hw' => ?_⟩) hC ?_
                  · obtain ⟨k0, k1, k2, k3, k4⟩ := hw'
                    go_simp
                  refine wpAnyC_act (by rfl) ?_
                  simp only [Act.put, List.setIfInBounds_toArray, List.set_cons_zero, List.set_cons_succ]
                  refine wpAnyC_take (i := 1) (v := v) rfl (by kernel_rfl) (by kernel_rfl) (fun _ _ _ h => h) (.inl ⟨rfl, fun w' hw' => ?_⟩) hC ?_
                  · obtain ⟨k0, k1, k2, k3, k4⟩ := hw'
                    go_simp
                  refine wpAnyC_act (by rfl) ?_
                  simp only [Act.put, List.setIfInBounds_toArray, List.set_cons_zero, List.set_cons_succ]
                  refine wpAnyC_take (i := 2) (v := .pointer (some ⟨w.heap.size, 3, none⟩)) rfl (by kernel_rfl) (by kernel_rfl) (fun _ _ _ h => h) (.inl ⟨rfl, fun w' hw' => ?_⟩) hC ?_
                  · obtain ⟨k0, k1, k2, k3, k4⟩ := hw'
                    go_simp
                  refine wpAnyC_act (by rfl) ?_
                  simp only [Act.put, List.setIfInBounds_toArray, List.set_cons_zero, List.set_cons_succ]
                  refine wpAnyC_take (i := 3) (v := .slice (some ⟨b, off, none⟩) na ca) rfl (by kernel_rfl) (by kernel_rfl) (fun _ _ _ h => h) (.inl ⟨rfl, fun w' hw' => ?_⟩) hC ?_
                  · obtain ⟨k0, k1, k2, k3, k4⟩ := hw'
                    go_simp
                  refine wpAnyC_act (by rfl) ?_
                  simp only [Act.put, List.setIfInBounds_toArray, List.set_cons_zero, List.set_cons_succ]
                  refine wpAnyC_take (i := 4) (v := .int .i64 k) rfl (by kernel_rfl) (by kernel_rfl) (fun _ _ _ h => h) (.inl ⟨rfl, fun w' hw' => ?_⟩) hC ?_
                  · obtain ⟨k0, k1, k2, k3, k4⟩ := hw'
                    go_simp
                  refine wpAnyC_act (by rfl) ?_
                  simp only [Act.put, List.setIfInBounds_toArray, List.set_cons_zero, List.set_cons_succ]
                  refine wpAnyC_take (i := 5) (v := .pointer (some ⟨b, off + k, none⟩)) rfl (by kernel_rfl) (by kernel_rfl) (fun _ _ _ h => h) (.inl ⟨rfl, fun w' hw' => ?_⟩) hC ?_
                  · obtain ⟨k0, k1, k2, k3, k4⟩ := hw'
                    go_simp
                  refine wpAnyC_act (by rfl) ?_
                  simp only [Act.put, List.setIfInBounds_toArray, List.set_cons_zero, List.set_cons_succ]
                  refine wpAnyC_take (i := 6) (v := .float .f32 x) rfl (by kernel_rfl) (by kernel_rfl) (fun _ _ _ h => h) (.inl ⟨rfl, fun w' hw' => ?_⟩) hC ?_
                  · obtain ⟨k0, k1, k2, k3, k4⟩ := hw'
                    go_simp
                  refine wpAnyC_act (by rfl) ?_
                  simp only [Act.put, List.setIfInBounds_toArray, List.set_cons_zero, List.set_cons_succ]
                  refine wpAnyC_take (i := 7) (v := .pointer (some ⟨w.heap.size + 1, 3, none⟩)) rfl (by kernel_rfl) (by kernel_rfl) (fun _ _ _ h => h) (.inl ⟨rfl, fun w' hw' => ?_⟩) hC ?_
                  · obtain ⟨k0, k1, k2, k3, k4⟩ := hw'
                    go_simp
                  refine wpAnyC_act (by rfl) ?_
                  simp only [Act.put, List.setIfInBounds_toArray, List.set_cons_zero, List.set_cons_succ]
                  refine wpAnyC_take (i := 8) (v := .slice (some ⟨b', off', none⟩) nb cb) rfl (by kernel_rfl) (by kernel_rfl) (fun _ _ _ h => h) (.inl ⟨rfl, fun w' hw' => ?_⟩) hC ?_
                  · obtain ⟨k0, k1, k2, k3, k4⟩ := hw'
                    go_simp
                  refine wpAnyC_act (by rfl) ?_
                  simp only [Act.put, List.setIfInBounds_toArray, List.set_cons_zero, List.set_cons_succ]
                  refine wpAnyC_take (i := 9) (v := .int .i64 k) rfl (by kernel_rfl) (by kernel_rfl) (fun _ _ _ h => h) (.inl ⟨rfl, fun w' hw' => ?_⟩) hC ?_
                  · obtain ⟨k0, k1, k2, k3, k4⟩ := hw'
                    go_simp
                  refine wpAnyC_act (by rfl) ?_
                  simp only [Act.put, List.setIfInBounds_toArray, List.set_cons_zero, List.set_cons_succ]
                  refine wpAnyC_take (i := 10) (v := .pointer (some ⟨b', off' + k, none⟩)) rfl (by kernel_rfl) (by kernel_rfl) (fun _ _ _ h => h) (.inl ⟨rfl, fun w' hw' => ?_⟩) hC ?_
                  · obtain ⟨k0, k1, k2, k3, k4⟩ := hw'
                    go_simp
                  refine wpAnyC_act (by rfl) ?_
                  simp only [Act.put, List.setIfInBounds_toArray, List.set_cons_zero, List.set_cons_succ]
                  refine wpAnyC_take (i := 11) (v := .float .f32 y) rfl (by kernel_rfl) (by kernel_rfl) (fun _ _ _ h => h) (.inl ⟨rfl, fun w' hw' => ?_⟩) hC ?_
                  · obtain ⟨k0, k1, k2, k3, k4⟩ := hw'
                    go_simp
                  refine wpAnyC_act (by rfl) ?_
                  simp only [Act.put, List.setIfInBounds_toArray, List.set_cons_zero, List.set_cons_succ]
                  refine wpAnyC_take (i := 12) (v := .float .f32 t) rfl (by kernel_rfl) (by kernel_rfl) (fun _ _ _ h => h) (.inl ⟨rfl, fun w' hw' => ?_⟩) hC ?_
                  · obtain ⟨k0, k1, k2, k3, k4⟩ := hw'
                    go_simp
                  refine wpAnyC_act (by rfl) ?_
                  simp only [Act.put, List.setIfInBounds_toArray, List.set_cons_zero, List.set_cons_succ]
                  refine wpAnyC_one (i := 13) rfl (by kernel_rfl) (fun K hK => ?_)
                  go_simp
                  go_at_call 106
                  refine (LerpOf_any _ _ _ _).mono ?_
                  rintro e wL ⟨rfl, m, hm⟩
                  have hbL : Below wr.heap.size wr wL := by rw [hm]; (repeat (first | exact Below.refl _ _ | assumption | (refine Below.setCell ?_ (by first | (simp; done) | (simp; omega) | omega) _) | (refine Below.drew ?_) | (refine below_drewN ?_ _) | (refine Below.alloc ?_ (by first | (simp; done) | (simp; omega) | omega) _) | (refine Below.trans ?_ (Below.mono (by assumption) (by first | (simp; done) | (simp; omega) | omega)))))
                  have HML := Lib.hid (HM.out.past hbL)
                  have hsL := hbL.size
                  have hCL : ∀ w', Below wL.heap.size wL w' → _ := fun w' hb => HCP.out w' (hbL.trans (hb.mono hbL.size))
                  have HCL := Lib.hid hCL
                  clear hCL hm hC
                  rw [← HZZ.out]
                  go_simp
                  refine hK _ _ (fun _ => HCL.out _ (Below.refl _ _)) ?_
                  clear hK K
                  refine wpAnyC_one (i := 14) rfl (by kernel_rfl) (fun K hK => ?_)
                  go_simp
                  refine hK _ _ (fun _ => HCL.out _ (by (repeat (first | exact Below.refl _ _ | assumption | (refine Below.setCell ?_ (by first | (simp; done) | (simp; omega) | omega) _) | (refine Below.drew ?_) | (refine below_drewN ?_ _) | (refine Below.alloc ?_ (by first | (simp; done) | (simp; omega) | omega) _) | (refine Below.trans ?_ (Below.mono (by assumption) (by first | (simp; done) | (simp; omega) | omega))))))) ?_
                  clear hK K
                  refine wpAnyC_one (i := 15) rfl (by kernel_rfl) (fun K hK => ?_)
                  refine step_append_lies _ rfl (.tmp 125) (.tmp 138) 25 rfl (ny + 1) 38 i0 (.float .f32 0) 1 4 Try.underlying25 hi0 hz0 hz1 hz2 rfl (by decide) v k (rowL (fun i => lerpF (fa i) (fb i) t) k) rfl (World.ownsRow.alloc HML.out.own _) ⟨wL.heap.size, 0, none⟩ 1 1 [.float .f32 z] rfl rfl (by intro j u hj; match j, hj with | 0, hj => (simp at hj; subst hj; simp [Addr.add])) (by intro u hu; simp at hu; subst hu; rfl) (by decide) (by unfold maxLen; omega) (by omega) (by simp; omega) _ rfl ?_
                  intro g cap w5 hown hgrow hat hlt
                  obtain ⟨f4w, ffw, MS0⟩ := YR.app HML.out (by (repeat (first | exact Below.refl _ _ | assumption | (refine Below.setCell ?_ (by first | (simp; done) | (simp; omega) | omega) _) | (refine Below.drew ?_) | (refine below_drewN ?_ _) | (refine Below.alloc ?_ (by first | (simp; done) | (simp; omega) | omega) _) | (refine Below.trans ?_ (Below.mono (by assumption) (by first | (simp; done) | (simp; omega) | omega)))))) hown HXY.out hgrow
                  have MS := Lib.hid MS0
                  clear MS0 hown hgrow
                  refine hK _ _ (fun h => by rw [getD_setSelf] at h; cases h) ?_
                  clear hK K
                  refine wpAnyC_act (by rfl) ?_
                  simp only [Act.put, List.setIfInBounds_toArray, List.set_cons_zero, List.set_cons_succ]
                  refine wpAnyC_one (i := 16) rfl (by kernel_rfl) (fun K hK => ?_)
                  go_simp
                  refine hK _ _ (fun h => by rw [getD_setC (by decide), getD_setSelf] at h; cases h) ?_
                  clear hK K
                  refine wpAnyC_one (i := 17) rfl (by kernel_rfl) (fun K hK => ?_)
                  go_simp
                  refine hK _ _ (fun h => by rw [getD_setC (by decide), getD_setC (by decide), getD_setSelf] at h; cases h) ?_
                  clear hK K
                  refine wpAnyC_done (by kernel_rfl) ?_
                  go_wp2_with fail
                  go_roundw
                  case rel => exact ⟨k + 1, by omega, by go_num, _, MS.out⟩
                  case measure => simp [intOf]; omega
                · obtain rfl : k = na := by omega
                  obtain ⟨g, cp, rfl, hg1, hg2, hg3, hg4⟩ := own_form HM.out.own (by have := HN.out.2.1; omega)
                  have hcells := HM.out.own.cells (g := g) rfl
                  have hrow : Row wr g 0 k (fun i => lerpF (fa i) (fb i) t) := fun x hx => by
                    have := hcells x (.float .f32 (lerpF (fa x) (fb x) t)) (by simp [rowL, hx])
                    rw [Go.WideShapes.add_plain] at this
                    show wr.cell? ⟨g, 0 + x, none⟩ = some (.float .f32 (lerpF (fa x) (fb x) t))
                    rw [Nat.zero_add, ← this]
                    simp [go_sem]
                  have HROW := Lib.hid hrow
                  have x0 := R1.x.c 0 _ rfl; have x1 := R1.x.c 1 _ rfl; have x2 := R1.x.c 2 _ rfl; have x3 := R1.x.c 3 _ rfl; have xl' := R1.x.lt
                  have y0 := HM.out.cub.c 0 _ rfl; have y1 := HM.out.cub.c 1 _ rfl; have y2 := HM.out.cub.c 2 _ rfl; have y3 := HM.out.cub.c 3 _ rfl; have yl := HM.out.cub.lt
                  have HBr : Hid (Below wa.heap.size wa wr) := HBc.out.trans (HM.out.bel.mono HBc.out.size)
                  clear hcells hrow hg1 hg2 hg3 hg4 R1
                  go_wp2_with (first | (go_at_call 42; refine (sameCube_g sa la ha gx g k xc cp _ _ _ HN.out.2.2 HN.out.2.1 (HGX.out.2.past HM.out.bel) HROW.out (fun _ _ => rfl)).mono ?_; rintro e wz ⟨rfl, hbz⟩; have B1 : Hid (Below wr.heap.size wr wz) := hbz; clear hbz))
                  go_meet
                  exact ⟨rfl, HBr.out.trans (B1.out.mono HBr.out.size)⟩
            · have hxe : bothE (cubErr sa la ha na) (cubErr sb lb hb nb) (confB sa sb la lb ha hb) = 12 := by unfold bothE; rw [hcf, HZ1.out, HZ2.out]; rfl
              obtain ⟨rfl, rfl, rfl, rfl, rfl, rfl⟩ := HXc.out.2.1 (by rw [hxe]; decide)
              have hxe' := HXc.out.1.trans hxe
              subst hxe'
              have x0 := HRc.out.x.c 0 _ rfl; have x1 := HRc.out.x.c 1 _ rfl; have x2 := HRc.out.x.c 2 _ rfl; have x3 := HRc.out.x.c 3 _ rfl; have xl' := HRc.out.x.lt
              clear hxe hcf HI HEF HEZ HXc p0 p1 p2 p3 pl q0 q1 q2 ql
              go_wp2_with (first | (go_at_call 37; refine (noCube_zero _ _ _).mono ?_; rintro e wb ⟨rfl, hbb⟩; have B1 : Hid (Below wc.heap.size wc wb) := hbb; clear hbb))
              go_meet
              exact ⟨rfl, HBc.out.trans (B1.out.mono HBc.out.size)⟩
      · rw [show decide (sa ≤ 4) = false by simpa using h4]
        go_wp2_with fail
        go_meet
        exact ⟨rfl, HB.out⟩
    · have hFb : (EF != 0) = true := by simpa using hF
      have hxe : bothE (cubErr sa la ha na) (cubErr sb lb hb nb) (confB sa sb la lb ha hb) = EF := by unfold bothE; rw [← HEF.out, firstE_of _ hF]
      obtain ⟨rfl, rfl, rfl, rfl, rfl, rfl⟩ := HCa.out.2.1 hF
      obtain ⟨rfl, rfl, rfl, rfl, rfl, rfl⟩ := HXa.out.2.1 (by rw [hxe]; exact hF)
      have hce := HCa.out.1; have hxe' := HXa.out.1.trans hxe
      subst hce
      subst hxe'
      have B0 : Hid (Below wa.heap.size wa wa) := Below.refl _ _
      clear hxe hF HI HEF HCa HDa HXa
      go_wp2_with (first | (go_at_call 37; refine (noCube_zero _ _ _).mono ?_; rintro e wb ⟨rfl, hbb⟩; have Rb := HRa.out.past hbb; have B1 : Hid (Below wa.heap.size wa wb) := hbb; clear c0 c1 c2 c3 cl' x0 x1 x2 x3 xl' hbb B0; have x0 := Rb.x.c 0 _ rfl; have x1 := Rb.x.c 1 _ rfl; have x2 := Rb.x.c 2 _ rfl; have x3 := Rb.x.c 3 _ rfl; have xl' := Rb.x.lt; clear Rb) | (go_at_call 37; refine (noCube_zero _ _ _).mono ?_; rintro e wc ⟨rfl, hbc⟩; have B2 : Hid (Below wa.heap.size wa wc) := B1.out.trans (hbc.mono B1.out.size); clear hbc B1))
      go_meet
      exact ⟨rfl, B2.out⟩
  case rest =>
    obtain ⟨rfl, hB⟩ := hcut
    have HRc := Lib.hid (HRa.out.past hB); have HDc := Lib.hid (HDa.out.past hB)
    clear hB HRa HDa HCa HXa
    have t0 := HRc.out.t.c 0 _ rfl; have tl := HRc.out.t.lt
    go_upto_region 26 with (first | (go_at_call 22; refine (In_any _ _ _ _).mono ?_; rintro e w' ⟨rfl, rfl⟩) | (go_at_call 21; refine (When_any _ _ _).mono ?_; rintro e w' ⟨rfl, rfl⟩) | (go_at_call 19; refine (First2_new _ _ _ _ _ (heap_new _ _ _ (by simp))).mono ?_; rintro e w' ⟨rfl, rfl⟩))
    rw [show firstE (cubErr sa la ha na) (whenE (!inB T 2 17) 3) = EZ from HEZ.out.symm]
    refine wp_world (fun We hWe => ?_)
    have Be : Below wc.heap.size wc We := by rw [hWe]; (repeat (first | exact Below.refl _ _ | assumption | (refine Below.setCell ?_ (by first | (simp; done) | (simp; omega) | omega) _) | (refine Below.drew ?_) | (refine below_drewN ?_ _) | (refine Below.alloc ?_ (by first | (simp; done) | (simp; omega) | omega) _) | (refine Below.trans ?_ (Below.mono (by assumption) (by first | (simp; done) | (simp; omega) | omega)))))
    have HRe := Lib.hid (HRc.out.past Be); have HDe := Lib.hid (HDc.out.past Be)
    clear hWe Be HRc HDc t0 tl
    by_cases hZ : EZ = 0
    · obtain ⟨z1, z2⟩ := firstE_zero (HEZ.out.symm.trans hZ)
      have hT : 2 ≤ T ∧ T ≤ 17 := by
        cases hi : inB T 2 17
        · rw [hi] at z2; cases z2
        · exact inB_iff.1 hi
      have hde : de = 0 := HDe.out.1.trans hZ
      subst hde
      obtain ⟨rfl, rfl, rfl, rfl, gd, rfl, hgd, hrowd⟩ := HDe.out.2.2 hZ
      have HG := Lib.hid (And.intro hgd hrowd)
      have HZ1 := Lib.hid z1; have HT := Lib.hid hT
      subst hZ
      clear z1 z2 hT hgd hrowd HDe
      have t0 := HRe.out.t.c 0 _ rfl; have tl := HRe.out.t.lt
      by_cases h4 : 4 < T
      · go_wp2_with fail
        refine wp_region_loose 17 (fun _ _ _ => True) (by kernel_rfl) (by kernel_rfl) ?_
        simp only [List.take_succ_cons, List.take_zero, List.drop_succ_cons, List.drop_zero]
        iterate 3 (refine loose_wanted rfl (fun K hK => ?_); go_simp; refine hK _ ?_; clear hK K)
        iterate 13 ((with_reducible refine loose_pass (by kernel_rfl) (fun K hK => ?_)); go_simp; refine hK _ ?_; clear hK K)
        iterate 1 (refine loose_wanted rfl (fun K hK => ?_); go_simp; refine hK _ ?_; clear hK K)
        refine loose_nil (fun w5 hb5 => ?_)
        go_wp2_with fail
        go_ret
        exact ⟨ret_b (by simp), HRe.out.w.trans (hb5.mono HRe.out.w.size)⟩
      · have h4' : T ≤ 4 := by omega
        clear t0 tl
        have BCH : Hid (Below We.heap.size We We) := Below.refl _ _
        obtain ⟨N, hN⟩ : ∃ N, N = 3 * (T.toNat * T.toNat * T.toNat) := ⟨_, rfl⟩
        rw [← hN] at HG HRe
        have hNN : 0 < N ∧ N ≤ 65536 := by
          have := HT.out
          obtain ⟨t', rfl⟩ : ∃ t : Nat, T = t := ⟨T.toNat, by omega⟩
          simp only [Int.toNat_natCast] at hN
          rcases (show t' = 2 ∨ t' = 3 ∨ t' = 4 by omega) with rfl | rfl | rfl <;> omega
        have HN := Lib.hid (And.intro hN hNN)
        clear hN hNN
        go_upto_region 28 with fail
        go_region_held3 (fun W => W.cell? ⟨w.heap.size + 2, 0, none⟩ = some (.int .i64 T) ∧ W.cell? ⟨w.heap.size, 1, none⟩ = some (.float .f32 la) ∧ W.cell? ⟨w.heap.size, 2, none⟩ = some (.float .f32 ha) ∧ W.cell? ⟨nd, 0, none⟩ = some (.int .i64 T) ∧ W.cell? ⟨nd, 1, none⟩ = some (.float .f32 la) ∧ W.cell? ⟨nd, 2, none⟩ = some (.float .f32 ha) ∧ W.cell? ⟨nd, 3, none⟩ = some (.slice (some ⟨gd, 0, none⟩) N dc))
          (first | exact cp_keepd HRe.out BCH.out.drew | exact cp_keepd HRe.out B9.out | exact cp_keepd HRe.out B10.out)
          (first | (go_at_call 38; refine (MadeOf_int 107 #[.pointer (some ⟨w.heap.size, 0, none⟩), .pointer (some ⟨w.heap.size + 1 + 1, 0, none⟩)] T la ha N (rzG sa.toNat la ha T.toNat fa) _ HT.out HN.out.1 (body_enters Try.func107 (by kernel_rfl) rfl) (cp_ent2 _ _ _ _ _ _ _ _ _ _ _ (HI.out.1.below (HRe.out.past BCH.out.drew).w (Nat.le_refl _)) HZ1.out HT.out (HRe.out.past BCH.out.drew).a (HRe.out.past BCH.out.drew).t)).mono ?_; rintro e w9 ⟨g9, cap9, rfl, hg9, hgl9, hrow9, hb9⟩; have B9 : Hid (Below We.heap.size We w9) := BCH.out.drew.trans (hb9.mono (by simp)); have H9 := Lib.hid hrow9; clear hrow9) | (go_at_call 42; refine (sameCube_g T la ha gd g9 N dc cap9 _ _ _ HN.out.2.2 HN.out.2.1 (HG.out.2.past B9.out) H9.out (fun _ _ => rfl)).mono ?_; rintro e w10 ⟨rfl, hb10⟩; have B10 : Hid (Below We.heap.size We w10) := B9.out.trans (hb10.mono B9.out.size)))
        go_wp2_with fail
        go_ret
        exact ⟨ret_b (by simp), HRe.out.w.trans (B10.out.mono HRe.out.w.size)⟩
    · have hZb : (EZ != 0) = true := by simpa using hZ
      obtain ⟨rfl, rfl, rfl, rfl, rfl, rfl⟩ := HDe.out.2.1 hZ
      have hde := HDe.out.1
      subst hde
      have d0 := HRe.out.d.c 0 _ rfl; have d1 := HRe.out.d.c 1 _ rfl; have d2 := HRe.out.d.c 2 _ rfl; have d3 := HRe.out.d.c 3 _ rfl; have dl' := HRe.out.d.lt
      clear hZ HI HEF HEZ HDe
      go_wp2_with (first | (go_at_call 37; refine (noCube_zero _ _ _).mono ?_; rintro e wb ⟨rfl, hbb⟩; have B1 : Hid (Below We.heap.size We wb) := hbb; clear hbb))
      go_ret
      exact ⟨ret_b (by simp), HRe.out.w.trans (B1.out.mono HRe.out.w.size)⟩
theorem cp_walk (sa : Int) (la ha : Nat) (aa : Option Addr) (na ca : Nat) (fa : Nat → Nat) (sb : Int) (lb hb : Nat) (ab : Option Addr) (nb cb : Nat) (fb : Nat → Nat) (T : Int) (t : Nat) (w : World)
    (_ : IntKind.i64.min ≤ sa ∧ sa ≤ IntKind.i64.max) (_ : la < 2 ^ FloatKind.f32.format.width) (_ : ha < 2 ^ FloatKind.f32.format.width) (ia : IsFloats w aa na ca fa)
    (_ : IntKind.i64.min ≤ sb ∧ sb ≤ IntKind.i64.max) (_ : lb < 2 ^ FloatKind.f32.format.width) (_ : hb < 2 ^ FloatKind.f32.format.width) (ib : IsFloats w ab nb cb fb)
    (_ : IntKind.i64.min ≤ T ∧ T ≤ IntKind.i64.max) (_ : t < 2 ^ FloatKind.f32.format.width) :
    Calls Try.prog 16 #[.agg #[.int .i64 sa, .float .f32 la, .float .f32 ha, .slice aa na ca], .agg #[.int .i64 sb, .float .f32 lb, .float .f32 hb, .slice ab nb cb], .int .i64 T, .float .f32 t] w fun e w' => e = .returned (.bool true) ∧ Below w.heap.size w w' :=
  cp_go sa la ha aa na ca fa sb lb hb ab nb cb fb T t w (CubIn.of ia) (CubIn.of ib)
end Go.Proofs.Ytkmjboffjhcoaaa
