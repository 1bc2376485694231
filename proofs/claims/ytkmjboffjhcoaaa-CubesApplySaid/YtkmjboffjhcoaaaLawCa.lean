/- CubesApply: the walk of the statement, whole. No condition. -/
import Derived.Test.YtkmjboffjhcoaaaCaG
import Derived.Test.YtkmjboffjhcoaaaBO
namespace Go.Proofs.Ytkmjboffjhcoaaa
open Go Go.RowKit
/-- What stands of the statement's variables. -/
structure CaR (w W : World) (La : List Value) (how : Int) (Lf : List Value) (ng nd : Nat) (Lg Ld : List Value) : Prop where
  a : Blk W w.heap.size La
  t : Blk W (w.heap.size + 1) [.int .i64 how]
  f : Blk W (w.heap.size + 2) Lf
  g : Blk W ng Lg
  d : Blk W nd Ld
  w : Below w.heap.size w W
theorem CaR.past {w W V : World} {La : List Value} {how : Int} {Lf : List Value} {ng nd : Nat} {Lg Ld : List Value} (k : CaR w W La how Lf ng nd Lg Ld) (h : Below W.heap.size W V) : CaR w V La how Lf ng nd Lg Ld :=
  ⟨k.a.past h, k.t.past h, k.f.past h, k.g.past h, k.d.past h, k.w.trans (h.mono k.w.size)⟩
theorem ca_keepd {w W V : World} {La : List Value} {how : Int} {Lf : List Value} {ng nd : Nat} {Lg : List Value} {ds : Int} {dl dh : Nat} {y : Value} (k0 : CaR w W La how Lf ng nd Lg [.int .i64 ds, .float .f32 dl, .float .f32 dh, y]) (h : Below W.heap.size W V) :
    V.cell? ⟨nd, 0, none⟩ = some (.int .i64 ds) ∧ V.cell? ⟨nd, 1, none⟩ = some (.float .f32 dl) ∧ V.cell? ⟨nd, 2, none⟩ = some (.float .f32 dh) ∧ V.cell? ⟨nd, 3, none⟩ = some y := by
  have k := k0.past h
  exact ⟨k.d.c 0 _ rfl, k.d.c 1 _ rfl, k.d.c 2 _ rfl, k.d.c 3 _ rfl⟩
theorem ca_keepg {w W V : World} {La : List Value} {how : Int} {x y v h : Int} {z : Value} {ng nd : Nat} {gx gy gv gh : Int} {u : Value} {Ld : List Value} (k0 : CaR w W La how [.int .i64 x, .int .i64 y, .int .i64 v, .int .i64 h, z] ng nd [.int .i64 gx, .int .i64 gy, .int .i64 gv, .int .i64 gh, u] Ld) (hb : Below W.heap.size W V) :
    V.cell? ⟨w.heap.size + 2, 0, none⟩ = some (.int .i64 x) ∧ V.cell? ⟨w.heap.size + 2, 1, none⟩ = some (.int .i64 y) ∧ V.cell? ⟨w.heap.size + 2, 2, none⟩ = some (.int .i64 v) ∧ V.cell? ⟨w.heap.size + 2, 3, none⟩ = some (.int .i64 h) ∧ V.cell? ⟨ng, 0, none⟩ = some (.int .i64 gx) ∧ V.cell? ⟨ng, 1, none⟩ = some (.int .i64 gy) ∧ V.cell? ⟨ng, 2, none⟩ = some (.int .i64 gv) ∧ V.cell? ⟨ng, 3, none⟩ = some (.int .i64 gh) ∧ V.cell? ⟨ng, 4, none⟩ = some u := by
  have k := k0.past hb
  exact ⟨k.f.c 0 _ rfl, k.f.c 1 _ rfl, k.f.c 2 _ rfl, k.f.c 3 _ rfl, k.g.c 0 _ rfl, k.g.c 1 _ rfl, k.g.c 2 _ rfl, k.g.c 3 _ rfl, k.g.c 4 _ rfl⟩
def CaPsi (ea ef : Int) (f : FuncId) (args : Array Value) (u : Value) : Prop :=
  if f = 35 then u = .int .i64 ea
  else if f = 63 then u = .int .i64 ef
  else if f = 22 then u = .bool (inB (argI args 0) (argI args 1) (argI args 2))
  else u = .int .i64 (whenE (argB args 0) (argI args 1))
theorem cap_e {ea ef : Int} {args : Array Value} {u : Value} : CaPsi ea ef 35 args u ↔ u = .int .i64 ea := by unfold CaPsi; rw [if_pos rfl]
theorem cap_f {ea ef : Int} {args : Array Value} {u : Value} : CaPsi ea ef 63 args u ↔ u = .int .i64 ef := by unfold CaPsi; rw [if_neg (by decide), if_pos rfl]
theorem cap_i {ea ef a b c : Int} {u : Value} : CaPsi ea ef 22 #[.int .i64 a, .int .i64 b, .int .i64 c] u ↔ u = .bool (inB a b c) := by unfold CaPsi; rw [if_neg (by decide), if_neg (by decide), if_pos rfl]; rfl
theorem cap_w {ea ef : Int} {b : Bool} {c : Int} {u : Value} : CaPsi ea ef 21 #[.bool b, .int .i64 c] u ↔ u = .int .i64 (whenE b c) := by unfold CaPsi; rw [if_neg (by decide), if_neg (by decide), if_neg (by decide)]; rfl
set_option maxRecDepth 100000 in
set_option maxHeartbeats 8000000 in
theorem ca_go (sa : Int) (la ha : Nat) (aa : Option Addr) (na ca : Nat) (fa : Nat → Nat) (how T : Int) (x y v h : Int) (a : Option Addr) (n cap : Nat) (fs : Nat → Nat) (w : World) (hx : -9223372036854775808 ≤ x ∧ x ≤ 9223372036854775807) (hy : -9223372036854775808 ≤ y ∧ y ≤ 9223372036854775807) (ia : CubIn w sa la ha aa na ca fa) (ib : FraIn w x y v h a n cap fs) :
    Calls Try.prog 17 #[.agg #[.int .i64 sa, .float .f32 la, .float .f32 ha, .slice aa na ca], .int .i64 how, .int .i64 T, .agg #[.int .i64 x, .int .i64 y, .int .i64 v, .int .i64 h, .slice a n cap]] w fun e w' => e = .returned (.bool true) ∧ Below w.heap.size w w' := by
  have HI := Lib.hid (And.intro ia ib); have HX := Lib.hid (And.intro hx hy)
  obtain ⟨EA, hEA⟩ : ∃ E, E = apE (cubErr sa la ha na) how (fraErr x y v h n) := ⟨_, rfl⟩
  obtain ⟨EI, hEI⟩ : ∃ E, E = whenE (!inB T 2 17) 3 := ⟨_, rfl⟩
  have HEA := Lib.hid hEA; have HEI := Lib.hid hEI
  clear ia ib hx hy hEA hEI
  go_enter Try.func17, Try.ntmps17
  go_upto_region 1 with fail
  refine wp_world (fun W hW => ?_)
  have A0 : Blk W w.heap.size [.int .i64 sa, .float .f32 la, .float .f32 ha, .slice aa na ca] := by rw [hW]; exact ((Blk.new _ _ _ _ rfl).alloc _).alloc _
  have T0 : Blk W (w.heap.size + 1) [.int .i64 how] := by rw [hW]; exact (Blk.new _ _ _ _ (by simp)).alloc _
  have F0 : Blk W (w.heap.size + 2) [.int .i64 x, .int .i64 y, .int .i64 v, .int .i64 h, .slice a n cap] := by rw [hW]; exact Blk.new _ _ _ _ (by simp)
  have BW : Below w.heap.size w W := by rw [hW]; (repeat (first | exact Below.refl _ _ | assumption | (refine Below.setCell ?_ (by first | (simp; done) | (simp; omega) | omega) _) | (refine Below.drew ?_) | (refine below_drewN ?_ _) | (refine Below.alloc ?_ (by first | (simp; done) | (simp; omega) | omega) _) | (refine Below.trans ?_ (Below.mono (by assumption) (by first | (simp; done) | (simp; omega) | omega)))))
  have H0 := Lib.hid (And.intro A0 (And.intro T0 (And.intro F0 BW)))
  clear hW A0 T0 F0 BW
  have p0 := H0.out.1.c 0 _ rfl; have p1 := H0.out.1.c 1 _ rfl; have p2 := H0.out.1.c 2 _ rfl; have p3 := H0.out.1.c 3 _ rfl; have pl := H0.out.1.lt
  have t0 := H0.out.2.1.c 0 _ rfl; have tl := H0.out.2.1.lt
  have q0 := H0.out.2.2.1.c 0 _ rfl; have q1 := H0.out.2.2.1.c 1 _ rfl; have q2 := H0.out.2.2.1.c 2 _ rfl; have q3 := H0.out.2.2.1.c 3 _ rfl; have q4 := H0.out.2.2.1.c 4 _ rfl; have ql := H0.out.2.2.1.lt
  go_wp2_with fail
  refine (Apply_all _ _ _ _ _ _ fa _ _ _ _ _ _ _ _ fs _ (HI.out.1.below H0.out.2.2.2 (Nat.le_refl _)) (HI.out.2.below H0.out.2.2.2 (Nat.le_refl _))).mono ?_
  rintro e w1 ⟨⟨gx, gy, gv, gh, ga, gm, gc, ge, rfl, hres⟩, hb1⟩
  rw [← HEA.out] at hres
  have H1 := Lib.hid (And.intro (H0.out.1.past hb1) (And.intro (H0.out.2.1.past hb1) (And.intro (H0.out.2.2.1.past hb1) (H0.out.2.2.2.trans (hb1.mono H0.out.2.2.2.size)))))
  have HG1 := Lib.hid hres
  clear hres hb1 H0 p0 p1 p2 p3 pl t0 tl q0 q1 q2 q3 q4 ql
  go_upto_region 2 with fail
  refine wp_world (fun W2 hW2 => ?_)
  have B2 : Below w1.heap.size w1 W2 := by rw [hW2]; (repeat (first | exact Below.refl _ _ | assumption | (refine Below.setCell ?_ (by first | (simp; done) | (simp; omega) | omega) _) | (refine Below.drew ?_) | (refine below_drewN ?_ _) | (refine Below.alloc ?_ (by first | (simp; done) | (simp; omega) | omega) _) | (refine Below.trans ?_ (Below.mono (by assumption) (by first | (simp; done) | (simp; omega) | omega)))))
  have G2 : Blk W2 w1.heap.size [.int .i64 gx, .int .i64 gy, .int .i64 gv, .int .i64 gh, .slice ga gm gc] := by rw [hW2]; exact Blk.new _ _ _ _ rfl
  have H2 := Lib.hid (And.intro (H1.out.1.past B2) (And.intro (H1.out.2.1.past B2) (And.intro (H1.out.2.2.1.past B2) (And.intro (H1.out.2.2.2.trans (B2.mono H1.out.2.2.2.size)) G2))))
  have HG2 := Lib.hid (HG1.out.past B2)
  clear hW2 B2 G2 H1 HG1
  generalize w1.heap.size = ng at *
  go_wp2_with fail
  refine (Identity_all _ _).mono ?_
  rintro e w3 ⟨⟨ds, dl, dh, dA, dm, dc, de, rfl, hres⟩, hb3⟩
  rw [← HEI.out] at hres
  have H3 := Lib.hid (And.intro (H2.out.1.past hb3) (And.intro (H2.out.2.1.past hb3) (And.intro (H2.out.2.2.1.past hb3) (And.intro (H2.out.2.2.2.1.trans (hb3.mono H2.out.2.2.2.1.size)) (H2.out.2.2.2.2.past hb3)))))
  have HG3 := Lib.hid (HG2.out.past hb3); have HD3 := Lib.hid hres
  clear hres hb3 H2 HG2
  go_upto_region 3 with fail
  refine wp_world (fun W4 hW4 => ?_)
  have B4 : Below w3.heap.size w3 W4 := by rw [hW4]; (repeat (first | exact Below.refl _ _ | assumption | (refine Below.setCell ?_ (by first | (simp; done) | (simp; omega) | omega) _) | (refine Below.drew ?_) | (refine below_drewN ?_ _) | (refine Below.alloc ?_ (by first | (simp; done) | (simp; omega) | omega) _) | (refine Below.trans ?_ (Below.mono (by assumption) (by first | (simp; done) | (simp; omega) | omega)))))
  have D4 : Blk W4 w3.heap.size [.int .i64 ds, .float .f32 dl, .float .f32 dh, .slice dA dm dc] := by rw [hW4]; exact Blk.new _ _ _ _ rfl
  have HR4 := Lib.hid (CaR.mk (H3.out.1.past B4) (H3.out.2.1.past B4) (H3.out.2.2.1.past B4) (H3.out.2.2.2.2.past B4) D4 (H3.out.2.2.2.1.trans (B4.mono H3.out.2.2.2.1.size)))
  have HG4 := Lib.hid (HG3.out.past B4); have HD4 := Lib.hid (HD3.out.past B4)
  clear hW4 B4 D4 H3 HG3 HD3
  generalize w3.heap.size = nd at *
  go_upto_if 30 with (first | (go_at_call 36; refine (cubes_any _).mono ?_; rintro e wa ⟨rfl, hba⟩; have HRa := Lib.hid (HR4.out.past hba); have HGa := Lib.hid (HG4.out.past hba); have HDa := Lib.hid (HD4.out.past hba); clear hba HR4 HG4 HD4) | (go_at_call 22; refine (In_any _ _ _ _).mono ?_; rintro e w' ⟨rfl, rfl⟩))
  go_cut [10] (fun s10 wx => s10 = .int .i64 ge ∧ Below wa.heap.size wa wx)
  case first =>
    by_cases hT : 2 ≤ T ∧ T ≤ 17
    · have hEI : EI = 0 := by rw [HEI.out, inB_t hT]; rfl
      rw [inB_t hT]
      have hde : de = 0 := HDa.out.1.trans hEI
      subst hde
      obtain ⟨rfl, rfl, rfl, rfl, gd, rfl, hgd, hrowd⟩ := HDa.out.2.2 hEI
      have HG := Lib.hid (And.intro hgd hrowd); have HT := Lib.hid hT
      subst hEI
      obtain ⟨N, hN⟩ : ∃ N, N = 3 * (T.toNat * T.toNat * T.toNat) := ⟨_, rfl⟩
      rw [← hN] at HG HRa
      have hNN : 0 < N ∧ N ≤ 65536 := by
        obtain ⟨t', rfl⟩ : ∃ t : Nat, T = t := ⟨T.toNat, by omega⟩
        simp only [Int.toNat_natCast] at hN
        have h1 := (cub_nat (S := t') (by omega)).2
        have h2 : 0 < t' * t' * t' := Nat.mul_pos (Nat.mul_pos (by omega) (by omega)) (by omega)
        omega
      have HN := Lib.hid (And.intro hN hNN)
      clear hN hNN hT hgd hrowd HDa HGa
      have BCH : Hid (Below wa.heap.size wa wa) := Below.refl _ _
      go_upto_region 8 with fail
      go_cut [46] (fun s46 wx => s46 = .bool false ∧ Below wa.heap.size wa wx)
      case first =>
        go_region_held3 (fun W => W.cell? ⟨nd, 0, none⟩ = some (.int .i64 T) ∧ W.cell? ⟨nd, 1, none⟩ = some (.float .f32 0) ∧ W.cell? ⟨nd, 2, none⟩ = some (.float .f32 1065353216) ∧ W.cell? ⟨nd, 3, none⟩ = some (.slice (some ⟨gd, 0, none⟩) N dc))
          (first | exact ca_keepd HRa.out BCH.out.drew | exact ca_keepd HRa.out B9.out | exact ca_keepd HRa.out B10.out)
          (first | (go_at_call 111; refine (IdentityOf_int T N _ HT.out HN.out.1).mono ?_; rintro e w9 ⟨g9, cap9, rfl, hgl9, hrow9, hb9⟩; have B9 : Hid (Below wa.heap.size wa w9) := BCH.out.drew.trans (hb9.mono (by simp)); have H9 := Lib.hid hrow9; clear hrow9) | (go_at_call 42; refine (sameCube_g T 0 1065353216 gd g9 N dc cap9 _ _ _ HN.out.2.2 HN.out.2.1 (HG.out.2.past B9.out) H9.out (fun _ _ => rfl)).mono ?_; rintro e w10 ⟨rfl, hb10⟩; have B10 : Hid (Below wa.heap.size wa w10) := B9.out.trans (hb10.mono B9.out.size)))
        go_wp2_with fail
        go_meet
        exact ⟨rfl, B10.out⟩
      case rest =>
        obtain ⟨rfl, hB⟩ := hcut
        have HB := Lib.hid hB
        clear hB
        go_wp2_with fail
        go_meet
        exact ⟨rfl, HB.out⟩
    · have hEI : EI = 3 := by rw [HEI.out, inB_f (by omega)]; rfl
      rw [inB_f (by omega)]
      have hde : de = 3 := HDa.out.1.trans hEI
      subst hde
      obtain ⟨rfl, rfl, rfl, rfl, rfl, rfl⟩ := HDa.out.2.1 (by rw [hEI]; decide)
      have d0 := HRa.out.d.c 0 _ rfl; have d1 := HRa.out.d.c 1 _ rfl; have d2 := HRa.out.d.c 2 _ rfl; have d3 := HRa.out.d.c 3 _ rfl; have dl' := HRa.out.d.lt
      clear hEI hT HI HEA HEI HDa HGa
      go_wp2_with (first | (go_at_call 37; refine (noCube_zero _ _ _).mono ?_; rintro e wb ⟨rfl, hbb⟩; have B1 : Hid (Below wa.heap.size wa wb) := hbb; clear hbb))
      go_meet
      exact ⟨rfl, B1.out⟩
  case rest =>
    obtain ⟨rfl, hB⟩ := hcut
    have HRc := Lib.hid (HRa.out.past hB); have HGc := Lib.hid (HGa.out.past hB)
    clear hB HRa HGa HDa
    have p0 := HRc.out.a.c 0 _ rfl; have p1 := HRc.out.a.c 1 _ rfl; have p2 := HRc.out.a.c 2 _ rfl; have p3 := HRc.out.a.c 3 _ rfl; have pl := HRc.out.a.lt
    have t0 := HRc.out.t.c 0 _ rfl; have tl := HRc.out.t.lt
    have q0 := HRc.out.f.c 0 _ rfl; have q1 := HRc.out.f.c 1 _ rfl; have q2 := HRc.out.f.c 2 _ rfl; have q3 := HRc.out.f.c 3 _ rfl; have q4 := HRc.out.f.c 4 _ rfl; have ql := HRc.out.f.lt
    go_upto_region 10 with fail
    refine wp_region_loose 8 (CaPsi (cubErr sa la ha na) (fraErr x y v h n)) (by kernel_rfl) (by kernel_rfl) ?_
    simp only [List.take_succ_cons, List.take_zero, List.drop_succ_cons, List.drop_zero]
    iterate 1 (refine loose_wanted rfl (fun K hK => ?_); go_simp; refine hK _ ?_; clear hK K)
    refine loose_wanted rfl (fun K1 hK => ?_)
    go_simp
    refine ⟨fun p => (CubeError_any _ _ _ _ _ _ p.w).mono ?_, ?_⟩
    · rintro e w' ⟨rfl, hb⟩
      exact ⟨_, rfl, cap_e.2 rfl, p.h.trans (hb.mono p.h.size)⟩
    intro z hz
    obtain rfl := cap_e.1 hz
    refine hK _ ?_
    clear hK K1 hz
    iterate 1 (refine loose_wanted rfl (fun K hK => ?_); go_simp; refine hK _ ?_; clear hK K)
    refine loose_wanted rfl (fun K1 hK => ?_)
    go_simp
    refine ⟨fun p => (In_any _ _ _ p.w).mono ?_, ?_⟩
    · rintro e w' ⟨rfl, rfl⟩
      exact ⟨_, rfl, cap_i.2 (by simp), p.h⟩
    intro z hz
    obtain rfl := cap_i.1 hz
    refine hK _ ?_
    clear hK K1 hz
    iterate 1 (refine loose_wanted rfl (fun K hK => ?_); go_simp; refine hK _ ?_; clear hK K)
    refine loose_wanted rfl (fun K1 hK => ?_)
    go_simp
    refine ⟨fun p => (When_any _ _ p.w).mono ?_, ?_⟩
    · rintro e w' ⟨rfl, rfl⟩
      exact ⟨_, rfl, cap_w.2 (by simp), p.h⟩
    intro z hz
    obtain rfl := cap_w.1 hz
    refine hK _ ?_
    clear hK K1 hz
    iterate 1 (refine loose_wanted rfl (fun K hK => ?_); go_simp; refine hK _ ?_; clear hK K)
    refine loose_wanted rfl (fun K1 hK => ?_)
    go_simp
    refine ⟨fun p => (FrameError_any _ _ _ _ _ _ _ p.w HX.out.1 HX.out.2).mono ?_, ?_⟩
    · rintro e w' ⟨rfl, hb⟩
      exact ⟨_, rfl, cap_f.2 rfl, p.h.trans (hb.mono p.h.size)⟩
    intro z hz
    obtain rfl := cap_f.1 hz
    refine hK _ ?_
    clear hK K1 hz
    refine loose_nil (fun w5 hb5 => ?_)
    have HR5 := Lib.hid (HRc.out.past hb5); have HG5 := Lib.hid (HGc.out.past hb5)
    clear hb5 HRc HGc p0 p1 p2 p3 pl t0 tl q0 q1 q2 q3 q4 ql
    go_upto_if 58 with (first | (go_at_call 19; refine (First3_new _ _ _ _ _ _ (heap_new _ _ _ (by simp))).mono ?_; rintro e w' ⟨rfl, rfl⟩))
    rw [show firstE (cubErr sa la ha na) (firstE (whenE (!inB how 1 2) 1) (fraErr x y v h n)) = EA from HEA.out.symm]
    refine wp_world (fun We hWe => ?_)
    have Be : Below w5.heap.size w5 We := by rw [hWe]; (repeat (first | exact Below.refl _ _ | assumption | (refine Below.setCell ?_ (by first | (simp; done) | (simp; omega) | omega) _) | (refine Below.drew ?_) | (refine below_drewN ?_ _) | (refine Below.alloc ?_ (by first | (simp; done) | (simp; omega) | omega) _) | (refine Below.trans ?_ (Below.mono (by assumption) (by first | (simp; done) | (simp; omega) | omega)))))
    have HRe := Lib.hid (HR5.out.past Be); have HGe := Lib.hid (HG5.out.past Be)
    clear hWe Be HR5 HG5
    by_cases hE : EA = 0
    · obtain ⟨z1, z2, z3⟩ := apE_zero (HEA.out.symm.trans hE)
      have hge : ge = 0 := HGe.out.1.trans hE
      subst hge
      obtain ⟨rfl, rfl, rfl, rfl, rfl, gg, rfl, hgg, hrowg⟩ := HGe.out.2.2 hE
      have HG := Lib.hid (And.intro hgg hrowg)
      have HZ := Lib.hid (And.intro z1 (And.intro z2 z3))
      have HFF := Lib.hid (And.intro (fraErr_ok z3) (fra_pos z3))
      subst hE
      clear z1 z2 z3 hgg hrowg HGe
      by_cases h4 : (400 : Int) < (n : Int)
      · have q4 := HRe.out.f.c 4 _ rfl; have ql := HRe.out.f.lt
        go_wp2_with fail
        go_ret
        exact ⟨ret_b (by simp), HRe.out.w⟩
      · have h4' : (n : Int) ≤ 400 := by omega
        have q4 := HRe.out.f.c 4 _ rfl; have ql := HRe.out.f.lt
        go_upto_region 15 with fail
        clear q4 ql
        have BCH : Hid (Below We.heap.size We We) := Below.refl _ _
        go_region_held3 (fun W => W.cell? ⟨w.heap.size + 2, 0, none⟩ = some (.int .i64 x) ∧ W.cell? ⟨w.heap.size + 2, 1, none⟩ = some (.int .i64 y) ∧ W.cell? ⟨w.heap.size + 2, 2, none⟩ = some (.int .i64 v) ∧ W.cell? ⟨w.heap.size + 2, 3, none⟩ = some (.int .i64 h) ∧ W.cell? ⟨ng, 0, none⟩ = some (.int .i64 x) ∧ W.cell? ⟨ng, 1, none⟩ = some (.int .i64 y) ∧ W.cell? ⟨ng, 2, none⟩ = some (.int .i64 v) ∧ W.cell? ⟨ng, 3, none⟩ = some (.int .i64 h) ∧ W.cell? ⟨ng, 4, none⟩ = some (.slice (some ⟨gg, 0, none⟩) n gc))
          (first | exact ca_keepg HRe.out BCH.out.drew | exact ca_keepg HRe.out B9.out | exact ca_keepg HRe.out B10.out)
          (first | (go_at_call 68; refine (Made_any 112 #[.pointer (some ⟨w.heap.size + 1, 0, none⟩), .pointer (some ⟨w.heap.size, 0, none⟩), .pointer (some ⟨w.heap.size + 1 + 1, 0, none⟩)] x y v h (fun k m => howG how sa.toNat la ha fa fs k m) _ HFF.out.1.1 (body_enters Try.func112 (by kernel_rfl) rfl) (ca_maker _ _ _ _ _ _ _ _ _ _ _ _ _ _ _ _ _ _ _ _ (HI.out.1.below (HRe.out.past BCH.out.drew).w (Nat.le_refl _)) (HI.out.2.below (HRe.out.past BCH.out.drew).w (Nat.le_refl _)) HZ.out.1 HZ.out.2.1 HZ.out.2.2 (HRe.out.past BCH.out.drew).a (HRe.out.past BCH.out.drew).t (HRe.out.past BCH.out.drew).f)).mono ?_; rintro e w9 ⟨g9, n9, cap9, hn9, rfl, hg9, hgl9, hc9, hb9⟩; have B9 : Hid (Below We.heap.size We w9) := BCH.out.drew.trans (hb9.mono (by simp)); obtain rfl : n = n9 := (by have := HFF.out.1.2; omega); have H9 := Lib.hid hc9; have HL9 := Lib.hid hgl9; clear hc9 hgl9) | (go_at_call 67; refine (SameFrame_yes x y v h gg 0 g9 0 n gc cap9 (fun i => howG how sa.toNat la ha fa fs (i / 4) (i % 4)) _ HFF.out.2.2 (by have := B9.out.size; have := HG.out.1; omega) HL9.out (HG.out.2.past B9.out) (fun i hi => by rw [Nat.zero_add]; exact H9.out i hi)).mono ?_; rintro e w10 ⟨rfl, hb10⟩; have B10 : Hid (Below We.heap.size We w10) := B9.out.trans (hb10.mono B9.out.size)))
        go_wp2_with fail
        go_ret
        exact ⟨ret_b (by simp), HRe.out.w.trans (B10.out.mono HRe.out.w.size)⟩
    · have hEb : (EA != 0) = true := by simpa using hE
      obtain ⟨rfl, rfl, rfl, rfl, rfl, rfl, rfl⟩ := HGe.out.2.1 hE
      have hge := HGe.out.1
      subst hge
      have d0 := HRe.out.g.c 0 _ rfl; have d1 := HRe.out.g.c 1 _ rfl; have d2 := HRe.out.g.c 2 _ rfl; have d3 := HRe.out.g.c 3 _ rfl; have d4 := HRe.out.g.c 4 _ rfl; have dl' := HRe.out.g.lt
      clear hE HI HEA HEI HGe
      go_wp2_with (first | (go_at_call 24; refine (none_any _ _ _ _ _ _ _ _).mono ?_; rintro e wb ⟨rfl, hbb⟩; have B1 : Hid (Below We.heap.size We wb) := hbb; clear hbb; rw [noneB_zero]))
      go_ret
      exact ⟨ret_b (by simp), HRe.out.w.trans (B1.out.mono HRe.out.w.size)⟩
theorem ca_walk (sa : Int) (la ha : Nat) (aa : Option Addr) (na ca : Nat) (fa : Nat → Nat) (how T : Int) (x y v h : Int) (a : Option Addr) (n cap : Nat) (fs : Nat → Nat) (w : World)
    (_ : IntKind.i64.min ≤ sa ∧ sa ≤ IntKind.i64.max) (_ : la < 2 ^ FloatKind.f32.format.width) (_ : ha < 2 ^ FloatKind.f32.format.width) (ia : IsFloats w aa na ca fa)
    (_ : IntKind.i64.min ≤ how ∧ how ≤ IntKind.i64.max) (_ : IntKind.i64.min ≤ T ∧ T ≤ IntKind.i64.max)
    (hx : IntKind.i64.min ≤ x ∧ x ≤ IntKind.i64.max) (hy : IntKind.i64.min ≤ y ∧ y ≤ IntKind.i64.max) (_ : IntKind.i64.min ≤ v ∧ v ≤ IntKind.i64.max) (_ : IntKind.i64.min ≤ h ∧ h ≤ IntKind.i64.max) (ib : IsFloats w a n cap fs) :
    Calls Try.prog 17 #[.agg #[.int .i64 sa, .float .f32 la, .float .f32 ha, .slice aa na ca], .int .i64 how, .int .i64 T, .agg #[.int .i64 x, .int .i64 y, .int .i64 v, .int .i64 h, .slice a n cap]] w fun e w' => e = .returned (.bool true) ∧ Below w.heap.size w w' :=
  ca_go sa la ha aa na ca fa how T x y v h a n cap fs w hx hy (CubIn.of ia) (FraIn.of ib)
end Go.Proofs.Ytkmjboffjhcoaaa
