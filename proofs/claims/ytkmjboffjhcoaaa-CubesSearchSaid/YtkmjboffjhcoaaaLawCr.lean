/- CubesSearch: the walk of the statement, whole. No condition. -/
import Derived.Test.YtkmjboffjhcoaaaCsE
import Derived.Test.YtkmjboffjhcoaaaCmA
namespace Go.Proofs.Ytkmjboffjhcoaaa
open Go Go.RowKit
/-- What stands of the statement's variables. -/
structure CrR (w W : World) (La : List Value) (p : Nat → Nat) (nx : Nat) (Lx : List Value) : Prop where
  a : Blk W w.heap.size La
  p : Blk W (w.heap.size + 1) [.float .f32 (p 0), .float .f32 (p 1), .float .f32 (p 2)]
  x : Blk W nx Lx
  w : Below w.heap.size w W
theorem CrR.past {w W V : World} {La : List Value} {p : Nat → Nat} {nx : Nat} {Lx : List Value} (k : CrR w W La p nx Lx) (h : Below W.heap.size W V) : CrR w V La p nx Lx := ⟨k.a.past h, k.p.past h, k.x.past h, k.w.trans (h.mono k.w.size)⟩
set_option maxHeartbeats 4000000 in
theorem eq_int3 (a b c : Int) (w : World) : Sem.run Try.prog (Op.equalIn 10000 132 (.agg #[.int .i64 a, .int .i64 b, .int .i64 c]) (.agg #[.int .i64 a, .int .i64 b, .int .i64 c])) w = .ok true w := by
  have h1 := Try.underlying132
  have h2 := Try.underlying3
  have g0 : ∀ w, (part 3 #[.int .i64 a, .int .i64 b, .int .i64 c] 0).run Try.prog w = .ok (.int .i64 a) w := fun _ => by kernel_rfl
  have g1 : ∀ w, (part 3 #[.int .i64 a, .int .i64 b, .int .i64 c] 1).run Try.prog w = .ok (.int .i64 b) w := fun _ => by kernel_rfl
  have g2 : ∀ w, (part 3 #[.int .i64 a, .int .i64 b, .int .i64 c] 2).run Try.prog w = .ok (.int .i64 c) w := fun _ => by kernel_rfl
  rw [show (10000 : Nat) = 9998 + 1 + 1 from rfl]
  generalize 9998 = d
  have h4 : ∀ w, (sizeOf 3).run Try.prog w = .ok 1 w := fun _ => by kernel_rfl
  simp [Op.equalIn, run_underlying h1, run_underlying h2, Sem.run_bind, Sem.run_pure, Result.andThen_ok, List.range', h4, g0, g1, g2]
set_option maxRecDepth 100000 in
set_option maxHeartbeats 8000000 in
theorem cr_core (sa : Int) (la ha : Nat) (aa : Option Addr) (na ca : Nat) (p : Nat → Nat) (T : Int) (nm : Bool) (i0 i1 i2 : Nat) (is : Bool) (X0 X1 X2 : Nat) (w : World) (h0 : cubErr sa la ha na = 0) (hnm : nm = allNum [p 0, p 1, p 2])
    (hne : ∀ w', Below w.heap.size w w' → Calls Try.prog 97 #[.agg #[.int .i64 sa, .float .f32 la, .float .f32 ha, .slice aa na ca], .agg #[.float .f32 (p 0), .float .f32 (p 1), .float .f32 (p 2)]] w' fun e w'' => e = .returned (.tuple #[.int .i64 i0, .int .i64 i1, .int .i64 i2, .int .i64 (whenE (!is) 11)]) ∧ Below w'.heap.size w' w'')
    (hno : ∀ w', Below w.heap.size w w' → Calls Try.prog 99 #[.agg #[.int .i64 sa, .float .f32 la, .float .f32 ha, .slice aa na ca], .agg #[.float .f32 (p 0), .float .f32 (p 1), .float .f32 (p 2)]] w' fun e w'' => e = .returned (.tuple #[.agg #[.int .i64 i0, .int .i64 i1, .int .i64 i2], .bool is]) ∧ Below w'.heap.size w' w'')
    (hbk : ∀ w', Below w.heap.size w w' → Calls Try.prog 98 #[.agg #[.int .i64 sa, .float .f32 la, .float .f32 ha, .slice aa na ca], .agg #[.float .f32 (p 0), .float .f32 (p 1), .float .f32 (p 2)], .int .i64 T] w' fun e w'' => e = .returned (.tuple #[.agg #[.float .f32 X0, .float .f32 X1, .float .f32 X2], .int .i64 (bkE 0 nm T is)]) ∧ Below w'.heap.size w' w'')
    (hbo : bkE 0 nm T is = 0 → ∀ w', Below w.heap.size w w' → Calls Try.prog 100 #[.agg #[.int .i64 sa, .float .f32 la, .float .f32 ha, .slice aa na ca], .agg #[.float .f32 (p 0), .float .f32 (p 1), .float .f32 (p 2)], .int .i64 T] w' fun e w'' => e = .returned (.tuple #[.agg #[.float .f32 X0, .float .f32 X1, .float .f32 X2], .bool true]) ∧ Below w'.heap.size w' w'')
    (hX : bkE 0 nm T is ≠ 0 → X0 = 0 ∧ X1 = 0 ∧ X2 = 0) (hz : is = false → i0 = 0 ∧ i1 = 0 ∧ i2 = 0) :
    Calls Try.prog 15 #[.agg #[.int .i64 sa, .float .f32 la, .float .f32 ha, .slice aa na ca], .agg #[.float .f32 (p 0), .float .f32 (p 1), .float .f32 (p 2)], .int .i64 T] w fun e w' => e = .returned (.bool true) ∧ Below w.heap.size w w' := by
  have HE := Lib.hid h0; have HNM := Lib.hid hnm; have HNE := Lib.hid hne; have HNO := Lib.hid hno; have HBK := Lib.hid hbk; have HBO := Lib.hid hbo; have HX := Lib.hid hX; have HZ := Lib.hid hz
  obtain ⟨EZ, hEZ⟩ : ∃ E, E = bkE 0 nm T is := ⟨_, rfl⟩
  rw [← hEZ] at HBK HBO HX
  obtain ⟨er, her⟩ : ∃ E, E = whenE (!is) 11 := ⟨_, rfl⟩
  rw [← her] at HNE
  have HEZ := Lib.hid hEZ; have HER := Lib.hid her
  clear h0 hnm hne hno hbk hbo hX hz hEZ her
  go_enter Try.func15, Try.ntmps15
  go_upto_region 1 with fail
  refine wp_world (fun W hW => ?_)
  have A0 : Blk W w.heap.size [.int .i64 sa, .float .f32 la, .float .f32 ha, .slice aa na ca] := by rw [hW]; exact (Blk.new _ _ _ _ rfl).alloc _
  have P0 : Blk W (w.heap.size + 1) [.float .f32 (p 0), .float .f32 (p 1), .float .f32 (p 2)] := by rw [hW]; exact Blk.new _ _ _ _ (by simp)
  have BW : Below w.heap.size w W := by rw [hW]; (repeat (first | exact Below.refl _ _ | assumption | (refine Below.setCell ?_ (by first | (simp; done) | (simp; omega) | omega) _) | (refine Below.drew ?_) | (refine below_drewN ?_ _) | (refine Below.alloc ?_ (by first | (simp; done) | (simp; omega) | omega) _) | (refine Below.trans ?_ (Below.mono (by assumption) (by first | (simp; done) | (simp; omega) | omega)))))
  have a0 := A0.c 0 _ rfl; have a1 := A0.c 1 _ rfl; have a2 := A0.c 2 _ rfl; have a3 := A0.c 3 _ rfl; have al := A0.lt
  have q0 := P0.c 0 _ rfl; have q1 := P0.c 1 _ rfl; have q2 := P0.c 2 _ rfl; have ql := P0.lt
  have H0 := Lib.hid (And.intro A0 (And.intro P0 BW))
  clear hW A0 P0 BW
  go_wp2_with fail
  refine (HNE.out _ H0.out.2.2).mono ?_
  rintro e w1 ⟨rfl, hb1⟩
  have H1 := Lib.hid (And.intro (H0.out.1.past hb1) (And.intro (H0.out.2.1.past hb1) (H0.out.2.2.trans (hb1.mono H0.out.2.2.size))))
  clear hb1 a0 a1 a2 a3 al q0 q1 q2 ql H0
  have a0 := H1.out.1.c 0 _ rfl; have a1 := H1.out.1.c 1 _ rfl; have a2 := H1.out.1.c 2 _ rfl; have a3 := H1.out.1.c 3 _ rfl; have al := H1.out.1.lt
  have q0 := H1.out.2.1.c 0 _ rfl; have q1 := H1.out.2.1.c 1 _ rfl; have q2 := H1.out.2.1.c 2 _ rfl; have ql := H1.out.2.1.lt
  go_wp2_with fail
  refine (HBK.out _ H1.out.2.2).mono ?_
  rintro e w2 ⟨rfl, hb2⟩
  have H2 := Lib.hid (And.intro (H1.out.1.past hb2) (And.intro (H1.out.2.1.past hb2) (H1.out.2.2.trans (hb2.mono H1.out.2.2.size))))
  clear hb2 a0 a1 a2 a3 al q0 q1 q2 ql H1
  go_upto_region 3 with fail
  refine wp_world (fun W3 hW3 => ?_)
  have B3 : Below w2.heap.size w2 W3 := by rw [hW3]; (repeat (first | exact Below.refl _ _ | assumption | (refine Below.setCell ?_ (by first | (simp; done) | (simp; omega) | omega) _) | (refine Below.drew ?_) | (refine below_drewN ?_ _) | (refine Below.alloc ?_ (by first | (simp; done) | (simp; omega) | omega) _) | (refine Below.trans ?_ (Below.mono (by assumption) (by first | (simp; done) | (simp; omega) | omega)))))
  have X3 : Blk W3 w2.heap.size [.float .f32 X0, .float .f32 X1, .float .f32 X2] := by rw [hW3]; exact Blk.new _ _ _ _ rfl
  have HR3 := Lib.hid (CrR.mk (H2.out.1.past B3) (H2.out.2.1.past B3) X3 (H2.out.2.2.trans (B3.mono H2.out.2.2.size)))
  clear hW3 B3 X3 H2
  generalize w2.heap.size = nx at *
  have a0 := HR3.out.a.c 0 _ rfl; have a1 := HR3.out.a.c 1 _ rfl; have a2 := HR3.out.a.c 2 _ rfl; have a3 := HR3.out.a.c 3 _ rfl; have al := HR3.out.a.lt
  go_upto_region 6 with (first | (go_at_call 35; refine (CubeError_any _ _ _ _ _ _ _).mono ?_; rintro e w4 ⟨rfl, hb4⟩; rw [HE.out]; have HR4 := Lib.hid (HR3.out.past hb4); clear hb4 a0 a1 a2 a3 al HR3) | (go_at_call 36; refine (cubes_any _).mono ?_; rintro e w5 ⟨rfl, hb5⟩; have HR5 := Lib.hid (HR4.out.past hb5); clear hb5 HR4))
  have a0 := HR5.out.a.c 0 _ rfl; have a1 := HR5.out.a.c 1 _ rfl; have a2 := HR5.out.a.c 2 _ rfl; have a3 := HR5.out.a.c 3 _ rfl; have al := HR5.out.a.lt
  have q0 := HR5.out.p.c 0 _ rfl; have q1 := HR5.out.p.c 1 _ rfl; have q2 := HR5.out.p.c 2 _ rfl; have ql := HR5.out.p.lt
  go_wp2_with fail
  refine (HNO.out _ HR5.out.w).mono ?_
  rintro e w6 ⟨rfl, hb6⟩
  have HR6 := Lib.hid (HR5.out.past hb6)
  clear hb6 a0 a1 a2 a3 al q0 q1 q2 ql HR5
  go_upto_region 7 with fail
  refine wp_world (fun W7 hW7 => ?_)
  have B7 : Below w6.heap.size w6 W7 := by rw [hW7]; (repeat (first | exact Below.refl _ _ | assumption | (refine Below.setCell ?_ (by first | (simp; done) | (simp; omega) | omega) _) | (refine Below.drew ?_) | (refine below_drewN ?_ _) | (refine Below.alloc ?_ (by first | (simp; done) | (simp; omega) | omega) _) | (refine Below.trans ?_ (Below.mono (by assumption) (by first | (simp; done) | (simp; omega) | omega)))))
  have T7 : Blk W7 w6.heap.size [.int .i64 i0, .int .i64 i1, .int .i64 i2] := by rw [hW7]; exact Blk.new _ _ _ _ rfl
  have HR7 := Lib.hid (HR6.out.past B7)
  have t0 := T7.c 0 _ rfl; have t1 := T7.c 1 _ rfl; have t2 := T7.c 2 _ rfl; have tl := T7.lt
  clear hW7 B7 T7 HR6
  generalize w6.heap.size = nt at *
  go_cut [7, 8, 9, 10, 108, 15] (fun _ _ _ _ s108 s15 wx => s108 = .bool false ∧ s15 = .bool is ∧ W7 = wx)
  case first =>
    cases his : is
    · obtain ⟨h0, h1, h2⟩ := HZ.out his
      have he : er = 11 := by rw [HER.out, his]; rfl
      subst h0 h1 h2 he
      go_wp2_with fail
      go_meet
      exact ⟨rfl, by rw [his], rfl⟩
    · have he : er = 0 := by rw [HER.out, his]; rfl
      subst he
      have ez := eq_int3 (i0 : Nat) (i1 : Nat) (i2 : Nat)
      go_wp2_with fail
      go_meet
      exact ⟨rfl, by rw [his], rfl⟩
  case rest =>
    obtain ⟨rfl, rfl, rfl⟩ := hcut
    clear t0 t1 t2 tl HNE HNO HZ HER
    have q0 := HR7.out.p.c 0 _ rfl; have q1 := HR7.out.p.c 1 _ rfl; have q2 := HR7.out.p.c 2 _ rfl; have ql := HR7.out.p.lt
    go_upto_region 9 with fail
    go_cut [16] (fun s16 wx => s16 = .bool nm ∧ Below W7.heap.size W7 wx)
    case first =>
      have hnm := HNM.out
      cases n0 : isNum .f32 (p 0)
      · go_wp2_with (first | (go_at_call 44; refine (IsNumberR_any _ _).mono ?_; rintro e w' ⟨rfl, k, rfl⟩; first | rw [n0] | rw [n1] | rw [n2]))
        go_meet
        exact ⟨by rw [hnm]; simp [allNum, n0], by (repeat (first | exact Below.refl _ _ | assumption | (refine Below.setCell ?_ (by first | (simp; done) | (simp; omega) | omega) _) | (refine Below.drew ?_) | (refine below_drewN ?_ _) | (refine Below.alloc ?_ (by first | (simp; done) | (simp; omega) | omega) _) | (refine Below.trans ?_ (Below.mono (by assumption) (by first | (simp; done) | (simp; omega) | omega)))))⟩
      · cases n1 : isNum .f32 (p 1)
        · go_wp2_with (first | (go_at_call 44; refine (IsNumberR_any _ _).mono ?_; rintro e w' ⟨rfl, k, rfl⟩; first | rw [n0] | rw [n1] | rw [n2]))
          go_meet
          exact ⟨by rw [hnm]; simp [allNum, n0, n1], by (repeat (first | exact Below.refl _ _ | assumption | (refine Below.setCell ?_ (by first | (simp; done) | (simp; omega) | omega) _) | (refine Below.drew ?_) | (refine below_drewN ?_ _) | (refine Below.alloc ?_ (by first | (simp; done) | (simp; omega) | omega) _) | (refine Below.trans ?_ (Below.mono (by assumption) (by first | (simp; done) | (simp; omega) | omega)))))⟩
        · cases n2 : isNum .f32 (p 2)
          all_goals
            go_wp2_with (first | (go_at_call 44; refine (IsNumberR_any _ _).mono ?_; rintro e w' ⟨rfl, k, rfl⟩; first | rw [n0] | rw [n1] | rw [n2]))
            go_meet
            exact ⟨by rw [hnm]; simp [allNum, n0, n1, n2], by (repeat (first | exact Below.refl _ _ | assumption | (refine Below.setCell ?_ (by first | (simp; done) | (simp; omega) | omega) _) | (refine Below.drew ?_) | (refine below_drewN ?_ _) | (refine Below.alloc ?_ (by first | (simp; done) | (simp; omega) | omega) _) | (refine Below.trans ?_ (Below.mono (by assumption) (by first | (simp; done) | (simp; omega) | omega)))))⟩
    case rest =>
      obtain ⟨rfl, hB⟩ := hcut
      have HR8 := Lib.hid (HR7.out.past hB)
      clear hB q0 q1 q2 ql HR7
      go_upto_if 135 with (first | (go_at_call 22; refine (In_any _ _ _ _).mono ?_; rintro e w' ⟨rfl, rfl⟩) | (go_at_call 21; refine (When_any _ _ _).mono ?_; rintro e w' ⟨rfl, rfl⟩) | (go_at_call 19; refine (First3_new _ _ _ _ _ _ (heap_new _ _ _ (by simp))).mono ?_; rintro e w' ⟨rfl, rfl⟩))
      rw [show firstE (whenE (!nm) 2) (firstE (whenE (!inB T 0 64) 3) (whenE (!is) 11)) = EZ from HEZ.out.symm]
      refine wp_world (fun We hWe => ?_)
      have Be : Below wc.heap.size wc We := by rw [hWe]; (repeat (first | exact Below.refl _ _ | assumption | (refine Below.setCell ?_ (by first | (simp; done) | (simp; omega) | omega) _) | (refine Below.drew ?_) | (refine below_drewN ?_ _) | (refine Below.alloc ?_ (by first | (simp; done) | (simp; omega) | omega) _) | (refine Below.trans ?_ (Below.mono (by assumption) (by first | (simp; done) | (simp; omega) | omega)))))
      have HRe := Lib.hid (HR8.out.past Be)
      clear hWe Be HR8
      by_cases hZ : EZ = 0
      · have HBO2 := Lib.hid (HBO.out hZ)
        subst hZ
        clear HBK HX
        have a0 := HRe.out.a.c 0 _ rfl; have a1 := HRe.out.a.c 1 _ rfl; have a2 := HRe.out.a.c 2 _ rfl; have a3 := HRe.out.a.c 3 _ rfl; have al := HRe.out.a.lt
        have q0 := HRe.out.p.c 0 _ rfl; have q1 := HRe.out.p.c 1 _ rfl; have q2 := HRe.out.p.c 2 _ rfl; have ql := HRe.out.p.lt
        go_wp2_with fail
        refine (HBO2.out _ HRe.out.w).mono ?_
        rintro e wf ⟨rfl, hbf⟩
        have HRf := Lib.hid (HRe.out.past hbf)
        clear hbf a0 a1 a2 a3 al q0 q1 q2 ql HRe
        go_upto_region 14 with fail
        refine wp_world (fun Wg hWg => ?_)
        have Bg : Below wf.heap.size wf Wg := by rw [hWg]; (repeat (first | exact Below.refl _ _ | assumption | (refine Below.setCell ?_ (by first | (simp; done) | (simp; omega) | omega) _) | (refine Below.drew ?_) | (refine below_drewN ?_ _) | (refine Below.alloc ?_ (by first | (simp; done) | (simp; omega) | omega) _) | (refine Below.trans ?_ (Below.mono (by assumption) (by first | (simp; done) | (simp; omega) | omega)))))
        have Yg : Blk Wg wf.heap.size [.float .f32 X0, .float .f32 X1, .float .f32 X2] := by rw [hWg]; exact Blk.new _ _ _ _ rfl
        have HRg := Lib.hid (HRf.out.past Bg)
        have y0 := Yg.c 0 _ rfl; have y1 := Yg.c 1 _ rfl; have y2 := Yg.c 2 _ rfl; have yl := Yg.lt
        have x0 := HRg.out.x.c 0 _ rfl; have x1 := HRg.out.x.c 1 _ rfl; have x2 := HRg.out.x.c 2 _ rfl; have xl := HRg.out.x.lt
        clear hWg Bg Yg HRf
        go_wp2_with (first | (go_at_call 61; refine (sameThree_any _ _ _ _ _ _ _).mono ?_; rintro e wh ⟨rfl, hbh⟩))
        go_ret
        exact ⟨ret_b (by simp), HRg.out.w.trans (hbh.mono HRg.out.w.size)⟩
      · have hZb : (EZ != 0) = true := by simpa using hZ
        obtain ⟨rfl, rfl, rfl⟩ := HX.out hZ
        have ez3 : ∀ w, Sem.run Try.prog (Op.equalIn 10000 58 (.agg #[.float .f32 0, .float .f32 0, .float .f32 0]) (.agg #[.float .f32 0, .float .f32 0, .float .f32 0])) w = .ok true w := fun w => by kernel_rfl
        have x0 := HRe.out.x.c 0 _ rfl; have x1 := HRe.out.x.c 1 _ rfl; have x2 := HRe.out.x.c 2 _ rfl; have xl := HRe.out.x.lt
        clear hZ HX HBO HBK HEZ
        go_wp2_with fail
        go_ret
        exact ⟨ret_b (by simp), HRe.out.w⟩
set_option maxRecDepth 100000 in
set_option maxHeartbeats 8000000 in
theorem cr_no (sa : Int) (la ha : Nat) (aa : Option Addr) (na ca : Nat) (fa p : Nat → Nat) (T : Int) (w : World) (ia : CubIn w sa la ha aa na ca fa) (hE : cubErr sa la ha na ≠ 0) :
    Calls Try.prog 15 #[.agg #[.int .i64 sa, .float .f32 la, .float .f32 ha, .slice aa na ca], .agg #[.float .f32 (p 0), .float .f32 (p 1), .float .f32 (p 2)], .int .i64 T] w fun e w' => e = .returned (.bool true) ∧ Below w.heap.size w w' := by
  have HNE := Lib.hid (fun w' => Nearest_no sa la ha aa na ca p w' hE)
  have hbk : bkE (cubErr sa la ha na) (allNum [p 0, p 1, p 2]) T (nearS fa p (sa.toNat * sa.toNat * sa.toNat)).isSome = cubErr sa la ha na := by unfold bkE; rw [firstE_of _ hE]
  have HBK := Lib.hid (fun w' (hb : Below w.heap.size w w') => by have h := Back_no sa la ha aa na ca fa p T w' (ia.below hb (Nat.le_refl _)) (by rw [hbk]; exact hE); rw [hbk] at h; exact h : ∀ w', Below w.heap.size w w' → Calls Try.prog 98 #[.agg #[.int .i64 sa, .float .f32 la, .float .f32 ha, .slice aa na ca], .agg #[.float .f32 (p 0), .float .f32 (p 1), .float .f32 (p 2)], .int .i64 T] w' fun e w'' => e = .returned (.tuple #[.agg #[.float .f32 0, .float .f32 0, .float .f32 0], .int .i64 (cubErr sa la ha na)]) ∧ Below w'.heap.size w' w'')
  obtain ⟨EA, hEA⟩ : ∃ E, E = cubErr sa la ha na := ⟨_, rfl⟩
  rw [← hEA] at HNE HBK hE
  have hEb : (EA != 0) = true := by simpa using hE
  have HEA := Lib.hid hEA
  clear ia hbk hEA hE
  have ez3 : ∀ w, Sem.run Try.prog (Op.equalIn 10000 58 (.agg #[.float .f32 0, .float .f32 0, .float .f32 0]) (.agg #[.float .f32 0, .float .f32 0, .float .f32 0])) w = .ok true w := fun w => by kernel_rfl
  go_enter Try.func15, Try.ntmps15
  go_upto_region 1 with fail
  refine wp_world (fun W hW => ?_)
  have A0 : Blk W w.heap.size [.int .i64 sa, .float .f32 la, .float .f32 ha, .slice aa na ca] := by rw [hW]; exact (Blk.new _ _ _ _ rfl).alloc _
  have P0 : Blk W (w.heap.size + 1) [.float .f32 (p 0), .float .f32 (p 1), .float .f32 (p 2)] := by rw [hW]; exact Blk.new _ _ _ _ (by simp)
  have BW : Below w.heap.size w W := by rw [hW]; (repeat (first | exact Below.refl _ _ | assumption | (refine Below.setCell ?_ (by first | (simp; done) | (simp; omega) | omega) _) | (refine Below.drew ?_) | (refine below_drewN ?_ _) | (refine Below.alloc ?_ (by first | (simp; done) | (simp; omega) | omega) _) | (refine Below.trans ?_ (Below.mono (by assumption) (by first | (simp; done) | (simp; omega) | omega)))))
  have a0 := A0.c 0 _ rfl; have a1 := A0.c 1 _ rfl; have a2 := A0.c 2 _ rfl; have a3 := A0.c 3 _ rfl; have al := A0.lt
  have q0 := P0.c 0 _ rfl; have q1 := P0.c 1 _ rfl; have q2 := P0.c 2 _ rfl; have ql := P0.lt
  have H0 := Lib.hid (And.intro A0 (And.intro P0 BW))
  clear hW A0 P0 BW
  go_wp2_with fail
  refine (HNE.out _).mono ?_
  rintro e w1 ⟨rfl, hb1⟩
  have H1 := Lib.hid (And.intro (H0.out.1.past hb1) (And.intro (H0.out.2.1.past hb1) (H0.out.2.2.trans (hb1.mono H0.out.2.2.size))))
  clear hb1 a0 a1 a2 a3 al q0 q1 q2 ql H0
  have a0 := H1.out.1.c 0 _ rfl; have a1 := H1.out.1.c 1 _ rfl; have a2 := H1.out.1.c 2 _ rfl; have a3 := H1.out.1.c 3 _ rfl; have al := H1.out.1.lt
  have q0 := H1.out.2.1.c 0 _ rfl; have q1 := H1.out.2.1.c 1 _ rfl; have q2 := H1.out.2.1.c 2 _ rfl; have ql := H1.out.2.1.lt
  go_wp2_with fail
  refine (HBK.out _ H1.out.2.2).mono ?_
  rintro e w2 ⟨rfl, hb2⟩
  have H2 := Lib.hid (And.intro (H1.out.1.past hb2) (And.intro (H1.out.2.1.past hb2) (H1.out.2.2.trans (hb2.mono H1.out.2.2.size))))
  clear hb2 a0 a1 a2 a3 al q0 q1 q2 ql H1
  go_upto_region 3 with fail
  refine wp_world (fun W3 hW3 => ?_)
  have B3 : Below w2.heap.size w2 W3 := by rw [hW3]; (repeat (first | exact Below.refl _ _ | assumption | (refine Below.setCell ?_ (by first | (simp; done) | (simp; omega) | omega) _) | (refine Below.drew ?_) | (refine below_drewN ?_ _) | (refine Below.alloc ?_ (by first | (simp; done) | (simp; omega) | omega) _) | (refine Below.trans ?_ (Below.mono (by assumption) (by first | (simp; done) | (simp; omega) | omega)))))
  have X3 : Blk W3 w2.heap.size [.float .f32 0, .float .f32 0, .float .f32 0] := by rw [hW3]; exact Blk.new _ _ _ _ rfl
  have HR3 := Lib.hid (CrR.mk (H2.out.1.past B3) (H2.out.2.1.past B3) X3 (H2.out.2.2.trans (B3.mono H2.out.2.2.size)))
  clear hW3 B3 X3 H2
  generalize w2.heap.size = nx at *
  have a0 := HR3.out.a.c 0 _ rfl; have a1 := HR3.out.a.c 1 _ rfl; have a2 := HR3.out.a.c 2 _ rfl; have a3 := HR3.out.a.c 3 _ rfl; have al := HR3.out.a.lt
  go_wp2_with (first | (go_at_call 35; refine (CubeError_any _ _ _ _ _ _ _).mono ?_; rintro e w4 ⟨rfl, hb4⟩; rw [← HEA.out]; have HR4 := Lib.hid (HR3.out.past hb4); clear hb4 a0 a1 a2 a3 al HR3) | (go_at_call 36; refine (cubes_any _).mono ?_; rintro e w5 ⟨rfl, hb5⟩; have HR5 := Lib.hid (HR4.out.past hb5); clear hb5 HR4) | (go_at_call 36; refine (cubes_any _).mono ?_; rintro e w6 ⟨rfl, hb6⟩; have HR6 := Lib.hid (HR5.out.past hb6); clear hb6 HR5; have x0 := HR6.out.x.c 0 _ rfl; have x1 := HR6.out.x.c 1 _ rfl; have x2 := HR6.out.x.c 2 _ rfl; have xl := HR6.out.x.lt))
  go_ret
  exact ⟨ret_b (by simp), HR6.out.w⟩
theorem cr_go (sa : Int) (la ha : Nat) (aa : Option Addr) (na ca : Nat) (fa p : Nat → Nat) (T : Int) (w : World) (ia : CubIn w sa la ha aa na ca fa) :
    Calls Try.prog 15 #[.agg #[.int .i64 sa, .float .f32 la, .float .f32 ha, .slice aa na ca], .agg #[.float .f32 (p 0), .float .f32 (p 1), .float .f32 (p 2)], .int .i64 T] w fun e w' => e = .returned (.bool true) ∧ Below w.heap.size w w' := by
  by_cases h0 : cubErr sa la ha na = 0
  · obtain ⟨b, off, rfl, hca, hra⟩ := ia h0
    obtain ⟨S, rfl⟩ := cub_size h0
    have hl := hra.lt (cub_pos h0).1
    have hrow : ∀ w', Below w.heap.size w w' → Row w' b off na fa := fun w' hb => hra.below hb hl
    cases hs : nearS fa p (S * S * S) with
    | none =>
      refine cr_core S la ha _ na ca p T _ 0 0 0 false 0 0 0 w h0 rfl (fun w' hb => by have h := Nearest_yes S la ha b off na ca fa p w' h0 (hrow w' hb); rw [hs] at h; exact h) (fun w' hb => by have h := NearestOf_yes S la ha b off na ca fa p w' h0 (hrow w' hb); rw [hs] at h; exact h) (fun w' hb => ?_) (fun hz => ?_) (fun _ => ⟨rfl, rfl, rfl⟩) (fun _ => ⟨rfl, rfl, rfl⟩)
      · have hne : bkE 0 (allNum [p 0, p 1, p 2]) T false ≠ 0 := by
          unfold bkE
          cases allNum [p 0, p 1, p 2] <;> cases inB T 0 64 <;> decide
        have h := Back_no S la ha _ na ca fa p T w' (fun _ => ⟨b, off, rfl, hca, hrow w' hb⟩) (by rw [h0, Int.toNat_natCast, hs]; exact hne)
        rw [h0, Int.toNat_natCast, hs] at h
        exact h
      · exfalso
        revert hz
        unfold bkE
        cases allNum [p 0, p 1, p 2] <;> cases inB T 0 64 <;> decide
    | some x =>
      obtain ⟨m, l⟩ := x
      by_cases hz : bkE 0 (allNum [p 0, p 1, p 2]) T true = 0
      · obtain ⟨-, h2⟩ := firstE_zero hz
        obtain ⟨h3, h4⟩ := firstE_zero h2
        obtain ⟨h5, -⟩ := firstE_zero h4
        have hn : allNum [p 0, p 1, p 2] = true := by
          cases h : allNum [p 0, p 1, p 2]
          · rw [h] at h3; cases h3
          · rfl
        have hT : 0 ≤ T ∧ T ≤ 64 := by
          cases h : inB T 0 64
          · rw [h] at h5; cases h5
          · exact inB_iff.1 h
        obtain ⟨t, rfl⟩ : ∃ t : Nat, T = t := ⟨T.toNat, by omega⟩
        refine cr_core S la ha _ na ca p t _ (m % S) (m / S % S) (m / S / S) true (backX S la ha fa p m t 0) (backX S la ha fa p m t 1) (backX S la ha fa p m t 2) w h0 rfl (fun w' hb => by have h := Nearest_yes S la ha b off na ca fa p w' h0 (hrow w' hb); rw [hs] at h; exact h) (fun w' hb => by have h := NearestOf_yes S la ha b off na ca fa p w' h0 (hrow w' hb); rw [hs] at h; exact h) (fun w' hb => by have h := Back_yes S la ha b off na ca fa p t m l w' h0 hca (hrow w' hb) hn (by omega) hs; rw [hz]; exact h) (fun _ w' hb => BackOf_yes S la ha b off na ca fa p t m l w' h0 (hrow w' hb) (by omega) hs) (fun h => absurd hz h) (fun h => by cases h)
      · refine cr_core S la ha _ na ca p T _ (m % S) (m / S % S) (m / S / S) true 0 0 0 w h0 rfl (fun w' hb => by have h := Nearest_yes S la ha b off na ca fa p w' h0 (hrow w' hb); rw [hs] at h; exact h) (fun w' hb => by have h := NearestOf_yes S la ha b off na ca fa p w' h0 (hrow w' hb); rw [hs] at h; exact h) (fun w' hb => ?_) (fun h => absurd h hz) (fun _ => ⟨rfl, rfl, rfl⟩) (fun h => by cases h)
        have h := Back_no S la ha _ na ca fa p T w' (fun _ => ⟨b, off, rfl, hca, hrow w' hb⟩) (by rw [h0, Int.toNat_natCast, hs]; exact hz)
        rw [h0, Int.toNat_natCast, hs] at h
        exact h
  · exact cr_no sa la ha aa na ca fa p T w ia h0
/-- Three numbers by their place. -/
def p3 (a b c : Nat) : Nat → Nat := fun x => if x = 0 then a else if x = 1 then b else c
theorem cr_walk (sa : Int) (la ha : Nat) (aa : Option Addr) (na ca : Nat) (fa : Nat → Nat) (p0 p1 p2 : Nat) (T : Int) (w : World)
    (_ : IntKind.i64.min ≤ sa ∧ sa ≤ IntKind.i64.max) (_ : la < 2 ^ FloatKind.f32.format.width) (_ : ha < 2 ^ FloatKind.f32.format.width) (ia : IsFloats w aa na ca fa)
    (_ : p0 < 2 ^ FloatKind.f32.format.width) (_ : p1 < 2 ^ FloatKind.f32.format.width) (_ : p2 < 2 ^ FloatKind.f32.format.width) (_ : IntKind.i64.min ≤ T ∧ T ≤ IntKind.i64.max) :
    Calls Try.prog 15 #[.agg #[.int .i64 sa, .float .f32 la, .float .f32 ha, .slice aa na ca], .agg #[.float .f32 p0, .float .f32 p1, .float .f32 p2], .int .i64 T] w fun e w' => e = .returned (.bool true) ∧ Below w.heap.size w w' :=
  cr_go sa la ha aa na ca fa (p3 p0 p1 p2) T w (CubIn.of ia)
end Go.Proofs.Ytkmjboffjhcoaaa
