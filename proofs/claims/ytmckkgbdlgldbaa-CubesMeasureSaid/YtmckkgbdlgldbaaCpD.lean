/- A cube of another size and a mixed cube: cube.Resize, cube.Blend. Conditions: what each theorem names. -/
import Derived.Test.YtmckkgbdlgldbaaCpC
namespace Go.Proofs.Ytmckkgbdlgldbaa
open Go Go.RowKit
def rzE (e size : Int) : Int := firstE e (whenE (!inB size 2 17) 3)
/-- What stands of Resize's parameters. -/
structure RzR (w wr : World) (L : List Value) (T : Int) : Prop where
  a : Blk wr w.heap.size L
  t : Blk wr (w.heap.size + 1) [.int .i64 T]
  z : Blk wr (w.heap.size + 2) [.int .i64 0, .float .f32 0, .float .f32 0, .slice none 0 0]
  w : Below w.heap.size w wr
theorem RzR.past {w wr wy : World} {L : List Value} {T : Int} (k : RzR w wr L T) (h : Below wr.heap.size wr wy) : RzR w wy L T := ⟨k.a.past h, k.t.past h, k.z.past h, k.w.trans (h.mono k.w.size)⟩
set_option maxRecDepth 100000 in
set_option maxHeartbeats 3200000 in
theorem Resize_no (sa : Int) (la ha : Nat) (aa : Option Addr) (na ca : Nat) (T : Int) (w : World) (hE : rzE (cubErr sa la ha na) T ≠ 0) :
    Calls Try.prog 105 #[.agg #[.int .i64 sa, .float .f32 la, .float .f32 ha, .slice aa na ca], .int .i64 T] w fun e w' => e = .returned (.tuple #[.agg #[.int .i64 0, .float .f32 0, .float .f32 0, .slice none 0 0], .int .i64 (rzE (cubErr sa la ha na) T)]) ∧ Below w.heap.size w w' := by
  obtain ⟨EA, hEA⟩ : ∃ E, E = cubErr sa la ha na := ⟨_, rfl⟩
  rw [← hEA] at hE ⊢
  have HEA := Lib.hid hEA; have HE := Lib.hid hE
  clear hEA hE
  go_enter Try.func105, Try.ntmps105
  go_upto_region 1 with fail
  refine wp_world (fun W hW => ?_)
  have R0 : RzR w W [.int .i64 sa, .float .f32 la, .float .f32 ha, .slice aa na ca] T := by rw [hW]; exact ⟨((Blk.new _ _ _ _ rfl).alloc _).alloc _, (Blk.new _ _ _ _ (by simp)).alloc _, Blk.new _ _ _ _ (by simp), by (repeat (first | exact Below.refl _ _ | assumption | (refine Below.setCell ?_ (by first | (simp; done) | (simp; omega) | omega) _) | (refine Below.drew ?_) | (refine below_drewN ?_ _) | (refine Below.alloc ?_ (by first | (simp; done) | (simp; omega) | omega) _) | (refine Below.trans ?_ (Below.mono (by assumption) (by first | (simp; done) | (simp; omega) | omega)))))⟩
  have HR := Lib.hid R0
  have p0 := R0.a.c 0 _ rfl; have p1 := R0.a.c 1 _ rfl; have p2 := R0.a.c 2 _ rfl; have p3 := R0.a.c 3 _ rfl; have pl := R0.a.lt
  clear hW R0
  go_wp2_with fail
  refine (CuCheck_any _ _ _ _ _ _ _).mono ?_
  rintro e w2 ⟨rfl, hb2⟩
  rw [← HEA.out]
  have HR2 := Lib.hid (HR.out.past hb2)
  clear hb2 HR p0 p1 p2 p3 pl
  by_cases hA : EA = 0
  · subst hA
    have hT : T < 2 ∨ 17 < T := by
      by_cases h : 2 ≤ T ∧ T ≤ 17
      · exact absurd (by unfold rzE; rw [inB_t h]; rfl) HE.out
      · omega
    have hR3 : rzE 0 T = 3 := by
      unfold rzE; rw [inB_f (by omega)]; rfl
    have HR3 := Lib.hid hR3
    have t0 := HR2.out.t.c 0 _ rfl; have tl := HR2.out.t.lt
    clear HE hR3
    rcases hT with hT | hT
    · skip
      have z0 := HR2.out.z.c 0 _ rfl; have z1 := HR2.out.z.c 1 _ rfl; have z2 := HR2.out.z.c 2 _ rfl; have z3 := HR2.out.z.c 3 _ rfl; have zf := HR2.out.z.f; have zl := HR2.out.z.lt
      have B2 := HR2.out.w
      go_wp2_with fail
      refine bodyPost_ret (v := .tuple #[.agg #[.int .i64 0, .float .f32 0, .float .f32 0, .slice none 0 0], .int .i64 3]) (by simp [results, Try.results105, go_sem, z0, z1, z2, z3]) rfl ⟨by rw [HR3.out], ?_⟩
      exact (((B2.setCell (by first | (simp; done) | (simp; omega) | omega) _).setCell (by first | (simp; done) | (simp; omega) | omega) _).setCell (by first | (simp; done) | (simp; omega) | omega) _).setCell (by first | (simp; done) | (simp; omega) | omega) _
    · have hT2 : ¬ T < 2 := by omega
      have z0 := HR2.out.z.c 0 _ rfl; have z1 := HR2.out.z.c 1 _ rfl; have z2 := HR2.out.z.c 2 _ rfl; have z3 := HR2.out.z.c 3 _ rfl; have zf := HR2.out.z.f; have zl := HR2.out.z.lt
      have B2 := HR2.out.w
      go_wp2_with fail
      refine bodyPost_ret (v := .tuple #[.agg #[.int .i64 0, .float .f32 0, .float .f32 0, .slice none 0 0], .int .i64 3]) (by simp [results, Try.results105, go_sem, z0, z1, z2, z3]) rfl ⟨by rw [HR3.out], ?_⟩
      exact (((B2.setCell (by first | (simp; done) | (simp; omega) | omega) _).setCell (by first | (simp; done) | (simp; omega) | omega) _).setCell (by first | (simp; done) | (simp; omega) | omega) _).setCell (by first | (simp; done) | (simp; omega) | omega) _
  · have hc : (EA != 0) = true := by simpa using hA
    have hR3 : rzE EA T = EA := by unfold rzE; rw [firstE_of _ hA]
    have HR3 := Lib.hid hR3
    clear hA hR3 HE
    have z0 := HR2.out.z.c 0 _ rfl; have z1 := HR2.out.z.c 1 _ rfl; have z2 := HR2.out.z.c 2 _ rfl; have z3 := HR2.out.z.c 3 _ rfl; have zf := HR2.out.z.f; have zl := HR2.out.z.lt
    have B2 := HR2.out.w
    go_wp2_with fail
    refine bodyPost_ret (v := .tuple #[.agg #[.int .i64 0, .float .f32 0, .float .f32 0, .slice none 0 0], .int .i64 EA]) (by simp [results, Try.results105, go_sem, z0, z1, z2, z3]) rfl ⟨by rw [HR3.out], ?_⟩
    exact (((B2.setCell (by first | (simp; done) | (simp; omega) | omega) _).setCell (by first | (simp; done) | (simp; omega) | omega) _).setCell (by first | (simp; done) | (simp; omega) | omega) _).setCell (by first | (simp; done) | (simp; omega) | omega) _
set_option maxRecDepth 100000 in
set_option maxHeartbeats 3200000 in
theorem Resize_yes (S lo hi b off n cap : Nat) (fs : Nat → Nat) (T : Nat) (w : World) (he : cubErr S lo hi n = 0) (hT : 2 ≤ T ∧ T ≤ 17) (hcap : n ≤ cap) (hc : Row w b off n fs) :
    Calls Try.prog 105 #[.agg #[.int .i64 S, .float .f32 lo, .float .f32 hi, .slice (some ⟨b, off, none⟩) n cap], .int .i64 T] w fun e w' =>
      ∃ g cap', e = .returned (.tuple #[.agg #[.int .i64 T, .float .f32 lo, .float .f32 hi, .slice (some ⟨g, 0, none⟩) (3 * (T * T * T)) cap'], .int .i64 0]) ∧ g < w'.heap.size ∧ Row w' g 0 (3 * (T * T * T)) (fun x => rzG S lo hi T fs (x / 3) (x % 3)) ∧ Below w.heap.size w w' := by
  obtain ⟨hS, hS0, hn, hpos, hnb⟩ := cub_ok_nat he
  have hbw : b < w.heap.size := hc.lt (by omega)
  have HK : Hid (∀ w2 pa pb, Below w.heap.size w w2 → Blk w2 pa (cubV S lo hi b off n cap) → Blk w2 pb [.int .i64 T] → EntOK 184 #[.pointer (some ⟨pa, 0, none⟩), .pointer (some ⟨pb, 0, none⟩)] w2 T (rzG S lo hi T fs)) := fun w2 pa pb hb hA hB i j k w' hi' hj hk hb' => Resize_c T i j k S lo hi b off n cap fs pa pb w' hT.2 hi' hj hk ⟨hS0, hS⟩ hn hcap (hc.below (hb.trans (hb'.mono hb.size)) hbw) (hA.past hb') ((hB.past hb').c 0 _ rfl)
  have HT := Lib.hid hT
  have HEA := Lib.hid he
  have t1 : (2 : Int) ≤ (T : Int) := by omega
  have t2 : (T : Int) ≤ 17 := by omega
  clear he hcap hc hS hS0 hn hpos hnb hbw hT
  go_enter Try.func105, Try.ntmps105
  go_upto_region 1 with fail
  refine wp_world (fun W hW => ?_)
  have R0 : RzR w W (cubV S lo hi b off n cap) T := by rw [hW]; exact ⟨((Blk.new _ _ _ _ rfl).alloc _).alloc _, (Blk.new _ _ _ _ (by simp)).alloc _, Blk.new _ _ _ _ (by simp), by (repeat (first | exact Below.refl _ _ | assumption | (refine Below.setCell ?_ (by first | (simp; done) | (simp; omega) | omega) _) | (refine Below.drew ?_) | (refine below_drewN ?_ _) | (refine Below.alloc ?_ (by first | (simp; done) | (simp; omega) | omega) _) | (refine Below.trans ?_ (Below.mono (by assumption) (by first | (simp; done) | (simp; omega) | omega)))))⟩
  have HR := Lib.hid R0
  have p0 := R0.a.c 0 _ rfl; have p1 := R0.a.c 1 _ rfl; have p2 := R0.a.c 2 _ rfl; have p3 := R0.a.c 3 _ rfl; have pl := R0.a.lt
  clear hW R0
  go_wp2_with fail
  refine (CuCheck_any _ _ _ _ _ _ _).mono ?_
  rintro e w2 ⟨rfl, hb2⟩
  rw [HEA.out]
  have HR2 := Lib.hid (HR.out.past hb2)
  clear hb2 HR p0 p1 p2 p3 pl
  have t0 := HR2.out.t.c 0 _ rfl; have tl := HR2.out.t.lt
  have p0 := HR2.out.a.c 0 _ rfl; have p1 := HR2.out.a.c 1 _ rfl; have p2 := HR2.out.a.c 2 _ rfl; have pl := HR2.out.a.lt
  go_wp2_with fail
  refine (made_any 184 _ T lo hi (rzG S lo hi T fs) w2 HT.out.2 (by have := HT.out.1; omega) (body_enters Try.func184 (by kernel_rfl) rfl) (HK.out w2 _ _ HR2.out.w HR2.out.a HR2.out.t)).mono ?_
  rintro e w3 ⟨g, cap3, rfl, hg1, hg2, hg3, hg4, hrow, hb3⟩
  have Z3 := HR2.out.z.past hb3
  have B3 := HR2.out.w.trans (hb3.mono HR2.out.w.size)
  have hne : w.heap.size + 2 ≠ g := by have := HR2.out.z.lt; omega
  have HG := Lib.hid (And.intro hg2 (And.intro hrow (And.intro B3 hne)))
  clear hg1 hg2 hg3 hg4 hrow hb3 B3 hne p0 p1 p2 pl t0 tl HR2
  have z0 := Z3.c 0 _ rfl; have z1 := Z3.c 1 _ rfl; have z2 := Z3.c 2 _ rfl; have z3 := Z3.c 3 _ rfl; have zf := Z3.f; have zl := Z3.lt
  clear Z3
  go_wp2_with fail
  refine bodyPost_ret (v := .tuple #[.agg #[.int .i64 T, .float .f32 lo, .float .f32 hi, .slice (some ⟨g, 0, none⟩) (3 * (T * T * T)) cap3], .int .i64 0]) (by simp [results, Try.results105, go_sem, z0, z1, z2, z3]) rfl ⟨g, cap3, rfl, by simpa [World.setCell] using HG.out.1, fun x hx => ?_, ?_⟩
  · have h := HG.out.2.1 x hx
    have hne := HG.out.2.2.2
    rw [← h]
    simp only [World.cell?_setCell_other _ _ _ _ (show (⟨w.heap.size + 2, _, none⟩ : Addr) ≠ ⟨g, 0 + x, none⟩ from fun e => hne (congrArg Addr.block e))]
  · have B3 := HG.out.2.2.1
    exact (((B3.setCell (by first | (simp; done) | (simp; omega) | omega) _).setCell (by first | (simp; done) | (simp; omega) | omega) _).setCell (by first | (simp; done) | (simp; omega) | omega) _).setCell (by first | (simp; done) | (simp; omega) | omega) _
set_option maxRecDepth 100000 in
set_option maxHeartbeats 3200000 in
theorem Blend_no (sa : Int) (la ha : Nat) (aa : Option Addr) (na ca : Nat) (sb : Int) (lb hb : Nat) (ab : Option Addr) (nb cb : Nat) (t : Nat) (w : World) (hE : bothE (cubErr sa la ha na) (cubErr sb lb hb nb) (confB sa sb la lb ha hb) ≠ 0) :
    Calls Try.prog 106 #[.agg #[.int .i64 sa, .float .f32 la, .float .f32 ha, .slice aa na ca], .agg #[.int .i64 sb, .float .f32 lb, .float .f32 hb, .slice ab nb cb], .float .f32 t] w fun e w' => e = .returned (.tuple #[.agg #[.int .i64 0, .float .f32 0, .float .f32 0, .slice none 0 0], .int .i64 (bothE (cubErr sa la ha na) (cubErr sb lb hb nb) (confB sa sb la lb ha hb))]) ∧ Below w.heap.size w w' := by
  obtain ⟨E, hEE⟩ : ∃ E, E = bothE (cubErr sa la ha na) (cubErr sb lb hb nb) (confB sa sb la lb ha hb) := ⟨_, rfl⟩
  rw [← hEE] at hE ⊢
  have hc : (E != 0) = true := by simpa using hE
  have HE := Lib.hid hEE
  clear hE hEE
  go_enter Try.func106, Try.ntmps106
  go_upto_region 1 with fail
  refine wp_world (fun W hW => ?_)
  have R0 : EcR w W [.int .i64 sa, .float .f32 la, .float .f32 ha, .slice aa na ca] [.int .i64 sb, .float .f32 lb, .float .f32 hb, .slice ab nb cb] := by rw [hW]; exact ⟨((Blk.new _ _ _ _ rfl).alloc _).alloc _, (Blk.new _ _ _ _ (by simp)).alloc _, Blk.new _ _ _ _ (by simp), by (repeat (first | exact Below.refl _ _ | assumption | (refine Below.setCell ?_ (by first | (simp; done) | (simp; omega) | omega) _) | (refine Below.drew ?_) | (refine below_drewN ?_ _) | (refine Below.alloc ?_ (by first | (simp; done) | (simp; omega) | omega) _) | (refine Below.trans ?_ (Below.mono (by assumption) (by first | (simp; done) | (simp; omega) | omega)))))⟩
  have HR := Lib.hid R0
  have p0 := R0.a.c 0 _ rfl; have p1 := R0.a.c 1 _ rfl; have p2 := R0.a.c 2 _ rfl; have p3 := R0.a.c 3 _ rfl; have pl := R0.a.lt
  have q0 := R0.b.c 0 _ rfl; have q1 := R0.b.c 1 _ rfl; have q2 := R0.b.c 2 _ rfl; have q3 := R0.b.c 3 _ rfl; have ql := R0.b.lt
  clear hW R0
  go_wp2_with fail
  refine (checkBoth_any _ _ _ _ _ _ _ _ _ _ _ _ _).mono ?_
  rintro e w2 ⟨rfl, hb2⟩
  rw [← HE.out]
  have HR2 := Lib.hid (HR.out.past hb2)
  clear hb2 HR p0 p1 p2 p3 pl q0 q1 q2 q3 ql
  have z0 := HR2.out.z.c 0 _ rfl; have z1 := HR2.out.z.c 1 _ rfl; have z2 := HR2.out.z.c 2 _ rfl; have z3 := HR2.out.z.c 3 _ rfl; have zf := HR2.out.z.f; have zl := HR2.out.z.lt
  have B2 := HR2.out.w
  go_wp2_with fail
  refine bodyPost_ret (v := .tuple #[.agg #[.int .i64 0, .float .f32 0, .float .f32 0, .slice none 0 0], .int .i64 E]) (by simp [results, Try.results106, go_sem, z0, z1, z2, z3]) rfl ⟨rfl, ?_⟩
  exact (((B2.setCell (by first | (simp; done) | (simp; omega) | omega) _).setCell (by first | (simp; done) | (simp; omega) | omega) _).setCell (by first | (simp; done) | (simp; omega) | omega) _).setCell (by first | (simp; done) | (simp; omega) | omega) _
set_option maxRecDepth 100000 in
set_option maxHeartbeats 3200000 in
theorem Blend_yes (sa : Int) (la ha b off n cap : Nat) (fs : Nat → Nat) (sb : Int) (lb hb bt offt capt : Nat) (ft : Nat → Nat) (t : Nat) (w : World) (hE : bothE (cubErr sa la ha n) (cubErr sb lb hb n) (confB sa sb la lb ha hb) = 0) (hn : n ≤ 65536) (hn0 : 0 < n) (hcap : n ≤ cap) (hc : Row w b off n fs) (hcapt : n ≤ capt) (hct : Row w bt offt n ft) :
    Calls Try.prog 106 #[.agg #[.int .i64 sa, .float .f32 la, .float .f32 ha, .slice (some ⟨b, off, none⟩) n cap], .agg #[.int .i64 sb, .float .f32 lb, .float .f32 hb, .slice (some ⟨bt, offt, none⟩) n capt], .float .f32 t] w fun e w' =>
      ∃ g, e = .returned (.tuple #[.agg #[.int .i64 sa, .float .f32 la, .float .f32 ha, .slice (some ⟨g, 0, none⟩) n n], .int .i64 0]) ∧ g < w'.heap.size ∧ Row w' g 0 n (fun i => lerpF (fs i) (ft i) t) ∧ Below w.heap.size w w' := by
  have hbw : b < w.heap.size := hc.lt hn0
  have hbt : bt < w.heap.size := hct.lt hn0
  have hmk := run_make_row' (P := Try.prog) 25 38 (.float .f32 0) 4 Try.underlying25 (by kernel_rfl) rfl .i64 .i64 n (by omega) (by omega)
  have HC := Lib.hid hc; have HT := Lib.hid hct; have HE := Lib.hid hE
  clear hc hct hE
  go_enter Try.func106, Try.ntmps106
  go_upto_region 1 with fail
  refine wp_world (fun W hW => ?_)
  have R0 : EcR w W [.int .i64 sa, .float .f32 la, .float .f32 ha, .slice (some ⟨b, off, none⟩) n cap] [.int .i64 sb, .float .f32 lb, .float .f32 hb, .slice (some ⟨bt, offt, none⟩) n capt] := by rw [hW]; exact ⟨((Blk.new _ _ _ _ rfl).alloc _).alloc _, (Blk.new _ _ _ _ (by simp)).alloc _, Blk.new _ _ _ _ (by simp), by (repeat (first | exact Below.refl _ _ | assumption | (refine Below.setCell ?_ (by first | (simp; done) | (simp; omega) | omega) _) | (refine Below.drew ?_) | (refine below_drewN ?_ _) | (refine Below.alloc ?_ (by first | (simp; done) | (simp; omega) | omega) _) | (refine Below.trans ?_ (Below.mono (by assumption) (by first | (simp; done) | (simp; omega) | omega)))))⟩
  have HR := Lib.hid R0
  have p0 := R0.a.c 0 _ rfl; have p1 := R0.a.c 1 _ rfl; have p2 := R0.a.c 2 _ rfl; have p3 := R0.a.c 3 _ rfl; have pl := R0.a.lt
  have q0 := R0.b.c 0 _ rfl; have q1 := R0.b.c 1 _ rfl; have q2 := R0.b.c 2 _ rfl; have q3 := R0.b.c 3 _ rfl; have ql := R0.b.lt
  clear hW R0
  go_wp2_with fail
  refine (checkBoth_any _ _ _ _ _ _ _ _ _ _ _ _ _).mono ?_
  rintro e w2 ⟨rfl, hb2⟩
  rw [HE.out]
  have HR2 := Lib.hid (HR.out.past hb2)
  clear hb2 HR p0 p1 p2 p3 pl q0 q1 q2 q3 ql
  have p0 := HR2.out.a.c 0 _ rfl; have p1 := HR2.out.a.c 1 _ rfl; have p2 := HR2.out.a.c 2 _ rfl; have p3 := HR2.out.a.c 3 _ rfl; have pl := HR2.out.a.lt
  go_upto_region 4 with fail
  go_cut [9] (fun s9 wx => ∃ nf g : Nat, s9 = .pointer (some ⟨nf, 0, none⟩) ∧ Blk wx nf [.int .i64 sa, .float .f32 la, .float .f32 ha, .slice (some ⟨g, 0, none⟩) n n] ∧ wx.rowIs g 38 n (fun _ => .float .f32 0) ∧ nf ≠ g ∧ w2.heap.size ≤ nf ∧ w2.heap.size ≤ g ∧ Below w2.heap.size w2 wx)
  case first =>
    go_region
    · go_wp2_with fail
      go_meet
      refine ⟨w2.heap.size + 1, w2.heap.size, rfl, (Blk.new _ _ _ _ (by simp)).drew, ?_, by omega, by omega, by omega, by (repeat (first | exact Below.refl _ _ | assumption | (refine Below.setCell ?_ (by first | (simp; done) | (simp; omega) | omega) _) | (refine Below.drew ?_) | (refine below_drewN ?_ _) | (refine Below.alloc ?_ (by first | (simp; done) | (simp; omega) | omega) _) | (refine Below.trans ?_ (Below.mono (by assumption) (by first | (simp; done) | (simp; omega) | omega)))))⟩
      have hr := World.rowIs_made w2 (.float .f32 0) n 38
      exact (hr.alloc _).drew
    · go_wp2_with fail
      go_meet
      refine ⟨w2.heap.size, w2.heap.size + 1, rfl, ((Blk.new _ _ _ _ rfl).alloc _).drew, ?_, by omega, by omega, by omega, by (repeat (first | exact Below.refl _ _ | assumption | (refine Below.setCell ?_ (by first | (simp; done) | (simp; omega) | omega) _) | (refine Below.drew ?_) | (refine below_drewN ?_ _) | (refine Below.alloc ?_ (by first | (simp; done) | (simp; omega) | omega) _) | (refine Below.trans ?_ (Below.mono (by assumption) (by first | (simp; done) | (simp; omega) | omega)))))⟩
      have hr := World.rowIs_made (w2.alloc (.cells #[.int .i64 sa, .float .f32 la, .float .f32 ha, .slice (some ⟨w2.heap.size + 1, 0, none⟩) n n] 52)) (.float .f32 0) n 38
      simp only [World.size_alloc] at hr
      exact hr.drew
  case rest =>
    obtain ⟨nf, g, rfl, hF, hrow, hne, hnf, hg, hbx⟩ := hcut
    have HF := Lib.hid hF; have HW := Lib.hid hrow
    have HR := Lib.hid (HR2.out.past hbx)
    have sz2 := HR2.out.z.lt
    have hgl := hrow.lt
    have hbw' : b < wc.heap.size := by have := HR2.out.w.size; have := hbx.size; omega
    have hbt' : bt < wc.heap.size := by have := HR2.out.w.size; have := hbx.size; omega
    have hb2 : b < w2.heap.size := by have := HR2.out.w.size; omega
    have hbt2 : bt < w2.heap.size := by have := HR2.out.w.size; omega
    have f3 := hF.c 3 _ rfl; have fl := hF.lt
    clear hF hrow hmk hbx p0 p1 p2 p3 pl HE
    go_wp2_with fail
    clear f3
    go_loopw [32] (fun s32 wr => ∃ k : Nat, k ≤ n ∧ s32 = .int .i64 (k : Nat) ∧ wr.rowIs g 38 n (fun j => if j < k then .float .f32 (lerpF (fs j) (ft j) t) else .float .f32 0) ∧ wc.grownBy wr (some g)) (fun s32 _ => n - (intOf s32).toNat)
    case atStart => exact ⟨0, by omega, rfl, by simpa using HW.out, World.grownBy.refl _ _⟩
    case round =>
      obtain ⟨k, hk, rfl, hrw, hgr⟩ := hrel
      have ew := hgr.block (w.heap.size) (by have := HR.out.a.lt; omega) (by simp; omega)
      have ew1 := hgr.block (w.heap.size + 1) (by have := HR.out.b.lt; omega) (by simp; omega)
      have ew2 := hgr.block (w.heap.size + 2) (by have := HR.out.z.lt; omega) (by simp; omega)
      have ewf := hgr.block nf fl (by simp; omega)
      have sw := hgr.size
      have A1 := HR.out.a.block sw ew; have B1 := HR.out.b.block sw ew1; have Z1 := HR.out.z.block sw ew2; have F1 := HF.out.block sw ewf
      have BW : Below w.heap.size w wr := HR.out.w.grown hgr (by have := HR.out.w.size; omega) (by intro j hj; cases hj; have := HR2.out.w.size; omega)
      have HRW := Lib.hid hrw; have HGR := Lib.hid hgr
      have hgw : g < wr.heap.size := hrw.lt
      by_cases hkn : k < n
      · have cA : wr.cell? ⟨b, off + k, none⟩ = some (.float .f32 (fs k)) := (HC.out.below BW hbw) k hkn
        have cB : wr.cell? ⟨bt, offt + k, none⟩ = some (.float .f32 (ft k)) := (HT.out.below BW hbt) k hkn
        obtain ⟨x, hx⟩ : ∃ x, x = fs k := ⟨_, rfl⟩
        obtain ⟨y, hy⟩ : ∃ y, y = ft k := ⟨_, rfl⟩
        rw [← hx] at cA; rw [← hy] at cB
        have HXY := Lib.hid (And.intro hx hy)
        have a3 := A1.c 3 _ rfl; have b3 := B1.c 3 _ rfl; have f3 := F1.c 3 _ rfl
        have al := A1.lt; have bl := B1.lt; have fl' := F1.lt; have bwr := cell_lt cA; have btr := cell_lt cB
        simp only at bwr btr
        have hki : (k : Int) < (n : Int) := by omega
        have HWB := Lib.hid BW
        clear hx hy hrw hgr ew ew1 ew2 ewf A1 B1 Z1 F1 BW
        go_wp2_with fail
        refine wp_region_loose 16 (fun _ _ u => u = .float .f32 (lerpF x y t)) (by kernel_rfl) (by kernel_rfl) ?_
        simp only [List.take_succ_cons, List.take_zero, List.drop_succ_cons, List.drop_zero]
        iterate 14 (refine loose_wanted rfl (fun K hK => ?_); go_simp; refine hK _ ?_; clear hK K)
        refine loose_wanted rfl (fun K1 hK => ?_)
        go_simp
        refine ⟨fun p => (Lerp_any _ _ _ p.w).mono ?_, ?_⟩
        · rintro e w' ⟨rfl, m, rfl⟩
          exact ⟨_, rfl, by first | rfl | simp, below_drewN p.h m⟩
        refine hK _ ?_
        clear hK K1
        iterate 1 (refine loose_wanted rfl (fun K hK => ?_); go_simp; refine hK _ ?_; clear hK K)
        refine loose_nil (fun w5 hb5 => ?_)
        have hR5 : w5.rowIs g 38 n _ := HRW.out.of_block (hb5.block g hgw)
        have hG5 : wc.grownBy w5 (some g) := grown_past HGR.out hb5
        have x5 : w5.cell? ⟨g, k, none⟩ = some (.float .f32 0) := by have := hR5.cell hkn; rw [this]; simp
        have y5 : w5.frozen? ⟨g, k, none⟩ = false := hR5.frozen _
        have HR5 := Lib.hid hR5; have HG5 := Lib.hid hG5
        clear hR5 hG5 hb5 a3 b3 f3 cA cB
        go_wp2_with fail
        go_roundw
        case rel =>
          refine ⟨k + 1, by omega, by go_num, (HR5.out.set k _).congr (fun j hj => ?_), grown_set HG5.out k _⟩
          by_cases hjk : j = k
          · subst hjk
            simp [HXY.out.1, HXY.out.2]
          · simp only [hjk, if_false]
            by_cases h : j < k
            · rw [if_pos h, if_pos (by omega)]
            · rw [if_neg h, if_neg (by omega)]
        case measure => simp [intOf]; omega
      · obtain rfl : k = n := by omega
        have HROW : Hid (∀ i, i < k → wr.cell? ⟨g, i, none⟩ = some (.float .f32 (lerpF (fs i) (ft i) t))) := fun i hi => by
          have := HRW.out.cell hi; rw [this]; simp [hi]
        have f0 := F1.c 0 _ rfl; have f1 := F1.c 1 _ rfl; have f2 := F1.c 2 _ rfl; have f3 := F1.c 3 _ rfl
        have z0 := Z1.c 0 _ rfl; have z1 := Z1.c 1 _ rfl; have z2 := Z1.c 2 _ rfl; have z3 := Z1.c 3 _ rfl; have zf := Z1.f; have zl := Z1.lt
        have HZ := Lib.hid (And.intro BW (show w.heap.size + 2 ≠ g by omega))
        clear hrw hgr ew ew1 ew2 ewf A1 B1 Z1 F1 BW
        go_wp2_with fail
        refine bodyPost_ret (v := .tuple #[.agg #[.int .i64 sa, .float .f32 la, .float .f32 ha, .slice (some ⟨g, 0, none⟩) k k], .int .i64 0]) (by simp [results, Try.results106, go_sem, z0, z1, z2, z3]) rfl ⟨g, rfl, by simpa [World.setCell] using hgw, fun x hx => ?_, ?_⟩
        · have h := HROW.out x hx
          have hne := HZ.out.2
          rw [← h, Nat.zero_add]
          simp only [World.cell?_setCell_other _ _ _ _ (show (⟨w.heap.size + 2, _, none⟩ : Addr) ≠ ⟨g, x, none⟩ from fun e => hne (congrArg Addr.block e))]
        · have B3 := HZ.out.1
          exact (((B3.setCell (by first | (simp; done) | (simp; omega) | omega) _).setCell (by first | (simp; done) | (simp; omega) | omega) _).setCell (by first | (simp; done) | (simp; omega) | omega) _).setCell (by first | (simp; done) | (simp; omega) | omega) _
end Go.Proofs.Ytmckkgbdlgldbaa
