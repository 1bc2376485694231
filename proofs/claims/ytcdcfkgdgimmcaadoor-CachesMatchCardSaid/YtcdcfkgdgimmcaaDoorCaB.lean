/- frame.Clean, whole. No condition but what each theorem names. -/
import Derived.Test.YtcdcfkgdgimmcaaDoorCaA
namespace Go.Proofs.YtcdcfkgdgimmcaaDoor
open Go Go.RowKit
theorem Clean_c (i n b off cap : Nat) (x y v h : Int) (fs : Nat → Nat) (pf : Nat) (w : World) (hi' : i < n) (hr : Row w b off n fs) (hF : Blk w pf [.int .i64 x, .int .i64 y, .int .i64 v, .int .i64 h, .slice (some ⟨b, off, none⟩) n cap]) :
    Calls Tryd.prog 93 #[.int .i64 i, .pointer (some ⟨pf, 0, none⟩)] w fun e w' => e = .returned (.float .f32 (fs i)) ∧ Below w.heap.size w w' := by
  have c := hr i hi'
  have f4 := hF.c 4 _ rfl; have fl := hF.lt
  have hki : (i : Int) < (n : Int) := by omega
  generalize fs i = z at *
  clear hr hF
  go_enter Tryd.func93, Tryd.ntmps93
  go_wp2_with fail
  go_ret
  exact ⟨rfl, Below.refl _ _⟩
/-- What stands of Clean's parameter. -/
structure FcR (w wr : World) (L : List Value) : Prop where
  a : Blk wr w.heap.size L
  z : Blk wr (w.heap.size + 1) [.int .i64 0, .int .i64 0, .int .i64 0, .int .i64 0, .slice none 0 0]
  w : Below w.heap.size w wr
theorem FcR.past {w wr wy : World} {L : List Value} (k : FcR w wr L) (h : Below wr.heap.size wr wy) : FcR w wy L := ⟨k.a.past h, k.z.past h, k.w.trans (h.mono k.w.size)⟩
set_option maxRecDepth 100000 in
set_option maxHeartbeats 1600000 in
theorem FClean_no (x y v h : Int) (a : Option Addr) (n cap : Nat) (w : World) (hE : fraErr x y v h n ≠ 0) :
    Calls Tryd.prog 53 #[.agg #[.int .i64 x, .int .i64 y, .int .i64 v, .int .i64 h, .slice a n cap]] w fun e w' => e = .returned (.tuple #[.agg #[.int .i64 0, .int .i64 0, .int .i64 0, .int .i64 0, .slice none 0 0], .int .i64 (fraErr x y v h n)]) ∧ Below w.heap.size w w' := by
  obtain ⟨E, hEE⟩ : ∃ E, E = fraErr x y v h n := ⟨_, rfl⟩
  rw [← hEE] at hE ⊢
  have hc : (E != 0) = true := by simpa using hE
  have HE := Lib.hid hEE
  clear hE hEE
  go_enter Tryd.func53, Tryd.ntmps53
  go_upto_region 1 with fail
  refine wp_world (fun W hW => ?_)
  have R0 : FcR w W [.int .i64 x, .int .i64 y, .int .i64 v, .int .i64 h, .slice a n cap] := by rw [hW]; exact ⟨(Blk.new _ _ _ _ rfl).alloc _, Blk.new _ _ _ _ (by simp), by (repeat (first | exact Below.refl _ _ | assumption | (refine Below.setCell ?_ (by first | (simp; done) | (simp; omega) | omega) _) | (refine Below.drew ?_) | (refine below_drewN ?_ _) | (refine Below.alloc ?_ (by first | (simp; done) | (simp; omega) | omega) _) | (refine Below.trans ?_ (Below.mono (by assumption) (by first | (simp; done) | (simp; omega) | omega)))))⟩
  have HR := Lib.hid R0
  have p0 := R0.a.c 0 _ rfl; have p1 := R0.a.c 1 _ rfl; have p2 := R0.a.c 2 _ rfl; have p3 := R0.a.c 3 _ rfl; have p4' := R0.a.c 4 _ rfl; have pl := R0.a.lt
  clear hW R0
  go_wp2_with fail
  refine (FCheck_any _ _ _ _ _ _ _ _).mono ?_
  rintro e w2 ⟨rfl, hb2⟩
  rw [← HE.out]
  have HR2 := Lib.hid (HR.out.past hb2)
  clear hb2 HR p0 p1 p2 p3 p4' pl
  have z0 := HR2.out.z.c 0 _ rfl; have z1 := HR2.out.z.c 1 _ rfl; have z2 := HR2.out.z.c 2 _ rfl; have z3 := HR2.out.z.c 3 _ rfl; have z4 := HR2.out.z.c 4 _ rfl; have zf := HR2.out.z.f; have zl := HR2.out.z.lt
  have B2 := HR2.out.w
  go_wp2_with fail
  refine bodyPost_ret (v := .tuple #[.agg #[.int .i64 0, .int .i64 0, .int .i64 0, .int .i64 0, .slice none 0 0], .int .i64 E]) (by simp [results, Tryd.results53, go_sem, z0, z1, z2, z3, z4]) rfl ⟨rfl, ?_⟩
  exact ((((B2.setCell (by first | (simp; done) | (simp; omega) | omega) _).setCell (by first | (simp; done) | (simp; omega) | omega) _).setCell (by first | (simp; done) | (simp; omega) | omega) _).setCell (by first | (simp; done) | (simp; omega) | omega) _).setCell (by first | (simp; done) | (simp; omega) | omega) _
set_option maxRecDepth 100000 in
set_option maxHeartbeats 1600000 in
theorem FClean_yes (x y v h : Int) (b off n cap : Nat) (fs : Nat → Nat) (w : World) (hE : fraErr x y v h n = 0) (hr : Row w b off n fs) :
    Calls Tryd.prog 53 #[.agg #[.int .i64 x, .int .i64 y, .int .i64 v, .int .i64 h, .slice (some ⟨b, off, none⟩) n cap]] w fun e w' => ∃ g, e = .returned (.tuple #[.agg #[.int .i64 x, .int .i64 y, .int .i64 v, .int .i64 h, .slice (some ⟨g, 0, none⟩) n n], .int .i64 0]) ∧ w.heap.size ≤ g ∧ w'.rowIs g 50 n (fun i => .float .f32 (cn .f32 (fs i))) ∧ Below w.heap.size w w' := by
  obtain ⟨he, hl⟩ := fraErr_ok hE
  have hn0 : 0 < n := by have := (fr_n he hl).1; omega
  have hbw := hr.lt hn0
  have HK : Hid (∀ w2 pf, Below w.heap.size w w2 → Blk w2 pf [.int .i64 x, .int .i64 y, .int .i64 v, .int .i64 h, .slice (some ⟨b, off, none⟩) n cap] → ∀ (i : Nat) w', i < n → Below w2.heap.size w2 w' → Calls Tryd.prog 93 (#[.int .i64 (i : Nat)] ++ #[.pointer (some ⟨pf, 0, none⟩)]) w' fun e w'' => e = .returned (.float .f32 (fs i)) ∧ Below w'.heap.size w' w'') := fun w2 pf hb hF i w' hi' hb' => Clean_c i n b off cap x y v h fs pf w' hi' (hr.below (hb.trans (hb'.mono hb.size)) hbw) (hF.past hb')
  have HE := Lib.hid (And.intro hE (And.intro he hl))
  clear hE he hl hr hn0 hbw
  go_enter Tryd.func53, Tryd.ntmps53
  go_upto_region 1 with fail
  refine wp_world (fun W hW => ?_)
  have R0 : FcR w W [.int .i64 x, .int .i64 y, .int .i64 v, .int .i64 h, .slice (some ⟨b, off, none⟩) n cap] := by rw [hW]; exact ⟨(Blk.new _ _ _ _ rfl).alloc _, Blk.new _ _ _ _ (by simp), by (repeat (first | exact Below.refl _ _ | assumption | (refine Below.setCell ?_ (by first | (simp; done) | (simp; omega) | omega) _) | (refine Below.drew ?_) | (refine below_drewN ?_ _) | (refine Below.alloc ?_ (by first | (simp; done) | (simp; omega) | omega) _) | (refine Below.trans ?_ (Below.mono (by assumption) (by first | (simp; done) | (simp; omega) | omega)))))⟩
  have HR := Lib.hid R0
  have p0 := R0.a.c 0 _ rfl; have p1 := R0.a.c 1 _ rfl; have p2 := R0.a.c 2 _ rfl; have p3 := R0.a.c 3 _ rfl; have p4' := R0.a.c 4 _ rfl; have pl := R0.a.lt
  clear hW R0
  go_wp2_with fail
  refine (FCheck_any _ _ _ _ _ _ _ _).mono ?_
  rintro e w2 ⟨rfl, hb2⟩
  rw [HE.out.1]
  have HR2 := Lib.hid (HR.out.past hb2)
  clear hb2 HR p0 p1 p2 p3 p4' pl
  have p0 := HR2.out.a.c 0 _ rfl; have p1 := HR2.out.a.c 1 _ rfl; have p2 := HR2.out.a.c 2 _ rfl; have p3 := HR2.out.a.c 3 _ rfl; have pl := HR2.out.a.lt
  go_wp2_with fail
  refine (fe_any 93 _ x y v h n fs w2 (by decide) HE.out.2.1 HE.out.2.2 (body_enters Tryd.func93 (by kernel_rfl) rfl) (HK.out w2 _ HR2.out.w HR2.out.a)).mono ?_
  rintro e w3 ⟨g, rfl, hg1, hrow, hb3⟩
  have Z3 := HR2.out.z.past hb3
  have B3 := HR2.out.w.trans (hb3.mono HR2.out.w.size)
  have hne : g ≠ w.heap.size + 1 := by have := HR2.out.z.lt; omega
  have hwg : w.heap.size ≤ g := by have := HR2.out.z.lt; omega
  have HG := Lib.hid (And.intro hrow (And.intro B3 (And.intro hne hwg)))
  clear hg1 hrow hb3 B3 hne hwg p0 p1 p2 p3 pl HR2
  have z0 := Z3.c 0 _ rfl; have z1 := Z3.c 1 _ rfl; have z2 := Z3.c 2 _ rfl; have z3 := Z3.c 3 _ rfl; have z4 := Z3.c 4 _ rfl; have zf := Z3.f; have zl := Z3.lt
  clear Z3
  go_wp2_with fail
  refine bodyPost_ret (v := .tuple #[.agg #[.int .i64 x, .int .i64 y, .int .i64 v, .int .i64 h, .slice (some ⟨g, 0, none⟩) n n], .int .i64 0]) (by simp [results, Tryd.results53, go_sem, z0, z1, z2, z3, z4]) rfl ⟨g, rfl, HG.out.2.2.2, ?_, ?_⟩
  · have hgz := HG.out.2.2.1
    exact ((((HG.out.1.setOther (by simpa using hgz) _).setOther (by simpa using hgz) _).setOther (by simpa using hgz) _).setOther (by simpa using hgz) _).setOther (by simpa using hgz) _
  · have B3 := HG.out.2.1
    exact ((((B3.setCell (by first | (simp; done) | (simp; omega) | omega) _).setCell (by first | (simp; done) | (simp; omega) | omega) _).setCell (by first | (simp; done) | (simp; omega) | omega) _).setCell (by first | (simp; done) | (simp; omega) | omega) _).setCell (by first | (simp; done) | (simp; omega) | omega) _
end Go.Proofs.YtcdcfkgdgimmcaaDoor
