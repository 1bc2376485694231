/- cube.Tetra, cube.Linear, cube.Place, whole. No condition but what each theorem names. (with: CuS) -/
import Derived.Test.YtkmjboffjhcoaaaCO
import Derived.Test.YtkmjboffjhcoaaaCA
namespace Go.Proofs.Ytkmjboffjhcoaaa
open Go.RowKit
set_option maxRecDepth 100000 in
set_option maxHeartbeats 1600000 in
theorem Tetra_no (size : Int) (lo hi : Nat) (a : Option Addr) (n cap : Nat) (p : Nat → Nat) (w : World) (hE : cubErr size lo hi n ≠ 0) :
    Calls Try.prog 88 #[.agg #[.int .i64 size, .float .f32 lo, .float .f32 hi, .slice a n cap], .agg #[.float .f32 (p 0), .float .f32 (p 1), .float .f32 (p 2), .float .f32 (p 3)]] w fun e w' =>
      e = .returned (.tuple #[.agg #[.float .f32 0, .float .f32 0, .float .f32 0, .float .f32 0], .int .i64 (cubErr size lo hi n)]) ∧ Below w.heap.size w w' := by
  have hc : (cubErr size lo hi n != 0) = true := by simpa using hE
  clear hE
  obtain ⟨E, hEE⟩ : ∃ E, E = cubErr size lo hi n := ⟨_, rfl⟩
  rw [← hEE] at hc ⊢
  have HE := Lib.hid hEE
  clear hEE
  go_enter Try.func88, Try.ntmps88
  go_upto_region 1 with fail
  refine wp_world (fun W hW => ?_)
  have CB : Blk W w.heap.size [.int .i64 size, .float .f32 lo, .float .f32 hi, .slice a n cap] := by rw [hW]; exact ((Blk.new _ _ _ _ rfl).alloc _).alloc _
  have ZB : Blk W (w.heap.size + 2) [.float .f32 0, .float .f32 0, .float .f32 0, .float .f32 0] := by rw [hW]; exact Blk.new _ _ _ _ (by simp)
  have BW : Below w.heap.size w W := by rw [hW]; (repeat (first | exact Below.refl _ _ | assumption | (refine Below.setCell ?_ (by first | (simp; done) | (simp; omega) | omega) _) | (refine Below.drew ?_) | (refine below_drewN ?_ _) | (refine Below.alloc ?_ (by first | (simp; done) | (simp; omega) | omega) _) | (refine Below.trans ?_ (Below.mono (by assumption) (by first | (simp; done) | (simp; omega) | omega)))))
  clear hW
  have c0 := CB.c 0 _ rfl; have c1 := CB.c 1 _ rfl; have c2 := CB.c 2 _ rfl; have c3 := CB.c 3 _ rfl; have cl := CB.lt
  have HB := Lib.hid (And.intro ZB BW)
  clear CB ZB BW
  go_wp2_with fail
  refine (CuCheck_any _ _ _ _ _ _ _).mono ?_
  rintro e w2 ⟨rfl, hb2⟩
  rw [← HE.out]
  have Z2 := HB.out.1.past hb2
  have B2 := HB.out.2.trans (hb2.mono HB.out.2.size)
  clear HB hb2 c0 c1 c2 c3 cl
  have z0 := Z2.c 0 _ rfl; have z1 := Z2.c 1 _ rfl; have z2 := Z2.c 2 _ rfl; have z3 := Z2.c 3 _ rfl; have zf := Z2.f; have zl := Z2.lt
  clear Z2
  go_wp2_with fail
  refine bodyPost_ret (v := .tuple #[.agg #[.float .f32 0, .float .f32 0, .float .f32 0, .float .f32 0], .int .i64 E]) (by simp [results, Try.results88, go_sem, z0, z1, z2, z3]) rfl ⟨rfl, ?_⟩
  (repeat (first | (with_reducible exact B2) | (refine Below.setCell ?_ (by first | (simp; done) | (simp; omega) | omega) _) | (refine Below.drew ?_)))
set_option maxRecDepth 100000 in
set_option maxHeartbeats 1600000 in
theorem Tetra_yes (S : Nat) (lo hi b off n cap : Nat) (fs p : Nat → Nat) (w : World) (he : cubErr S lo hi n = 0) (hcap : n ≤ cap) (hc : Row w b off n fs) :
    Calls Try.prog 88 #[.agg #[.int .i64 S, .float .f32 lo, .float .f32 hi, .slice (some ⟨b, off, none⟩) n cap], .agg #[.float .f32 (p 0), .float .f32 (p 1), .float .f32 (p 2), .float .f32 (p 3)]] w fun e w' =>
      e = .returned (.tuple #[.agg #[.float .f32 (tetF S lo hi fs p 0), .float .f32 (tetF S lo hi fs p 1), .float .f32 (tetF S lo hi fs p 2), .float .f32 (tetF S lo hi fs p 3)], .int .i64 0]) ∧ Below w.heap.size w w' := by
  obtain ⟨hS, hS0, hn, hpos, hnb⟩ := cub_ok_nat he
  have hbw : b < w.heap.size := hc.lt (by omega)
  obtain ⟨⟨t1, t2⟩, -⟩ := cubErr_ok he
  have HT : Hid (∀ w', Below w.heap.size w w' → Calls Try.prog 165 #[.agg #[.int .i64 S, .float .f32 lo, .float .f32 hi, .slice (some ⟨b, off, none⟩) n cap], .agg #[.float .f32 (p 0), .float .f32 (p 1), .float .f32 (p 2), .float .f32 (p 3)]] w' fun e w'' =>
      e = .returned (.agg #[.float .f32 (tetF S lo hi fs p 0), .float .f32 (tetF S lo hi fs p 1), .float .f32 (tetF S lo hi fs p 2), .float .f32 (tetF S lo hi fs p 3)]) ∧ Below w'.heap.size w' w'') := fun w' hb => tetra_any S lo hi b off n cap fs p w' ⟨by omega, hS⟩ hn hcap (hc.below hb hbw)
  have HE := Lib.hid he
  clear he hS hS0 hn hpos hnb hbw hcap hc t1 t2
  go_enter Try.func88, Try.ntmps88
  go_upto_region 1 with fail
  refine wp_world (fun W hW => ?_)
  have CB : Blk W w.heap.size [.int .i64 S, .float .f32 lo, .float .f32 hi, .slice (some ⟨b, off, none⟩) n cap] := by rw [hW]; exact ((Blk.new _ _ _ _ rfl).alloc _).alloc _
  have PB : Blk W (w.heap.size + 1) [.float .f32 (p 0), .float .f32 (p 1), .float .f32 (p 2), .float .f32 (p 3)] := by rw [hW]; exact (Blk.new _ _ _ _ (by simp)).alloc _
  have ZB : Blk W (w.heap.size + 2) [.float .f32 0, .float .f32 0, .float .f32 0, .float .f32 0] := by rw [hW]; exact Blk.new _ _ _ _ (by simp)
  have BW : Below w.heap.size w W := by rw [hW]; (repeat (first | exact Below.refl _ _ | assumption | (refine Below.setCell ?_ (by first | (simp; done) | (simp; omega) | omega) _) | (refine Below.drew ?_) | (refine below_drewN ?_ _) | (refine Below.alloc ?_ (by first | (simp; done) | (simp; omega) | omega) _) | (refine Below.trans ?_ (Below.mono (by assumption) (by first | (simp; done) | (simp; omega) | omega)))))
  clear hW
  have c0 := CB.c 0 _ rfl; have c1 := CB.c 1 _ rfl; have c2 := CB.c 2 _ rfl; have c3 := CB.c 3 _ rfl; have cl := CB.lt
  have HB := Lib.hid (And.intro CB (And.intro PB (And.intro ZB BW)))
  clear CB PB ZB BW
  go_wp2_with fail
  refine (CuCheck_any _ _ _ _ _ _ _).mono ?_
  rintro e w2 ⟨rfl, hb2⟩
  rw [HE.out]
  have H2 := Lib.hid (And.intro (HB.out.1.past hb2) (And.intro (HB.out.2.1.past hb2) (And.intro (HB.out.2.2.1.past hb2) (HB.out.2.2.2.trans (hb2.mono HB.out.2.2.2.size)))))
  clear HB hb2 c0 c1 c2 c3 cl
  have c0 := H2.out.1.c 0 _ rfl; have c1 := H2.out.1.c 1 _ rfl; have c2 := H2.out.1.c 2 _ rfl; have c3 := H2.out.1.c 3 _ rfl; have cl := H2.out.1.lt
  have p0 := H2.out.2.1.c 0 _ rfl; have p1 := H2.out.2.1.c 1 _ rfl; have p2 := H2.out.2.1.c 2 _ rfl; have p3 := H2.out.2.1.c 3 _ rfl; have pl := H2.out.2.1.lt
  go_wp2_with fail
  refine (HT.out _ H2.out.2.2.2).mono ?_
  rintro e w3 ⟨rfl, hb3⟩
  have Z3 := H2.out.2.2.1.past hb3
  have B3 := H2.out.2.2.2.trans (hb3.mono H2.out.2.2.2.size)
  clear H2 hb3 c0 c1 c2 c3 cl p0 p1 p2 p3 pl
  have z0 := Z3.c 0 _ rfl; have z1 := Z3.c 1 _ rfl; have z2 := Z3.c 2 _ rfl; have z3 := Z3.c 3 _ rfl; have zf := Z3.f; have zl := Z3.lt
  clear Z3
  go_wp2_with fail
  refine bodyPost_ret (v := .tuple #[.agg #[.float .f32 (tetF S lo hi fs p 0), .float .f32 (tetF S lo hi fs p 1), .float .f32 (tetF S lo hi fs p 2), .float .f32 (tetF S lo hi fs p 3)], .int .i64 0]) (by simp [results, Try.results88, go_sem, z0, z1, z2, z3]) rfl ⟨rfl, ?_⟩
  (repeat (first | (with_reducible exact B3) | (refine Below.setCell ?_ (by first | (simp; done) | (simp; omega) | omega) _) | (refine Below.drew ?_)))
set_option maxRecDepth 100000 in
set_option maxHeartbeats 1600000 in
theorem Linear_no (size : Int) (lo hi : Nat) (a : Option Addr) (n cap : Nat) (p : Nat → Nat) (w : World) (hE : cubErr size lo hi n ≠ 0) :
    Calls Try.prog 89 #[.agg #[.int .i64 size, .float .f32 lo, .float .f32 hi, .slice a n cap], .agg #[.float .f32 (p 0), .float .f32 (p 1), .float .f32 (p 2), .float .f32 (p 3)]] w fun e w' =>
      e = .returned (.tuple #[.agg #[.float .f32 0, .float .f32 0, .float .f32 0, .float .f32 0], .int .i64 (cubErr size lo hi n)]) ∧ Below w.heap.size w w' := by
  have hc : (cubErr size lo hi n != 0) = true := by simpa using hE
  clear hE
  obtain ⟨E, hEE⟩ : ∃ E, E = cubErr size lo hi n := ⟨_, rfl⟩
  rw [← hEE] at hc ⊢
  have HE := Lib.hid hEE
  clear hEE
  go_enter Try.func89, Try.ntmps89
  go_upto_region 1 with fail
  refine wp_world (fun W hW => ?_)
  have CB : Blk W w.heap.size [.int .i64 size, .float .f32 lo, .float .f32 hi, .slice a n cap] := by rw [hW]; exact ((Blk.new _ _ _ _ rfl).alloc _).alloc _
  have ZB : Blk W (w.heap.size + 2) [.float .f32 0, .float .f32 0, .float .f32 0, .float .f32 0] := by rw [hW]; exact Blk.new _ _ _ _ (by simp)
  have BW : Below w.heap.size w W := by rw [hW]; (repeat (first | exact Below.refl _ _ | assumption | (refine Below.setCell ?_ (by first | (simp; done) | (simp; omega) | omega) _) | (refine Below.drew ?_) | (refine below_drewN ?_ _) | (refine Below.alloc ?_ (by first | (simp; done) | (simp; omega) | omega) _) | (refine Below.trans ?_ (Below.mono (by assumption) (by first | (simp; done) | (simp; omega) | omega)))))
  clear hW
  have c0 := CB.c 0 _ rfl; have c1 := CB.c 1 _ rfl; have c2 := CB.c 2 _ rfl; have c3 := CB.c 3 _ rfl; have cl := CB.lt
  have HB := Lib.hid (And.intro ZB BW)
  clear CB ZB BW
  go_wp2_with fail
  refine (CuCheck_any _ _ _ _ _ _ _).mono ?_
  rintro e w2 ⟨rfl, hb2⟩
  rw [← HE.out]
  have Z2 := HB.out.1.past hb2
  have B2 := HB.out.2.trans (hb2.mono HB.out.2.size)
  clear HB hb2 c0 c1 c2 c3 cl
  have z0 := Z2.c 0 _ rfl; have z1 := Z2.c 1 _ rfl; have z2 := Z2.c 2 _ rfl; have z3 := Z2.c 3 _ rfl; have zf := Z2.f; have zl := Z2.lt
  clear Z2
  go_wp2_with fail
  refine bodyPost_ret (v := .tuple #[.agg #[.float .f32 0, .float .f32 0, .float .f32 0, .float .f32 0], .int .i64 E]) (by simp [results, Try.results89, go_sem, z0, z1, z2, z3]) rfl ⟨rfl, ?_⟩
  (repeat (first | (with_reducible exact B2) | (refine Below.setCell ?_ (by first | (simp; done) | (simp; omega) | omega) _) | (refine Below.drew ?_)))
set_option maxRecDepth 100000 in
set_option maxHeartbeats 1600000 in
theorem Linear_yes (S : Nat) (lo hi b off n cap : Nat) (fs p : Nat → Nat) (w : World) (he : cubErr S lo hi n = 0) (hcap : n ≤ cap) (hc : Row w b off n fs) :
    Calls Try.prog 89 #[.agg #[.int .i64 S, .float .f32 lo, .float .f32 hi, .slice (some ⟨b, off, none⟩) n cap], .agg #[.float .f32 (p 0), .float .f32 (p 1), .float .f32 (p 2), .float .f32 (p 3)]] w fun e w' =>
      e = .returned (.tuple #[.agg #[.float .f32 (linF S lo hi fs p 0), .float .f32 (linF S lo hi fs p 1), .float .f32 (linF S lo hi fs p 2), .float .f32 (linF S lo hi fs p 3)], .int .i64 0]) ∧ Below w.heap.size w w' := by
  obtain ⟨hS, hS0, hn, hpos, hnb⟩ := cub_ok_nat he
  have hbw : b < w.heap.size := hc.lt (by omega)
  obtain ⟨⟨t1, t2⟩, -⟩ := cubErr_ok he
  have HT : Hid (∀ w', Below w.heap.size w w' → Calls Try.prog 166 #[.agg #[.int .i64 S, .float .f32 lo, .float .f32 hi, .slice (some ⟨b, off, none⟩) n cap], .agg #[.float .f32 (p 0), .float .f32 (p 1), .float .f32 (p 2), .float .f32 (p 3)]] w' fun e w'' =>
      e = .returned (.agg #[.float .f32 (linF S lo hi fs p 0), .float .f32 (linF S lo hi fs p 1), .float .f32 (linF S lo hi fs p 2), .float .f32 (linF S lo hi fs p 3)]) ∧ Below w'.heap.size w' w'') := fun w' hb => linear_any S lo hi b off n cap fs p w' ⟨by omega, hS⟩ hn hcap (hc.below hb hbw)
  have HE := Lib.hid he
  clear he hS hS0 hn hpos hnb hbw hcap hc t1 t2
  go_enter Try.func89, Try.ntmps89
  go_upto_region 1 with fail
  refine wp_world (fun W hW => ?_)
  have CB : Blk W w.heap.size [.int .i64 S, .float .f32 lo, .float .f32 hi, .slice (some ⟨b, off, none⟩) n cap] := by rw [hW]; exact ((Blk.new _ _ _ _ rfl).alloc _).alloc _
  have PB : Blk W (w.heap.size + 1) [.float .f32 (p 0), .float .f32 (p 1), .float .f32 (p 2), .float .f32 (p 3)] := by rw [hW]; exact (Blk.new _ _ _ _ (by simp)).alloc _
  have ZB : Blk W (w.heap.size + 2) [.float .f32 0, .float .f32 0, .float .f32 0, .float .f32 0] := by rw [hW]; exact Blk.new _ _ _ _ (by simp)
  have BW : Below w.heap.size w W := by rw [hW]; (repeat (first | exact Below.refl _ _ | assumption | (refine Below.setCell ?_ (by first | (simp; done) | (simp; omega) | omega) _) | (refine Below.drew ?_) | (refine below_drewN ?_ _) | (refine Below.alloc ?_ (by first | (simp; done) | (simp; omega) | omega) _) | (refine Below.trans ?_ (Below.mono (by assumption) (by first | (simp; done) | (simp; omega) | omega)))))
  clear hW
  have c0 := CB.c 0 _ rfl; have c1 := CB.c 1 _ rfl; have c2 := CB.c 2 _ rfl; have c3 := CB.c 3 _ rfl; have cl := CB.lt
  have HB := Lib.hid (And.intro CB (And.intro PB (And.intro ZB BW)))
  clear CB PB ZB BW
  go_wp2_with fail
  refine (CuCheck_any _ _ _ _ _ _ _).mono ?_
  rintro e w2 ⟨rfl, hb2⟩
  rw [HE.out]
  have H2 := Lib.hid (And.intro (HB.out.1.past hb2) (And.intro (HB.out.2.1.past hb2) (And.intro (HB.out.2.2.1.past hb2) (HB.out.2.2.2.trans (hb2.mono HB.out.2.2.2.size)))))
  clear HB hb2 c0 c1 c2 c3 cl
  have c0 := H2.out.1.c 0 _ rfl; have c1 := H2.out.1.c 1 _ rfl; have c2 := H2.out.1.c 2 _ rfl; have c3 := H2.out.1.c 3 _ rfl; have cl := H2.out.1.lt
  have p0 := H2.out.2.1.c 0 _ rfl; have p1 := H2.out.2.1.c 1 _ rfl; have p2 := H2.out.2.1.c 2 _ rfl; have p3 := H2.out.2.1.c 3 _ rfl; have pl := H2.out.2.1.lt
  go_wp2_with fail
  refine (HT.out _ H2.out.2.2.2).mono ?_
  rintro e w3 ⟨rfl, hb3⟩
  have Z3 := H2.out.2.2.1.past hb3
  have B3 := H2.out.2.2.2.trans (hb3.mono H2.out.2.2.2.size)
  clear H2 hb3 c0 c1 c2 c3 cl p0 p1 p2 p3 pl
  have z0 := Z3.c 0 _ rfl; have z1 := Z3.c 1 _ rfl; have z2 := Z3.c 2 _ rfl; have z3 := Z3.c 3 _ rfl; have zf := Z3.f; have zl := Z3.lt
  clear Z3
  go_wp2_with fail
  refine bodyPost_ret (v := .tuple #[.agg #[.float .f32 (linF S lo hi fs p 0), .float .f32 (linF S lo hi fs p 1), .float .f32 (linF S lo hi fs p 2), .float .f32 (linF S lo hi fs p 3)], .int .i64 0]) (by simp [results, Try.results89, go_sem, z0, z1, z2, z3]) rfl ⟨rfl, ?_⟩
  (repeat (first | (with_reducible exact B3) | (refine Below.setCell ?_ (by first | (simp; done) | (simp; omega) | omega) _) | (refine Below.drew ?_)))
set_option maxHeartbeats 1600000 in
theorem Place_no (size : Int) (lo hi : Nat) (a : Option Addr) (n cap v : Nat) (w : World) (hE : cubErr size lo hi n ≠ 0) :
    Calls Try.prog 92 #[.agg #[.int .i64 size, .float .f32 lo, .float .f32 hi, .slice a n cap], .float .f32 v] w fun e w' =>
      e = .returned (.tuple #[.int .i64 0, .float .f32 0]) ∧ Below w.heap.size w w' := by
  have hc : (cubErr size lo hi n != 0) = true := by simpa using hE
  clear hE
  go_enter Try.func92, Try.ntmps92
  go_wp2_with (first | (go_at_call 93; refine (CuCheck_any _ _ _ _ _ _ _).mono ?_; rintro e w2 ⟨rfl, hb2⟩))
  go_ret2
  exact ⟨rfl, by (repeat (first | exact Below.refl _ _ | assumption | (refine Below.setCell ?_ (by first | (simp; done) | (simp; omega) | omega) _) | (refine Below.drew ?_) | (refine below_drewN ?_ _) | (refine Below.alloc ?_ (by first | (simp; done) | (simp; omega) | omega) _) | (refine Below.trans ?_ (Below.mono (by assumption) (by first | (simp; done) | (simp; omega) | omega)))))⟩
set_option maxHeartbeats 1600000 in
theorem Place_yes (S lo hi v : Nat) (a : Option Addr) (n cap : Nat) (w : World) (he : cubErr S lo hi n = 0) :
    Calls Try.prog 92 #[.agg #[.int .i64 S, .float .f32 lo, .float .f32 hi, .slice a n cap], .float .f32 v] w fun e w' =>
      e = .returned (.tuple #[.int .i64 (plF S lo hi v).1, .float .f32 (plF S lo hi v).2]) ∧ Below w.heap.size w w' := by
  obtain ⟨⟨t1, t2⟩, -⟩ := cubErr_ok he
  have hS : 2 ≤ S ∧ S ≤ 17 := by omega
  have HE := Lib.hid (And.intro he hS)
  clear t1 t2 hS he
  go_enter Try.func92, Try.ntmps92
  go_wp2_with (first | (go_at_call 93; refine (CuCheck_any _ _ _ _ _ _ _).mono ?_; rintro e w2 ⟨rfl, hb2⟩; rw [HE.out.1]; have C2 : Blk w2 w.heap.size [.int .i64 S, .float .f32 lo, .float .f32 hi, .slice a n cap] := (Blk.new _ _ _ _ rfl).past hb2; have B2 : Below w.heap.size w w2 := (by (repeat (first | exact Below.refl _ _ | assumption | (refine Below.setCell ?_ (by first | (simp; done) | (simp; omega) | omega) _) | (refine Below.drew ?_) | (refine below_drewN ?_ _) | (refine Below.alloc ?_ (by first | (simp; done) | (simp; omega) | omega) _) | (refine Below.trans ?_ (Below.mono (by assumption) (by first | (simp; done) | (simp; omega) | omega)))))); clear hb2; have c0 := C2.c 0 _ rfl; have c1 := C2.c 1 _ rfl; have c2 := C2.c 2 _ rfl; have c3 := C2.c 3 _ rfl; have cl := C2.lt; clear C2) | (go_at_call 168; refine (place_any _ _ _ _ _ _ _ _ HE.out.2).mono ?_; rintro e w3 ⟨rfl, hb3⟩; have B3 := B2.trans (hb3.mono B2.size)))
  go_ret2
  exact ⟨rfl, B3⟩
end Go.Proofs.Ytkmjboffjhcoaaa

namespace Go.Proofs.Ytkmjboffjhcoaaa
open Go.RowKit
set_option maxRecDepth 100000 in
set_option maxHeartbeats 1600000 in
theorem Entry_no (size : Int) (lo hi : Nat) (a : Option Addr) (n cap : Nat) (i j k : Int) (w : World) (hE : cubErr size lo hi n ≠ 0) :
    Calls Try.prog 91 #[.agg #[.int .i64 size, .float .f32 lo, .float .f32 hi, .slice a n cap], .int .i64 i, .int .i64 j, .int .i64 k] w fun e w' =>
      e = .returned (.tuple #[.agg #[.float .f32 0, .float .f32 0, .float .f32 0], .int .i64 (cubErr size lo hi n)]) ∧ Below w.heap.size w w' := by
  have hc : (cubErr size lo hi n != 0) = true := by simpa using hE
  clear hE
  obtain ⟨E, hEE⟩ : ∃ E, E = cubErr size lo hi n := ⟨_, rfl⟩
  rw [← hEE] at hc ⊢
  have HE := Lib.hid hEE
  clear hEE
  go_enter Try.func91, Try.ntmps91
  go_upto_region 1 with fail
  refine wp_world (fun W hW => ?_)
  have CB : Blk W w.heap.size [.int .i64 size, .float .f32 lo, .float .f32 hi, .slice a n cap] := by rw [hW]; exact (Blk.new _ _ _ _ rfl).alloc _
  have ZB : Blk W (w.heap.size + 1) [.float .f32 0, .float .f32 0, .float .f32 0] := by rw [hW]; exact Blk.new _ _ _ _ (by simp)
  have BW : Below w.heap.size w W := by rw [hW]; (repeat (first | exact Below.refl _ _ | assumption | (refine Below.setCell ?_ (by first | (simp; done) | (simp; omega) | omega) _) | (refine Below.drew ?_) | (refine below_drewN ?_ _) | (refine Below.alloc ?_ (by first | (simp; done) | (simp; omega) | omega) _) | (refine Below.trans ?_ (Below.mono (by assumption) (by first | (simp; done) | (simp; omega) | omega)))))
  clear hW
  have c0 := CB.c 0 _ rfl; have c1 := CB.c 1 _ rfl; have c2 := CB.c 2 _ rfl; have c3 := CB.c 3 _ rfl; have cl := CB.lt
  have HB := Lib.hid (And.intro CB (And.intro ZB BW))
  clear CB ZB BW
  go_wp2_with fail
  refine (CuCheck_any _ _ _ _ _ _ _).mono ?_
  rintro e w2 ⟨rfl, hb2⟩
  have C2 := HB.out.1.past hb2
  have Z2 := HB.out.2.1.past hb2
  have B2 := HB.out.2.2.trans (hb2.mono HB.out.2.2.size)
  clear HB hb2 c0 c1 c2 c3 cl
  have z0 := Z2.c 0 _ rfl; have z1 := Z2.c 1 _ rfl; have z2 := Z2.c 2 _ rfl; have zf := Z2.f; have zl := Z2.lt
  rw [← HE.out]
  go_wp2_with fail
  refine bodyPost_ret (v := .tuple #[.agg #[.float .f32 0, .float .f32 0, .float .f32 0], .int .i64 E]) (by simp [results, Try.results91, go_sem, z0, z1, z2]) rfl ⟨rfl, ?_⟩
  (repeat (first | (with_reducible exact B2) | (refine Below.setCell ?_ (by first | (simp; done) | (simp; omega) | omega) _) | (refine Below.drew ?_)))
def threeI (i j k : Int) (r : Nat) : Int := if r = 0 then i else if r = 1 then j else k
/-- What stands while the places are looked at. -/
structure EnR (w wr : World) (L : List Value) : Prop where
  c : Blk wr w.heap.size L
  z : Blk wr (w.heap.size + 1) [.float .f32 0, .float .f32 0, .float .f32 0]
  b : Below w.heap.size w wr
set_option maxRecDepth 100000 in
set_option maxHeartbeats 1600000 in
theorem Entry_out (S : Nat) (lo hi : Nat) (a : Option Addr) (n cap : Nat) (i j k : Int) (w : World) (he : cubErr S lo hi n = 0) (hx : ¬ ((0 ≤ i ∧ i < S) ∧ (0 ≤ j ∧ j < S) ∧ (0 ≤ k ∧ k < S))) :
    Calls Try.prog 91 #[.agg #[.int .i64 S, .float .f32 lo, .float .f32 hi, .slice a n cap], .int .i64 i, .int .i64 j, .int .i64 k] w fun e w' =>
      e = .returned (.tuple #[.agg #[.float .f32 0, .float .f32 0, .float .f32 0], .int .i64 5]) ∧ Below w.heap.size w w' := by
  have HE := Lib.hid he
  have HX := Lib.hid hx
  clear he hx
  obtain ⟨size, hs⟩ : ∃ size : Int, size = S := ⟨_, rfl⟩
  rw [← hs] at HX HE ⊢
  clear hs
  go_enter Try.func91, Try.ntmps91
  go_upto_region 1 with fail
  refine wp_world (fun W hW => ?_)
  have CB : Blk W w.heap.size [.int .i64 size, .float .f32 lo, .float .f32 hi, .slice a n cap] := by rw [hW]; exact (Blk.new _ _ _ _ rfl).alloc _
  have ZB : Blk W (w.heap.size + 1) [.float .f32 0, .float .f32 0, .float .f32 0] := by rw [hW]; exact Blk.new _ _ _ _ (by simp)
  have BW : Below w.heap.size w W := by rw [hW]; (repeat (first | exact Below.refl _ _ | assumption | (refine Below.setCell ?_ (by first | (simp; done) | (simp; omega) | omega) _) | (refine Below.drew ?_) | (refine below_drewN ?_ _) | (refine Below.alloc ?_ (by first | (simp; done) | (simp; omega) | omega) _) | (refine Below.trans ?_ (Below.mono (by assumption) (by first | (simp; done) | (simp; omega) | omega)))))
  clear hW
  have c0 := CB.c 0 _ rfl; have c1 := CB.c 1 _ rfl; have c2 := CB.c 2 _ rfl; have c3 := CB.c 3 _ rfl; have cl := CB.lt
  have HB := Lib.hid (And.intro CB (And.intro ZB BW))
  clear CB ZB BW
  go_wp2_with fail
  refine (CuCheck_any _ _ _ _ _ _ _).mono ?_
  rintro e w2 ⟨rfl, hb2⟩
  have C2 := HB.out.1.past hb2
  have Z2 := HB.out.2.1.past hb2
  have B2 := HB.out.2.2.trans (hb2.mono HB.out.2.2.size)
  clear HB hb2 c0 c1 c2 c3 cl
  have z0 := Z2.c 0 _ rfl; have z1 := Z2.c 1 _ rfl; have z2 := Z2.c 2 _ rfl; have zf := Z2.f; have zl := Z2.lt
  rw [HE.out]
  have HR0 : Hid (EnR w w2 [.int .i64 size, .float .f32 lo, .float .f32 hi, .slice a n cap]) := ⟨C2, Z2, B2⟩
  clear C2 Z2 B2 z0 z1 z2 zf zl HE
  go_wp2_with fail
  go_loopw [23] (fun s23 wr => ∃ r : Nat, r ≤ 3 ∧ s23 = .int .i64 r ∧ EnR w wr [.int .i64 size, .float .f32 lo, .float .f32 hi, .slice a n cap] ∧ ∀ t, t < r → 0 ≤ threeI i j k t ∧ threeI i j k t < size) (fun s23 _ => 3 - (intOf s23).toNat)
  case atStart => exact ⟨0, by omega, rfl, HR0.out, fun t ht => by omega⟩
  case round =>
    obtain ⟨r, hr, rfl, hR, ht⟩ := hrel
    have HR := Lib.hid hR; have HT := Lib.hid ht
    clear hR ht HR0
    by_cases hr3 : r < 3
    · have i3 : (r : Int) < 3 := by omega
      obtain ⟨v, hv⟩ : ∃ v, v = threeI i j k r := ⟨_, rfl⟩
      have jx : ∀ w, (Instr.index 132 (.agg #[.int .i64 i, .int .i64 j, .int .i64 k]) (.int .i64 (r : Int))).run Try.prog w = .ok (.int .i64 v) w := fun w => by
        rw [hv]
        rcases (show r = 0 ∨ r = 1 ∨ r = 2 by omega) with rfl | rfl | rfl <;> kernel_rfl
      have HV := Lib.hid hv
      clear hv
      have c0 := HR.out.c.c 0 _ rfl; have cl := HR.out.c.lt
      have z0 := HR.out.z.c 0 _ rfl; have z1 := HR.out.z.c 1 _ rfl; have z2 := HR.out.z.c 2 _ rfl; have zf := HR.out.z.f; have zl := HR.out.z.lt
      have B2 := HR.out.b
      by_cases hlow : v < 0
      · go_wp2_with fail
        refine bodyPost_ret (v := .tuple #[.agg #[.float .f32 0, .float .f32 0, .float .f32 0], .int .i64 5]) (by simp [results, Try.results91, go_sem, z0, z1, z2]) rfl ⟨rfl, ?_⟩
        (repeat (first | (with_reducible exact B2) | (refine Below.setCell ?_ (by first | (simp; done) | (simp; omega) | omega) _) | (refine Below.drew ?_)))
      · by_cases hhi : size ≤ v
        · go_wp2_with fail
          refine bodyPost_ret (v := .tuple #[.agg #[.float .f32 0, .float .f32 0, .float .f32 0], .int .i64 5]) (by simp [results, Try.results91, go_sem, z0, z1, z2]) rfl ⟨rfl, ?_⟩
          (repeat (first | (with_reducible exact B2) | (refine Below.setCell ?_ (by first | (simp; done) | (simp; omega) | omega) _) | (refine Below.drew ?_)))
        · clear z0 z1 z2 zf zl B2
          have HH := Lib.hid (show 0 ≤ v ∧ v < size by omega)
          go_wp2_with fail
          go_roundw
          case rel =>
            refine ⟨r + 1, by omega, by first | rfl | go_num, HR.out, fun t ht => ?_⟩
            by_cases e : t = r
            · subst e; rw [← HV.out]; exact HH.out
            · exact HT.out t (by omega)
          case measure => simp [intOf]; omega
    · obtain rfl : r = 3 := by omega
      exact absurd ⟨HT.out 0 (by omega), HT.out 1 (by omega), HT.out 2 (by omega)⟩ HX.out
set_option maxRecDepth 100000 in
set_option maxHeartbeats 1600000 in
theorem Entry_yes (S i j k : Nat) (lo hi b off n cap : Nat) (fs : Nat → Nat) (w : World) (he : cubErr S lo hi n = 0) (h1 : i < S) (h2 : j < S) (h3 : k < S) (hcap : n ≤ cap) (hc : Row w b off n fs) :
    Calls Try.prog 91 #[.agg #[.int .i64 S, .float .f32 lo, .float .f32 hi, .slice (some ⟨b, off, none⟩) n cap], .int .i64 i, .int .i64 j, .int .i64 k] w fun e w' =>
      e = .returned (.tuple #[.agg #[.float .f32 (cn .f32 (fs (3 * enI S i j k))), .float .f32 (cn .f32 (fs (3 * enI S i j k + 1))), .float .f32 (cn .f32 (fs (3 * enI S i j k + 2)))], .int .i64 0]) ∧ Below w.heap.size w w' := by
  obtain ⟨hS, hS0, hn, hpos, hnb⟩ := cub_ok_nat he
  have hbw : b < w.heap.size := hc.lt (by omega)
  have HT : Hid (∀ w', Below w.heap.size w w' → Calls Try.prog 125 #[.agg #[.int .i64 S, .float .f32 lo, .float .f32 hi, .slice (some ⟨b, off, none⟩) n cap], .int .i64 i, .int .i64 j, .int .i64 k] w' fun e w'' =>
      e = .returned (.agg #[.float .f32 (fs (3 * enI S i j k)), .float .f32 (fs (3 * enI S i j k + 1)), .float .f32 (fs (3 * enI S i j k + 2))]) ∧ Below w'.heap.size w' w'') := fun w' hb => entry_any S i j k lo hi b off n cap fs w' hS h1 h2 h3 hn hcap (hc.below hb hbw)
  have HE := Lib.hid he
  have HI : Hid (∀ r, r < 3 → 0 ≤ threeI (i : Int) j k r ∧ threeI (i : Int) j k r < S) := fun r hr => by
    rcases (show r = 0 ∨ r = 1 ∨ r = 2 by omega) with rfl | rfl | rfl <;> simp [threeI] <;> omega
  clear he hS hS0 hn hpos hnb hbw hcap hc h1 h2 h3
  obtain ⟨size, hs⟩ : ∃ size : Int, size = S := ⟨_, rfl⟩
  obtain ⟨i', hi'⟩ : ∃ i' : Int, i' = i := ⟨_, rfl⟩
  obtain ⟨j', hj'⟩ : ∃ i' : Int, i' = j := ⟨_, rfl⟩
  obtain ⟨k', hk'⟩ : ∃ i' : Int, i' = k := ⟨_, rfl⟩
  rw [← hs, ← hi', ← hj', ← hk'] at HI HT ⊢
  rw [← hs] at HE
  clear hs hi' hj' hk'
  obtain ⟨a, ha⟩ : ∃ a : Option Addr, a = some ⟨b, off, none⟩ := ⟨_, rfl⟩
  rw [← ha] at HT ⊢
  clear ha
  go_enter Try.func91, Try.ntmps91
  go_upto_region 1 with fail
  refine wp_world (fun W hW => ?_)
  have CB : Blk W w.heap.size [.int .i64 size, .float .f32 lo, .float .f32 hi, .slice a n cap] := by rw [hW]; exact (Blk.new _ _ _ _ rfl).alloc _
  have ZB : Blk W (w.heap.size + 1) [.float .f32 0, .float .f32 0, .float .f32 0] := by rw [hW]; exact Blk.new _ _ _ _ (by simp)
  have BW : Below w.heap.size w W := by rw [hW]; (repeat (first | exact Below.refl _ _ | assumption | (refine Below.setCell ?_ (by first | (simp; done) | (simp; omega) | omega) _) | (refine Below.drew ?_) | (refine below_drewN ?_ _) | (refine Below.alloc ?_ (by first | (simp; done) | (simp; omega) | omega) _) | (refine Below.trans ?_ (Below.mono (by assumption) (by first | (simp; done) | (simp; omega) | omega)))))
  clear hW
  have c0 := CB.c 0 _ rfl; have c1 := CB.c 1 _ rfl; have c2 := CB.c 2 _ rfl; have c3 := CB.c 3 _ rfl; have cl := CB.lt
  have HB := Lib.hid (And.intro CB (And.intro ZB BW))
  clear CB ZB BW
  go_wp2_with fail
  refine (CuCheck_any _ _ _ _ _ _ _).mono ?_
  rintro e w2 ⟨rfl, hb2⟩
  have C2 := HB.out.1.past hb2
  have Z2 := HB.out.2.1.past hb2
  have B2 := HB.out.2.2.trans (hb2.mono HB.out.2.2.size)
  clear HB hb2 c0 c1 c2 c3 cl
  have z0 := Z2.c 0 _ rfl; have z1 := Z2.c 1 _ rfl; have z2 := Z2.c 2 _ rfl; have zf := Z2.f; have zl := Z2.lt
  rw [HE.out]
  have HR0 : Hid (EnR w w2 [.int .i64 size, .float .f32 lo, .float .f32 hi, .slice a n cap]) := ⟨C2, Z2, B2⟩
  clear C2 Z2 B2 z0 z1 z2 zf zl HE
  go_wp2_with fail
  go_loopw [23] (fun s23 wr => ∃ r : Nat, r ≤ 3 ∧ s23 = .int .i64 r ∧ EnR w wr [.int .i64 size, .float .f32 lo, .float .f32 hi, .slice a n cap]) (fun s23 _ => 3 - (intOf s23).toNat)
  case atStart => exact ⟨0, by omega, rfl, HR0.out⟩
  case round =>
    obtain ⟨r, hr, rfl, hR⟩ := hrel
    have HR := Lib.hid hR
    clear hR HR0
    by_cases hr3 : r < 3
    · have i3 : (r : Int) < 3 := by omega
      obtain ⟨v, hv⟩ : ∃ v, v = threeI i' j' k' r := ⟨_, rfl⟩
      have jx : ∀ w, (Instr.index 132 (.agg #[.int .i64 i', .int .i64 j', .int .i64 k']) (.int .i64 (r : Int))).run Try.prog w = .ok (.int .i64 v) w := fun w => by
        rw [hv]
        rcases (show r = 0 ∨ r = 1 ∨ r = 2 by omega) with rfl | rfl | rfl <;> kernel_rfl
      have hh := HI.out r hr3
      rw [← hv] at hh
      obtain ⟨v0, v1⟩ := hh
      have v2 : ¬ v < 0 := by omega
      have v3 : ¬ size ≤ v := by omega
      clear hv
      have c0 := HR.out.c.c 0 _ rfl; have cl := HR.out.c.lt
      go_wp2_with fail
      go_roundw
      case rel => exact ⟨r + 1, by omega, by first | rfl | go_num, HR.out⟩
      case measure => simp [intOf]; omega
    · obtain rfl : r = 3 := by omega
      clear hr hr3 HI
      have c0 := HR.out.c.c 0 _ rfl; have c1 := HR.out.c.c 1 _ rfl; have c2 := HR.out.c.c 2 _ rfl; have c3 := HR.out.c.c 3 _ rfl; have cl := HR.out.c.lt
      go_wp2_with fail
      refine (HT.out _ HR.out.b).mono ?_
      rintro e w3 ⟨rfl, hb3⟩
      have H3 := Lib.hid (And.intro (HR.out.z.past hb3) (HR.out.b.trans (hb3.mono HR.out.b.size)))
      clear HR hb3 c0 c1 c2 c3 cl
      go_wp2_with fail
      refine (cleaned_any _ _ _ _).mono ?_
      rintro e w4 ⟨rfl, hb4⟩
      have Z4 := H3.out.1.past hb4
      have B4 := H3.out.2.trans (hb4.mono H3.out.2.size)
      clear H3 hb4
      have z0 := Z4.c 0 _ rfl; have z1 := Z4.c 1 _ rfl; have z2 := Z4.c 2 _ rfl; have zf := Z4.f; have zl := Z4.lt
      clear Z4
      go_wp2_with fail
      refine bodyPost_ret (v := .tuple #[.agg #[.float .f32 (cn .f32 (fs (3 * enI S i j k))), .float .f32 (cn .f32 (fs (3 * enI S i j k + 1))), .float .f32 (cn .f32 (fs (3 * enI S i j k + 2)))], .int .i64 0]) (by simp [results, Try.results91, go_sem, z0, z1, z2]) rfl ⟨rfl, ?_⟩
      (repeat (first | (with_reducible exact B4) | (refine Below.setCell ?_ (by first | (simp; done) | (simp; omega) | omega) _) | (refine Below.drew ?_)))
end Go.Proofs.Ytkmjboffjhcoaaa
