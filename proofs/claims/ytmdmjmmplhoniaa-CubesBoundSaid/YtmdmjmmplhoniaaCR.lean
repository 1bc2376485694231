/- cube.Tetra, cube.Linear, cube.Place, whole. No condition but what each theorem names. (with: CuS) -/
import Derived.Test.YtmdmjmmplhoniaaCO
import Derived.Test.YtmdmjmmplhoniaaCA
namespace Go.Proofs.Ytmdmjmmplhoniaa
open Go.RowKit
set_option maxRecDepth 100000 in
set_option maxHeartbeats 1600000 in
theorem Tetra_no (size : Int) (lo hi : Nat) (a : Option Addr) (n cap : Nat) (p : Nat → Nat) (w : World) (hE : cubErr size lo hi n ≠ 0) :
    Calls Try.prog 10 #[.agg #[.int .i64 size, .float .f32 lo, .float .f32 hi, .slice a n cap], .agg #[.float .f32 (p 0), .float .f32 (p 1), .float .f32 (p 2), .float .f32 (p 3)]] w fun e w' =>
      e = .returned (.tuple #[.agg #[.float .f32 0, .float .f32 0, .float .f32 0, .float .f32 0], .int .i64 (cubErr size lo hi n)]) ∧ Below w.heap.size w w' := by
  have hc : (cubErr size lo hi n != 0) = true := by simpa using hE
  clear hE
  obtain ⟨E, hEE⟩ : ∃ E, E = cubErr size lo hi n := ⟨_, rfl⟩
  rw [← hEE] at hc ⊢
  have HE := Lib.hid hEE
  clear hEE
  go_enter Try.func10, Try.ntmps10
  go_upto_region 1 with fail
  refine wp_world (fun W hW => ?_)
  have CB : Blk W w.heap.size [.int .i64 size, .float .f32 lo, .float .f32 hi, .slice a n cap] := by rw [hW]; exact ((Blk.new _ _ _ _ rfl).alloc _).alloc _
  have ZB : Blk W (w.heap.size + 2) [.float .f32 0, .float .f32 0, .float .f32 0, .float .f32 0] := by rw [hW]; exact Blk.new _ _ _ _ (by simp)
  have BW : Below w.heap.size w W := by rw [hW]; (repeat (first | exact Below.refl _ _ | assumption | (refine Below.setCell ?_ (by first | (simp; done) | (simp; omega) | omega) _) | (refine Below.drew ?_) | (refine below_drewN ?_ _) | (refine Below.alloc ?_ (by first | (simp; done) | (simp; omega) | omega) _) | (refine Below.trans ?_ (Below.mono (by assumption) (by first | (simp; done) | (simp; omega) | omega)))))
  clear hW
  have c0 := CB.c 0 _ rfl; have c1 := CB.c 1 _ rfl; have c2 := CB.c 2 _ rfl; have c3 := CB.c 3 _ rfl; have cl := CB.lt
  have HB := Lib.hid (And.intro ZB BW)
  clear CB ZB BW
  go_wp2_with fail
  refine (CuCheck_any _ _ _ _ _ _ _).mono ?_
  rintro e w2 ⟨rfl, hb2⟩
  rw [← HE.out]
  have Z2 := HB.out.1.past hb2
  have B2 := HB.out.2.trans (hb2.mono HB.out.2.size)
  clear HB hb2 c0 c1 c2 c3 cl
  have z0 := Z2.c 0 _ rfl; have z1 := Z2.c 1 _ rfl; have z2 := Z2.c 2 _ rfl; have z3 := Z2.c 3 _ rfl; have zf := Z2.f; have zl := Z2.lt
  clear Z2
  go_wp2_with fail
  refine bodyPost_ret (v := .tuple #[.agg #[.float .f32 0, .float .f32 0, .float .f32 0, .float .f32 0], .int .i64 E]) (by simp [results, Try.results10, go_sem, z0, z1, z2, z3]) rfl ⟨rfl, ?_⟩
  (repeat (first | (with_reducible exact B2) | (refine Below.setCell ?_ (by first | (simp; done) | (simp; omega) | omega) _) | (refine Below.drew ?_)))
set_option maxRecDepth 100000 in
set_option maxHeartbeats 1600000 in
theorem Tetra_yes (S : Nat) (lo hi b off n cap : Nat) (fs p : Nat → Nat) (w : World) (he : cubErr S lo hi n = 0) (hcap : n ≤ cap) (hc : Row w b off n fs) :
    Calls Try.prog 10 #[.agg #[.int .i64 S, .float .f32 lo, .float .f32 hi, .slice (some ⟨b, off, none⟩) n cap], .agg #[.float .f32 (p 0), .float .f32 (p 1), .float .f32 (p 2), .float .f32 (p 3)]] w fun e w' =>
      e = .returned (.tuple #[.agg #[.float .f32 (tetF S lo hi fs p 0), .float .f32 (tetF S lo hi fs p 1), .float .f32 (tetF S lo hi fs p 2), .float .f32 (tetF S lo hi fs p 3)], .int .i64 0]) ∧ Below w.heap.size w w' := by
  obtain ⟨hS, hS0, hn, hpos, hnb⟩ := cub_ok_nat he
  have hbw : b < w.heap.size := hc.lt (by omega)
  obtain ⟨⟨t1, t2⟩, -⟩ := cubErr_ok he
  have HT : Hid (∀ w', Below w.heap.size w w' → Calls Try.prog 19 #[.agg #[.int .i64 S, .float .f32 lo, .float .f32 hi, .slice (some ⟨b, off, none⟩) n cap], .agg #[.float .f32 (p 0), .float .f32 (p 1), .float .f32 (p 2), .float .f32 (p 3)]] w' fun e w'' =>
      e = .returned (.agg #[.float .f32 (tetF S lo hi fs p 0), .float .f32 (tetF S lo hi fs p 1), .float .f32 (tetF S lo hi fs p 2), .float .f32 (tetF S lo hi fs p 3)]) ∧ Below w'.heap.size w' w'') := fun w' hb => tetra_any S lo hi b off n cap fs p w' ⟨by omega, hS⟩ hn hcap (hc.below hb hbw)
  have HE := Lib.hid he
  clear he hS hS0 hn hpos hnb hbw hcap hc t1 t2
  go_enter Try.func10, Try.ntmps10
  go_upto_region 1 with fail
  refine wp_world (fun W hW => ?_)
  have CB : Blk W w.heap.size [.int .i64 S, .float .f32 lo, .float .f32 hi, .slice (some ⟨b, off, none⟩) n cap] := by rw [hW]; exact ((Blk.new _ _ _ _ rfl).alloc _).alloc _
  have PB : Blk W (w.heap.size + 1) [.float .f32 (p 0), .float .f32 (p 1), .float .f32 (p 2), .float .f32 (p 3)] := by rw [hW]; exact (Blk.new _ _ _ _ (by simp)).alloc _
  have ZB : Blk W (w.heap.size + 2) [.float .f32 0, .float .f32 0, .float .f32 0, .float .f32 0] := by rw [hW]; exact Blk.new _ _ _ _ (by simp)
  have BW : Below w.heap.size w W := by rw [hW]; (repeat (first | exact Below.refl _ _ | assumption | (refine Below.setCell ?_ (by first | (simp; done) | (simp; omega) | omega) _) | (refine Below.drew ?_) | (refine below_drewN ?_ _) | (refine Below.alloc ?_ (by first | (simp; done) | (simp; omega) | omega) _) | (refine Below.trans ?_ (Below.mono (by assumption) (by first | (simp; done) | (simp; omega) | omega)))))
  clear hW
  have c0 := CB.c 0 _ rfl; have c1 := CB.c 1 _ rfl; have c2 := CB.c 2 _ rfl; have c3 := CB.c 3 _ rfl; have cl := CB.lt
  have HB := Lib.hid (And.intro CB (And.intro PB (And.intro ZB BW)))
  clear CB PB ZB BW
  go_wp2_with fail
  refine (CuCheck_any _ _ _ _ _ _ _).mono ?_
  rintro e w2 ⟨rfl, hb2⟩
  rw [HE.out]
  have H2 := Lib.hid (And.intro (HB.out.1.past hb2) (And.intro (HB.out.2.1.past hb2) (And.intro (HB.out.2.2.1.past hb2) (HB.out.2.2.2.trans (hb2.mono HB.out.2.2.2.size)))))
  clear HB hb2 c0 c1 c2 c3 cl
  have c0 := H2.out.1.c 0 _ rfl; have c1 := H2.out.1.c 1 _ rfl; have c2 := H2.out.1.c 2 _ rfl; have c3 := H2.out.1.c 3 _ rfl; have cl := H2.out.1.lt
  have p0 := H2.out.2.1.c 0 _ rfl; have p1 := H2.out.2.1.c 1 _ rfl; have p2 := H2.out.2.1.c 2 _ rfl; have p3 := H2.out.2.1.c 3 _ rfl; have pl := H2.out.2.1.lt
  go_wp2_with fail
  refine (HT.out _ H2.out.2.2.2).mono ?_
  rintro e w3 ⟨rfl, hb3⟩
  have Z3 := H2.out.2.2.1.past hb3
  have B3 := H2.out.2.2.2.trans (hb3.mono H2.out.2.2.2.size)
  clear H2 hb3 c0 c1 c2 c3 cl p0 p1 p2 p3 pl
  have z0 := Z3.c 0 _ rfl; have z1 := Z3.c 1 _ rfl; have z2 := Z3.c 2 _ rfl; have z3 := Z3.c 3 _ rfl; have zf := Z3.f; have zl := Z3.lt
  clear Z3
  go_wp2_with fail
  refine bodyPost_ret (v := .tuple #[.agg #[.float .f32 (tetF S lo hi fs p 0), .float .f32 (tetF S lo hi fs p 1), .float .f32 (tetF S lo hi fs p 2), .float .f32 (tetF S lo hi fs p 3)], .int .i64 0]) (by simp [results, Try.results10, go_sem, z0, z1, z2, z3]) rfl ⟨rfl, ?_⟩
  (repeat (first | (with_reducible exact B3) | (refine Below.setCell ?_ (by first | (simp; done) | (simp; omega) | omega) _) | (refine Below.drew ?_)))
set_option maxRecDepth 100000 in
set_option maxHeartbeats 1600000 in
theorem Linear_no (size : Int) (lo hi : Nat) (a : Option Addr) (n cap : Nat) (p : Nat → Nat) (w : World) (hE : cubErr size lo hi n ≠ 0) :
    Calls Try.prog 11 #[.agg #[.int .i64 size, .float .f32 lo, .float .f32 hi, .slice a n cap], .agg #[.float .f32 (p 0), .float .f32 (p 1), .float .f32 (p 2), .float .f32 (p 3)]] w fun e w' =>
      e = .returned (.tuple #[.agg #[.float .f32 0, .float .f32 0, .float .f32 0, .float .f32 0], .int .i64 (cubErr size lo hi n)]) ∧ Below w.heap.size w w' := by
  have hc : (cubErr size lo hi n != 0) = true := by simpa using hE
  clear hE
  obtain ⟨E, hEE⟩ : ∃ E, E = cubErr size lo hi n := ⟨_, rfl⟩
  rw [← hEE] at hc ⊢
  have HE := Lib.hid hEE
  clear hEE
  go_enter Try.func11, Try.ntmps11
  go_upto_region 1 with fail
  refine wp_world (fun W hW => ?_)
  have CB : Blk W w.heap.size [.int .i64 size, .float .f32 lo, .float .f32 hi, .slice a n cap] := by rw [hW]; exact ((Blk.new _ _ _ _ rfl).alloc _).alloc _
  have ZB : Blk W (w.heap.size + 2) [.float .f32 0, .float .f32 0, .float .f32 0, .float .f32 0] := by rw [hW]; exact Blk.new _ _ _ _ (by simp)
  have BW : Below w.heap.size w W := by rw [hW]; (repeat (first | exact Below.refl _ _ | assumption | (refine Below.setCell ?_ (by first | (simp; done) | (simp; omega) | omega) _) | (refine Below.drew ?_) | (refine below_drewN ?_ _) | (refine Below.alloc ?_ (by first | (simp; done) | (simp; omega) | omega) _) | (refine Below.trans ?_ (Below.mono (by assumption) (by first | (simp; done) | (simp; omega) | omega)))))
  clear hW
  have c0 := CB.c 0 _ rfl; have c1 := CB.c 1 _ rfl; have c2 := CB.c 2 _ rfl; have c3 := CB.c 3 _ rfl; have cl := CB.lt
  have HB := Lib.hid (And.intro ZB BW)
  clear CB ZB BW
  go_wp2_with fail
  refine (CuCheck_any _ _ _ _ _ _ _).mono ?_
  rintro e w2 ⟨rfl, hb2⟩
  rw [← HE.out]
  have Z2 := HB.out.1.past hb2
  have B2 := HB.out.2.trans (hb2.mono HB.out.2.size)
  clear HB hb2 c0 c1 c2 c3 cl
  have z0 := Z2.c 0 _ rfl; have z1 := Z2.c 1 _ rfl; have z2 := Z2.c 2 _ rfl; have z3 := Z2.c 3 _ rfl; have zf := Z2.f; have zl := Z2.lt
  clear Z2
  go_wp2_with fail
  refine bodyPost_ret (v := .tuple #[.agg #[.float .f32 0, .float .f32 0, .float .f32 0, .float .f32 0], .int .i64 E]) (by simp [results, Try.results11, go_sem, z0, z1, z2, z3]) rfl ⟨rfl, ?_⟩
  (repeat (first | (with_reducible exact B2) | (refine Below.setCell ?_ (by first | (simp; done) | (simp; omega) | omega) _) | (refine Below.drew ?_)))
set_option maxRecDepth 100000 in
set_option maxHeartbeats 1600000 in
theorem Linear_yes (S : Nat) (lo hi b off n cap : Nat) (fs p : Nat → Nat) (w : World) (he : cubErr S lo hi n = 0) (hcap : n ≤ cap) (hc : Row w b off n fs) :
    Calls Try.prog 11 #[.agg #[.int .i64 S, .float .f32 lo, .float .f32 hi, .slice (some ⟨b, off, none⟩) n cap], .agg #[.float .f32 (p 0), .float .f32 (p 1), .float .f32 (p 2), .float .f32 (p 3)]] w fun e w' =>
      e = .returned (.tuple #[.agg #[.float .f32 (linF S lo hi fs p 0), .float .f32 (linF S lo hi fs p 1), .float .f32 (linF S lo hi fs p 2), .float .f32 (linF S lo hi fs p 3)], .int .i64 0]) ∧ Below w.heap.size w w' := by
  obtain ⟨hS, hS0, hn, hpos, hnb⟩ := cub_ok_nat he
  have hbw : b < w.heap.size := hc.lt (by omega)
  obtain ⟨⟨t1, t2⟩, -⟩ := cubErr_ok he
  have HT : Hid (∀ w', Below w.heap.size w w' → Calls Try.prog 20 #[.agg #[.int .i64 S, .float .f32 lo, .float .f32 hi, .slice (some ⟨b, off, none⟩) n cap], .agg #[.float .f32 (p 0), .float .f32 (p 1), .float .f32 (p 2), .float .f32 (p 3)]] w' fun e w'' =>
      e = .returned (.agg #[.float .f32 (linF S lo hi fs p 0), .float .f32 (linF S lo hi fs p 1), .float .f32 (linF S lo hi fs p 2), .float .f32 (linF S lo hi fs p 3)]) ∧ Below w'.heap.size w' w'') := fun w' hb => linear_any S lo hi b off n cap fs p w' ⟨by omega, hS⟩ hn hcap (hc.below hb hbw)
  have HE := Lib.hid he
  clear he hS hS0 hn hpos hnb hbw hcap hc t1 t2
  go_enter Try.func11, Try.ntmps11
  go_upto_region 1 with fail
  refine wp_world (fun W hW => ?_)
  have CB : Blk W w.heap.size [.int .i64 S, .float .f32 lo, .float .f32 hi, .slice (some ⟨b, off, none⟩) n cap] := by rw [hW]; exact ((Blk.new _ _ _ _ rfl).alloc _).alloc _
  have PB : Blk W (w.heap.size + 1) [.float .f32 (p 0), .float .f32 (p 1), .float .f32 (p 2), .float .f32 (p 3)] := by rw [hW]; exact (Blk.new _ _ _ _ (by simp)).alloc _
  have ZB : Blk W (w.heap.size + 2) [.float .f32 0, .float .f32 0, .float .f32 0, .float .f32 0] := by rw [hW]; exact Blk.new _ _ _ _ (by simp)
  have BW : Below w.heap.size w W := by rw [hW]; (repeat (first | exact Below.refl _ _ | assumption | (refine Below.setCell ?_ (by first | (simp; done) | (simp; omega) | omega) _) | (refine Below.drew ?_) | (refine below_drewN ?_ _) | (refine Below.alloc ?_ (by first | (simp; done) | (simp; omega) | omega) _) | (refine Below.trans ?_ (Below.mono (by assumption) (by first | (simp; done) | (simp; omega) | omega)))))
  clear hW
  have c0 := CB.c 0 _ rfl; have c1 := CB.c 1 _ rfl; have c2 := CB.c 2 _ rfl; have c3 := CB.c 3 _ rfl; have cl := CB.lt
  have HB := Lib.hid (And.intro CB (And.intro PB (And.intro ZB BW)))
  clear CB PB ZB BW
  go_wp2_with fail
  refine (CuCheck_any _ _ _ _ _ _ _).mono ?_
  rintro e w2 ⟨rfl, hb2⟩
  rw [HE.out]
  have H2 := Lib.hid (And.intro (HB.out.1.past hb2) (And.intro (HB.out.2.1.past hb2) (And.intro (HB.out.2.2.1.past hb2) (HB.out.2.2.2.trans (hb2.mono HB.out.2.2.2.size)))))
  clear HB hb2 c0 c1 c2 c3 cl
  have c0 := H2.out.1.c 0 _ rfl; have c1 := H2.out.1.c 1 _ rfl; have c2 := H2.out.1.c 2 _ rfl; have c3 := H2.out.1.c 3 _ rfl; have cl := H2.out.1.lt
  have p0 := H2.out.2.1.c 0 _ rfl; have p1 := H2.out.2.1.c 1 _ rfl; have p2 := H2.out.2.1.c 2 _ rfl; have p3 := H2.out.2.1.c 3 _ rfl; have pl := H2.out.2.1.lt
  go_wp2_with fail
  refine (HT.out _ H2.out.2.2.2).mono ?_
  rintro e w3 ⟨rfl, hb3⟩
  have Z3 := H2.out.2.2.1.past hb3
  have B3 := H2.out.2.2.2.trans (hb3.mono H2.out.2.2.2.size)
  clear H2 hb3 c0 c1 c2 c3 cl p0 p1 p2 p3 pl
  have z0 := Z3.c 0 _ rfl; have z1 := Z3.c 1 _ rfl; have z2 := Z3.c 2 _ rfl; have z3 := Z3.c 3 _ rfl; have zf := Z3.f; have zl := Z3.lt
  clear Z3
  go_wp2_with fail
  refine bodyPost_ret (v := .tuple #[.agg #[.float .f32 (linF S lo hi fs p 0), .float .f32 (linF S lo hi fs p 1), .float .f32 (linF S lo hi fs p 2), .float .f32 (linF S lo hi fs p 3)], .int .i64 0]) (by simp [results, Try.results11, go_sem, z0, z1, z2, z3]) rfl ⟨rfl, ?_⟩
  (repeat (first | (with_reducible exact B3) | (refine Below.setCell ?_ (by first | (simp; done) | (simp; omega) | omega) _) | (refine Below.drew ?_)))
end Go.Proofs.Ytmdmjmmplhoniaa

namespace Go.Proofs.Ytmdmjmmplhoniaa
open Go.RowKit
def threeI (i j k : Int) (r : Nat) : Int := if r = 0 then i else if r = 1 then j else k
/-- What stands while the places are looked at. -/
structure EnR (w wr : World) (L : List Value) : Prop where
  c : Blk wr w.heap.size L
  z : Blk wr (w.heap.size + 1) [.float .f32 0, .float .f32 0, .float .f32 0]
  b : Below w.heap.size w wr
end Go.Proofs.Ytmdmjmmplhoniaa
