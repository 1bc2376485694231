/- finish.ReadPicture of a text that is a picture. Conditions: the library's variables read as listed (LibW). -/
import Derived.Test.YtcdcfkgdgimmcaaDoorRpA
namespace Go.Proofs.YtcdcfkgdgimmcaaDoor
open Go Go.RowKit
/-- The value at place i of a picture. -/
def picF (r : List UInt8) (i : Nat) : Nat := if i % 4 < 3 then valueF ((r.getD (i / 4 * 3 + i % 4) 0).toNat : Int) 8 else 1065353216
theorem pic_good {k1 k2 k3 k4 k5 k6 : Bool} {W H : Int} {n : Nat} (h : true = (k1 && (k2 && (k3 && (k4 && (k5 && (k6 && (sideB W && (sideB H && decide ((n : Int) = 3 * W * H)))))))))) :
    k1 = true ∧ k2 = true ∧ k3 = true ∧ k4 = true ∧ k5 = true ∧ k6 = true ∧ 1 ≤ W ∧ W ≤ 256 ∧ 1 ≤ H ∧ H ≤ 256 ∧ (n : Int) = 3 * W * H := by
  cases k1 <;> cases k2 <;> cases k3 <;> cases k4 <;> cases k5 <;> cases k6 <;> simp_all [sideB]
set_option maxRecDepth 100000 in
set_option maxHeartbeats 6400000 in
theorem ReadPicture_large (s : ByteArray) (w : World) (hL : LibW w) (hs : s.size ≤ 1048576) (hp : picB s.data.toList = true) (hE : 16384 < intV (picD s.data.toList).1 * intV (picD s.data.toList).2.1) : Calls Tryd.prog 30 #[.string s] w fun e w' => e = .returned (.tuple #[zeroF, .int .i64 4]) ∧ Below w.heap.size w w' := by
  obtain ⟨h1, z1, r1, r2, a, b, k1, k2, k3, k4, k5, k6, W, H, X⟩ := picX_of s hs
  have HX := Lib.hid X
  have hok := X.ok
  rw [hp] at hok
  obtain ⟨w1, w2⟩ := X.W0
  obtain ⟨y1, y2⟩ := X.H0
  obtain ⟨eW, eH⟩ := X.vs hp
  rw [← eW, ← eH] at hE
  clear X eW eH
  have hs' : ¬ (1048576 : Int) < (s.size : Int) := by omega
  have HL := Lib.hid (hL.past (show Below w.heap.size w (w.alloc (.cells #[.int .i64 0, .int .i64 0, .int .i64 0, .int .i64 0, .slice none 0 0] 38)) by (repeat (first | exact Below.refl _ _ | assumption | (refine Below.setCell ?_ (by first | (simp; done) | (simp; omega) | omega) _) | (refine Below.drew ?_) | (refine below_drewN ?_ _) | (refine Below.alloc ?_ (by first | (simp; done) | (simp; omega) | omega) _) | (refine Below.trans ?_ (Below.mono (by assumption) (by first | (simp; done) | (simp; omega) | omega)))))))
  have HK := Lib.hid hok
  have HE := Lib.hid hE
  clear hL hp hok hs hE
  go_enter Tryd.func30, Tryd.ntmps30
  go_upto_region 5 with (first | (go_at_call 32; refine (HX.out.c1 _).mono ?_; rintro e w' ⟨rfl, rfl⟩) | (go_at_call 33; refine (HX.out.c2 _ HL.out).mono ?_; rintro e v1 ⟨rfl, hb1⟩))
  have H1 : Hid (LibW v1 ∧ Blk v1 w.heap.size [.int .i64 0, .int .i64 0, .int .i64 0, .int .i64 0, .slice none 0 0] ∧ Below w.heap.size w v1) := Lib.hid ⟨HL.out.past hb1, (Blk.new _ _ _ _ rfl).past hb1, Below.trans (by (repeat (first | exact Below.refl _ _ | assumption | (refine Below.setCell ?_ (by first | (simp; done) | (simp; omega) | omega) _) | (refine Below.drew ?_) | (refine below_drewN ?_ _) | (refine Below.alloc ?_ (by first | (simp; done) | (simp; omega) | omega) _) | (refine Below.trans ?_ (Below.mono (by assumption) (by first | (simp; done) | (simp; omega) | omega)))))) (hb1.mono (by simp))⟩
  clear hb1 HL
  go_upto_region 7 with (first | (go_at_call 32; refine (HX.out.c3 _).mono ?_; rintro e w' ⟨rfl, rfl⟩) | (go_at_call 33; refine (HX.out.c4 _ H1.out.1).mono ?_; rintro e v2 ⟨rfl, hb2⟩))
  have H2 : Hid (LibW v2 ∧ Blk v2 w.heap.size [.int .i64 0, .int .i64 0, .int .i64 0, .int .i64 0, .slice none 0 0] ∧ Below w.heap.size w v2) := Lib.hid ⟨H1.out.1.past hb2, H1.out.2.1.past hb2, H1.out.2.2.trans (hb2.mono H1.out.2.2.size)⟩
  clear hb2 H1
  go_upto_region 8 with (go_at_call 59; refine (HX.out.c5 _ H2.out.1).mono ?_; rintro e v3 ⟨rfl, hb3⟩)
  have H3 : Hid (LibW v3 ∧ Blk v3 w.heap.size [.int .i64 0, .int .i64 0, .int .i64 0, .int .i64 0, .slice none 0 0] ∧ Below w.heap.size w v3) := Lib.hid ⟨H2.out.1.past hb3, H2.out.2.1.past hb3, H2.out.2.2.trans (hb3.mono H2.out.2.2.size)⟩
  clear hb3 H2
  go_upto_region 9 with (go_at_call 59; refine (HX.out.c6 _ H3.out.1).mono ?_; rintro e v4 ⟨rfl, hb4⟩)
  have H4 : Hid (Blk v4 w.heap.size [.int .i64 0, .int .i64 0, .int .i64 0, .int .i64 0, .slice none 0 0] ∧ Below w.heap.size w v4) := Lib.hid ⟨H3.out.2.1.past hb4, H3.out.2.2.trans (hb4.mono H3.out.2.2.size)⟩
  clear hb4 H3 HX
  have q0 := H4.out.1.c 0 _ rfl; have q1 := H4.out.1.c 1 _ rfl; have q2 := H4.out.1.c 2 _ rfl; have q3 := H4.out.1.c 3 _ rfl; have q4 := H4.out.1.c 4 _ rfl
  have qf := H4.out.1.f
  have ql := H4.out.1.lt
  obtain ⟨rfl, rfl, rfl, rfl, rfl, rfl, ha, hb, hc, hd, hn⟩ := pic_good HK.out
  clear HK
  have hn' : ((r2.size : Int) != 3 * W * H) = false := by rw [hn]; simp
  have hreg : regErr 0 0 W H = 4 := by unfold regErr; rw [if_neg (by omega), if_pos HE.out]
  have HR := Lib.hid hreg
  have HN := Lib.hid hn
  obtain ⟨m1, m2⟩ := mul_bd3 ha hb hc hd
  clear hn hreg
  go_upto_region 13 with (go_at_call 60; refine (CheckRegion_any _ _ _ _ _).mono ?_; rintro e v5 ⟨rfl, hb5⟩; rw [HR.out])
  have H5 : Hid (Blk v5 w.heap.size [.int .i64 0, .int .i64 0, .int .i64 0, .int .i64 0, .slice none 0 0] ∧ Below w.heap.size w v5) := Lib.hid ⟨(H4.out.1.past ((Below.refl _ _).alloc (Nat.le_refl _) _)).past hb5, H4.out.2.trans (Below.mono (Below.trans (show Below v4.heap.size v4 _ by (repeat (first | exact Below.refl _ _ | assumption | (refine Below.setCell ?_ (by first | (simp; done) | (simp; omega) | omega) _) | (refine Below.drew ?_) | (refine below_drewN ?_ _) | (refine Below.alloc ?_ (by first | (simp; done) | (simp; omega) | omega) _) | (refine Below.trans ?_ (Below.mono (by assumption) (by first | (simp; done) | (simp; omega) | omega)))))) (hb5.mono (by simp))) H4.out.2.size)⟩
  clear hb5 H4 q0 q1 q2 q3 q4 qf ql
  have q0 := H5.out.1.c 0 _ rfl; have q1 := H5.out.1.c 1 _ rfl; have q2 := H5.out.1.c 2 _ rfl; have q3 := H5.out.1.c 3 _ rfl; have q4 := H5.out.1.c 4 _ rfl
  have qf := H5.out.1.f
  have ql := H5.out.1.lt
  go_wp2_with fail
  refine bodyPost_ret (v := .tuple #[.agg #[.int .i64 0, .int .i64 0, .int .i64 0, .int .i64 0, .slice none 0 0], .int .i64 4]) (by simp [results, Tryd.results30, go_sem, *]) rfl ⟨rfl, ?_⟩
  (repeat (first | exact Below.refl _ _ | assumption | (refine Below.setCell ?_ (by first | (simp; done) | (simp; omega) | omega) _) | (refine Below.drew ?_) | (refine below_drewN ?_ _) | (refine Below.alloc ?_ (by first | (simp; done) | (simp; omega) | omega) _) | (refine Below.trans ?_ (Below.mono (by assumption) (by first | (simp; done) | (simp; omega) | omega)))))
  exact H5.out.2
end Go.Proofs.YtcdcfkgdgimmcaaDoor
