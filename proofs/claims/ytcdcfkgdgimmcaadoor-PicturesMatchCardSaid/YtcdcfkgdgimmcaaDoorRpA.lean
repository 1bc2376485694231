/- finish.ReadPicture: the calls that its head makes, and the texts that are no picture. Conditions: the library's variables read as listed (LibW). -/
import Derived.Test.YtcdcfkgdgimmcaaDoorNtD
namespace Go.Proofs.YtcdcfkgdgimmcaaDoor
open Go Go.RowKit
/-- What the head of ReadPicture asks of a text. -/
structure PicX (s h1 z1 r1 r2 a b : ByteArray) (k1 k2 k3 k4 k5 k6 : Bool) (W H : Int) : Prop where
  c1 : ∀ w, Calls Tryd.prog 32 #[.string s, .string ⟨#[80, 54, 10]⟩] w fun e w' => e = .returned (.tuple #[.string h1, .bool k1]) ∧ w = w'
  c2 : ∀ w, LibW w → Calls Tryd.prog 33 #[.string h1, .string ⟨#[10]⟩] w fun e w' => e = .returned (.tuple #[.string z1, .string r1, .bool k2]) ∧ Below w.heap.size w w'
  c3 : ∀ w, Calls Tryd.prog 32 #[.string r1, .string ⟨#[50, 53, 53, 10]⟩] w fun e w' => e = .returned (.tuple #[.string r2, .bool k3]) ∧ w = w'
  c4 : ∀ w, LibW w → Calls Tryd.prog 33 #[.string z1, .string ⟨#[32]⟩] w fun e w' => e = .returned (.tuple #[.string a, .string b, .bool k4]) ∧ Below w.heap.size w w'
  c5 : ∀ w, LibW w → Calls Tryd.prog 59 #[.string a, .int .i64 9] w fun e w' => e = .returned (.tuple #[.int .i64 W, .bool k5]) ∧ Below w.heap.size w w'
  c6 : ∀ w, LibW w → Calls Tryd.prog 59 #[.string b, .int .i64 9] w fun e w' => e = .returned (.tuple #[.int .i64 H, .bool k6]) ∧ Below w.heap.size w w'
  ok : picB s.data.toList = (k1 && (k2 && (k3 && (k4 && (k5 && (k6 && (sideB W && (sideB H && decide ((r2.size : Int) = 3 * W * H)))))))))
  W0 : -1000000000 < W ∧ W < 1000000000
  H0 : -1000000000 < H ∧ H < 1000000000
  rs : r2.data.toList = picR s.data.toList
  vs : picB s.data.toList = true → W = intV (picD s.data.toList).1 ∧ H = intV (picD s.data.toList).2.1
theorem intR_bd (l : List UInt8) : -1000000000 < intR l 9 ∧ intR l 9 < 1000000000 := by
  unfold intR
  cases h : intB l 9 with
  | false => simp
  | true =>
    have := intV_bd h
    simp only [if_true]
    omega
theorem cut_len (l sep : List UInt8) : (Lib.cut l sep).1.length ≤ l.length ∧ (Lib.cut l sep).2.1.length ≤ l.length := by
  unfold Lib.cut
  split
  · simp; omega
  · simp
theorem trimP_len (l p : List UInt8) : (Lib.trimPrefix l p).length ≤ l.length := by
  unfold Lib.trimPrefix
  split
  · simp
  · omega
theorem mk_size (l : List UInt8) : (⟨l.toArray⟩ : ByteArray).size = l.length := by rw [Lib.size_eq]
theorem intR_res {l : List UInt8} {w : World} {e : Ending} {w' : World} (h : IntRes l 9 w e w') : e = .returned (.tuple #[.int .i64 (intR l 9), .bool (intB l 9)]) ∧ Below w.heap.size w w' := h
theorem picX_of (s : ByteArray) (hs : s.size ≤ 1048576) : ∃ h1 z1 r1 r2 a b : ByteArray, ∃ k1 k2 k3 k4 k5 k6 : Bool, ∃ W H : Int, PicX s h1 z1 r1 r2 a b k1 k2 k3 k4 k5 k6 W H := by
  have l0 : s.data.toList.length ≤ 1048576 := by rw [← Lib.size_eq]; exact hs
  have l1 := trimP_len s.data.toList p6
  have l2 := cut_len (picH s.data.toList) [10]
  have l3 := cut_len (picC s.data.toList).1 [32]
  have l1 : (picH s.data.toList).length ≤ 1048576 := by unfold picH; omega
  have l2a : (picC s.data.toList).1.length ≤ 1048576 := by unfold picC; omega
  have l3a : (picD s.data.toList).1.length ≤ 1048576 := by unfold picD; omega
  have l3b : (picD s.data.toList).2.1.length ≤ 1048576 := by unfold picD; omega
  refine ⟨⟨(picH s.data.toList).toArray⟩, ⟨(picC s.data.toList).1.toArray⟩, ⟨(picC s.data.toList).2.1.toArray⟩, ⟨(picR s.data.toList).toArray⟩, ⟨(picD s.data.toList).1.toArray⟩, ⟨(picD s.data.toList).2.1.toArray⟩,
    Lib.hasPrefix s.data.toList p6, (picC s.data.toList).2.2, Lib.hasPrefix (picC s.data.toList).2.1 m255, (picD s.data.toList).2.2, intB (picD s.data.toList).1 9, intB (picD s.data.toList).2.1 9, intR (picD s.data.toList).1 9, intR (picD s.data.toList).2.1 9, ?_⟩
  refine ⟨?_, ?_, ?_, ?_, ?_, ?_, ?_, intR_bd _, intR_bd _, rfl, ?_⟩
  · intro w
    refine (Tryd.strings_CutPrefix s ⟨#[80, 54, 10]⟩ w).mono ?_
    rintro e w' ⟨rfl, rfl⟩
    exact ⟨rfl, rfl⟩
  · intro w hL
    exact Cut_any _ _ w hL (by rw [mk_size]; omega)
  · intro w
    refine (Tryd.strings_CutPrefix _ ⟨#[50, 53, 53, 10]⟩ w).mono ?_
    rintro e w' ⟨rfl, rfl⟩
    exact ⟨rfl, rfl⟩
  · intro w hL
    exact Cut_any _ _ w hL (by rw [mk_size]; omega)
  · intro w hL
    exact (Integer_any ⟨(picD s.data.toList).1.toArray⟩ 9 w hL (by rw [mk_size]; omega) (by omega)).mono fun _ _ h => intR_res h
  · intro w hL
    exact (Integer_any ⟨(picD s.data.toList).2.1.toArray⟩ 9 w hL (by rw [mk_size]; omega) (by omega)).mono fun _ _ h => intR_res h
  · unfold picB intR
    rw [mk_size]
    cases h1 : intB (picD s.data.toList).1 9 <;> cases h2 : intB (picD s.data.toList).2.1 9 <;> simp
  · intro h
    unfold picB at h
    simp only [Bool.and_eq_true] at h
    obtain ⟨-, -, -, -, h1, h2, -⟩ := h
    unfold intR
    rw [h1, h2]
    exact ⟨rfl, rfl⟩
theorem pic_bad {k1 k2 k3 k4 k5 k6 : Bool} {W H : Int} {n : Nat} (h : false = (k1 && (k2 && (k3 && (k4 && (k5 && (k6 && (sideB W && (sideB H && decide ((n : Int) = 3 * W * H)))))))))) :
    k1 = false ∨ (k1 = true ∧ k2 = false) ∨ (k1 = true ∧ k2 = true ∧ k3 = false) ∨ (k1 = true ∧ k2 = true ∧ k3 = true ∧ k4 = false) ∨ (k1 = true ∧ k2 = true ∧ k3 = true ∧ k4 = true ∧ k5 = false) ∨ (k1 = true ∧ k2 = true ∧ k3 = true ∧ k4 = true ∧ k5 = true ∧ k6 = false) ∨
    (k1 = true ∧ k2 = true ∧ k3 = true ∧ k4 = true ∧ k5 = true ∧ k6 = true ∧ (W < 1 ∨ (1 ≤ W ∧ 256 < W) ∨ (1 ≤ W ∧ W ≤ 256 ∧ H < 1) ∨ (1 ≤ W ∧ W ≤ 256 ∧ 1 ≤ H ∧ 256 < H) ∨ (1 ≤ W ∧ W ≤ 256 ∧ 1 ≤ H ∧ H ≤ 256 ∧ ((n : Int) != 3 * W * H) = true))) := by
  cases k1 <;> cases k2 <;> cases k3 <;> cases k4 <;> cases k5 <;> cases k6 <;> simp_all
  unfold sideB at h
  by_cases a1 : W < 1
  · exact .inl a1
  by_cases a2 : 256 < W
  · exact .inr (.inl ⟨by omega, a2⟩)
  by_cases a3 : H < 1
  · exact .inr (.inr (.inl ⟨by omega, by omega, a3⟩))
  by_cases a4 : 256 < H
  · exact .inr (.inr (.inr (.inl ⟨by omega, by omega, by omega, a4⟩)))
  refine .inr (.inr (.inr (.inr ⟨by omega, by omega, by omega, by omega, ?_⟩)))
  exact h (by simp; omega) (by simp; omega)
theorem mul_bd3 {W H : Int} (a : 1 ≤ W) (b : W ≤ 256) (c : 1 ≤ H) (d : H ≤ 256) : 3 ≤ 3 * W * H ∧ 3 * W * H ≤ 196608 := by
  have h1 : 1 * 1 ≤ W * H := Int.mul_le_mul a c (by decide) (by omega)
  have h2 : W * H ≤ 256 * 256 := Int.mul_le_mul b d (by omega) (by decide)
  rw [Int.mul_assoc]
  omega
abbrev zeroF : Value := .agg #[.int .i64 0, .int .i64 0, .int .i64 0, .int .i64 0, .slice none 0 0]
set_option maxRecDepth 100000 in
set_option maxHeartbeats 6400000 in
theorem ReadPicture_long (s : ByteArray) (w : World) (hs : 1048576 < s.size) : Calls Tryd.prog 30 #[.string s] w fun e w' => e = .returned (.tuple #[zeroF, .int .i64 4]) ∧ Below w.heap.size w w' := by
  have hs' : (1048576 : Int) < (s.size : Int) := by omega
  go_enter Tryd.func30, Tryd.ntmps30
  go_wp2_with fail
  refine bodyPost_ret (v := .tuple #[.agg #[.int .i64 0, .int .i64 0, .int .i64 0, .int .i64 0, .slice none 0 0], .int .i64 4]) (by simp [results, Tryd.results30, go_sem, *]) rfl ⟨rfl, ?_⟩
  (repeat (first | exact Below.refl _ _ | assumption | (refine Below.setCell ?_ (by first | (simp; done) | (simp; omega) | omega) _) | (refine Below.drew ?_) | (refine below_drewN ?_ _) | (refine Below.alloc ?_ (by first | (simp; done) | (simp; omega) | omega) _) | (refine Below.trans ?_ (Below.mono (by assumption) (by first | (simp; done) | (simp; omega) | omega)))))
set_option maxRecDepth 100000 in
set_option maxHeartbeats 6400000 in
theorem ReadPicture_no (s : ByteArray) (w : World) (hL : LibW w) (hs : s.size ≤ 1048576) (hp : picB s.data.toList = false) : Calls Tryd.prog 30 #[.string s] w fun e w' => e = .returned (.tuple #[zeroF, .int .i64 9]) ∧ Below w.heap.size w w' := by
  obtain ⟨h1, z1, r1, r2, a, b, k1, k2, k3, k4, k5, k6, W, H, X⟩ := picX_of s hs
  have HX := Lib.hid X
  have hok := X.ok
  rw [hp] at hok
  obtain ⟨w1, w2⟩ := X.W0
  obtain ⟨y1, y2⟩ := X.H0
  clear X
  have hs' : ¬ (1048576 : Int) < (s.size : Int) := by omega
  have HL := Lib.hid (hL.past (show Below w.heap.size w (w.alloc (.cells #[.int .i64 0, .int .i64 0, .int .i64 0, .int .i64 0, .slice none 0 0] 38)) by (repeat (first | exact Below.refl _ _ | assumption | (refine Below.setCell ?_ (by first | (simp; done) | (simp; omega) | omega) _) | (refine Below.drew ?_) | (refine below_drewN ?_ _) | (refine Below.alloc ?_ (by first | (simp; done) | (simp; omega) | omega) _) | (refine Below.trans ?_ (Below.mono (by assumption) (by first | (simp; done) | (simp; omega) | omega)))))))
  have HK := Lib.hid hok
  clear hL hp hok hs
  go_enter Tryd.func30, Tryd.ntmps30
  go_upto_region 5 with (first | (go_at_call 32; refine (HX.out.c1 _).mono ?_; rintro e w' ⟨rfl, rfl⟩) | (go_at_call 33; refine (HX.out.c2 _ HL.out).mono ?_; rintro e v1 ⟨rfl, hb1⟩))
  have H1 : Hid (LibW v1 ∧ Blk v1 w.heap.size [.int .i64 0, .int .i64 0, .int .i64 0, .int .i64 0, .slice none 0 0] ∧ Below w.heap.size w v1) := Lib.hid ⟨HL.out.past hb1, (Blk.new _ _ _ _ rfl).past hb1, Below.trans (by (repeat (first | exact Below.refl _ _ | assumption | (refine Below.setCell ?_ (by first | (simp; done) | (simp; omega) | omega) _) | (refine Below.drew ?_) | (refine below_drewN ?_ _) | (refine Below.alloc ?_ (by first | (simp; done) | (simp; omega) | omega) _) | (refine Below.trans ?_ (Below.mono (by assumption) (by first | (simp; done) | (simp; omega) | omega)))))) (hb1.mono (by simp))⟩
  clear hb1 HL
  go_upto_region 7 with (first | (go_at_call 32; refine (HX.out.c3 _).mono ?_; rintro e w' ⟨rfl, rfl⟩) | (go_at_call 33; refine (HX.out.c4 _ H1.out.1).mono ?_; rintro e v2 ⟨rfl, hb2⟩))
  have H2 : Hid (LibW v2 ∧ Blk v2 w.heap.size [.int .i64 0, .int .i64 0, .int .i64 0, .int .i64 0, .slice none 0 0] ∧ Below w.heap.size w v2) := Lib.hid ⟨H1.out.1.past hb2, H1.out.2.1.past hb2, H1.out.2.2.trans (hb2.mono H1.out.2.2.size)⟩
  clear hb2 H1
  go_upto_region 8 with (go_at_call 59; refine (HX.out.c5 _ H2.out.1).mono ?_; rintro e v3 ⟨rfl, hb3⟩)
  have H3 : Hid (LibW v3 ∧ Blk v3 w.heap.size [.int .i64 0, .int .i64 0, .int .i64 0, .int .i64 0, .slice none 0 0] ∧ Below w.heap.size w v3) := Lib.hid ⟨H2.out.1.past hb3, H2.out.2.1.past hb3, H2.out.2.2.trans (hb3.mono H2.out.2.2.size)⟩
  clear hb3 H2
  go_upto_region 9 with (go_at_call 59; refine (HX.out.c6 _ H3.out.1).mono ?_; rintro e v4 ⟨rfl, hb4⟩)
  have H4 : Hid (Blk v4 w.heap.size [.int .i64 0, .int .i64 0, .int .i64 0, .int .i64 0, .slice none 0 0] ∧ Below w.heap.size w v4) := Lib.hid ⟨H3.out.2.1.past hb4, H3.out.2.2.trans (hb4.mono H3.out.2.2.size)⟩
  clear hb4 H3 HX
  have q0 := H4.out.1.c 0 _ rfl; have q1 := H4.out.1.c 1 _ rfl; have q2 := H4.out.1.c 2 _ rfl; have q3 := H4.out.1.c 3 _ rfl; have q4 := H4.out.1.c 4 _ rfl
  have qf := H4.out.1.f
  have ql := H4.out.1.lt
  rcases pic_bad HK.out with rfl | ⟨rfl, rfl⟩ | ⟨rfl, rfl, rfl⟩ | ⟨rfl, rfl, rfl, rfl⟩ | ⟨rfl, rfl, rfl, rfl, rfl⟩ | ⟨rfl, rfl, rfl, rfl, rfl, rfl⟩ | ⟨rfl, rfl, rfl, rfl, rfl, rfl, hr⟩
  · clear HK
    go_wp2_with fail
    refine bodyPost_ret (v := .tuple #[.agg #[.int .i64 0, .int .i64 0, .int .i64 0, .int .i64 0, .slice none 0 0], .int .i64 9]) (by simp [results, Tryd.results30, go_sem, *]) rfl ⟨rfl, ?_⟩
    (repeat (first | exact Below.refl _ _ | assumption | (refine Below.setCell ?_ (by first | (simp; done) | (simp; omega) | omega) _) | (refine Below.drew ?_) | (refine below_drewN ?_ _) | (refine Below.alloc ?_ (by first | (simp; done) | (simp; omega) | omega) _) | (refine Below.trans ?_ (Below.mono (by assumption) (by first | (simp; done) | (simp; omega) | omega)))))
    exact H4.out.2
  · clear HK
    go_wp2_with fail
    refine bodyPost_ret (v := .tuple #[.agg #[.int .i64 0, .int .i64 0, .int .i64 0, .int .i64 0, .slice none 0 0], .int .i64 9]) (by simp [results, Tryd.results30, go_sem, *]) rfl ⟨rfl, ?_⟩
    (repeat (first | exact Below.refl _ _ | assumption | (refine Below.setCell ?_ (by first | (simp; done) | (simp; omega) | omega) _) | (refine Below.drew ?_) | (refine below_drewN ?_ _) | (refine Below.alloc ?_ (by first | (simp; done) | (simp; omega) | omega) _) | (refine Below.trans ?_ (Below.mono (by assumption) (by first | (simp; done) | (simp; omega) | omega)))))
    exact H4.out.2
  · clear HK
    go_wp2_with fail
    refine bodyPost_ret (v := .tuple #[.agg #[.int .i64 0, .int .i64 0, .int .i64 0, .int .i64 0, .slice none 0 0], .int .i64 9]) (by simp [results, Tryd.results30, go_sem, *]) rfl ⟨rfl, ?_⟩
    (repeat (first | exact Below.refl _ _ | assumption | (refine Below.setCell ?_ (by first | (simp; done) | (simp; omega) | omega) _) | (refine Below.drew ?_) | (refine below_drewN ?_ _) | (refine Below.alloc ?_ (by first | (simp; done) | (simp; omega) | omega) _) | (refine Below.trans ?_ (Below.mono (by assumption) (by first | (simp; done) | (simp; omega) | omega)))))
    exact H4.out.2
  · clear HK
    go_wp2_with fail
    refine bodyPost_ret (v := .tuple #[.agg #[.int .i64 0, .int .i64 0, .int .i64 0, .int .i64 0, .slice none 0 0], .int .i64 9]) (by simp [results, Tryd.results30, go_sem, *]) rfl ⟨rfl, ?_⟩
    (repeat (first | exact Below.refl _ _ | assumption | (refine Below.setCell ?_ (by first | (simp; done) | (simp; omega) | omega) _) | (refine Below.drew ?_) | (refine below_drewN ?_ _) | (refine Below.alloc ?_ (by first | (simp; done) | (simp; omega) | omega) _) | (refine Below.trans ?_ (Below.mono (by assumption) (by first | (simp; done) | (simp; omega) | omega)))))
    exact H4.out.2
  · clear HK
    go_wp2_with fail
    refine bodyPost_ret (v := .tuple #[.agg #[.int .i64 0, .int .i64 0, .int .i64 0, .int .i64 0, .slice none 0 0], .int .i64 9]) (by simp [results, Tryd.results30, go_sem, *]) rfl ⟨rfl, ?_⟩
    (repeat (first | exact Below.refl _ _ | assumption | (refine Below.setCell ?_ (by first | (simp; done) | (simp; omega) | omega) _) | (refine Below.drew ?_) | (refine below_drewN ?_ _) | (refine Below.alloc ?_ (by first | (simp; done) | (simp; omega) | omega) _) | (refine Below.trans ?_ (Below.mono (by assumption) (by first | (simp; done) | (simp; omega) | omega)))))
    exact H4.out.2
  · clear HK
    go_wp2_with fail
    refine bodyPost_ret (v := .tuple #[.agg #[.int .i64 0, .int .i64 0, .int .i64 0, .int .i64 0, .slice none 0 0], .int .i64 9]) (by simp [results, Tryd.results30, go_sem, *]) rfl ⟨rfl, ?_⟩
    (repeat (first | exact Below.refl _ _ | assumption | (refine Below.setCell ?_ (by first | (simp; done) | (simp; omega) | omega) _) | (refine Below.drew ?_) | (refine below_drewN ?_ _) | (refine Below.alloc ?_ (by first | (simp; done) | (simp; omega) | omega) _) | (refine Below.trans ?_ (Below.mono (by assumption) (by first | (simp; done) | (simp; omega) | omega)))))
    exact H4.out.2
  · clear HK
    rcases hr with hr | ⟨ha, hr⟩ | ⟨ha, hb, hr⟩ | ⟨ha, hb, hc, hr⟩ | ⟨ha, hb, hc, hd, hr⟩
    · go_wp2_with fail
      refine bodyPost_ret (v := .tuple #[.agg #[.int .i64 0, .int .i64 0, .int .i64 0, .int .i64 0, .slice none 0 0], .int .i64 9]) (by simp [results, Tryd.results30, go_sem, *]) rfl ⟨rfl, ?_⟩
      (repeat (first | exact Below.refl _ _ | assumption | (refine Below.setCell ?_ (by first | (simp; done) | (simp; omega) | omega) _) | (refine Below.drew ?_) | (refine below_drewN ?_ _) | (refine Below.alloc ?_ (by first | (simp; done) | (simp; omega) | omega) _) | (refine Below.trans ?_ (Below.mono (by assumption) (by first | (simp; done) | (simp; omega) | omega)))))
      exact H4.out.2
    · go_wp2_with fail
      refine bodyPost_ret (v := .tuple #[.agg #[.int .i64 0, .int .i64 0, .int .i64 0, .int .i64 0, .slice none 0 0], .int .i64 9]) (by simp [results, Tryd.results30, go_sem, *]) rfl ⟨rfl, ?_⟩
      (repeat (first | exact Below.refl _ _ | assumption | (refine Below.setCell ?_ (by first | (simp; done) | (simp; omega) | omega) _) | (refine Below.drew ?_) | (refine below_drewN ?_ _) | (refine Below.alloc ?_ (by first | (simp; done) | (simp; omega) | omega) _) | (refine Below.trans ?_ (Below.mono (by assumption) (by first | (simp; done) | (simp; omega) | omega)))))
      exact H4.out.2
    · go_wp2_with fail
      refine bodyPost_ret (v := .tuple #[.agg #[.int .i64 0, .int .i64 0, .int .i64 0, .int .i64 0, .slice none 0 0], .int .i64 9]) (by simp [results, Tryd.results30, go_sem, *]) rfl ⟨rfl, ?_⟩
      (repeat (first | exact Below.refl _ _ | assumption | (refine Below.setCell ?_ (by first | (simp; done) | (simp; omega) | omega) _) | (refine Below.drew ?_) | (refine below_drewN ?_ _) | (refine Below.alloc ?_ (by first | (simp; done) | (simp; omega) | omega) _) | (refine Below.trans ?_ (Below.mono (by assumption) (by first | (simp; done) | (simp; omega) | omega)))))
      exact H4.out.2
    · go_wp2_with fail
      refine bodyPost_ret (v := .tuple #[.agg #[.int .i64 0, .int .i64 0, .int .i64 0, .int .i64 0, .slice none 0 0], .int .i64 9]) (by simp [results, Tryd.results30, go_sem, *]) rfl ⟨rfl, ?_⟩
      (repeat (first | exact Below.refl _ _ | assumption | (refine Below.setCell ?_ (by first | (simp; done) | (simp; omega) | omega) _) | (refine Below.drew ?_) | (refine below_drewN ?_ _) | (refine Below.alloc ?_ (by first | (simp; done) | (simp; omega) | omega) _) | (refine Below.trans ?_ (Below.mono (by assumption) (by first | (simp; done) | (simp; omega) | omega)))))
      exact H4.out.2
    · obtain ⟨m1, m2⟩ := mul_bd3 ha hb hc hd
      go_wp2_with fail
      refine bodyPost_ret (v := .tuple #[.agg #[.int .i64 0, .int .i64 0, .int .i64 0, .int .i64 0, .slice none 0 0], .int .i64 9]) (by simp [results, Tryd.results30, go_sem, *]) rfl ⟨rfl, ?_⟩
      (repeat (first | exact Below.refl _ _ | assumption | (refine Below.setCell ?_ (by first | (simp; done) | (simp; omega) | omega) _) | (refine Below.drew ?_) | (refine below_drewN ?_ _) | (refine Below.alloc ?_ (by first | (simp; done) | (simp; omega) | omega) _) | (refine Below.trans ?_ (Below.mono (by assumption) (by first | (simp; done) | (simp; omega) | omega)))))
      exact H4.out.2
end Go.Proofs.YtcdcfkgdgimmcaaDoor
