/- PicturesRead: the walk of the statement. Conditions: the library's variables read as listed (LibW). -/
import Derived.Test.YtcdcfkgdgimmcaaDoorRpD
namespace Go.Proofs.YtcdcfkgdgimmcaaDoor
open Go Go.RowKit
theorem ba_eq {a b : ByteArray} (h : a.toList = b.toList) : a = b := by
  rw [ByteArray.toList_eq, ByteArray.toList_eq] at h
  cases a; cases b
  simp at h
  rw [h]
/-- What ReadPicture hands back of whatever text. -/
theorem ReadPicture_some (s : ByteArray) (w : World) (hL : LibW w) : Calls Tryd.prog 30 #[.string s] w fun e w' => (∃ (x y W H E : Int) (a : Option Addr) (n c : Nat), e = .returned (.tuple #[.agg #[.int .i64 x, .int .i64 y, .int .i64 W, .int .i64 H, .slice a n c], .int .i64 E])) ∧ Below w.heap.size w w' := by
  by_cases hs : 1048576 < s.size
  · exact (ReadPicture_long s w hs).mono fun e w' ⟨h, hb⟩ => ⟨⟨_, _, _, _, _, _, _, _, h⟩, hb⟩
  · cases hp : picB s.data.toList with
    | false => exact (ReadPicture_no s w hL (by omega) hp).mono fun e w' ⟨h, hb⟩ => ⟨⟨_, _, _, _, _, _, _, _, h⟩, hb⟩
    | true =>
      have hp' := hp
      unfold picB at hp'
      simp only [Bool.and_eq_true, sideB_iff] at hp'
      obtain ⟨-, -, -, -, -, -, ⟨a1, a2⟩, ⟨a3, a4⟩, -⟩ := hp'
      by_cases hE : 16384 < intV (picD s.data.toList).1 * intV (picD s.data.toList).2.1
      · exact (ReadPicture_large s w hL (by omega) hp hE).mono fun e w' ⟨h, hb⟩ => ⟨⟨_, _, _, _, _, _, _, _, h⟩, hb⟩
      · have h0 : 0 ≤ 4 * intV (picD s.data.toList).1 * intV (picD s.data.toList).2.1 := by
          have := Int.mul_nonneg (show 0 ≤ intV (picD s.data.toList).1 by omega) (show 0 ≤ intV (picD s.data.toList).2.1 by omega)
          rw [Int.mul_assoc]; omega
        exact (ReadPicture_yes s w hL (by omega) hp (by unfold regErr; rw [if_neg (by omega), if_neg hE, if_neg (by omega)]) _ (Int.toNat_of_nonneg h0)).mono fun e w' ⟨g, h, _, _, hb⟩ => ⟨⟨_, _, _, _, _, _, _, _, h⟩, hb⟩
set_option maxRecDepth 100000 in
set_option maxHeartbeats 6400000 in
theorem pr_big (s : ByteArray) (w : World) (hL : LibW w) (hs : 5000 < s.size) : Calls Tryd.prog 4 #[.string s] w fun e w' => e = .returned (.bool true) ∧ Below w.heap.size w w' := by
  have hs' : (5000 : Int) < (s.size : Int) := by omega
  have HR := Lib.hid (ReadPicture_some s w hL)
  clear hL
  go_enter Tryd.func4, Tryd.ntmps4
  go_wp2_with (first | (go_at_call 30; refine HR.out.mono ?_; rintro e v1 ⟨⟨x, y, W, H, E, a, n, c, rfl⟩, hb1⟩) | (go_at_call 31; refine (finishes_any _).mono ?_; rintro e w' ⟨n, rfl, rfl⟩))
  go_ret
  exact ⟨rfl, hb1.trans (Below.mono (show Below v1.heap.size v1 _ by clear hb1; (repeat (first | exact Below.refl _ _ | assumption | (refine Below.setCell ?_ (by first | (simp; done) | (simp; omega) | omega) _) | (refine Below.drew ?_) | (refine below_drewN ?_ _) | (refine Below.alloc ?_ (by first | (simp; done) | (simp; omega) | omega) _) | (refine Below.trans ?_ (Below.mono (by assumption) (by first | (simp; done) | (simp; omega) | omega)))))) hb1.size)⟩
set_option maxRecDepth 100000 in
set_option maxHeartbeats 6400000 in
theorem pr_no (s : ByteArray) (w : World) (hL : LibW w) (hs : s.size ≤ 5000) (hp : lawB s.data.toList = false) : Calls Tryd.prog 4 #[.string s] w fun e w' => e = .returned (.bool true) ∧ Below w.heap.size w w' := by
  have hs' : ¬ (5000 : Int) < (s.size : Int) := by omega
  have HR := Lib.hid (ReadPicture_no s w hL (by omega) (by rw [← (law_pic s.data.toList).1]; exact hp))
  obtain ⟨h1, z, r, a, b, ia, ib, k1, kc, kd, kx, ky, W, H, X⟩ := lawX_of s (by omega)
  have HX := Lib.hid X
  have hok := X.ok
  rw [hp] at hok
  obtain ⟨w1, w2⟩ := X.W0
  obtain ⟨y1, y2⟩ := X.H0
  have HK := Lib.hid hok
  have HL := Lib.hid hL
  clear X hL hok hs hp
  go_enter Tryd.func4, Tryd.ntmps4
  go_upto_region 2 with (go_at_call 30; refine HR.out.mono ?_; rintro e v1 ⟨rfl, hb1⟩)
  refine wp_world (fun V hV => ?_)
  have H1 : Hid (LibW V ∧ Blk V v1.heap.size [.int .i64 0, .int .i64 0, .int .i64 0, .int .i64 0, .slice none 0 0] ∧ Below w.heap.size w V) := Lib.hid (by
    rw [hV]
    exact ⟨(HL.out.past hb1).past (by (repeat (first | exact Below.refl _ _ | assumption | (refine Below.setCell ?_ (by first | (simp; done) | (simp; omega) | omega) _) | (refine Below.drew ?_) | (refine below_drewN ?_ _) | (refine Below.alloc ?_ (by first | (simp; done) | (simp; omega) | omega) _) | (refine Below.trans ?_ (Below.mono (by assumption) (by first | (simp; done) | (simp; omega) | omega)))))), Blk.new _ _ _ _ rfl, hb1.trans (Below.mono (show Below v1.heap.size v1 _ by (repeat (first | exact Below.refl _ _ | assumption | (refine Below.setCell ?_ (by first | (simp; done) | (simp; omega) | omega) _) | (refine Below.drew ?_) | (refine below_drewN ?_ _) | (refine Below.alloc ?_ (by first | (simp; done) | (simp; omega) | omega) _) | (refine Below.trans ?_ (Below.mono (by assumption) (by first | (simp; done) | (simp; omega) | omega)))))) hb1.size)⟩)
  clear hb1 hV HR HL
  go_upto_region 4 with (go_at_call 31; refine (finishes_any _).mono ?_; rintro e w' ⟨n, rfl, rfl⟩)
  refine wp_world (fun V2 hV2 => ?_)
  have H2 : Hid (LibW V2 ∧ Blk V2 v1.heap.size [.int .i64 0, .int .i64 0, .int .i64 0, .int .i64 0, .slice none 0 0] ∧ Below w.heap.size w V2) := Lib.hid (by
    have hbb : Below V.heap.size V V2 := by rw [hV2]; (repeat (first | exact Below.refl _ _ | assumption | (refine Below.setCell ?_ (by first | (simp; done) | (simp; omega) | omega) _) | (refine Below.drew ?_) | (refine below_drewN ?_ _) | (refine Below.alloc ?_ (by first | (simp; done) | (simp; omega) | omega) _) | (refine Below.trans ?_ (Below.mono (by assumption) (by first | (simp; done) | (simp; omega) | omega)))))
    exact ⟨H1.out.1.past hbb, H1.out.2.1.past hbb, H1.out.2.2.trans (hbb.mono H1.out.2.2.size)⟩)
  clear hV2 H1
  go_upto_region 6 with (first | (go_at_call 32; refine (HX.out.c1 _).mono ?_; rintro e w' ⟨rfl, rfl⟩) | (go_at_call 33; refine (HX.out.c2 _ H2.out.1).mono ?_; rintro e v3 ⟨rfl, hb3⟩))
  have H3 : Hid (LibW v3 ∧ Blk v3 v1.heap.size [.int .i64 0, .int .i64 0, .int .i64 0, .int .i64 0, .slice none 0 0] ∧ Below w.heap.size w v3) := Lib.hid ⟨H2.out.1.past hb3, H2.out.2.1.past hb3, H2.out.2.2.trans (hb3.mono H2.out.2.2.size)⟩
  clear hb3 H2
  go_upto_region 7 with (go_at_call 33; refine (HX.out.c3 _ H3.out.1).mono ?_; rintro e v4 ⟨rfl, hb4⟩)
  have H4 : Hid (LibW v4 ∧ Blk v4 v1.heap.size [.int .i64 0, .int .i64 0, .int .i64 0, .int .i64 0, .slice none 0 0] ∧ Below w.heap.size w v4) := Lib.hid ⟨H3.out.1.past hb4, H3.out.2.1.past hb4, H3.out.2.2.trans (hb4.mono H3.out.2.2.size)⟩
  clear hb4 H3
  go_upto_region 8 with (go_at_call 34; refine (HX.out.c4 _ H4.out.1).mono ?_; rintro e v5 ⟨⟨N1, rfl⟩, hb5⟩)
  have H5 : Hid (LibW v5 ∧ Blk v5 v1.heap.size [.int .i64 0, .int .i64 0, .int .i64 0, .int .i64 0, .slice none 0 0] ∧ Below w.heap.size w v5) := Lib.hid ⟨H4.out.1.past hb5, H4.out.2.1.past hb5, H4.out.2.2.trans (hb5.mono H4.out.2.2.size)⟩
  clear hb5 H4
  go_upto_region 9 with (go_at_call 34; refine (HX.out.c5 _ H5.out.1).mono ?_; rintro e v6 ⟨⟨N2, rfl⟩, hb6⟩)
  have H6 : Hid (LibW v6 ∧ Blk v6 v1.heap.size [.int .i64 0, .int .i64 0, .int .i64 0, .int .i64 0, .slice none 0 0] ∧ Below w.heap.size w v6) := Lib.hid ⟨H5.out.1.past hb6, H5.out.2.1.past hb6, H5.out.2.2.trans (hb6.mono H5.out.2.2.size)⟩
  clear hb6 H5
  have q0 := H6.out.2.1.c 0 _ rfl; have q1 := H6.out.2.1.c 1 _ rfl; have q2 := H6.out.2.1.c 2 _ rfl; have q3 := H6.out.2.1.c 3 _ rfl; have q4 := H6.out.2.1.c 4 _ rfl
  have ql := H6.out.2.1.lt
  rcases law_bad HK.out with rfl | ⟨rfl, rfl⟩ | ⟨rfl, rfl, rfl⟩ | ⟨rfl, rfl, rfl, rfl⟩ | ⟨rfl, rfl, rfl, rfl, rfl⟩ | ⟨rfl, rfl, rfl, rfl, rfl, hr⟩
  · clear HK HX
    go_wp2_with (go_at_call 23; refine (none_any _ _ _ _ _ _ _ _).mono ?_; rintro e v7 ⟨rfl, hb7⟩)
    go_ret
    exact ⟨rfl, H6.out.2.2.trans (hb7.mono H6.out.2.2.size)⟩
  · clear HK HX
    go_wp2_with (go_at_call 23; refine (none_any _ _ _ _ _ _ _ _).mono ?_; rintro e v7 ⟨rfl, hb7⟩)
    go_ret
    exact ⟨rfl, H6.out.2.2.trans (hb7.mono H6.out.2.2.size)⟩
  · clear HK HX
    go_wp2_with (go_at_call 23; refine (none_any _ _ _ _ _ _ _ _).mono ?_; rintro e v7 ⟨rfl, hb7⟩)
    go_ret
    exact ⟨rfl, H6.out.2.2.trans (hb7.mono H6.out.2.2.size)⟩
  · simp only [errB_f]
    clear HK HX
    go_wp2_with (go_at_call 23; refine (none_any _ _ _ _ _ _ _ _).mono ?_; rintro e v7 ⟨rfl, hb7⟩)
    go_ret
    exact ⟨rfl, H6.out.2.2.trans (hb7.mono H6.out.2.2.size)⟩
  · simp only [errB_t, errB_f]
    clear HK HX
    go_wp2_with (go_at_call 23; refine (none_any _ _ _ _ _ _ _ _).mono ?_; rintro e v7 ⟨rfl, hb7⟩)
    go_ret
    exact ⟨rfl, H6.out.2.2.trans (hb7.mono H6.out.2.2.size)⟩
  · simp only [errB_t]
    clear HK
    rcases hr with hr | ⟨hi, hr⟩ | ⟨hi, hj, hr⟩ | ⟨hi, hj, hk, hr⟩ | ⟨hi, hj, hk, hl, hr⟩
    · have hi0 : ¬ ia.toList = a.toList := fun h => of_decide_eq_false hr (ba_eq h)
      have hi1 : (ia.toList == a.toList) = false := by simpa using hi0
      clear hr
      go_wp2_with (first | (go_at_call 35; refine (HX.out.c6 _ H6.out.1).mono ?_; rintro e v7 ⟨rfl, hb7⟩; obtain ⟨hc7, hf7, hs7⟩ := bcell hb7; have hq7 : v1.heap.size < v7.heap.size := (by omega); have L7 := Lib.hid (H6.out.1.past hb7)) | (go_at_call 35; refine (HX.out.c7 _ L7.out).mono ?_; rintro e v8 ⟨rfl, hb8⟩; obtain ⟨hc8, hf8, hs8⟩ := bcell hb8; have hq8 : v1.heap.size < v8.heap.size := (by omega)) | (go_at_call 23; refine (none_any _ _ _ _ _ _ _ _).mono ?_; rintro e v9 ⟨rfl, hb9⟩))
      go_ret
      exact ⟨rfl, H6.out.2.2.trans (Below.mono (hb7.trans (hb9.mono hb7.size)) H6.out.2.2.size)⟩
    · obtain rfl := of_decide_eq_true hi
      have hj0 : ¬ ib.toList = b.toList := fun h => of_decide_eq_false hr (ba_eq h)
      have hj1 : (ib.toList == b.toList) = false := by simpa using hj0
      clear hr hi
      go_wp2_with (first | (go_at_call 35; refine (HX.out.c6 _ H6.out.1).mono ?_; rintro e v7 ⟨rfl, hb7⟩; obtain ⟨hc7, hf7, hs7⟩ := bcell hb7; have hq7 : v1.heap.size < v7.heap.size := (by omega); have L7 := Lib.hid (H6.out.1.past hb7)) | (go_at_call 35; refine (HX.out.c7 _ L7.out).mono ?_; rintro e v8 ⟨rfl, hb8⟩; obtain ⟨hc8, hf8, hs8⟩ := bcell hb8; have hq8 : v1.heap.size < v8.heap.size := (by omega)) | (go_at_call 8; refine (In_any _ _ _ _).mono ?_; rintro e w' ⟨rfl, rfl⟩) | (go_at_call 23; refine (none_any _ _ _ _ _ _ _ _).mono ?_; rintro e v9 ⟨rfl, hb9⟩))
      go_ret
      exact ⟨rfl, H6.out.2.2.trans (Below.mono (hb7.trans (Below.mono (hb8.trans (hb9.mono hb8.size)) hb7.size)) H6.out.2.2.size)⟩
    · obtain rfl := of_decide_eq_true hi
      obtain rfl := of_decide_eq_true hj
      rw [← side_in] at hr
      clear hi hj
      go_wp2_with (first | (go_at_call 35; refine (HX.out.c6 _ H6.out.1).mono ?_; rintro e v7 ⟨rfl, hb7⟩; obtain ⟨hc7, hf7, hs7⟩ := bcell hb7; have hq7 : v1.heap.size < v7.heap.size := (by omega); have L7 := Lib.hid (H6.out.1.past hb7)) | (go_at_call 35; refine (HX.out.c7 _ L7.out).mono ?_; rintro e v8 ⟨rfl, hb8⟩; obtain ⟨hc8, hf8, hs8⟩ := bcell hb8; have hq8 : v1.heap.size < v8.heap.size := (by omega)) | (go_at_call 8; refine (In_any _ _ _ _).mono ?_; rintro e w' ⟨rfl, rfl⟩) | (go_at_call 23; refine (none_any _ _ _ _ _ _ _ _).mono ?_; rintro e v9 ⟨rfl, hb9⟩))
      go_ret
      exact ⟨rfl, H6.out.2.2.trans (Below.mono (hb7.trans (Below.mono (hb8.trans (hb9.mono hb8.size)) hb7.size)) H6.out.2.2.size)⟩
    · obtain rfl := of_decide_eq_true hi
      obtain rfl := of_decide_eq_true hj
      rw [← side_in] at hr hk
      clear hi hj
      go_wp2_with (first | (go_at_call 35; refine (HX.out.c6 _ H6.out.1).mono ?_; rintro e v7 ⟨rfl, hb7⟩; obtain ⟨hc7, hf7, hs7⟩ := bcell hb7; have hq7 : v1.heap.size < v7.heap.size := (by omega); have L7 := Lib.hid (H6.out.1.past hb7)) | (go_at_call 35; refine (HX.out.c7 _ L7.out).mono ?_; rintro e v8 ⟨rfl, hb8⟩; obtain ⟨hc8, hf8, hs8⟩ := bcell hb8; have hq8 : v1.heap.size < v8.heap.size := (by omega)) | (go_at_call 8; refine (In_any _ _ _ _).mono ?_; rintro e w' ⟨rfl, rfl⟩) | (go_at_call 23; refine (none_any _ _ _ _ _ _ _ _).mono ?_; rintro e v9 ⟨rfl, hb9⟩))
      go_ret
      exact ⟨rfl, H6.out.2.2.trans (Below.mono (hb7.trans (Below.mono (hb8.trans (hb9.mono hb8.size)) hb7.size)) H6.out.2.2.size)⟩
    · obtain rfl := of_decide_eq_true hi
      obtain rfl := of_decide_eq_true hj
      obtain ⟨s1, s2⟩ := sideB_iff.1 hk
      obtain ⟨s3, s4⟩ := sideB_iff.1 hl
      obtain ⟨m1, m2⟩ := mul_bd3 s1 s2 s3 s4
      rw [← side_in] at hk hl
      clear hi hj
      go_wp2_with (first | (go_at_call 35; refine (HX.out.c6 _ H6.out.1).mono ?_; rintro e v7 ⟨rfl, hb7⟩; obtain ⟨hc7, hf7, hs7⟩ := bcell hb7; have hq7 : v1.heap.size < v7.heap.size := (by omega); have L7 := Lib.hid (H6.out.1.past hb7)) | (go_at_call 35; refine (HX.out.c7 _ L7.out).mono ?_; rintro e v8 ⟨rfl, hb8⟩; obtain ⟨hc8, hf8, hs8⟩ := bcell hb8; have hq8 : v1.heap.size < v8.heap.size := (by omega)) | (go_at_call 8; refine (In_any _ _ _ _).mono ?_; rintro e w' ⟨rfl, rfl⟩) | (go_at_call 23; refine (none_any _ _ _ _ _ _ _ _).mono ?_; rintro e v9 ⟨rfl, hb9⟩))
      go_ret
      exact ⟨rfl, H6.out.2.2.trans (Below.mono (hb7.trans (Below.mono (hb8.trans (hb9.mono hb8.size)) hb7.size)) H6.out.2.2.size)⟩
set_option maxRecDepth 100000 in
set_option maxHeartbeats 6400000 in
theorem pr_yes (s : ByteArray) (w : World) (hL : LibW w) (hs : s.size ≤ 5000) (hp : lawB s.data.toList = true) : Calls Tryd.prog 4 #[.string s] w fun e w' => e = .returned (.bool true) ∧ Below w.heap.size w w' := by
  have hs' : ¬ (5000 : Int) < (s.size : Int) := by omega
  have hpb : picB s.data.toList = true := by rw [← (law_pic s.data.toList).1]; exact hp
  obtain ⟨x1, x2⟩ := (law_pic s.data.toList).2 hpb
  obtain ⟨h1, z, r, a, b, ia, ib, k1, kc, kd, kx, ky, W, H, X⟩ := lawX_of s (by omega)
  have HX := Lib.hid X
  obtain ⟨eW, eH⟩ := X.vs
  rw [x2] at eW eH
  have hok := X.ok
  rw [hp] at hok
  obtain ⟨w1, w2⟩ := X.W0
  obtain ⟨y1, y2⟩ := X.H0
  obtain ⟨rfl, rfl, rfl, rfl, rfl, hi, hj, hk, hl, hn⟩ := law_good hok
  obtain rfl := of_decide_eq_true hi
  obtain rfl := of_decide_eq_true hj
  obtain ⟨s1, s2⟩ := sideB_iff.1 hk
  obtain ⟨s3, s4⟩ := sideB_iff.1 hl
  obtain ⟨m1, m2⟩ := mul_bd3 s1 s2 s3 s4
  have hlen4 : 0 ≤ 4 * W * H ∧ 4 * W * H ≤ 262144 := by
    rw [Int.mul_assoc] at m1 m2 ⊢
    omega
  obtain ⟨len, hlen⟩ : ∃ len : Nat, (len : Int) = 4 * W * H := ⟨(4 * W * H).toNat, Int.toNat_of_nonneg hlen4.1⟩
  have v1a : atV (lawD s.data.toList).1 = intV (picD s.data.toList).1 := by
    rw [x2]
    have := hp
    unfold lawB at this
    simp only [Bool.and_eq_true] at this
    rw [← x2]
    exact x2 ▸ (side_same (lawD s.data.toList).1).2 this.2.2.2.1
  have v1b : atV (lawD s.data.toList).2.1 = intV (picD s.data.toList).2.1 := by
    have := hp
    unfold lawB at this
    simp only [Bool.and_eq_true] at this
    exact x2 ▸ (side_same (lawD s.data.toList).2.1).2 this.2.2.2.2.1
  rw [← x2] at eW eH
  have eW2 : W = intV (picD s.data.toList).1 := by rw [eW, v1a]
  have eH2 : H = intV (picD s.data.toList).2.1 := by rw [eH, v1b]
  have hrl : r.size = 3 * (len / 4) := by
    have := Int.mul_assoc 3 W H; have := Int.mul_assoc 4 W H; omega
  have hrs : r.size ≤ 5000 := HX.out.rlen hs
  have HR := Lib.hid (ReadPicture_yes s w hL (by omega) hpb (by
    rw [← eW2, ← eH2]
    have h16 : W * H ≤ 16384 := by
      rw [Int.mul_assoc] at hn; omega
    unfold regErr; rw [if_neg (by omega), if_neg (by omega), if_neg (by omega)]) len (by rw [← eW2, ← eH2]; exact hlen))
  rw [← eW2, ← eH2] at HR
  have hn2 : ((r.size : Int) == 3 * W * H) = true := by simpa using hn
  have hl2 : ((len : Int) == 4 * W * H) = true := by simpa using hlen
  rw [← side_in] at hk hl
  obtain ⟨n1, n2⟩ := hlen4
  have HQ := fun w' => eq_regS 0 0 W H w'
  have HL := Lib.hid hL
  clear X hL hok hs hp hn hlen eW eH eW2 eH2 v1a v1b x1 x2 hpb hi hj hrl hrs
  go_enter Tryd.func4, Tryd.ntmps4
  go_upto_region 2 with (go_at_call 30; refine HR.out.mono ?_; rintro e v1 ⟨g, rfl, -, -, hb1⟩)
  refine wp_world (fun V hV => ?_)
  have H1 : Hid (LibW V ∧ Blk V v1.heap.size [.int .i64 0, .int .i64 0, .int .i64 W, .int .i64 H, .slice (some ⟨g, 0, none⟩) len len] ∧ Below w.heap.size w V) := Lib.hid (by
    rw [hV]
    exact ⟨(HL.out.past hb1).past (by (repeat (first | exact Below.refl _ _ | assumption | (refine Below.setCell ?_ (by first | (simp; done) | (simp; omega) | omega) _) | (refine Below.drew ?_) | (refine below_drewN ?_ _) | (refine Below.alloc ?_ (by first | (simp; done) | (simp; omega) | omega) _) | (refine Below.trans ?_ (Below.mono (by assumption) (by first | (simp; done) | (simp; omega) | omega)))))), Blk.new _ _ _ _ rfl, hb1.trans (Below.mono (show Below v1.heap.size v1 _ by (repeat (first | exact Below.refl _ _ | assumption | (refine Below.setCell ?_ (by first | (simp; done) | (simp; omega) | omega) _) | (refine Below.drew ?_) | (refine below_drewN ?_ _) | (refine Below.alloc ?_ (by first | (simp; done) | (simp; omega) | omega) _) | (refine Below.trans ?_ (Below.mono (by assumption) (by first | (simp; done) | (simp; omega) | omega)))))) hb1.size)⟩)
  clear hb1 hV HR HL
  go_upto_region 4 with (go_at_call 31; refine (finishes_any _).mono ?_; rintro e w' ⟨n, rfl, rfl⟩)
  refine wp_world (fun V2 hV2 => ?_)
  have H2 : Hid (LibW V2 ∧ Blk V2 v1.heap.size [.int .i64 0, .int .i64 0, .int .i64 W, .int .i64 H, .slice (some ⟨g, 0, none⟩) len len] ∧ Below w.heap.size w V2) := Lib.hid (by
    have hbb : Below V.heap.size V V2 := by rw [hV2]; (repeat (first | exact Below.refl _ _ | assumption | (refine Below.setCell ?_ (by first | (simp; done) | (simp; omega) | omega) _) | (refine Below.drew ?_) | (refine below_drewN ?_ _) | (refine Below.alloc ?_ (by first | (simp; done) | (simp; omega) | omega) _) | (refine Below.trans ?_ (Below.mono (by assumption) (by first | (simp; done) | (simp; omega) | omega)))))
    exact ⟨H1.out.1.past hbb, H1.out.2.1.past hbb, H1.out.2.2.trans (hbb.mono H1.out.2.2.size)⟩)
  clear hV2 H1
  go_upto_region 6 with (first | (go_at_call 32; refine (HX.out.c1 _).mono ?_; rintro e w' ⟨rfl, rfl⟩) | (go_at_call 33; refine (HX.out.c2 _ H2.out.1).mono ?_; rintro e v3 ⟨rfl, hb3⟩))
  have H3 : Hid (LibW v3 ∧ Blk v3 v1.heap.size [.int .i64 0, .int .i64 0, .int .i64 W, .int .i64 H, .slice (some ⟨g, 0, none⟩) len len] ∧ Below w.heap.size w v3) := Lib.hid ⟨H2.out.1.past hb3, H2.out.2.1.past hb3, H2.out.2.2.trans (hb3.mono H2.out.2.2.size)⟩
  clear hb3 H2
  go_upto_region 7 with (go_at_call 33; refine (HX.out.c3 _ H3.out.1).mono ?_; rintro e v4 ⟨rfl, hb4⟩)
  have H4 : Hid (LibW v4 ∧ Blk v4 v1.heap.size [.int .i64 0, .int .i64 0, .int .i64 W, .int .i64 H, .slice (some ⟨g, 0, none⟩) len len] ∧ Below w.heap.size w v4) := Lib.hid ⟨H3.out.1.past hb4, H3.out.2.1.past hb4, H3.out.2.2.trans (hb4.mono H3.out.2.2.size)⟩
  clear hb4 H3
  go_upto_region 8 with (go_at_call 34; refine (HX.out.c4 _ H4.out.1).mono ?_; rintro e v5 ⟨⟨N1, rfl⟩, hb5⟩)
  have H5 : Hid (LibW v5 ∧ Blk v5 v1.heap.size [.int .i64 0, .int .i64 0, .int .i64 W, .int .i64 H, .slice (some ⟨g, 0, none⟩) len len] ∧ Below w.heap.size w v5) := Lib.hid ⟨H4.out.1.past hb5, H4.out.2.1.past hb5, H4.out.2.2.trans (hb5.mono H4.out.2.2.size)⟩
  clear hb5 H4
  go_upto_region 9 with (go_at_call 34; refine (HX.out.c5 _ H5.out.1).mono ?_; rintro e v6 ⟨⟨N2, rfl⟩, hb6⟩)
  have H6 : Hid (LibW v6 ∧ Blk v6 v1.heap.size [.int .i64 0, .int .i64 0, .int .i64 W, .int .i64 H, .slice (some ⟨g, 0, none⟩) len len] ∧ Below w.heap.size w v6) := Lib.hid ⟨H5.out.1.past hb6, H5.out.2.1.past hb6, H5.out.2.2.trans (hb6.mono H5.out.2.2.size)⟩
  clear hb6 H5
  have q0 := H6.out.2.1.c 0 _ rfl; have q1 := H6.out.2.1.c 1 _ rfl; have q2 := H6.out.2.1.c 2 _ rfl; have q3 := H6.out.2.1.c 3 _ rfl; have q4 := H6.out.2.1.c 4 _ rfl
  have ql := H6.out.2.1.lt
  simp only [errB_t]
  go_wp2_with (first | (go_at_call 35; refine (HX.out.c6 _ H6.out.1).mono ?_; rintro e v7 ⟨rfl, hb7⟩; obtain ⟨hc7, hf7, hs7⟩ := bcell hb7; have hq7 : v1.heap.size < v7.heap.size := (by omega); have L7 := Lib.hid (H6.out.1.past hb7)) | (go_at_call 35; refine (HX.out.c7 _ L7.out).mono ?_; rintro e v8 ⟨rfl, hb8⟩; obtain ⟨hc8, hf8, hs8⟩ := bcell hb8; have hq8 : v1.heap.size < v8.heap.size := (by omega)) | (go_at_call 8; refine (In_any _ _ _ _).mono ?_; rintro e w' ⟨rfl, rfl⟩))
  go_ret
  exact ⟨rfl, H6.out.2.2.trans (Below.mono (hb7.trans (hb8.mono hb7.size)) H6.out.2.2.size)⟩
/-- THE WALK OF THE STATEMENT. -/
theorem pr_walk (s : ByteArray) (w : World) (hL : LibW w) : Calls Tryd.prog 4 #[.string s] w fun e w' => e = .returned (.bool true) ∧ Below w.heap.size w w' := by
  by_cases hs : 5000 < s.size
  · exact pr_big s w hL hs
  · cases hp : lawB s.data.toList with
    | false => exact pr_no s w hL (by omega) hp
    | true => exact pr_yes s w hL (by omega) hp
end Go.Proofs.YtcdcfkgdgimmcaaDoor
