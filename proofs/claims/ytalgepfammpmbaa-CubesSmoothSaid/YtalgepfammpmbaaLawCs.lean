/- CubesSmooth: the walk of the statement, whole. No condition. -/
import Derived.Test.YtalgepfammpmbaaCuI
import Derived.Test.YtalgepfammpmbaaOpenB
namespace Go.Proofs.Ytalgepfammpmbaa
open Go.RowKit
set_option maxRecDepth 100000 in
set_option maxHeartbeats 1600000 in
theorem cs_c1 (S i j k : Nat) (lo hi b off n cap pc : Nat) (fs : Nat → Nat) (w : World) (hS : S ≤ 17) (h1 : i < S) (h2 : j < S) (h3 : k < S) (hn : n = 3 * (S * S * S)) (hc : Row w b off n fs) (hB : Blk w pc (cubL S lo hi (.slice (some ⟨b, off, none⟩) n cap))) :
    Calls Try.prog 67 #[.int .i64 i, .int .i64 j, .int .i64 k, .pointer (some ⟨pc, 0, none⟩)] w fun e w' =>
      (∃ q : Nat → Nat, e = .returned (.agg #[.float .f32 (q 0), .float .f32 (q 1), .float .f32 (q 2)]) ∧ ∀ c, c < 3 → cn .f32 (q c) = cn .f32 (fs (3 * enI S i j k + c))) ∧ Below w.heap.size w w' := by
  have hn0 : 0 < n := by have := enI_lt h1 h2 h3; omega
  have hbw := hc.lt hn0
  have HE := Lib.hid (fun w' hb => EntryOf_any S i j k lo hi b off n cap fs w' hS h1 h2 h3 hn (hc.below hb hbw) : ∀ w', Below w.heap.size w w' → _)
  clear hc hn hn0 hbw hS h1 h2 h3
  have g0 := hB.c 0 _ rfl; have g1 := hB.c 1 _ rfl; have g2 := hB.c 2 _ rfl; have g3 := hB.c 3 _ rfl
  have gl := hB.lt
  clear hB
  go_enter Try.func67, Try.ntmps67
  go_wp2_with fail
  refine (HE.out _ (by (repeat (first | exact Below.refl _ _ | assumption | (refine Below.setCell ?_ (by first | (simp; done) | (simp; omega) | omega) _) | (refine Below.drew ?_) | (refine below_drewN ?_ _) | (refine Below.alloc ?_ (by first | (simp; done) | (simp; omega) | omega) _) | (refine Below.trans ?_ (Below.mono (by assumption) (by first | (simp; done) | (simp; omega) | omega))))))).mono ?_
  rintro e w6 ⟨rfl, hb6⟩
  have R6 : Blk w6 w.heap.size [.float .f32 0, .float .f32 0, .float .f32 0] := (Blk.new _ _ _ _ rfl).past hb6
  have B6 : Below w.heap.size w w6 := by (repeat (first | exact Below.refl _ _ | assumption | (refine Below.setCell ?_ (by first | (simp; done) | (simp; omega) | omega) _) | (refine Below.drew ?_) | (refine below_drewN ?_ _) | (refine Below.alloc ?_ (by first | (simp; done) | (simp; omega) | omega) _) | (refine Below.trans ?_ (Below.mono (by assumption) (by first | (simp; done) | (simp; omega) | omega)))))
  have z0 := R6.c 0 _ rfl; have z1 := R6.c 1 _ rfl; have z2 := R6.c 2 _ rfl; have zf := R6.f; have zl := R6.lt
  clear hb6 R6 g0 g1 g2 g3 gl
  go_wp2_with fail
  refine bodyPost_ret (v := .agg #[.float .f32 (cn .f32 (fs (3 * enI S i j k))), .float .f32 (cn .f32 (fs (3 * enI S i j k + 1))), .float .f32 (cn .f32 (fs (3 * enI S i j k + 2)))]) (by simp [results, Try.results67, go_sem, z0, z1, z2]) rfl ⟨⟨fun c => cn .f32 (fs (3 * enI S i j k + c)), rfl, fun c _ => cn_cn _ _⟩, ?_⟩
  exact ((B6.setCell (by first | (simp; done) | (simp; omega) | omega) _).setCell (by first | (simp; done) | (simp; omega) | omega) _).setCell (by first | (simp; done) | (simp; omega) | omega) _
set_option maxRecDepth 100000 in
set_option maxHeartbeats 4000000 in
theorem cs_no (size : Int) (lo hi : Nat) (a : Option Addr) (n cap : Nat) (T : Int) (w : World) (hW : smoE size lo hi n T ≠ 0) :
    Calls Try.prog 9 #[.agg #[.int .i64 size, .float .f32 lo, .float .f32 hi, .slice a n cap], .int .i64 T] w fun e w' => e = .returned (.bool true) ∧ Below w.heap.size w w' := by
  have hWb : (smoE size lo hi n T != 0) = true := by simpa using hW
  have hWe : firstE (cubErr size lo hi n) (whenE (!inB T 0 8) 3) = smoE size lo hi n T := rfl
  have HWb := Lib.hid (And.intro hWb hWe)
  clear hWb hWe
  go_enter Try.func9, Try.ntmps9
  go_upto_region 2 with (first | (go_at_call 62; refine (Smoothed_no _ _ _ _ _ _ _ _ hW).mono ?_; rintro e w2 ⟨rfl, hb2⟩))
  clear hW
  refine wp_world (fun V hV => ?_)
  have sz := hb2.size
  simp at sz
  have C2 : Blk w2 w.heap.size [.int .i64 size, .float .f32 lo, .float .f32 hi, .slice a n cap] := (Blk.new _ _ _ _ rfl).past hb2
  have BV : Below w2.heap.size w2 V := by rw [hV]; (repeat (first | exact Below.refl _ _ | assumption | (refine Below.setCell ?_ (by first | (simp; done) | (simp; omega) | omega) _) | (refine Below.drew ?_) | (refine below_drewN ?_ _) | (refine Below.alloc ?_ (by first | (simp; done) | (simp; omega) | omega) _) | (refine Below.trans ?_ (Below.mono (by assumption) (by first | (simp; done) | (simp; omega) | omega)))))
  have D2 : Blk V w2.heap.size [.int .i64 0, .float .f32 0, .float .f32 0, .slice none 0 0] := by rw [hV]; exact Blk.new _ _ _ _ rfl
  have CV := C2.past BV
  have Bw2 : Below w.heap.size w w2 := by (repeat (first | exact Below.refl _ _ | assumption | (refine Below.setCell ?_ (by first | (simp; done) | (simp; omega) | omega) _) | (refine Below.drew ?_) | (refine below_drewN ?_ _) | (refine Below.alloc ?_ (by first | (simp; done) | (simp; omega) | omega) _) | (refine Below.trans ?_ (Below.mono (by assumption) (by first | (simp; done) | (simp; omega) | omega)))))
  have BW : Below w.heap.size w V := Bw2.trans (BV.mono Bw2.size)
  clear hV hb2 C2 BV Bw2
  generalize w2.heap.size = nd at *
  have f0 := CV.c 0 _ rfl; have f1 := CV.c 1 _ rfl; have f2 := CV.c 2 _ rfl; have f3 := CV.c 3 _ rfl; have fl := CV.lt
  have S := Lib.hid (And.intro D2 BW)
  clear CV D2 BW
  go_upto_region 3 with (first | (go_at_call 63; refine (CubeError_any _ _ _ _ _ _ _).mono ?_; rintro e w3 ⟨rfl, hb3⟩) | (go_at_call 35; refine (In_any _ _ _ _).mono ?_; rintro e w' ⟨rfl, rfl⟩) | (go_at_call 42; refine (When_any _ _ _).mono ?_; rintro e w' ⟨rfl, rfl⟩) | (go_at_call 19; refine (First2_new _ _ _ _ _ (heap_new _ _ _ (by simp))).mono ?_; rintro e w' ⟨rfl, rfl⟩))
  refine wp_world (fun V3 hV3 => ?_)
  have B3 : Below w3.heap.size w3 V3 := by rw [hV3]; (repeat (first | exact Below.refl _ _ | assumption | (refine Below.setCell ?_ (by first | (simp; done) | (simp; omega) | omega) _) | (refine Below.drew ?_) | (refine below_drewN ?_ _) | (refine Below.alloc ?_ (by first | (simp; done) | (simp; omega) | omega) _) | (refine Below.trans ?_ (Below.mono (by assumption) (by first | (simp; done) | (simp; omega) | omega)))))
  have S3 := Lib.hid (And.intro ((S.out.1.past hb3).past B3) ((S.out.2.trans (hb3.mono S.out.2.size)).trans (B3.mono (by have := S.out.2.size; have := hb3.size; omega))))
  clear hV3 B3 hb3 f0 f1 f2 f3 fl S
  obtain ⟨hWb, hWe⟩ := HWb.out
  rw [hWe]
  generalize smoE size lo hi n T = Wn at *
  clear hWe HWb
  go_wp2_with (first | (go_at_call 64; refine (cubes_any _).mono ?_; rintro e w4 ⟨rfl, hb4⟩; have S4 := Lib.hid (And.intro (S3.out.1.past hb4) (S3.out.2.trans (hb4.mono S3.out.2.size))); clear hb4 S3) | (go_at_call 64; refine (cubes_any _).mono ?_; rintro e w5 ⟨rfl, hb5⟩; have S5 := Lib.hid (And.intro (S4.out.1.past hb5) (S4.out.2.trans (hb5.mono S4.out.2.size))); clear hb5 S4; have d0 := S5.out.1.c 0 _ rfl; have d1 := S5.out.1.c 1 _ rfl; have d2 := S5.out.1.c 2 _ rfl; have d3 := S5.out.1.c 3 _ rfl; have dl := S5.out.1.lt) | (go_at_call 65; refine (noCube_zero _ _ _).mono ?_; rintro e w6 ⟨rfl, hb6⟩; have B6 := S5.out.2.trans (hb6.mono S5.out.2.size); clear hb6))
  go_ret
  exact ⟨ret_b (by simp), B6⟩
/-- What stands of the statement's variables. -/
structure CsR (w wr : World) (nd nx : Nat) (S lo hi : Nat) (sl : Value) (g capg n : Nat) (fT f : Nat → Nat) : Prop where
  c : Blk wr w.heap.size (cubL S lo hi sl)
  d : Blk wr nd (cubL S lo hi (.slice (some ⟨g, 0, none⟩) n capg))
  dr : Row wr g 0 n fT
  x : ∃ h cap, Blk wr nx (cubL S lo hi (.slice (some ⟨h, 0, none⟩) n cap)) ∧ Row wr h 0 n f
  b : Below w.heap.size w wr
theorem CsR.past {w wr wy : World} {nd nx S lo hi : Nat} {sl : Value} {g capg n : Nat} {fT f : Nat → Nat} (k : CsR w wr nd nx S lo hi sl g capg n fT f) (h : Below wr.heap.size wr wy) : CsR w wy nd nx S lo hi sl g capg n fT f :=
  ⟨k.c.past h, k.d.past h, k.dr.past h, let ⟨a, cap, h1, h2⟩ := k.x; ⟨a, cap, h1.past h, h2.past h⟩, k.b.trans (h.mono k.b.size)⟩
set_option maxRecDepth 100000 in
set_option maxHeartbeats 4000000 in
theorem cs_yes (S : Nat) (lo hi b off n cap : Nat) (fs : Nat → Nat) (T : Nat) (w : World) (he : cubErr S lo hi n = 0) (hT : T ≤ 8) (hcap : n ≤ cap) (hc : Row w b off n fs) :
    Calls Try.prog 9 #[.agg #[.int .i64 S, .float .f32 lo, .float .f32 hi, .slice (some ⟨b, off, none⟩) n cap], .int .i64 T] w fun e w' => e = .returned (.bool true) ∧ Below w.heap.size w w' := by
  obtain ⟨hS, hS0, hn, hpos, hnb⟩ := cub_ok_nat he
  have hbw : b < w.heap.size := hc.lt (by omega)
  have HF := Lib.hid (And.intro he (And.intro hcap (And.intro hc hn)))
  have hin : inB (T : Int) 0 8 = true := inB_t ⟨by omega, by omega⟩
  have hWe : firstE (cubErr S lo hi n) (whenE (!inB (T : Int) 0 8) 3) = 0 := by rw [he, hin]; rfl
  have HWe := Lib.hid hWe
  have hnp : 0 < n := by omega
  clear he hcap hc hin hWe hn
  go_enter Try.func9, Try.ntmps9
  go_upto_region 2 with (first | (go_at_call 62; refine (Smoothed_yes S lo hi b off n cap fs T _ HF.out.1 hT HF.out.2.1 (HF.out.2.2.1.below ((Below.refl w.heap.size w).alloc (Nat.le_refl _) _) hbw)).mono ?_; rintro e w2 ⟨g, capg, rfl, hg, hrow, hb2⟩))
  refine wp_world (fun V hV => ?_)
  have sz := hb2.size
  simp at sz
  have C2 : Blk w2 w.heap.size (cubL S lo hi (.slice (some ⟨b, off, none⟩) n cap)) := (Blk.new _ _ _ _ rfl).past hb2
  have BV : Below w2.heap.size w2 V := by rw [hV]; (repeat (first | exact Below.refl _ _ | assumption | (refine Below.setCell ?_ (by first | (simp; done) | (simp; omega) | omega) _) | (refine Below.drew ?_) | (refine below_drewN ?_ _) | (refine Below.alloc ?_ (by first | (simp; done) | (simp; omega) | omega) _) | (refine Below.trans ?_ (Below.mono (by assumption) (by first | (simp; done) | (simp; omega) | omega)))))
  have D2 : Blk V w2.heap.size (cubL S lo hi (.slice (some ⟨g, 0, none⟩) n capg)) := by rw [hV]; exact Blk.new _ _ _ _ rfl
  have CV := C2.past BV
  have Bw2 : Below w.heap.size w w2 := by (repeat (first | exact Below.refl _ _ | assumption | (refine Below.setCell ?_ (by first | (simp; done) | (simp; omega) | omega) _) | (refine Below.drew ?_) | (refine below_drewN ?_ _) | (refine Below.alloc ?_ (by first | (simp; done) | (simp; omega) | omega) _) | (refine Below.trans ?_ (Below.mono (by assumption) (by first | (simp; done) | (simp; omega) | omega)))))
  have BW : Below w.heap.size w V := Bw2.trans (BV.mono Bw2.size)
  have RV := hrow.past BV
  have hgd : g < w2.heap.size := hg
  have hwd : w.heap.size < w2.heap.size := by omega
  clear hV hb2 C2 BV Bw2 hrow hg sz
  generalize w2.heap.size = nd at *
  have f0 := CV.c 0 _ rfl; have f1 := CV.c 1 _ rfl; have f2 := CV.c 2 _ rfl; have f3 := CV.c 3 _ rfl; have fl := CV.lt
  have SV := Lib.hid (And.intro CV (And.intro D2 (And.intro RV BW)))
  clear CV D2 RV BW
  go_upto_region 3 with (first | (go_at_call 63; refine (CubeError_any _ _ _ _ _ _ _).mono ?_; rintro e w3 ⟨rfl, hb3⟩) | (go_at_call 35; refine (In_any _ _ _ _).mono ?_; rintro e w' ⟨rfl, rfl⟩) | (go_at_call 42; refine (When_any _ _ _).mono ?_; rintro e w' ⟨rfl, rfl⟩) | (go_at_call 19; refine (First2_new _ _ _ _ _ (heap_new _ _ _ (by simp))).mono ?_; rintro e w' ⟨rfl, rfl⟩))
  refine wp_world (fun V3 hV3 => ?_)
  have B3 : Below w3.heap.size w3 V3 := by rw [hV3]; (repeat (first | exact Below.refl _ _ | assumption | (refine Below.setCell ?_ (by first | (simp; done) | (simp; omega) | omega) _) | (refine Below.drew ?_) | (refine below_drewN ?_ _) | (refine Below.alloc ?_ (by first | (simp; done) | (simp; omega) | omega) _) | (refine Below.trans ?_ (Below.mono (by assumption) (by first | (simp; done) | (simp; omega) | omega)))))
  have B3' : Below V.heap.size V V3 := hb3.trans (B3.mono hb3.size)
  have S3 := Lib.hid (And.intro (SV.out.1.past B3') (And.intro (SV.out.2.1.past B3') (And.intro (SV.out.2.2.1.past B3') (SV.out.2.2.2.trans (B3'.mono SV.out.2.2.2.size)))))
  clear hV3 B3 B3' hb3 f0 f1 f2 f3 fl SV
  rw [HWe.out]
  go_wp2_with (first | (go_at_call 64; refine (cubes_any _).mono ?_; rintro e w4 ⟨rfl, hb4⟩; have S4 := Lib.hid (And.intro (S3.out.1.past hb4) (And.intro (S3.out.2.1.past hb4) (And.intro (S3.out.2.2.1.past hb4) (S3.out.2.2.2.trans (hb4.mono S3.out.2.2.2.size))))); clear hb4 S3; have f0 := S4.out.1.c 0 _ rfl; have f1 := S4.out.1.c 1 _ rfl; have f2 := S4.out.1.c 2 _ rfl; have fl := S4.out.1.lt))
  clear f0 f1 f2 fl
  refine calls_world (fun W5 hW5 => ?_)
  have B5 : Below w4.heap.size w4 W5 := by rw [hW5]; (repeat (first | exact Below.refl _ _ | assumption | (refine Below.setCell ?_ (by first | (simp; done) | (simp; omega) | omega) _) | (refine Below.drew ?_) | (refine below_drewN ?_ _) | (refine Below.alloc ?_ (by first | (simp; done) | (simp; omega) | omega) _) | (refine Below.trans ?_ (Below.mono (by assumption) (by first | (simp; done) | (simp; omega) | omega)))))
  have S5 := Lib.hid (And.intro (S4.out.1.past B5) (And.intro (S4.out.2.1.past B5) (And.intro (S4.out.2.2.1.past B5) (S4.out.2.2.2.trans (B5.mono S4.out.2.2.2.size)))))
  clear hW5 B5 S4
  refine (MadeOf_any 67 #[.pointer (some ⟨w.heap.size, 0, none⟩)] S lo hi (fun e m => cn .f32 (fs (3 * e + m))) W5 hS (by omega) (body_enters Try.func67 (by kernel_rfl) rfl) (fun i j k w' hi hj hk hb => cs_c1 S i j k lo _ b off n cap w.heap.size fs w' hS hi hj hk HF.out.2.2.2 (HF.out.2.2.1.below (S5.out.2.2.2.trans (hb.mono S5.out.2.2.2.size)) hbw) (S5.out.1.past hb))).mono ?_
  rintro e w6 ⟨h6, cap6, rfl, hg1, hg2, hg3, hg4, hrow, hb6⟩
  rw [← HF.out.2.2.2] at hrow ⊢
  have S6 := Lib.hid (And.intro (S5.out.1.past hb6) (And.intro (S5.out.2.1.past hb6) (And.intro (S5.out.2.2.1.past hb6) (And.intro (S5.out.2.2.2.trans (hb6.mono S5.out.2.2.2.size)) (row0 hrow)))))
  have hnx : nd < w6.heap.size := S6.out.2.1.lt
  clear hb6 hrow hg1 hg2 hg3 hg4 S5
  go_wp2_with fail
  refine wp_world (fun W7 hW7 => ?_)
  have B7 : Below w6.heap.size w6 W7 := by rw [hW7]; (repeat (first | exact Below.refl _ _ | assumption | (refine Below.setCell ?_ (by first | (simp; done) | (simp; omega) | omega) _) | (refine Below.drew ?_) | (refine below_drewN ?_ _) | (refine Below.alloc ?_ (by first | (simp; done) | (simp; omega) | omega) _) | (refine Below.trans ?_ (Below.mono (by assumption) (by first | (simp; done) | (simp; omega) | omega)))))
  have X7 : Blk W7 w6.heap.size (cubL S lo hi (.slice (some ⟨h6, 0, none⟩) n cap6)) := by rw [hW7]; exact Blk.new _ _ _ _ rfl
  have M0 := Lib.hid (CsR.mk (fT := iterG S fs T) (f := iterG S fs 0) (S6.out.1.past B7) (S6.out.2.1.past B7) (S6.out.2.2.1.past B7) ⟨h6, cap6, X7, S6.out.2.2.2.2.past B7⟩ (S6.out.2.2.2.1.trans (B7.mono S6.out.2.2.2.1.size)))
  clear hW7 B7 X7 S6
  generalize w6.heap.size = nx at *
  go_loopw [48] (fun s48 wr => ∃ u : Nat, u ≤ T ∧ s48 = .int .i64 u ∧ CsR w wr nd nx S lo hi (.slice (some ⟨b, off, none⟩) n cap) g capg n (iterG S fs T) (iterG S fs u)) (fun s48 _ => T - (intOf s48).toNat)
  case atStart => exact ⟨0, by omega, rfl, M0.out⟩
  case round =>
    obtain ⟨u, hu, rfl, M⟩ := hrel
    have HM := Lib.hid M
    clear M M0
    by_cases huT : u < T
    · obtain ⟨h2, cap2, hX2, hR2⟩ := HM.out.x
      have x0 := hX2.c 0 _ rfl; have x1 := hX2.c 1 _ rfl; have x2 := hX2.c 2 _ rfl; have x3 := hX2.c 3 _ rfl; have xl := hX2.lt
      have HR2 := Lib.hid hR2
      clear hX2 hR2
      go_wp2_with (first | (go_at_call 69; refine (SmoothedOf_yes S lo hi h2 0 n cap2 _ _ hS hS0 HF.out.2.2.2 HR2.out).mono ?_; rintro e w8 ⟨h8, cap8, rfl, hge, hlt, hrow, hb8⟩; have M8 := HM.out.past hb8; have HM8 := Lib.hid M8; have HR8 := Lib.hid hrow; obtain ⟨hx, capx, hBx, -⟩ := M8.x; clear x0 x1 x2 x3 xl hb8 hrow M8; have x0 := hBx.c 0 _ rfl; have x1 := hBx.c 1 _ rfl; have x2 := hBx.c 2 _ rfl; have x3 := hBx.c 3 _ rfl; have xf := hBx.f; have xl := hBx.lt; have HBx := Lib.hid hBx; clear hBx))
      have hxr : nx < wr.heap.size := by obtain ⟨_, _, h, _⟩ := HM.out.x; exact h.lt
      go_roundw
      case rel =>
        refine ⟨u + 1, by omega, by first | rfl | go_num, (((HM8.out.c.far _ _ (by simp; omega)).far _ _ (by simp; omega)).far _ _ (by simp; omega)).far _ _ (by simp; omega), (((HM8.out.d.far _ _ (by simp; omega)).far _ _ (by simp; omega)).far _ _ (by simp; omega)).far _ _ (by simp; omega), (((HM8.out.dr.far _ _ (by simp; omega)).far _ _ (by simp; omega)).far _ _ (by simp; omega)).far _ _ (by simp; omega), ⟨h8, cap8, (((HBx.out.set 0 _).set 1 _).set 2 _).set 3 _, (((HR8.out.far _ _ (by simp; omega)).far _ _ (by simp; omega)).far _ _ (by simp; omega)).far _ _ (by simp; omega)⟩, (((HM8.out.b.setCell (by simp; omega) _).setCell (by simp; omega) _).setCell (by simp; omega) _).setCell (by simp; omega) _⟩
      case measure => simp [intOf]; omega
    · have huT' : u = T := by omega
      subst huT'
      obtain ⟨h2, cap2, hX2, hR2⟩ := HM.out.x
      have x0 := hX2.c 0 _ rfl; have x1 := hX2.c 1 _ rfl; have x2 := hX2.c 2 _ rfl; have x3 := hX2.c 3 _ rfl; have xl := hX2.lt
      have d0 := HM.out.d.c 0 _ rfl; have d1 := HM.out.d.c 1 _ rfl; have d2 := HM.out.d.c 2 _ rfl; have d3 := HM.out.d.c 3 _ rfl; have dl := HM.out.d.lt
      have HR2 := Lib.hid hR2
      clear hX2 hR2
      go_wp2_with (first | (go_at_call 70; refine (sameCube_yes S lo hi g 0 h2 0 n capg cap2 _ _ (by omega) (by omega) HM.out.dr HR2.out).mono ?_; rintro e w9 ⟨rfl, hb9⟩; have B9 := HM.out.b.trans (hb9.mono HM.out.b.size); clear hb9))
      go_ret
      exact ⟨ret_b (by simp), B9⟩
theorem cs_walk (size : Int) (lo hi : Nat) (a : Option Addr) (n cap : Nat) (fs : Nat → Nat) (T : Int) (w : World)
    (_ : IntKind.i64.min ≤ size ∧ size ≤ IntKind.i64.max) (_ : lo < 2 ^ FloatKind.f32.format.width) (_ : hi < 2 ^ FloatKind.f32.format.width) (hf : IsFloats w a n cap fs) (_ : IntKind.i64.min ≤ T ∧ T ≤ IntKind.i64.max) :
    Calls Try.prog 9 #[.agg #[.int .i64 size, .float .f32 lo, .float .f32 hi, .slice a n cap], .int .i64 T] w fun e w' => e = .returned (.bool true) ∧ Below w.heap.size w w' := by
  by_cases hW : smoE size lo hi n T = 0
  · have he : cubErr size lo hi n = 0 := by
      by_cases hz : cubErr size lo hi n = 0
      · exact hz
      · unfold smoE at hW; rw [firstE_of _ hz] at hW; exact hW
    have hT : 0 ≤ T ∧ T ≤ 8 := by
      unfold smoE at hW; rw [he] at hW
      cases h : inB T 0 8
      · rw [h] at hW; cases hW
      · exact inB_iff.1 h
    obtain ⟨⟨s1, s2⟩, -⟩ := cubErr_ok he
    obtain ⟨S, rfl⟩ : ∃ S : Nat, size = S := ⟨size.toNat, by omega⟩
    obtain ⟨t, rfl⟩ : ∃ t : Nat, T = t := ⟨T.toNat, by omega⟩
    obtain ⟨-, -, hn, hpos, -⟩ := cub_ok_nat he
    rcases hf with ⟨hz, -⟩ | ⟨b, off, rfl, -, hcap, hm, hcell⟩
    · omega
    · exact cs_yes S lo hi b off n cap fs t w he (by omega) hcap (fun i hi => (hcell i (by omega)).1)
  · exact cs_no size lo hi a n cap T w hW
end Go.Proofs.Ytalgepfammpmbaa
