/- Smoothing a cube: cube.Smoothed. Conditions: where the cube is right, its singles are known. -/
import Derived.Test.YtalgepfammpmbaaCuE
import Derived.Test.YtalgepfammpmbaaCuF
namespace Go.Proofs.Ytalgepfammpmbaa
open Go.RowKit
/-- The entries behind so many times of smoothing. -/
def iterG (S : Nat) (fs : Nat → Nat) : Nat → Nat → Nat
  | 0 => fun x => cn .f32 (fs x)
  | t + 1 => fun x => softV (iterG S fs t) S (x / 3 % S) (x / 3 / S % S) (x / 3 / S / S) (x % 3)
def softG (S : Nat) (fs : Nat → Nat) (e m : Nat) : Nat := softV fs S (e % S) (e / S % S) (e / S / S) m
theorem Row.far {w : World} {b off n : Nat} {fs : Nat → Nat} (k : Row w b off n fs) (q : Addr) (t : Value) (hq : q.block ≠ b) : Row (w.setCell q t) b off n fs := fun i hi => by
  rw [World.cell?_setCell_other _ _ _ _ (by intro h; first | exact hq (congrArg Addr.block h) | exact hq (congrArg Addr.block h).symm)]; exact k i hi
theorem row0 {w : World} {g n : Nat} {fs : Nat → Nat} (k : Row w g 0 n (fun i => cn .f32 (fs (3 * (i / 3) + i % 3)))) : Row w g 0 n (fun x => cn .f32 (fs x)) := fun i hi => by
  rw [k i hi]; simp only []; rw [show 3 * (i / 3) + i % 3 = i by omega]
def cubL (S lo hi : Nat) (s : Value) : List Value := [.int .i64 S, .float .f32 lo, .float .f32 hi, s]
set_option maxRecDepth 100000 in
set_option maxHeartbeats 1600000 in
theorem Smoothed_c1 (S i j k : Nat) (lo hi b off n cap pc : Nat) (fs : Nat → Nat) (w : World) (hS : S ≤ 17) (h1 : i < S) (h2 : j < S) (h3 : k < S) (hn : n = 3 * (S * S * S)) (hcap : n ≤ cap) (hc : Row w b off n fs) (hB : Blk w pc (cubL S lo hi (.slice (some ⟨b, off, none⟩) n cap))) :
    Calls Try.prog 149 #[.int .i64 i, .int .i64 j, .int .i64 k, .pointer (some ⟨pc, 0, none⟩)] w fun e w' =>
      (∃ q : Nat → Nat, e = .returned (.agg #[.float .f32 (q 0), .float .f32 (q 1), .float .f32 (q 2)]) ∧ ∀ c, c < 3 → cn .f32 (q c) = cn .f32 (fs (3 * enI S i j k + c))) ∧ Below w.heap.size w w' := by
  have hn0 : 0 < n := by have := enI_lt h1 h2 h3; omega
  have hbw := hc.lt hn0
  have HE := Lib.hid (fun w' hb => entry_any S i j k lo hi b off n cap fs w' hS h1 h2 h3 hn hcap (hc.below hb hbw) : ∀ w', Below w.heap.size w w' → _)
  clear hc hn hcap hn0 hbw hS h1 h2 h3
  have g0 := hB.c 0 _ rfl; have g1 := hB.c 1 _ rfl; have g2 := hB.c 2 _ rfl; have g3 := hB.c 3 _ rfl
  have gl := hB.lt
  clear hB
  go_enter Try.func149, Try.ntmps149
  go_wp2_with fail
  refine (HE.out _ (by (repeat (first | exact Below.refl _ _ | assumption | (refine Below.setCell ?_ (by first | (simp; done) | (simp; omega) | omega) _) | (refine Below.drew ?_) | (refine below_drewN ?_ _) | (refine Below.alloc ?_ (by first | (simp; done) | (simp; omega) | omega) _) | (refine Below.trans ?_ (Below.mono (by assumption) (by first | (simp; done) | (simp; omega) | omega))))))).mono ?_
  rintro e w6 ⟨rfl, hb6⟩
  have R6 : Blk w6 w.heap.size [.float .f32 0, .float .f32 0, .float .f32 0] := (Blk.new _ _ _ _ rfl).past hb6
  have B6 : Below w.heap.size w w6 := by (repeat (first | exact Below.refl _ _ | assumption | (refine Below.setCell ?_ (by first | (simp; done) | (simp; omega) | omega) _) | (refine Below.drew ?_) | (refine below_drewN ?_ _) | (refine Below.alloc ?_ (by first | (simp; done) | (simp; omega) | omega) _) | (refine Below.trans ?_ (Below.mono (by assumption) (by first | (simp; done) | (simp; omega) | omega)))))
  have z0 := R6.c 0 _ rfl; have z1 := R6.c 1 _ rfl; have z2 := R6.c 2 _ rfl; have zf := R6.f; have zl := R6.lt
  clear hb6 R6 g0 g1 g2 g3 gl
  go_wp2_with fail
  refine bodyPost_ret (v := .agg #[.float .f32 (fs (3 * enI S i j k)), .float .f32 (fs (3 * enI S i j k + 1)), .float .f32 (fs (3 * enI S i j k + 2))]) (by simp [results, Try.results149, go_sem, z0, z1, z2]) rfl ⟨⟨fun c => fs (3 * enI S i j k + c), rfl, fun c _ => rfl⟩, ?_⟩
  exact ((B6.setCell (by first | (simp; done) | (simp; omega) | omega) _).setCell (by first | (simp; done) | (simp; omega) | omega) _).setCell (by first | (simp; done) | (simp; omega) | omega) _
set_option maxRecDepth 100000 in
set_option maxHeartbeats 1600000 in
theorem Smoothed_c2 (S i j k : Nat) (lo hi b off n cap pc : Nat) (fs : Nat → Nat) (w : World) (hS : S ≤ 17) (h1 : i < S) (h2 : j < S) (h3 : k < S) (hn : n = 3 * (S * S * S)) (hcap : n ≤ cap) (hc : Row w b off n fs) (hB : Blk w pc (cubL S lo hi (.slice (some ⟨b, off, none⟩) n cap))) :
    Calls Try.prog 151 #[.int .i64 i, .int .i64 j, .int .i64 k, .pointer (some ⟨pc, 0, none⟩)] w fun e w' =>
      (∃ q : Nat → Nat, e = .returned (.agg #[.float .f32 (q 0), .float .f32 (q 1), .float .f32 (q 2)]) ∧ ∀ c, c < 3 → cn .f32 (q c) = softG S fs (enI S i j k) c) ∧ Below w.heap.size w w' := by
  have hn0 : 0 < n := by have := enI_lt h1 h2 h3; omega
  have hbw := hc.lt hn0
  have HE := Lib.hid (fun w' hb => soft_any S i j k lo hi b off n cap fs w' hS h1 h2 h3 hn hcap (hc.below hb hbw) : ∀ w', Below w.heap.size w w' → _)
  have HD := Lib.hid (enI_dec (k := k) h1 h2)
  clear hc hn hcap hn0 hbw hS h1 h2 h3
  have g0 := hB.c 0 _ rfl; have g1 := hB.c 1 _ rfl; have g2 := hB.c 2 _ rfl; have g3 := hB.c 3 _ rfl
  have gl := hB.lt
  clear hB
  go_enter Try.func151, Try.ntmps151
  go_wp2_with fail
  refine (HE.out _ (by (repeat (first | exact Below.refl _ _ | assumption | (refine Below.setCell ?_ (by first | (simp; done) | (simp; omega) | omega) _) | (refine Below.drew ?_) | (refine below_drewN ?_ _) | (refine Below.alloc ?_ (by first | (simp; done) | (simp; omega) | omega) _) | (refine Below.trans ?_ (Below.mono (by assumption) (by first | (simp; done) | (simp; omega) | omega))))))).mono ?_
  rintro e w6 ⟨⟨q, rfl, hq⟩, hb6⟩
  have HQ := Lib.hid hq
  have R6 : Blk w6 w.heap.size [.float .f32 0, .float .f32 0, .float .f32 0] := (Blk.new _ _ _ _ rfl).past hb6
  have B6 : Below w.heap.size w w6 := by (repeat (first | exact Below.refl _ _ | assumption | (refine Below.setCell ?_ (by first | (simp; done) | (simp; omega) | omega) _) | (refine Below.drew ?_) | (refine below_drewN ?_ _) | (refine Below.alloc ?_ (by first | (simp; done) | (simp; omega) | omega) _) | (refine Below.trans ?_ (Below.mono (by assumption) (by first | (simp; done) | (simp; omega) | omega)))))
  have z0 := R6.c 0 _ rfl; have z1 := R6.c 1 _ rfl; have z2 := R6.c 2 _ rfl; have zf := R6.f; have zl := R6.lt
  clear hb6 R6 g0 g1 g2 g3 gl hq
  go_wp2_with fail
  refine bodyPost_ret (v := .agg #[.float .f32 (q 0), .float .f32 (q 1), .float .f32 (q 2)]) (by simp [results, Try.results151, go_sem, z0, z1, z2]) rfl ⟨⟨q, rfl, fun c hc => ?_⟩, ?_⟩
  · obtain ⟨d1, d2, d3⟩ := HD.out
    unfold softG; rw [d1, d2, d3]; exact HQ.out c hc
  exact ((B6.setCell (by first | (simp; done) | (simp; omega) | omega) _).setCell (by first | (simp; done) | (simp; omega) | omega) _).setCell (by first | (simp; done) | (simp; omega) | omega) _
/-- What stands behind so many times. -/
structure SmR (w wr : World) (nb : Nat) (L : List Value) (S lo hi n : Nat) (f : Nat → Nat) : Prop where
  c : Blk wr w.heap.size L
  z : Blk wr (w.heap.size + 1) [.int .i64 0, .float .f32 0, .float .f32 0, .slice none 0 0]
  o : ∃ g cap, Blk wr nb (cubL S lo hi (.slice (some ⟨g, 0, none⟩) n cap)) ∧ Row wr g 0 n f ∧ n ≤ cap ∧ cap ≤ 9223372036854775807 ∧ g < wr.heap.size
  b : Below w.heap.size w wr
theorem SmR.past {w wr wy : World} {nb : Nat} {L : List Value} {S lo hi n : Nat} {f : Nat → Nat} (k : SmR w wr nb L S lo hi n f) (h : Below wr.heap.size wr wy) : SmR w wy nb L S lo hi n f :=
  ⟨k.c.past h, k.z.past h, let ⟨g, cap, h1, h2, h3, h4, h5⟩ := k.o; ⟨g, cap, h1.past h, h2.past h, h3, h4, Nat.lt_of_lt_of_le h5 h.size⟩, k.b.trans (h.mono k.b.size)⟩
set_option maxRecDepth 100000 in
set_option maxHeartbeats 3200000 in
theorem Smoothed_yes (S : Nat) (lo hi b off n cap : Nat) (fs : Nat → Nat) (T : Nat) (w : World) (he : cubErr S lo hi n = 0) (hT : T ≤ 8) (hcap : n ≤ cap) (hc : Row w b off n fs) :
    Calls Try.prog 62 #[.agg #[.int .i64 S, .float .f32 lo, .float .f32 hi, .slice (some ⟨b, off, none⟩) n cap], .int .i64 T] w fun e w' =>
      ∃ g cap', e = .returned (.tuple #[.agg #[.int .i64 S, .float .f32 lo, .float .f32 hi, .slice (some ⟨g, 0, none⟩) n cap'], .int .i64 0]) ∧ g < w'.heap.size ∧ Row w' g 0 n (iterG S fs T) ∧ Below w.heap.size w w' := by
  obtain ⟨⟨s1, s2⟩, hn', -⟩ := cubErr_ok he
  have hS : S ≤ 17 := by omega
  have hS0 : 2 ≤ S := by omega
  have hn : n = 3 * (S * S * S) := by
    have := (cub_bd (size := (S : Int)) ⟨by omega, by omega⟩).2.2.1
    rw [this] at hn'; simp only [← Int.natCast_mul] at hn'; omega
  have hb := cub_nat hS
  have hpos : 8 ≤ S * S * S := by
    have := (cub_bd (size := (S : Int)) ⟨by omega, by omega⟩).1
    simp only [← Int.natCast_mul] at this; omega
  have hbw : b < w.heap.size := hc.lt (by omega)
  have HC := Lib.hid (And.intro hcap (And.intro hc hn))
  clear s1 s2 hn' hcap hc hb hn
  go_enter Try.func62, Try.ntmps62
  go_wp2_with (first | (go_at_call 82; refine (CuCheck_any _ _ _ _ _ _ _).mono ?_; rintro e w1 ⟨rfl, hb1⟩; have hs1 := hb1.size; simp at hs1; have B1 : Below w.heap.size w w1 := (by (repeat (first | exact Below.refl _ _ | assumption | (refine Below.setCell ?_ (by first | (simp; done) | (simp; omega) | omega) _) | (refine Below.drew ?_) | (refine below_drewN ?_ _) | (refine Below.alloc ?_ (by first | (simp; done) | (simp; omega) | omega) _) | (refine Below.trans ?_ (Below.mono (by assumption) (by first | (simp; done) | (simp; omega) | omega)))))); have FB : Blk w1 w.heap.size (cubL S lo hi (.slice (some ⟨b, off, none⟩) n cap)) := ((Blk.new _ _ _ _ rfl).alloc _).past hb1; have ZB : Blk w1 (w.heap.size + 1) [.int .i64 0, .float .f32 0, .float .f32 0, .slice none 0 0] := (Blk.new _ _ _ _ (by simp)).past hb1; clear hb1; have g0 := FB.c 0 _ rfl; have g1 := FB.c 1 _ rfl; have g2 := FB.c 2 _ rfl; have g3 := FB.c 3 _ rfl; have gl := FB.lt; have zl := ZB.lt; have HFZ := Lib.hid (And.intro FB (And.intro ZB B1)); clear FB ZB B1; rw [he]))
  refine calls_world (fun W hW => ?_)
  have B1W : Below w1.heap.size w1 W := by rw [hW]; (repeat (first | exact Below.refl _ _ | assumption | (refine Below.setCell ?_ (by first | (simp; done) | (simp; omega) | omega) _) | (refine Below.drew ?_) | (refine below_drewN ?_ _) | (refine Below.alloc ?_ (by first | (simp; done) | (simp; omega) | omega) _) | (refine Below.trans ?_ (Below.mono (by assumption) (by first | (simp; done) | (simp; omega) | omega)))))
  have HW := Lib.hid (And.intro (HFZ.out.1.past B1W) (And.intro (HFZ.out.2.1.past B1W) (HFZ.out.2.2.trans (B1W.mono HFZ.out.2.2.size))))
  clear hW HFZ B1W g0 g1 g2 g3 gl zl
  refine (made_any 149 #[.pointer (some ⟨w.heap.size, 0, none⟩)] S lo hi (fun e m => cn .f32 (fs (3 * e + m))) W hS (by omega) (body_enters Try.func149 (by kernel_rfl) rfl) (fun i j k w' hi hj hk hb => Smoothed_c1 S i j k lo _ b off n cap w.heap.size fs w' hS hi hj hk HC.out.2.2 HC.out.1 (HC.out.2.1.below (HW.out.2.2.trans (hb.mono HW.out.2.2.size)) hbw) (HW.out.1.past hb))).mono ?_
  rintro e w3 ⟨g, cap3, rfl, hg1, hg2, hg3, hg4, hrow, hb3⟩
  rw [← HC.out.2.2] at hg3 hrow ⊢
  have HW3 := Lib.hid (And.intro (HW.out.1.past hb3) (And.intro (HW.out.2.1.past hb3) (And.intro (HW.out.2.2.trans (hb3.mono HW.out.2.2.size)) (And.intro (row0 hrow) (And.intro hg2 (And.intro hg3 hg4))))))
  clear hb3 hrow hg1 hg2 hg3 hg4 HW
  go_wp2_with fail
  refine wp_world (fun W4 hW4 => ?_)
  have M0 : SmR w W4 w3.heap.size (cubL S lo hi (.slice (some ⟨b, off, none⟩) n cap)) S lo hi n (iterG S fs 0) := by
    have B4 : Below w3.heap.size w3 W4 := by rw [hW4]; (repeat (first | exact Below.refl _ _ | assumption | (refine Below.setCell ?_ (by first | (simp; done) | (simp; omega) | omega) _) | (refine Below.drew ?_) | (refine below_drewN ?_ _) | (refine Below.alloc ?_ (by first | (simp; done) | (simp; omega) | omega) _) | (refine Below.trans ?_ (Below.mono (by assumption) (by first | (simp; done) | (simp; omega) | omega)))))
    refine ⟨HW3.out.1.past B4, HW3.out.2.1.past B4, ⟨g, cap3, ?_, HW3.out.2.2.2.1.past B4, HW3.out.2.2.2.2.2.1, HW3.out.2.2.2.2.2.2, Nat.lt_of_lt_of_le HW3.out.2.2.2.2.1 B4.size⟩, HW3.out.2.2.1.trans (B4.mono HW3.out.2.2.1.size)⟩
    rw [hW4]; first | exact Blk.new _ _ _ _ rfl | exact ((((Blk.new _ _ _ _ rfl).set 0 _).set 1 _).set 2 _).set 3 _
  have hnb : w.heap.size + 1 < w3.heap.size := HW3.out.2.1.lt
  have HM0 := Lib.hid M0
  clear hW4 M0 HW3
  generalize w3.heap.size = nb at *
  go_loopw [31] (fun s31 wr => ∃ u : Nat, u ≤ T ∧ s31 = .int .i64 u ∧ SmR w wr nb (cubL S lo hi (.slice (some ⟨b, off, none⟩) n cap)) S lo hi n (iterG S fs u)) (fun s31 _ => T - (intOf s31).toNat)
  case atStart => exact ⟨0, by omega, rfl, HM0.out⟩
  case round =>
    obtain ⟨u, hu, rfl, M⟩ := hrel
    have HM := Lib.hid M
    clear M HM0
    by_cases huT : u < T
    · obtain ⟨g2, cap2, hB2, hR2, hc2, hm2, hl2⟩ := HM.out.o
      have o0 := hB2.c 0 _ rfl; have o1 := hB2.c 1 _ rfl; have o2 := hB2.c 2 _ rfl; have o3 := hB2.c 3 _ rfl
      have c0 := HM.out.c.c 0 _ rfl; have c1 := HM.out.c.c 1 _ rfl; have c2 := HM.out.c.c 2 _ rfl
      have ol := hB2.lt; have cl := HM.out.c.lt
      have HO := Lib.hid (And.intro hR2 hc2)
      clear hB2 hR2 hc2 hm2 hl2
      go_wp2_with fail
      refine calls_world (fun W5 hW5 => ?_)
      have B5 : Below wr.heap.size wr W5 := by rw [hW5]; (repeat (first | exact Below.refl _ _ | assumption | (refine Below.setCell ?_ (by first | (simp; done) | (simp; omega) | omega) _) | (refine Below.drew ?_) | (refine below_drewN ?_ _) | (refine Below.alloc ?_ (by first | (simp; done) | (simp; omega) | omega) _) | (refine Below.trans ?_ (Below.mono (by assumption) (by first | (simp; done) | (simp; omega) | omega)))))
      have OB : Blk W5 wr.heap.size (cubL S lo hi (.slice (some ⟨g2, 0, none⟩) n cap2)) := by rw [hW5]; first | exact Blk.new _ _ _ _ rfl | exact ((((Blk.new _ _ _ _ rfl).set 0 _).set 1 _).set 2 _).set 3 _
      have HW5 := Lib.hid (And.intro (HM.out.past B5) (And.intro OB (HO.out.1.past B5)))
      have lg2 : g2 < W5.heap.size := (HO.out.1.past B5).lt (by rw [HC.out.2.2]; omega)
      have lsz := B5.size
      clear hW5 B5 OB o0 o1 o2 o3 c0 c1 c2 ol cl HM
      refine (made_any 151 #[.pointer (some ⟨wr.heap.size, 0, none⟩)] S lo hi (softG S (iterG S fs u)) W5 hS (by omega) (body_enters Try.func151 (by kernel_rfl) rfl) (fun i j k w' hi hj hk hb => Smoothed_c2 S i j k lo _ g2 0 n cap2 wr.heap.size _ w' hS hi hj hk HC.out.2.2 HO.out.2 (HW5.out.2.2.below hb lg2) (HW5.out.2.1.past hb))).mono ?_
      rintro e w6 ⟨g6, cap6, rfl, hg1, hg2, hg3, hg4, hrow, hb6⟩
      rw [← HC.out.2.2] at hg3 hrow ⊢
      have M6 := HW5.out.1.past hb6
      have HM6 := Lib.hid M6
      have HR6 := Lib.hid (And.intro hrow (And.intro hg3 (And.intro hg4 hg2)))
      obtain ⟨gx, capx, hBx, -⟩ := M6.o
      have o0 := hBx.c 0 _ rfl; have o1 := hBx.c 1 _ rfl; have o2 := hBx.c 2 _ rfl; have o3 := hBx.c 3 _ rfl; have of := hBx.f; have ol := hBx.lt
      have HBx := Lib.hid hBx
      have hgn : nb < W5.heap.size := by obtain ⟨_, _, h, _⟩ := HW5.out.1.o; exact h.lt
      clear hb6 hrow hg3 hg4 hBx M6
      go_wp2_with fail
      go_roundw
      case rel =>
        refine ⟨u + 1, by omega, by first | rfl | go_num, (((HM6.out.c.far _ _ (by simp; omega)).far _ _ (by simp; omega)).far _ _ (by simp; omega)).far _ _ (by simp; omega), (((HM6.out.z.far _ _ (by simp; omega)).far _ _ (by simp; omega)).far _ _ (by simp; omega)).far _ _ (by simp; omega), ⟨g6, cap6, (((HBx.out.set 0 _).set 1 _).set 2 _).set 3 _, (((HR6.out.1.far _ _ (by simp; omega)).far _ _ (by simp; omega)).far _ _ (by simp; omega)).far _ _ (by simp; omega), HR6.out.2.1, HR6.out.2.2.1, by have := HR6.out.2.2.2; simpa [World.setCell] using this⟩, (((HM6.out.b.setCell (by simp; omega) _).setCell (by simp; omega) _).setCell (by simp; omega) _).setCell (by simp; omega) _⟩
      case measure => simp [intOf]; omega
    · have huT' : u = T := by omega
      subst huT'
      obtain ⟨g2, cap2, hB2, hR2, hc2, hm2, hl2⟩ := HM.out.o
      have o0 := hB2.c 0 _ rfl; have o1 := hB2.c 1 _ rfl; have o2 := hB2.c 2 _ rfl; have o3 := hB2.c 3 _ rfl; have ol := hB2.lt
      have z0 := HM.out.z.c 0 _ rfl; have z1 := HM.out.z.c 1 _ rfl; have z2 := HM.out.z.c 2 _ rfl; have z3 := HM.out.z.c 3 _ rfl; have zf := HM.out.z.f; have zl := HM.out.z.lt
      have HO := Lib.hid (And.intro hR2 hl2)
      have hgz : w.heap.size + 1 ≠ g2 ∨ True := .inr trivial
      clear hB2 hR2 hc2 hm2 hl2 hgz
      go_wp2_with fail
      refine bodyPost_ret (v := .tuple #[.agg #[.int .i64 S, .float .f32 lo, .float .f32 hi, .slice (some ⟨g2, 0, none⟩) n cap2], .int .i64 0]) (by simp [results, Try.results62, go_sem, z0, z1, z2, z3]) rfl ⟨g2, cap2, rfl, by have := HO.out.2; simpa [World.setCell] using this, ?_, ?_⟩
      · have hne : w.heap.size + 1 ≠ g2 := by
          intro h
          have h0 := HO.out.1 0 (by rw [HC.out.2.2]; omega)
          rw [← h, Nat.zero_add] at h0
          rw [z0] at h0; cases h0
        exact (((HO.out.1.far _ _ hne).far _ _ hne).far _ _ hne).far _ _ hne
      · exact (((HM.out.b.setCell (by first | (simp; done) | (simp; omega) | omega) _).setCell (by first | (simp; done) | (simp; omega) | omega) _).setCell (by first | (simp; done) | (simp; omega) | omega) _).setCell (by first | (simp; done) | (simp; omega) | omega) _
end Go.Proofs.Ytalgepfammpmbaa
