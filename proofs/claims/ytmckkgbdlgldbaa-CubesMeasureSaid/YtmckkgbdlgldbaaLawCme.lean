/- CubesMeasure: the walk of the statement, whole. No condition. -/
import Derived.Test.YtmckkgbdlgldbaaCmeH
import Derived.Test.YtmckkgbdlgldbaaBO
namespace Go.Proofs.Ytmckkgbdlgldbaa
open Go Go.RowKit
theorem isNum_cnv (x : Nat) : isNum .f32 (cn .f32 x) = isNum .f32 x := by
  by_cases h : isN .f32 x = true
  · have e1 : isNum .f32 x = false := by
      cases hh : isNum .f32 x with
      | false => rfl
      | true => rw [isNum_not_nan hh] at h; cases h
    rw [e1, cn_of_nan h]; decide +kernel
  · rw [cn_of_not (by simpa using h)]
theorem meThree_any (a0 a1 a2 b0 b1 b2 : Nat) (w : World) : Calls Try.prog 61 #[.agg #[.float .f32 a0, .float .f32 a1, .float .f32 a2], .agg #[.float .f32 b0, .float .f32 b1, .float .f32 b2]] w fun e w' => e = .returned (.bool (decide (a0 = b0) && decide (a1 = b1) && decide (a2 = b2))) ∧ Below w.heap.size w w' := by
  go_enter Try.func61, Try.ntmps61
  go_wp2_with (first | (go_at_call 25; refine (same_any _ _ _).mono ?_; rintro e w' ⟨rfl, rfl⟩))
  all_goals (go_ret; refine ⟨ret_b ?_, by (repeat (first | exact Below.refl _ _ | assumption | (refine Below.setCell ?_ (by first | (simp; done) | (simp; omega) | omega) _) | (refine Below.drew ?_) | (refine below_drewN ?_ _) | (refine Below.alloc ?_ (by first | (simp; done) | (simp; omega) | omega) _) | (refine Below.trans ?_ (Below.mono (by assumption) (by first | (simp; done) | (simp; omega) | omega)))))⟩; simp [*])
/-- What stands of the statement's variables: the cubes, the bounds told. -/
structure MeR (w W : World) (La Lb : List Value) (nl : Nat) (l h : Nat → Nat) : Prop where
  a : Blk W w.heap.size La
  b : Blk W (w.heap.size + 1) Lb
  l : VecF W nl 3 l
  h : VecF W (nl + 1) 3 h
  n : w.heap.size + 1 < nl
  w : Below w.heap.size w W
theorem MeR.past {w W V : World} {La Lb : List Value} {nl : Nat} {l h : Nat → Nat} (k : MeR w W La Lb nl l h) (e : Below W.heap.size W V) : MeR w V La Lb nl l h := ⟨k.a.past e, k.b.past e, k.l.past e, k.h.past e, k.n, k.w.trans (e.mono k.w.size)⟩
theorem MeR.far {w W : World} {La Lb : List Value} {nl : Nat} {l h : Nat → Nat} (k : MeR w W La Lb nl l h) (q : Addr) (v : Value) (hq : nl + 1 < q.block) : MeR w (W.setCell q v) La Lb nl l h :=
  ⟨k.a.far _ _ (by have := k.n; omega), k.b.far _ _ (by have := k.n; omega), k.l.far _ _ (by omega), k.h.far _ _ (by omega), k.n, k.w.setCell (by have := k.n; omega) _⟩
def xK (fs : Nat → Nat) (k m : Nat) : Nat := if k ≤ m then 0 else loK fs m k
def yK (fs : Nat → Nat) (k m : Nat) : Nat := if k ≤ m then 0 else hiK fs m k
theorem xK_lo {fs : Nat → Nat} {k : Nat} (hk : k < 3) : ∀ j, j < 3 → (if j = k then fs k else xK fs k j) = xK fs (k + 1) j := fun j hj => by
  unfold xK
  by_cases h : j = k
  · subst h; rw [if_pos rfl, if_neg (by omega), loK_first hj _ (Nat.le_refl _)]
  · rw [if_neg h]
    by_cases h2 : k ≤ j
    · rw [if_pos h2, if_pos (by omega)]
    · rw [if_neg h2, if_neg (by omega)]
      show _ = (if k % 3 = j then lessF (loK fs j k) (fs k) else loK fs j k)
      rw [if_neg (by omega)]
theorem yK_lo {fs : Nat → Nat} {k : Nat} (hk : k < 3) : ∀ j, j < 3 → (if j = k then fs k else yK fs k j) = yK fs (k + 1) j := fun j hj => by
  unfold yK
  by_cases h : j = k
  · subst h; rw [if_pos rfl, if_neg (by omega), hiK_first hj _ (Nat.le_refl _)]
  · rw [if_neg h]
    by_cases h2 : k ≤ j
    · rw [if_pos h2, if_pos (by omega)]
    · rw [if_neg h2, if_neg (by omega)]
      show _ = (if k % 3 = j then moreF (hiK fs j k) (fs k) else hiK fs j k)
      rw [if_neg (by omega)]
theorem xK_hi {fs : Nat → Nat} {k j : Nat} (hk : 3 ≤ k) (hj : j < 3) : xK fs k j = loK fs j k := by unfold xK; rw [if_neg (by omega)]
theorem yK_hi {fs : Nat → Nat} {k j : Nat} (hk : 3 ≤ k) (hj : j < 3) : yK fs k j = hiK fs j k := by unfold yK; rw [if_neg (by omega)]
/-- .. and the law's own bounds. -/
structure MxR (w W : World) (La Lb : List Value) (nl : Nat) (l h : Nat → Nat) (nx : Nat) (x y : Nat → Nat) : Prop where
  m : MeR w W La Lb nl l h
  n : nl + 1 < nx
  x : VecF W nx 3 x
  y : VecF W (nx + 1) 3 y
theorem MxR.past {w W V : World} {La Lb : List Value} {nl nx : Nat} {l h x y : Nat → Nat} (k : MxR w W La Lb nl l h nx x y) (e : Below W.heap.size W V) : MxR w V La Lb nl l h nx x y := ⟨k.m.past e, k.n, k.x.past e, k.y.past e⟩
theorem MxR.setx {w W : World} {La Lb : List Value} {nl nx : Nat} {l h x y : Nat → Nat} (k : MxR w W La Lb nl l h nx x y) (i v : Nat) (hi : i < 3) : MxR w (W.setCell ⟨nx, i, none⟩ (.float .f32 v)) La Lb nl l h nx (fun j => if j = i then v else x j) y :=
  ⟨k.m.far _ _ k.n, k.n, k.x.set i v hi, k.y.far _ _ (by simp)⟩
theorem MxR.sety {w W : World} {La Lb : List Value} {nl nx : Nat} {l h x y : Nat → Nat} (k : MxR w W La Lb nl l h nx x y) (i v : Nat) (hi : i < 3) : MxR w (W.setCell ⟨nx + 1, i, none⟩ (.float .f32 v)) La Lb nl l h nx x (fun j => if j = i then v else y j) :=
  ⟨k.m.far _ _ (by have := k.n; simp; omega), k.n, k.x.far _ _ (by simp), k.y.set i v hi⟩
theorem MxR.congr {w W : World} {La Lb : List Value} {nl nx : Nat} {l h x y x' y' : Nat → Nat} (k : MxR w W La Lb nl l h nx x y) (e1 : ∀ j, j < 3 → x j = x' j) (e2 : ∀ j, j < 3 → y j = y' j) : MxR w W La Lb nl l h nx x' y' := ⟨k.m, k.n, k.x.congr e1, k.y.congr e2⟩
def fixK (f : Nat → Nat) (k m : Nat) : Nat := if m < k then cn .f32 (f m) else f m
set_option maxRecDepth 100000 in
set_option maxHeartbeats 8000000 in
theorem cme_core (S lo hi b off n cap : Nat) (sb : Int) (lb hb : Nat) (ab : Option Addr) (nb cb : Nat) (fs : Nat → Nat) (AP : Nat) (EB : Int) (w : World) (he : cubErr S lo hi n = 0) (hcap : n ≤ cap) (hc : Row w b off n fs)
    (hEB : EB = firstE (cubErr sb lb hb nb) (whenE (confB S sb lo lb hi hb) 12))
    (hAP : ∀ w', Below w.heap.size w w' → Calls Try.prog 57 #[.agg #[.int .i64 S, .float .f32 lo, .float .f32 hi, .slice (some ⟨b, off, none⟩) n cap], .agg #[.int .i64 sb, .float .f32 lb, .float .f32 hb, .slice ab nb cb]] w' fun e w'' => e = .returned (.tuple #[.float .f32 AP, .int .i64 EB]) ∧ Below w'.heap.size w' w'')
    (hz : EB ≠ 0 → AP = 0)
    (hCA : EB = 0 → ∀ w', Below w.heap.size w w' → Calls Try.prog 60 #[.agg #[.int .i64 S, .float .f32 lo, .float .f32 hi, .slice (some ⟨b, off, none⟩) n cap], .agg #[.int .i64 sb, .float .f32 lb, .float .f32 hb, .slice ab nb cb]] w' fun e w'' => e = .returned (.float .f32 AP) ∧ Below w'.heap.size w' w'') :
    Calls Try.prog 8 #[.agg #[.int .i64 S, .float .f32 lo, .float .f32 hi, .slice (some ⟨b, off, none⟩) n cap], .agg #[.int .i64 sb, .float .f32 lb, .float .f32 hb, .slice ab nb cb]] w fun e w' => e = .returned (.bool true) ∧ Below w.heap.size w w' := by
  obtain ⟨hS, hS0, hn, hpos, hnb⟩ := cub_ok_nat he
  have hn24 : 24 ≤ n := by omega
  have hbw : b < w.heap.size := hc.lt (by omega)
  obtain ⟨GR, hGR⟩ : ∃ g, g = greyF S fs S := ⟨_, rfl⟩
  obtain ⟨RO, hRO⟩ : ∃ g, g = roughF S fs n := ⟨_, rfl⟩
  obtain ⟨L, hL⟩ : ∃ l : Nat → Nat, l = fun m => cn .f32 (loK fs m n) := ⟨_, rfl⟩
  obtain ⟨H, hH⟩ : ∃ l : Nat → Nat, l = fun m => cn .f32 (hiK fs m n) := ⟨_, rfl⟩
  have HGY := Lib.hid (fun w' hb => Grey_yes S lo hi b off n cap fs w' he hcap (hc.below hb hbw) : ∀ w', Below w.heap.size w w' → _)
  have HRY := Lib.hid (fun w' hb => Rough_yes S lo hi b off n cap fs w' he (hc.below hb hbw) : ∀ w', Below w.heap.size w w' → _)
  have HRO := Lib.hid (fun w' hb => RoughOf_yes S lo hi b off n cap fs w' he (hc.below hb hbw) : ∀ w', Below w.heap.size w w' → _)
  have HBY := Lib.hid (fun w' hb => Bounds_yes S lo hi b off n cap fs w' he (hc.below hb hbw) : ∀ w', Below w.heap.size w w' → _)
  have l0 : cn .f32 (loK fs 0 n) = L 0 := by rw [hL]
  have l1 : cn .f32 (loK fs 1 n) = L 1 := by rw [hL]
  have l2 : cn .f32 (loK fs 2 n) = L 2 := by rw [hL]
  have h0 : cn .f32 (hiK fs 0 n) = H 0 := by rw [hH]
  have h1 : cn .f32 (hiK fs 1 n) = H 1 := by rw [hH]
  have h2 : cn .f32 (hiK fs 2 n) = H 2 := by rw [hH]
  rw [← hGR] at HGY
  rw [← hRO] at HRY HRO
  rw [l0, l1, l2, h0, h1, h2] at HBY
  have HLH := Lib.hid (And.intro hL hH)
  have HEO := Lib.hid (fun k w' hk hb => EntryOf_any S k k k lo hi b off n cap fs w' hS hk hk hk hn (hc.below hb hbw) : ∀ k w', k < S → Below w.heap.size w w' → _)
  have HC := Lib.hid (fun (w' : World) (hb : Below w.heap.size w w') => hc.below hb hbw : ∀ w', Below w.heap.size w w' → _)
  have HE := Lib.hid he; have HEB := Lib.hid hEB; have HAP := Lib.hid hAP; have HZ := Lib.hid hz; have HCA := Lib.hid hCA; have HG := Lib.hid hGR
  clear he hcap hc hbw hn hpos hEB hAP hz hCA hGR hRO hL hH l0 l1 l2 h0 h1 h2
  go_enter Try.func8, Try.ntmps8
  go_upto_region 1 with fail
  refine wp_world (fun W hW => ?_)
  have R0 : EbR w W [.int .i64 S, .float .f32 lo, .float .f32 hi, .slice (some ⟨b, off, none⟩) n cap] [.int .i64 sb, .float .f32 lb, .float .f32 hb, .slice ab nb cb] := by rw [hW]; exact ⟨(Blk.new _ _ _ _ rfl).alloc _, Blk.new _ _ _ _ (by simp), by (repeat (first | exact Below.refl _ _ | assumption | (refine Below.setCell ?_ (by first | (simp; done) | (simp; omega) | omega) _) | (refine Below.drew ?_) | (refine below_drewN ?_ _) | (refine Below.alloc ?_ (by first | (simp; done) | (simp; omega) | omega) _) | (refine Below.trans ?_ (Below.mono (by assumption) (by first | (simp; done) | (simp; omega) | omega)))))⟩
  have HR0 := Lib.hid R0
  clear hW R0
  have a0 := HR0.out.a.c 0 _ rfl; have a1 := HR0.out.a.c 1 _ rfl; have a2 := HR0.out.a.c 2 _ rfl; have a3 := HR0.out.a.c 3 _ rfl; have al := HR0.out.a.lt
  go_wp2_with fail
  refine (HGY.out _ HR0.out.w).mono ?_
  rintro e w1 ⟨rfl, hb1⟩
  have HR1 := Lib.hid (HR0.out.past hb1)
  clear a0 a1 a2 a3 al HR0 hb1 HGY
  have a0 := HR1.out.a.c 0 _ rfl; have a1 := HR1.out.a.c 1 _ rfl; have a2 := HR1.out.a.c 2 _ rfl; have a3 := HR1.out.a.c 3 _ rfl; have al := HR1.out.a.lt
  go_wp2_with fail
  refine (HRY.out _ HR1.out.w).mono ?_
  rintro e w2 ⟨rfl, hb2⟩
  have HR2 := Lib.hid (HR1.out.past hb2)
  clear a0 a1 a2 a3 al HR1 hb2 HRY
  have a0 := HR2.out.a.c 0 _ rfl; have a1 := HR2.out.a.c 1 _ rfl; have a2 := HR2.out.a.c 2 _ rfl; have a3 := HR2.out.a.c 3 _ rfl; have al := HR2.out.a.lt
  have b0 := HR2.out.b.c 0 _ rfl; have b1 := HR2.out.b.c 1 _ rfl; have b2 := HR2.out.b.c 2 _ rfl; have b3 := HR2.out.b.c 3 _ rfl; have bl := HR2.out.b.lt
  go_wp2_with fail
  refine (HAP.out _ HR2.out.w).mono ?_
  rintro e w3 ⟨rfl, hb3⟩
  have HR3 := Lib.hid (HR2.out.past hb3)
  clear a0 a1 a2 a3 al HR2 hb3 HAP
  clear b0 b1 b2 b3 bl
  have a0 := HR3.out.a.c 0 _ rfl; have a1 := HR3.out.a.c 1 _ rfl; have a2 := HR3.out.a.c 2 _ rfl; have a3 := HR3.out.a.c 3 _ rfl; have al := HR3.out.a.lt
  go_wp2_with fail
  refine (HBY.out _ HR3.out.w).mono ?_
  rintro e w4 ⟨rfl, hb4⟩
  have HR4 := Lib.hid (HR3.out.past hb4)
  clear a0 a1 a2 a3 al HR3 hb4 HBY
  go_upto_region 5 with fail
  refine wp_world (fun W5 hW5 => ?_)
  have HM5 := Lib.hid (MeR.mk (w := w) (W := W5) (La := [.int .i64 S, .float .f32 lo, .float .f32 hi, .slice (some ⟨b, off, none⟩) n cap]) (Lb := [.int .i64 sb, .float .f32 lb, .float .f32 hb, .slice ab nb cb]) (nl := w4.heap.size) (l := L) (h := H)
    (by rw [hW5]; exact HR4.out.a.past (by (repeat (first | exact Below.refl _ _ | assumption | (refine Below.setCell ?_ (by first | (simp; done) | (simp; omega) | omega) _) | (refine Below.drew ?_) | (refine below_drewN ?_ _) | (refine Below.alloc ?_ (by first | (simp; done) | (simp; omega) | omega) _) | (refine Below.trans ?_ (Below.mono (by assumption) (by first | (simp; done) | (simp; omega) | omega))))))) (by rw [hW5]; exact HR4.out.b.past (by (repeat (first | exact Below.refl _ _ | assumption | (refine Below.setCell ?_ (by first | (simp; done) | (simp; omega) | omega) _) | (refine Below.drew ?_) | (refine below_drewN ?_ _) | (refine Below.alloc ?_ (by first | (simp; done) | (simp; omega) | omega) _) | (refine Below.trans ?_ (Below.mono (by assumption) (by first | (simp; done) | (simp; omega) | omega))))))) (by rw [hW5]; exact VecF.of3 ((Blk.new _ _ _ _ rfl).alloc _)) (by rw [hW5]; exact VecF.of3 (Blk.new _ _ _ _ (by simp))) HR4.out.b.lt (by rw [hW5]; exact HR4.out.w.trans (Below.mono (by (repeat (first | exact Below.refl _ _ | assumption | (refine Below.setCell ?_ (by first | (simp; done) | (simp; omega) | omega) _) | (refine Below.drew ?_) | (refine below_drewN ?_ _) | (refine Below.alloc ?_ (by first | (simp; done) | (simp; omega) | omega) _) | (refine Below.trans ?_ (Below.mono (by assumption) (by first | (simp; done) | (simp; omega) | omega)))))) HR4.out.w.size)))
  clear hW5 HR4
  generalize w4.heap.size = nl at *
  have a0 := HM5.out.a.c 0 _ rfl; have a1 := HM5.out.a.c 1 _ rfl; have a2 := HM5.out.a.c 2 _ rfl; have a3 := HM5.out.a.c 3 _ rfl; have al := HM5.out.a.lt
  go_wp2_with fail
  refine (CubeError_any _ _ _ _ _ _ _).mono ?_
  rintro e w6 ⟨rfl, hb6⟩
  rw [HE.out]
  have HM6 := Lib.hid (HM5.out.past hb6)
  clear a0 a1 a2 a3 al HM5 hb6
  go_wp2_with fail
  refine (cubes_any _).mono ?_
  rintro e w7 ⟨rfl, hb7⟩
  have HM7 := Lib.hid (HM6.out.past hb7)
  clear hb7 HM6
  have a0 := HM7.out.a.c 0 _ rfl; have al := HM7.out.a.lt
  go_wp2_with fail
  clear a0 al
  go_loopw [15, 99] (fun s15 s99 wr => ∃ k : Nat, k ≤ S ∧ s99 = .int .i64 k ∧ s15 = .bool (greyF S fs k) ∧ MeR w wr [.int .i64 S, .float .f32 lo, .float .f32 hi, .slice (some ⟨b, off, none⟩) n cap] [.int .i64 sb, .float .f32 lb, .float .f32 hb, .slice ab nb cb] nl L H) (fun _ s99 _ => S - (intOf s99).toNat)
  case atStart => exact ⟨0, Nat.zero_le _, rfl, rfl, HM7.out⟩
  case round =>
    obtain ⟨k, hk, rfl, rfl, hM⟩ := hrel
    have HM := Lib.hid hM
    clear hM HM7
    by_cases hkS : k < S
    · have hkS' : (k : Int) < (S : Int) := by omega
      obtain ⟨gk, hgk⟩ : ∃ g, g = greyF S fs k := ⟨_, rfl⟩
      rw [← hgk]
      obtain ⟨q, hq⟩ : ∃ q : Nat → Nat, q = fun m => cn .f32 (fs (3 * enI S k k k + m)) := ⟨_, rfl⟩
      have HGK := Lib.hid (show greyF S fs (k + 1) = (gk && (isNum .f32 (q 0) && (decide (q 0 = q 1) && decide (q 0 = q 2)))) by rw [hgk, hq]; show (greyF S fs k && greyN S fs k) = _; unfold greyN; simp only [isNum_cnv, Nat.add_zero])
      have HEK := Lib.hid (fun w' => HEO.out k w' hkS)
      have q0 : cn .f32 (fs (3 * enI S k k k)) = q 0 := by rw [hq]; rfl
      have q1 : cn .f32 (fs (3 * enI S k k k + 1)) = q 1 := by rw [hq]
      have q2 : cn .f32 (fs (3 * enI S k k k + 2)) = q 2 := by rw [hq]
      rw [q0, q1, q2] at HEK
      clear hq hgk q0 q1 q2
      have a0 := HM.out.a.c 0 _ rfl; have a1 := HM.out.a.c 1 _ rfl; have a2 := HM.out.a.c 2 _ rfl; have a3 := HM.out.a.c 3 _ rfl; have al := HM.out.a.lt
      go_wp2_with fail
      refine (HEK.out _ HM.out.w).mono ?_
      rintro e w8 ⟨rfl, hb8⟩
      have HM8 := Lib.hid (HM.out.past hb8)
      clear a0 a1 a2 a3 al HM hb8 HEK
      go_upto_region 13 with fail
      refine wp_world (fun W9 hW9 => ?_)
      have B9 : Below w8.heap.size w8 W9 := by rw [hW9]; (repeat (first | exact Below.refl _ _ | assumption | (refine Below.setCell ?_ (by first | (simp; done) | (simp; omega) | omega) _) | (refine Below.drew ?_) | (refine below_drewN ?_ _) | (refine Below.alloc ?_ (by first | (simp; done) | (simp; omega) | omega) _) | (refine Below.trans ?_ (Below.mono (by assumption) (by first | (simp; done) | (simp; omega) | omega)))))
      have Q9 : Blk W9 w8.heap.size [.float .f32 (q 0), .float .f32 (q 1), .float .f32 (q 2)] := by rw [hW9]; exact Blk.new _ _ _ _ rfl
      have HM9 := Lib.hid (HM8.out.past B9)
      have q0 := Q9.c 0 _ rfl; have q1 := Q9.c 1 _ rfl; have q2 := Q9.c 2 _ rfl; have ql := Q9.lt
      clear hW9 B9 Q9 HM8
      generalize w8.heap.size = nq at *
      cases gk
      · have n0 : True := trivial
        have d1 : True := trivial
        have d2 : True := trivial
        go_wp2_with (first | (go_at_call 44; refine (IsNumberR_any _ _).mono ?_; rintro e w' ⟨rfl, m, rfl⟩; rw [n0]) | (go_at_call 25; refine (same_any _ _ _).mono ?_; rintro e w' ⟨rfl, rfl⟩; first | rw [d1] | rw [d2]))
        go_roundw
        case rel => exact ⟨k + 1, by omega, by go_num, by rw [HGK.out] <;> rfl, HM9.out.past (by (repeat (first | exact Below.refl _ _ | assumption | (refine Below.setCell ?_ (by first | (simp; done) | (simp; omega) | omega) _) | (refine Below.drew ?_) | (refine below_drewN ?_ _) | (refine Below.alloc ?_ (by first | (simp; done) | (simp; omega) | omega) _) | (refine Below.trans ?_ (Below.mono (by assumption) (by first | (simp; done) | (simp; omega) | omega))))))⟩
        case measure => simp [intOf]; omega
      · cases n0 : isNum .f32 (q 0)
        · have HGK := Lib.hid (show greyF S fs (k + 1) = false by rw [HGK.out, n0]; rfl)
          go_wp2_with (first | (go_at_call 44; refine (IsNumberR_any _ _).mono ?_; rintro e w' ⟨rfl, m, rfl⟩; rw [n0]) | (go_at_call 25; refine (same_any _ _ _).mono ?_; rintro e w' ⟨rfl, rfl⟩; first | rw [d1] | rw [d2]))
          go_roundw
          case rel => exact ⟨k + 1, by omega, by go_num, by rw [HGK.out] <;> rfl, HM9.out.past (by (repeat (first | exact Below.refl _ _ | assumption | (refine Below.setCell ?_ (by first | (simp; done) | (simp; omega) | omega) _) | (refine Below.drew ?_) | (refine below_drewN ?_ _) | (refine Below.alloc ?_ (by first | (simp; done) | (simp; omega) | omega) _) | (refine Below.trans ?_ (Below.mono (by assumption) (by first | (simp; done) | (simp; omega) | omega))))))⟩
          case measure => simp [intOf]; omega
        · cases d1 : decide (q 0 = q 1)
          · have HGK := Lib.hid (show greyF S fs (k + 1) = false by rw [HGK.out, n0, d1]; rfl)
            go_wp2_with (first | (go_at_call 44; refine (IsNumberR_any _ _).mono ?_; rintro e w' ⟨rfl, m, rfl⟩; rw [n0]) | (go_at_call 25; refine (same_any _ _ _).mono ?_; rintro e w' ⟨rfl, rfl⟩; first | rw [d1] | rw [d2]))
            go_roundw
            case rel => exact ⟨k + 1, by omega, by go_num, by rw [HGK.out] <;> rfl, HM9.out.past (by (repeat (first | exact Below.refl _ _ | assumption | (refine Below.setCell ?_ (by first | (simp; done) | (simp; omega) | omega) _) | (refine Below.drew ?_) | (refine below_drewN ?_ _) | (refine Below.alloc ?_ (by first | (simp; done) | (simp; omega) | omega) _) | (refine Below.trans ?_ (Below.mono (by assumption) (by first | (simp; done) | (simp; omega) | omega))))))⟩
            case measure => simp [intOf]; omega
          · cases d2 : decide (q 0 = q 2)
            · have HGK := Lib.hid (show greyF S fs (k + 1) = false by rw [HGK.out, n0, d1, d2]; rfl)
              go_wp2_with (first | (go_at_call 44; refine (IsNumberR_any _ _).mono ?_; rintro e w' ⟨rfl, m, rfl⟩; rw [n0]) | (go_at_call 25; refine (same_any _ _ _).mono ?_; rintro e w' ⟨rfl, rfl⟩; first | rw [d1] | rw [d2]))
              go_roundw
              case rel => exact ⟨k + 1, by omega, by go_num, by rw [HGK.out] <;> rfl, HM9.out.past (by (repeat (first | exact Below.refl _ _ | assumption | (refine Below.setCell ?_ (by first | (simp; done) | (simp; omega) | omega) _) | (refine Below.drew ?_) | (refine below_drewN ?_ _) | (refine Below.alloc ?_ (by first | (simp; done) | (simp; omega) | omega) _) | (refine Below.trans ?_ (Below.mono (by assumption) (by first | (simp; done) | (simp; omega) | omega))))))⟩
              case measure => simp [intOf]; omega
            · have HGK := Lib.hid (show greyF S fs (k + 1) = true by rw [HGK.out, n0, d1, d2]; rfl)
              go_wp2_with (first | (go_at_call 44; refine (IsNumberR_any _ _).mono ?_; rintro e w' ⟨rfl, m, rfl⟩; rw [n0]) | (go_at_call 25; refine (same_any _ _ _).mono ?_; rintro e w' ⟨rfl, rfl⟩; first | rw [d1] | rw [d2]))
              go_roundw
              case rel => exact ⟨k + 1, by omega, by go_num, by rw [HGK.out] <;> rfl, HM9.out.past (by (repeat (first | exact Below.refl _ _ | assumption | (refine Below.setCell ?_ (by first | (simp; done) | (simp; omega) | omega) _) | (refine Below.drew ?_) | (refine below_drewN ?_ _) | (refine Below.alloc ?_ (by first | (simp; done) | (simp; omega) | omega) _) | (refine Below.trans ?_ (Below.mono (by assumption) (by first | (simp; done) | (simp; omega) | omega))))))⟩
              case measure => simp [intOf]; omega
    · have hkk : ¬ (k : Int) < (S : Int) := by omega
      rw [show greyF S fs k = GR by rw [HG.out, show k = S by omega]]
      have a0 := HM.out.a.c 0 _ rfl; have a1 := HM.out.a.c 1 _ rfl; have a2 := HM.out.a.c 2 _ rfl; have a3 := HM.out.a.c 3 _ rfl; have al := HM.out.a.lt
      go_wp2_with fail
      refine (HRO.out _ HM.out.w).mono ?_
      rintro e w8 ⟨rfl, hb8⟩
      have HM8 := Lib.hid (HM.out.past hb8)
      clear a0 a1 a2 a3 al HM hb8 HRO
      go_upto_region 17 with (first | (go_at_call 25; refine (same_any _ _ _).mono ?_; rintro e w' ⟨rfl, rfl⟩))
      have a0 := HM8.out.a.c 0 _ rfl; have a1 := HM8.out.a.c 1 _ rfl; have a2 := HM8.out.a.c 2 _ rfl; have a3 := HM8.out.a.c 3 _ rfl; have al := HM8.out.a.lt
      have b0 := HM8.out.b.c 0 _ rfl; have b1 := HM8.out.b.c 1 _ rfl; have b2 := HM8.out.b.c 2 _ rfl; have b3 := HM8.out.b.c 3 _ rfl; have bl := HM8.out.b.lt
      have HM9 := HM8
      go_cut [14] (fun s14 wx => s14 = .int .i64 EB ∧ Below w8.heap.size w8 wx)
      case first =>
        as_aux_lemma =>
          by_cases hs : (S : Int) = sb
          · have e1 : ((S : Int) != sb) = false := by simpa using hs
            have HS1 := Lib.hid hs
            clear hs
            cases hl : (FloatKind.f32.format.order lo lb != some .eq)
            · cases hh : (FloatKind.f32.format.order hi hb != some .eq)
              all_goals
                refine wp_region_loose 22 (fun f args u => (f = 35 ∧ u = .int .i64 (cubErr sb lb hb nb)) ∨ (f = 21 ∧ u = .int .i64 (whenE (argB args 0) 12))) (by kernel_rfl) (by kernel_rfl) ?_
                simp only [List.take_succ_cons, List.take_zero, List.drop_succ_cons, List.drop_zero]
                iterate 1 (refine loose_wanted rfl (fun K hK => ?_); go_simp; refine hK _ ?_; clear hK K)
                refine loose_wanted rfl (fun K1 hK => ?_)
                go_simp
                refine ⟨fun p => (CubeError_any _ _ _ _ _ _ p.w).mono ?_, ?_⟩
                · rintro e w' ⟨rfl, hb⟩
                  exact ⟨_, rfl, by first | rfl | simp, p.h.trans (hb.mono p.h.size)⟩
                refine hK _ ?_
                clear hK K1
                iterate 6 (refine loose_wanted rfl (fun K hK => ?_); go_simp; refine hK _ ?_; clear hK K)
                iterate 5 (refine loose_wanted rfl (fun K hK => ?_); go_simp; refine hK _ ?_; clear hK K)
                iterate 2 (refine loose_wanted rfl (fun K hK => ?_); go_simp; refine hK _ ?_; clear hK K)
                iterate 5 (refine loose_wanted rfl (fun K hK => ?_); go_simp; refine hK _ ?_; clear hK K)
                iterate 1 (refine loose_wanted rfl (fun K hK => ?_); go_simp; refine hK _ ?_; clear hK K)
                refine loose_wanted rfl (fun K1 hK => ?_)
                go_simp
                refine ⟨fun p => (When_any _ _ _).mono ?_, ?_⟩
                · rintro e w' ⟨rfl, rfl⟩
                  exact ⟨_, rfl, by first | rfl | simp, p.h⟩
                refine hK _ ?_
                clear hK K1
                refine loose_nil (fun w5 hb5 => ?_)
                go_wp2_with (first | (go_at_call 19; refine (First2_new _ _ _ _ _ (heap_new _ _ _ (by simp))).mono ?_; rintro e w' ⟨rfl, rfl⟩))
                go_meet
                exact ⟨by rw [HEB.out]; unfold confB; simp [HS1.out, hl, hh, whenE], by have hs5 := hb5.size; (repeat (first | exact Below.refl _ _ | assumption | (refine Below.setCell ?_ (by first | (simp; done) | (simp; omega) | omega) _) | (refine Below.drew ?_) | (refine below_drewN ?_ _) | (refine Below.alloc ?_ (by first | (simp; done) | (simp; omega) | omega) _) | (refine Below.trans ?_ (Below.mono (by assumption) (by first | (simp; done) | (simp; omega) | omega)))))⟩
            · all_goals
                refine wp_region_loose 22 (fun f args u => (f = 35 ∧ u = .int .i64 (cubErr sb lb hb nb)) ∨ (f = 21 ∧ u = .int .i64 (whenE (argB args 0) 12))) (by kernel_rfl) (by kernel_rfl) ?_
                simp only [List.take_succ_cons, List.take_zero, List.drop_succ_cons, List.drop_zero]
                iterate 1 (refine loose_wanted rfl (fun K hK => ?_); go_simp; refine hK _ ?_; clear hK K)
                refine loose_wanted rfl (fun K1 hK => ?_)
                go_simp
                refine ⟨fun p => (CubeError_any _ _ _ _ _ _ p.w).mono ?_, ?_⟩
                · rintro e w' ⟨rfl, hb⟩
                  exact ⟨_, rfl, by first | rfl | simp, p.h.trans (hb.mono p.h.size)⟩
                refine hK _ ?_
                clear hK K1
                iterate 6 (refine loose_wanted rfl (fun K hK => ?_); go_simp; refine hK _ ?_; clear hK K)
                iterate 5 (refine loose_wanted rfl (fun K hK => ?_); go_simp; refine hK _ ?_; clear hK K)
                iterate 2 (refine loose_wanted rfl (fun K hK => ?_); go_simp; refine hK _ ?_; clear hK K)
                iterate 5 ((with_reducible refine loose_pass (by kernel_rfl) (fun K hK => ?_)); go_simp; refine hK _ ?_; clear hK K)
                iterate 1 (refine loose_wanted rfl (fun K hK => ?_); go_simp; refine hK _ ?_; clear hK K)
                refine loose_wanted rfl (fun K1 hK => ?_)
                go_simp
                refine ⟨fun p => (When_any _ _ _).mono ?_, ?_⟩
                · rintro e w' ⟨rfl, rfl⟩
                  exact ⟨_, rfl, by first | rfl | simp, p.h⟩
                refine hK _ ?_
                clear hK K1
                refine loose_nil (fun w5 hb5 => ?_)
                go_wp2_with (first | (go_at_call 19; refine (First2_new _ _ _ _ _ (heap_new _ _ _ (by simp))).mono ?_; rintro e w' ⟨rfl, rfl⟩))
                go_meet
                exact ⟨by rw [HEB.out]; unfold confB; simp [HS1.out, hl, whenE], by have hs5 := hb5.size; (repeat (first | exact Below.refl _ _ | assumption | (refine Below.setCell ?_ (by first | (simp; done) | (simp; omega) | omega) _) | (refine Below.drew ?_) | (refine below_drewN ?_ _) | (refine Below.alloc ?_ (by first | (simp; done) | (simp; omega) | omega) _) | (refine Below.trans ?_ (Below.mono (by assumption) (by first | (simp; done) | (simp; omega) | omega)))))⟩
          · have e1 : ((S : Int) != sb) = true := by simpa using hs
            have HS1 := Lib.hid hs
            clear hs
            refine wp_region_loose 22 (fun f args u => (f = 35 ∧ u = .int .i64 (cubErr sb lb hb nb)) ∨ (f = 21 ∧ u = .int .i64 (whenE (argB args 0) 12))) (by kernel_rfl) (by kernel_rfl) ?_
            simp only [List.take_succ_cons, List.take_zero, List.drop_succ_cons, List.drop_zero]
            iterate 1 (refine loose_wanted rfl (fun K hK => ?_); go_simp; refine hK _ ?_; clear hK K)
            refine loose_wanted rfl (fun K1 hK => ?_)
            go_simp
            refine ⟨fun p => (CubeError_any _ _ _ _ _ _ p.w).mono ?_, ?_⟩
            · rintro e w' ⟨rfl, hb⟩
              exact ⟨_, rfl, by first | rfl | simp, p.h.trans (hb.mono p.h.size)⟩
            refine hK _ ?_
            clear hK K1
            iterate 6 (refine loose_wanted rfl (fun K hK => ?_); go_simp; refine hK _ ?_; clear hK K)
            iterate 5 ((with_reducible refine loose_pass (by kernel_rfl) (fun K hK => ?_)); go_simp; refine hK _ ?_; clear hK K)
            iterate 2 (refine loose_wanted rfl (fun K hK => ?_); go_simp; refine hK _ ?_; clear hK K)
            iterate 5 ((with_reducible refine loose_pass (by kernel_rfl) (fun K hK => ?_)); go_simp; refine hK _ ?_; clear hK K)
            iterate 1 (refine loose_wanted rfl (fun K hK => ?_); go_simp; refine hK _ ?_; clear hK K)
            refine loose_wanted rfl (fun K1 hK => ?_)
            go_simp
            refine ⟨fun p => (When_any _ _ _).mono ?_, ?_⟩
            · rintro e w' ⟨rfl, rfl⟩
              exact ⟨_, rfl, by first | rfl | simp, p.h⟩
            refine hK _ ?_
            clear hK K1
            refine loose_nil (fun w5 hb5 => ?_)
            go_wp2_with (first | (go_at_call 19; refine (First2_new _ _ _ _ _ (heap_new _ _ _ (by simp))).mono ?_; rintro e w' ⟨rfl, rfl⟩))
            go_meet
            exact ⟨by rw [HEB.out]; unfold confB; simp [HS1.out, whenE], by have hs5 := hb5.size; (repeat (first | exact Below.refl _ _ | assumption | (refine Below.setCell ?_ (by first | (simp; done) | (simp; omega) | omega) _) | (refine Below.drew ?_) | (refine below_drewN ?_ _) | (refine Below.alloc ?_ (by first | (simp; done) | (simp; omega) | omega) _) | (refine Below.trans ?_ (Below.mono (by assumption) (by first | (simp; done) | (simp; omega) | omega)))))⟩
      case rest =>
        obtain ⟨rfl, hb9⟩ := hcut
        have HM10 := Lib.hid (HM8.out.past hb9)
        clear a0 a1 a2 a3 al
        clear b0 b1 b2 b3 bl
        clear hb9 HM9 HM8
        have a0 := HM10.out.a.c 0 _ rfl; have a1 := HM10.out.a.c 1 _ rfl; have a2 := HM10.out.a.c 2 _ rfl; have a3 := HM10.out.a.c 3 _ rfl; have al := HM10.out.a.lt
        have b0 := HM10.out.b.c 0 _ rfl; have b1 := HM10.out.b.c 1 _ rfl; have b2 := HM10.out.b.c 2 _ rfl; have b3 := HM10.out.b.c 3 _ rfl; have bl := HM10.out.b.lt
        go_upto_region 18 with fail
        go_cut [196] (fun s196 wx => s196 = .bool false ∧ Below wc.heap.size wc wx)
        case first =>
          as_aux_lemma =>
            by_cases hE0 : EB = 0
            · have HCA2 := Lib.hid (HCA.out hE0)
              subst hE0
              clear HCA HZ
              go_wp2_with fail
              refine (HCA2.out _ HM10.out.w).mono ?_
              rintro e w12 ⟨rfl, hb12⟩
              go_wp2_with (first | (go_at_call 25; refine (same_any _ _ _).mono ?_; rintro e w' ⟨rfl, rfl⟩))
              go_meet
              exact ⟨by simp, hb12⟩
            · have hap := HZ.out hE0
              subst hap
              have z : (FloatKind.f32.format.order 0 0 != some .eq) = false := by decide +kernel
              have n1 : (EB != 0) = true := by simpa using hE0
              have n2 : (EB == 0) = false := by simpa using hE0
              clear hE0 HCA HZ HEB
              go_wp2_with fail
              go_meet
              exact ⟨by simp, Below.refl _ _⟩
        case rest =>
          obtain ⟨rfl, hb11⟩ := hcut
          have HM11 := Lib.hid (HM10.out.past hb11)
          clear a0 a1 a2 a3 al
          clear b0 b1 b2 b3 bl
          clear hb11 HM10 HCA HZ HEB HE HG
          go_upto_region 21 with fail
          refine wp_world (fun W12 hW12 => ?_)
          have HX12 := Lib.hid (MxR.mk (w := w) (W := W12) (La := [.int .i64 S, .float .f32 lo, .float .f32 hi, .slice (some ⟨b, off, none⟩) n cap]) (Lb := [.int .i64 sb, .float .f32 lb, .float .f32 hb, .slice ab nb cb]) (nl := nl) (l := L) (h := H) (nx := wc.heap.size) (x := fun _ => 0) (y := fun _ => 0) (by rw [hW12]; exact HM11.out.past (by (repeat (first | exact Below.refl _ _ | assumption | (refine Below.setCell ?_ (by first | (simp; done) | (simp; omega) | omega) _) | (refine Below.drew ?_) | (refine below_drewN ?_ _) | (refine Below.alloc ?_ (by first | (simp; done) | (simp; omega) | omega) _) | (refine Below.trans ?_ (Below.mono (by assumption) (by first | (simp; done) | (simp; omega) | omega))))))) HM11.out.h.lt (by rw [hW12]; exact VecF.of3 ((Blk.new _ [.float .f32 0, .float .f32 0, .float .f32 0] _ _ rfl).alloc _)) (by rw [hW12]; exact VecF.of3 (Blk.new _ [.float .f32 0, .float .f32 0, .float .f32 0] _ _ (by simp))))
          clear hW12 HM11
          generalize wc.heap.size = nx at *
          have a3 := HX12.out.m.a.c 3 _ rfl; have al := HX12.out.m.a.lt
          go_upto_region 22 with fail
          clear a3 al
          go_loopw [200] (fun s200 wr => ∃ k : Nat, k ≤ n ∧ s200 = .int .i64 k ∧ MxR w wr [.int .i64 S, .float .f32 lo, .float .f32 hi, .slice (some ⟨b, off, none⟩) n cap] [.int .i64 sb, .float .f32 lb, .float .f32 hb, .slice ab nb cb] nl L H nx (xK fs k) (yK fs k)) (fun s200 _ => n - (intOf s200).toNat)
          case atStart => exact ⟨0, Nat.zero_le _, rfl, HX12.out.congr (fun j _ => by unfold xK; rw [if_pos (Nat.zero_le _)]) (fun j _ => by unfold yK; rw [if_pos (Nat.zero_le _)])⟩
          case round =>
            obtain ⟨k, hk, rfl, hR⟩ := hrel
            have HR := Lib.hid hR
            clear hR HX12
            by_cases hkn : k < n
            · have hkn' : (k : Int) < (n : Int) := by omega
              have C := HC.out _ HR.out.m.w
              have c0 := C k hkn
              obtain ⟨v, hv⟩ : ∃ v, v = fs k := ⟨_, rfl⟩
              rw [← hv] at c0
              have hl := cell_lt c0; simp only at hl
              have HV := Lib.hid hv
              clear C hv
              obtain ⟨m, hm⟩ : ∃ m, m = k % 3 := ⟨_, rfl⟩
              have hm3 : m < 3 := by omega
              have hm3' : (m : Int) < 3 := by omega
              have tm : (k : Int).tmod 3 = (m : Int) := by rw [Int.tmod_eq_emod_of_nonneg (by omega)]; omega
              have x0 := HR.out.x.c m hm3; have xl := HR.out.x.lt; have xf := HR.out.x.f
              have y0 := HR.out.y.c m hm3; have yl := HR.out.y.lt; have yf := HR.out.y.f
              by_cases hk3 : k < 3
              · have hk3' : (k : Int) < 3 := by omega
                have HMK := Lib.hid (show m = k by omega)
                clear hm
                go_wp2_with fail
                go_roundw
                case rel => exact ⟨k + 1, by omega, by go_num, ((HR.out.setx m v hm3).sety m v hm3).congr (fun j hj => by rw [HMK.out, HV.out]; exact xK_lo hk3 j hj) (fun j hj => by rw [HMK.out, HV.out]; exact yK_lo hk3 j hj)⟩
                case measure => simp [intOf]; omega
              · have hk3' : ¬ (k : Int) < 3 := by omega
                rw [xK_hi (by omega) hm3] at x0
                rw [yK_hi (by omega) hm3] at y0
                obtain ⟨lv, hlv⟩ : ∃ z, z = loK fs m k := ⟨_, rfl⟩
                obtain ⟨hv2, hhv⟩ : ∃ z, z = hiK fs m k := ⟨_, rfl⟩
                rw [← hlv] at x0; rw [← hhv] at y0
                have HLO := Lib.hid (show ∀ j, j < 3 → (if j = m then lessF lv v else xK fs k j) = xK fs (k + 1) j from fun j hj => by
                  rw [xK_hi (k := k + 1) (by omega) hj, xK_hi (by omega) hj]
                  show _ = (if k % 3 = j then lessF (loK fs j k) (fs k) else loK fs j k)
                  by_cases h : j = m
                  · subst h; rw [if_pos rfl, if_pos hm.symm, hlv, HV.out]
                  · rw [if_neg h, if_neg (fun e => h (by omega))])
                have HHI := Lib.hid (show ∀ j, j < 3 → (if j = m then moreF hv2 v else yK fs k j) = yK fs (k + 1) j from fun j hj => by
                  rw [yK_hi (k := k + 1) (by omega) hj, yK_hi (by omega) hj]
                  show _ = (if k % 3 = j then moreF (hiK fs j k) (fs k) else hiK fs j k)
                  by_cases h : j = m
                  · subst h; rw [if_pos rfl, if_pos hm.symm, hhv, HV.out]
                  · rw [if_neg h, if_neg (fun e => h (by omega))])
                have HLV := Lib.hid (And.intro (show lv = xK fs k m by rw [xK_hi (by omega) hm3]; exact hlv) (show hv2 = yK fs k m by rw [yK_hi (by omega) hm3]; exact hhv))
                clear hm hlv hhv
                cases hO1 : (FloatKind.f32.format.order v lv == some .lt)
                · have HX := Lib.hid (show ∀ j, j < 3 → xK fs k j = xK fs (k + 1) j from fun j hj => by
                    rw [← HLO.out j hj, less_f hO1]
                    by_cases h : j = m
                    · rw [if_pos h, HLV.out.1, h]
                    · rw [if_neg h])
                  cases hO2 : (FloatKind.f32.format.order v hv2 == some .gt)
                  · have HY := Lib.hid (show ∀ j, j < 3 → yK fs k j = yK fs (k + 1) j from fun j hj => by
                      rw [← HHI.out j hj, more_f hO2]
                      by_cases h : j = m
                      · rw [if_pos h, HLV.out.2, h]
                      · rw [if_neg h])
                    go_wp2_with fail
                    go_roundw
                    case rel => exact ⟨k + 1, by omega, by go_num, MxR.congr HR.out HX.out HY.out⟩
                    case measure => simp [intOf]; omega
                  · have HY := Lib.hid (show ∀ j, j < 3 → (if j = m then v else yK fs k j) = yK fs (k + 1) j from fun j hj => by rw [← HHI.out j hj, more_t hO2])
                    go_wp2_with fail
                    go_roundw
                    case rel => exact ⟨k + 1, by omega, by go_num, MxR.congr (HR.out.sety m v hm3) HX.out HY.out⟩
                    case measure => simp [intOf]; omega
                · have HX := Lib.hid (show ∀ j, j < 3 → (if j = m then v else xK fs k j) = xK fs (k + 1) j from fun j hj => by rw [← HLO.out j hj, less_t hO1])
                  cases hO2 : (FloatKind.f32.format.order v hv2 == some .gt)
                  · have HY := Lib.hid (show ∀ j, j < 3 → yK fs k j = yK fs (k + 1) j from fun j hj => by
                      rw [← HHI.out j hj, more_f hO2]
                      by_cases h : j = m
                      · rw [if_pos h, HLV.out.2, h]
                      · rw [if_neg h])
                    go_wp2_with fail
                    go_roundw
                    case rel => exact ⟨k + 1, by omega, by go_num, MxR.congr (HR.out.setx m v hm3) HX.out HY.out⟩
                    case measure => simp [intOf]; omega
                  · have HY := Lib.hid (show ∀ j, j < 3 → (if j = m then v else yK fs k j) = yK fs (k + 1) j from fun j hj => by rw [← HHI.out j hj, more_t hO2])
                    go_wp2_with fail
                    go_roundw
                    case rel => exact ⟨k + 1, by omega, by go_num, MxR.congr ((HR.out.setx m v hm3).sety m v hm3) HX.out HY.out⟩
                    case measure => simp [intOf]; omega
            · have hkk : ¬ (k : Int) < (n : Int) := by omega
              have HR2 := Lib.hid (HR.out.congr (x' := fixK (fun j => loK fs j n) 0) (y' := fixK (fun j => hiK fs j n) 0) (fun j hj => by rw [xK_hi (by omega) hj, show k = n by omega]; rfl) (fun j hj => by rw [yK_hi (by omega) hj, show k = n by omega]; rfl))
              clear HR
              go_wp2_with fail
              clear hkn hkk hk
              go_loopw [232] (fun s232 wy => ∃ m : Nat, m ≤ 3 ∧ s232 = .int .i64 m ∧ MxR w wy [.int .i64 S, .float .f32 lo, .float .f32 hi, .slice (some ⟨b, off, none⟩) n cap] [.int .i64 sb, .float .f32 lb, .float .f32 hb, .slice ab nb cb] nl L H nx (fixK (fun j => loK fs j n) m) (fixK (fun j => hiK fs j n) m)) (fun s232 _ => 3 - (intOf s232).toNat)
              case atStart => exact ⟨0, by omega, rfl, HR2.out⟩
              case round =>
                obtain ⟨m, hm, rfl, hR⟩ := hrel
                have HR := Lib.hid hR
                clear hR HR2
                by_cases hm3 : m < 3
                · have hm3' : (m : Int) < 3 := by omega
                  have x0 := HR.out.x.c m hm3; have xl := HR.out.x.lt; have xf := HR.out.x.f
                  have y0 := HR.out.y.c m hm3; have yl := HR.out.y.lt; have yf := HR.out.y.f
                  have n0 : nx + 1 ≠ nx := by omega
                  have n1 : nx ≠ nx + 1 := by omega
                  obtain ⟨u, hu⟩ : ∃ z, z = fixK (fun j => loK fs j n) m m := ⟨_, rfl⟩
                  obtain ⟨v, hv⟩ : ∃ z, z = fixK (fun j => hiK fs j n) m m := ⟨_, rfl⟩
                  rw [← hu] at x0; rw [← hv] at y0
                  have HU := Lib.hid (show ∀ j, j < 3 → (if j = m then cn .f32 u else fixK (fun j => loK fs j n) m j) = fixK (fun j => loK fs j n) (m + 1) j from fun j _ => by
                    rw [hu]; unfold fixK
                    by_cases h : j = m
                    · subst h; rw [if_pos rfl, if_neg (Nat.lt_irrefl _), if_pos (Nat.lt_succ_self _)]
                    · rw [if_neg h]
                      by_cases h2 : j < m
                      · rw [if_pos h2, if_pos (by omega)]
                      · rw [if_neg h2, if_neg (by omega)])
                  have HV := Lib.hid (show ∀ j, j < 3 → (if j = m then cn .f32 v else fixK (fun j => hiK fs j n) m j) = fixK (fun j => hiK fs j n) (m + 1) j from fun j _ => by
                    rw [hv]; unfold fixK
                    by_cases h : j = m
                    · subst h; rw [if_pos rfl, if_neg (Nat.lt_irrefl _), if_pos (Nat.lt_succ_self _)]
                    · rw [if_neg h]
                      by_cases h2 : j < m
                      · rw [if_pos h2, if_pos (by omega)]
                      · rw [if_neg h2, if_neg (by omega)])
                  clear hu hv
                  go_upto_region 35 with fail
                  go_region_with (first | (go_at_call 48; refine (Fix_any _ _).mono ?_; rintro e w' ⟨rfl, rfl⟩))
                  all_goals
                    go_wp2_with fail
                    go_roundw
                    case rel =>
                      refine ⟨m + 1, by omega, by first | rfl | go_num, ?_⟩
                      first
                        | exact ((HR.out.setx m _ hm3).sety m _ hm3).congr HU.out HV.out
                        | exact (((HR.out.past (by (repeat (first | exact Below.refl _ _ | assumption | (refine Below.setCell ?_ (by first | (simp; done) | (simp; omega) | omega) _) | (refine Below.drew ?_) | (refine below_drewN ?_ _) | (refine Below.alloc ?_ (by first | (simp; done) | (simp; omega) | omega) _) | (refine Below.trans ?_ (Below.mono (by assumption) (by first | (simp; done) | (simp; omega) | omega))))))).setx m _ hm3).sety m _ hm3).congr HU.out HV.out
                        | exact ((((HR.out.past (by (repeat (first | exact Below.refl _ _ | assumption | (refine Below.setCell ?_ (by first | (simp; done) | (simp; omega) | omega) _) | (refine Below.drew ?_) | (refine below_drewN ?_ _) | (refine Below.alloc ?_ (by first | (simp; done) | (simp; omega) | omega) _) | (refine Below.trans ?_ (Below.mono (by assumption) (by first | (simp; done) | (simp; omega) | omega))))))).setx m _ hm3).past (by (repeat (first | exact Below.refl _ _ | assumption | (refine Below.setCell ?_ (by first | (simp; done) | (simp; omega) | omega) _) | (refine Below.drew ?_) | (refine below_drewN ?_ _) | (refine Below.alloc ?_ (by first | (simp; done) | (simp; omega) | omega) _) | (refine Below.trans ?_ (Below.mono (by assumption) (by first | (simp; done) | (simp; omega) | omega))))))).sety m _ hm3).congr HU.out HV.out
                        | exact (((((HR.out.past (by (repeat (first | exact Below.refl _ _ | assumption | (refine Below.setCell ?_ (by first | (simp; done) | (simp; omega) | omega) _) | (refine Below.drew ?_) | (refine below_drewN ?_ _) | (refine Below.alloc ?_ (by first | (simp; done) | (simp; omega) | omega) _) | (refine Below.trans ?_ (Below.mono (by assumption) (by first | (simp; done) | (simp; omega) | omega))))))).setx m _ hm3).past (by (repeat (first | exact Below.refl _ _ | assumption | (refine Below.setCell ?_ (by first | (simp; done) | (simp; omega) | omega) _) | (refine Below.drew ?_) | (refine below_drewN ?_ _) | (refine Below.alloc ?_ (by first | (simp; done) | (simp; omega) | omega) _) | (refine Below.trans ?_ (Below.mono (by assumption) (by first | (simp; done) | (simp; omega) | omega))))))).sety m _ hm3).past (by (repeat (first | exact Below.refl _ _ | assumption | (refine Below.setCell ?_ (by first | (simp; done) | (simp; omega) | omega) _) | (refine Below.drew ?_) | (refine below_drewN ?_ _) | (refine Below.alloc ?_ (by first | (simp; done) | (simp; omega) | omega) _) | (refine Below.trans ?_ (Below.mono (by assumption) (by first | (simp; done) | (simp; omega) | omega))))))).congr HU.out HV.out
                    case measure => simp [intOf]; omega
                · have hm3' : ¬ (m : Int) < 3 := by omega
                  have HR3 := Lib.hid (HR.out.congr (x' := L) (y' := H) (fun j hj => by rw [HLH.out.1]; unfold fixK; rw [if_pos (by omega)]) (fun j hj => by rw [HLH.out.2]; unfold fixK; rw [if_pos (by omega)]))
                  clear HR
                  have x0 := HR3.out.x.c 0 (by omega); have x1 := HR3.out.x.c 1 (by omega); have x2 := HR3.out.x.c 2 (by omega); have xl := HR3.out.x.lt
                  have y0 := HR3.out.y.c 0 (by omega); have y1 := HR3.out.y.c 1 (by omega); have y2 := HR3.out.y.c 2 (by omega); have yl := HR3.out.y.lt
                  have l0 := HR3.out.m.l.c 0 (by omega); have l1 := HR3.out.m.l.c 1 (by omega); have l2 := HR3.out.m.l.c 2 (by omega); have ll := HR3.out.m.l.lt
                  have h0 := HR3.out.m.h.c 0 (by omega); have h1 := HR3.out.m.h.c 1 (by omega); have h2 := HR3.out.m.h.c 2 (by omega); have hl := HR3.out.m.h.lt
                  go_upto_region 37 with fail
                  go_wp2_with fail
                  refine (meThree_any _ _ _ _ _ _ _).mono ?_
                  rintro e w13 ⟨rfl, hb13⟩
                  have HR4 := Lib.hid (HR3.out.past hb13)
                  clear hb13 HR3 x0 x1 x2 xl y0 y1 y2 yl l0 l1 l2 ll h0 h1 h2 hl
                  have y0 := HR4.out.y.c 0 (by omega); have y1 := HR4.out.y.c 1 (by omega); have y2 := HR4.out.y.c 2 (by omega); have yl := HR4.out.y.lt
                  have h0 := HR4.out.m.h.c 0 (by omega); have h1 := HR4.out.m.h.c 1 (by omega); have h2 := HR4.out.m.h.c 2 (by omega); have hl := HR4.out.m.h.lt
                  go_wp2_with fail
                  refine (meThree_any _ _ _ _ _ _ _).mono ?_
                  rintro e w14 ⟨rfl, hb14⟩
                  have HB := Lib.hid (HR4.out.m.w.trans (hb14.mono HR4.out.m.w.size))
                  clear hb14 HR4 y0 y1 y2 yl h0 h1 h2 hl
                  go_wp2_with fail
                  go_ret
                  exact ⟨by simp, HB.out⟩
end Go.Proofs.Ytmckkgbdlgldbaa
