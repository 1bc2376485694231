/- A cube of a cube: the closures of cube.Compose and of the statement. Conditions: the cubes are right; their singles are known. -/
import Derived.Test.YtmckkgbdlgldbaaCuN
import Derived.Test.YtmckkgbdlgldbaaCuD
import Derived.Test.YtmckkgbdlgldbaaP4
namespace Go.Proofs.Ytmckkgbdlgldbaa
open Go Go.RowKit
theorem p4_cn (a b c d x : Nat) : cn .f32 (p4 (cn .f32 a) (cn .f32 b) (cn .f32 c) d x) = cn .f32 (p4 a b c d x) := by
  unfold p4; split
  · exact cn_cn _ _
  split
  · exact cn_cn _ _
  split
  · exact cn_cn _ _
  · rfl
theorem plF_cn (S lo hi v : Nat) : plF S lo hi (cn .f32 v) = plF S lo hi v := by
  have h : tF S lo hi (cn .f32 v) = tF S lo hi v := by unfold tF; rw [fop_cn_left]
  unfold plF; rw [h]
theorem plF_of_cn (S lo hi : Nat) {v u : Nat} (h : cn .f32 v = cn .f32 u) : plF S lo hi v = plF S lo hi u := by rw [← plF_cn, h, plF_cn]
theorem isN_of_cn {v u : Nat} (h : cn .f32 v = cn .f32 u) : isN .f32 v = isN .f32 u := by rw [← isN_cn, h, isN_cn]
theorem tet_congr (S lo hi : Nat) (fs : Nat → Nat) {p q : Nat → Nat} (h : ∀ a, cn .f32 (p a) = cn .f32 (q a)) {n : Nat} (hn : n < 3) : tetF S lo hi fs p n = tetF S lo hi fs q n := by
  have hh : ∀ a, plF S lo hi (p a) = plF S lo hi (q a) := fun a => plF_of_cn _ _ _ (h a)
  have e3 : brokB p = brokB q := by unfold brokB; rw [isN_of_cn (h 0), isN_of_cn (h 1), isN_of_cn (h 2)]
  unfold tetF
  simp only [if_pos hn, hh, e3]
set_option maxHeartbeats 800000 in
theorem colours_any (p : Nat → Nat) (w : World) :
    Calls Try.prog 183 #[.agg #[.float .f32 (p 0), .float .f32 (p 1), .float .f32 (p 2), .float .f32 (p 3)]] w fun e w' =>
      e = .returned (.agg #[.float .f32 (p 0), .float .f32 (p 1), .float .f32 (p 2)]) ∧ Below w.heap.size w w' := by
  have sa := array3_at
  go_enter Try.func183, Try.ntmps183
  go_wp2_with fail
  refine bodyPost_ret (v := .agg #[.float .f32 (p 0), .float .f32 (p 1), .float .f32 (p 2)]) (by simp [results, Try.results183, go_sem]) rfl ⟨rfl, ?_⟩
  (repeat (first | exact Below.refl _ _ | assumption | (refine Below.setCell ?_ (by first | (simp; done) | (simp; omega) | omega) _) | (refine Below.drew ?_) | (refine below_drewN ?_ _) | (refine Below.alloc ?_ (by first | (simp; done) | (simp; omega) | omega) _) | (refine Below.trans ?_ (Below.mono (by assumption) (by first | (simp; done) | (simp; omega) | omega)))))
def cubV (S lo hi b off n cap : Nat) : List Value := [.int .i64 S, .float .f32 lo, .float .f32 hi, .slice (some ⟨b, off, none⟩) n cap]
/-- The entries of a cube of a cube. -/
def cpoG (Sb lob hib : Nat) (fb fa : Nat → Nat) (e m : Nat) : Nat := cn .f32 (tetF Sb lob hib fb (p4 (fa (3 * e)) (fa (3 * e + 1)) (fa (3 * e + 2)) 0) m)
set_option maxRecDepth 100000 in
set_option maxHeartbeats 1600000 in
theorem Compose_c (S i j k lo hi b off n cap : Nat) (fs : Nat → Nat) (T lot hit bt offt nt capt : Nat) (ft : Nat → Nat) (pa pb : Nat) (w : World) (hS : S ≤ 17) (h1 : i < S) (h2 : j < S) (h3 : k < S) (hn : n = 3 * (S * S * S)) (hcap : n ≤ cap) (hc : Row w b off n fs)
    (hT : 2 ≤ T ∧ T ≤ 17) (hnt : nt = 3 * (T * T * T)) (hcapt : nt ≤ capt) (hct : Row w bt offt nt ft) (hA : Blk w pa (cubV S lo hi b off n cap)) (hB : Blk w pb (cubV T lot hit bt offt nt capt)) :
    Calls Try.prog 182 #[.int .i64 i, .int .i64 j, .int .i64 k, .pointer (some ⟨pa, 0, none⟩), .pointer (some ⟨pb, 0, none⟩)] w fun e w' =>
      (∃ q : Nat → Nat, e = .returned (.agg #[.float .f32 (q 0), .float .f32 (q 1), .float .f32 (q 2)]) ∧ ∀ c, c < 3 → cn .f32 (q c) = cpoG T lot hit ft fs (enI S i j k) c) ∧ Below w.heap.size w w' := by
  have hn0 : 0 < n := by have := enI_lt h1 h2 h3; omega
  have hbw := hc.lt hn0
  have hbt : bt < w.heap.size := hct.lt (by have : 0 < T * T * T := Nat.mul_pos (Nat.mul_pos (by omega) (by omega)) (by omega); omega)
  have HE := Lib.hid (fun w' hb => entry_any S i j k lo hi b off n cap fs w' hS h1 h2 h3 hn hcap (hc.below hb hbw) : ∀ w', Below w.heap.size w w' → _)
  obtain ⟨p, hp⟩ : ∃ p, p = p4 (fs (3 * enI S i j k)) (fs (3 * enI S i j k + 1)) (fs (3 * enI S i j k + 2)) 0 := ⟨_, rfl⟩
  have HT := Lib.hid (fun w' hb => tetra_any T lot hit bt offt nt capt ft p w' hT hnt hcapt (hct.below hb hbt) : ∀ w', Below w.heap.size w w' → _)
  have e0 : fs (3 * enI S i j k) = p 0 := by rw [hp]; rfl
  have e1 : fs (3 * enI S i j k + 1) = p 1 := by rw [hp]; rfl
  have e2 : fs (3 * enI S i j k + 2) = p 2 := by rw [hp]; rfl
  have e3 : p 3 = 0 := by rw [hp]; rfl
  rw [e0, e1, e2] at HE
  rw [e3] at HT
  have HP := Lib.hid hp
  clear hc hn hcap hn0 hbw hS h1 h2 h3 hT hnt hcapt hct hbt hp e0 e1 e2 e3
  have g0 := hA.c 0 _ rfl; have g1 := hA.c 1 _ rfl; have g2 := hA.c 2 _ rfl; have g3 := hA.c 3 _ rfl
  have gl := hA.lt
  have HBB := Lib.hid hB
  clear hA hB
  go_enter Try.func182, Try.ntmps182
  go_wp2_with fail
  refine (HE.out _ (by (repeat (first | exact Below.refl _ _ | assumption | (refine Below.setCell ?_ (by first | (simp; done) | (simp; omega) | omega) _) | (refine Below.drew ?_) | (refine below_drewN ?_ _) | (refine Below.alloc ?_ (by first | (simp; done) | (simp; omega) | omega) _) | (refine Below.trans ?_ (Below.mono (by assumption) (by first | (simp; done) | (simp; omega) | omega))))))).mono ?_
  rintro e w6 ⟨rfl, hb6⟩
  have R6 : Blk w6 w.heap.size [.float .f32 0, .float .f32 0, .float .f32 0] := (Blk.new _ _ _ _ rfl).past hb6
  have B6 : Below w.heap.size w w6 := by (repeat (first | exact Below.refl _ _ | assumption | (refine Below.setCell ?_ (by first | (simp; done) | (simp; omega) | omega) _) | (refine Below.drew ?_) | (refine below_drewN ?_ _) | (refine Below.alloc ?_ (by first | (simp; done) | (simp; omega) | omega) _) | (refine Below.trans ?_ (Below.mono (by assumption) (by first | (simp; done) | (simp; omega) | omega)))))
  clear hb6 g0 g1 g2 g3 gl
  have h6 := HBB.out.below B6 HBB.out.lt
  have g0 := h6.c 0 _ rfl; have g1 := h6.c 1 _ rfl; have g2 := h6.c 2 _ rfl; have g3 := h6.c 3 _ rfl
  have gl := h6.lt
  have H6 := Lib.hid (And.intro R6 B6)
  have sz6 := B6.size
  clear R6 h6
  go_wp2_with fail
  refine (HT.out _ (by (repeat (first | exact Below.refl _ _ | assumption | (refine Below.setCell ?_ (by first | (simp; done) | (simp; omega) | omega) _) | (refine Below.drew ?_) | (refine below_drewN ?_ _) | (refine Below.alloc ?_ (by first | (simp; done) | (simp; omega) | omega) _) | (refine Below.trans ?_ (Below.mono (by assumption) (by first | (simp; done) | (simp; omega) | omega))))))).mono ?_
  rintro e w7 ⟨rfl, hb7⟩
  have R7 : Blk w7 w.heap.size [.float .f32 0, .float .f32 0, .float .f32 0] := (H6.out.1.alloc _).past hb7
  have B7 : Below w.heap.size w w7 := by have := H6.out.2.size; (repeat (first | exact Below.refl _ _ | assumption | (refine Below.setCell ?_ (by first | (simp; done) | (simp; omega) | omega) _) | (refine Below.drew ?_) | (refine below_drewN ?_ _) | (refine Below.alloc ?_ (by first | (simp; done) | (simp; omega) | omega) _) | (refine Below.trans ?_ (Below.mono (by assumption) (by first | (simp; done) | (simp; omega) | omega)))))
  have H7 := Lib.hid (And.intro R7 B7)
  clear hb7 g0 g1 g2 g3 gl B6 B7 R7 H6
  go_wp2_with fail
  refine (colours_any _ _).mono ?_
  rintro e w8 ⟨rfl, hb8⟩
  have R8 := H7.out.1.past hb8
  have B8 := H7.out.2.trans (hb8.mono H7.out.2.size)
  have z0 := R8.c 0 _ rfl; have z1 := R8.c 1 _ rfl; have z2 := R8.c 2 _ rfl; have zf := R8.f; have zl := R8.lt
  clear hb8 R8 H7
  go_wp2_with fail
  refine bodyPost_ret (v := .agg #[.float .f32 (tetF T lot hit ft p 0), .float .f32 (tetF T lot hit ft p 1), .float .f32 (tetF T lot hit ft p 2)]) (by simp [results, Try.results182, go_sem, z0, z1, z2]) rfl ⟨⟨fun c => tetF T lot hit ft p c, rfl, fun c _ => by rw [HP.out]; rfl⟩, ?_⟩
  exact ((B8.setCell (by first | (simp; done) | (simp; omega) | omega) _).setCell (by first | (simp; done) | (simp; omega) | omega) _).setCell (by first | (simp; done) | (simp; omega) | omega) _
set_option maxRecDepth 100000 in
set_option maxHeartbeats 1600000 in
theorem ComposeOf_c (S i j k lo hi b off n cap : Nat) (fs : Nat → Nat) (T lot hit bt offt nt capt : Nat) (ft : Nat → Nat) (pa pb : Nat) (w : World) (hS : S ≤ 17) (h1 : i < S) (h2 : j < S) (h3 : k < S) (hn : n = 3 * (S * S * S)) (hc : Row w b off n fs)
    (hT : 2 ≤ T ∧ T ≤ 17) (hnt : nt = 3 * (T * T * T)) (hct : Row w bt offt nt ft) (hA : Blk w pa (cubV S lo hi b off n cap)) (hB : Blk w pb (cubV T lot hit bt offt nt capt)) :
    Calls Try.prog 108 #[.int .i64 i, .int .i64 j, .int .i64 k, .pointer (some ⟨pa, 0, none⟩), .pointer (some ⟨pb, 0, none⟩)] w fun e w' =>
      (∃ q : Nat → Nat, e = .returned (.agg #[.float .f32 (q 0), .float .f32 (q 1), .float .f32 (q 2)]) ∧ ∀ c, c < 3 → cn .f32 (q c) = cpoG T lot hit ft fs (enI S i j k) c) ∧ Below w.heap.size w w' := by
  have hn0 : 0 < n := by have := enI_lt h1 h2 h3; omega
  have hbw := hc.lt hn0
  have hbt : bt < w.heap.size := hct.lt (by have : 0 < T * T * T := Nat.mul_pos (Nat.mul_pos (by omega) (by omega)) (by omega); omega)
  have HE := Lib.hid (fun w' hb => EntryOf_any S i j k lo hi b off n cap fs w' hS h1 h2 h3 hn (hc.below hb hbw) : ∀ w', Below w.heap.size w w' → _)
  obtain ⟨p, hp⟩ : ∃ p, p = p4 (cn .f32 (fs (3 * enI S i j k))) (cn .f32 (fs (3 * enI S i j k + 1))) (cn .f32 (fs (3 * enI S i j k + 2))) 0 := ⟨_, rfl⟩
  have HT := Lib.hid (fun w' hb => TetraOf_any T lot hit bt offt nt capt ft p w' hT hnt (hct.below hb hbt) : ∀ w', Below w.heap.size w w' → _)
  have e0 : cn .f32 (fs (3 * enI S i j k)) = p 0 := by rw [hp]; rfl
  have e1 : cn .f32 (fs (3 * enI S i j k + 1)) = p 1 := by rw [hp]; rfl
  have e2 : cn .f32 (fs (3 * enI S i j k + 2)) = p 2 := by rw [hp]; rfl
  have e3 : p 3 = 0 := by rw [hp]; rfl
  rw [e0, e1, e2] at HE
  rw [e3] at HT
  have HP := Lib.hid (show ∀ a, cn .f32 (p a) = cn .f32 (p4 (fs (3 * enI S i j k)) (fs (3 * enI S i j k + 1)) (fs (3 * enI S i j k + 2)) 0 a) by rw [hp]; exact p4_cn _ _ _ _)
  clear hc hn hn0 hbw hS h1 h2 h3 hT hnt hct hbt hp e0 e1 e2 e3
  have g0 := hA.c 0 _ rfl; have g1 := hA.c 1 _ rfl; have g2 := hA.c 2 _ rfl; have g3 := hA.c 3 _ rfl
  have gl := hA.lt
  have HBB := Lib.hid hB
  clear hA hB
  go_enter Try.func108, Try.ntmps108
  go_wp2_with fail
  refine (HE.out _ (by (repeat (first | exact Below.refl _ _ | assumption | (refine Below.setCell ?_ (by first | (simp; done) | (simp; omega) | omega) _) | (refine Below.drew ?_) | (refine below_drewN ?_ _) | (refine Below.alloc ?_ (by first | (simp; done) | (simp; omega) | omega) _) | (refine Below.trans ?_ (Below.mono (by assumption) (by first | (simp; done) | (simp; omega) | omega))))))).mono ?_
  rintro e w6 ⟨rfl, hb6⟩
  have R6 : Blk w6 w.heap.size [.float .f32 0, .float .f32 0, .float .f32 0] := (Blk.new _ _ _ _ rfl).past hb6
  have B6 : Below w.heap.size w w6 := by (repeat (first | exact Below.refl _ _ | assumption | (refine Below.setCell ?_ (by first | (simp; done) | (simp; omega) | omega) _) | (refine Below.drew ?_) | (refine below_drewN ?_ _) | (refine Below.alloc ?_ (by first | (simp; done) | (simp; omega) | omega) _) | (refine Below.trans ?_ (Below.mono (by assumption) (by first | (simp; done) | (simp; omega) | omega)))))
  clear hb6 g0 g1 g2 g3 gl
  have h6 := HBB.out.below B6 HBB.out.lt
  have g0 := h6.c 0 _ rfl; have g1 := h6.c 1 _ rfl; have g2 := h6.c 2 _ rfl; have g3 := h6.c 3 _ rfl
  have gl := h6.lt
  have H6 := Lib.hid (And.intro R6 B6)
  have sz6 := B6.size
  clear R6 h6
  go_wp2_with fail
  refine (HT.out _ (by (repeat (first | exact Below.refl _ _ | assumption | (refine Below.setCell ?_ (by first | (simp; done) | (simp; omega) | omega) _) | (refine Below.drew ?_) | (refine below_drewN ?_ _) | (refine Below.alloc ?_ (by first | (simp; done) | (simp; omega) | omega) _) | (refine Below.trans ?_ (Below.mono (by assumption) (by first | (simp; done) | (simp; omega) | omega))))))).mono ?_
  rintro e w7 ⟨rfl, hb7⟩
  have R7 : Blk w7 w.heap.size [.float .f32 0, .float .f32 0, .float .f32 0] := (H6.out.1.alloc _).past hb7
  have B7 : Below w.heap.size w w7 := by have := H6.out.2.size; (repeat (first | exact Below.refl _ _ | assumption | (refine Below.setCell ?_ (by first | (simp; done) | (simp; omega) | omega) _) | (refine Below.drew ?_) | (refine below_drewN ?_ _) | (refine Below.alloc ?_ (by first | (simp; done) | (simp; omega) | omega) _) | (refine Below.trans ?_ (Below.mono (by assumption) (by first | (simp; done) | (simp; omega) | omega)))))
  have H7 := Lib.hid (And.intro R7 B7)
  clear hb7 g0 g1 g2 g3 gl B6 B7 R7 H6
  go_upto_region 3 with fail
  refine wp_world (fun W8 hW8 => ?_)
  have BW : Below w7.heap.size w7 W8 := by rw [hW8]; (repeat (first | exact Below.refl _ _ | assumption | (refine Below.setCell ?_ (by first | (simp; done) | (simp; omega) | omega) _) | (refine Below.drew ?_) | (refine below_drewN ?_ _) | (refine Below.alloc ?_ (by first | (simp; done) | (simp; omega) | omega) _) | (refine Below.trans ?_ (Below.mono (by assumption) (by first | (simp; done) | (simp; omega) | omega)))))
  have R8 := H7.out.1.past BW
  have T8 : Blk W8 w7.heap.size [.float .f32 (tetF T lot hit ft p 0), .float .f32 (tetF T lot hit ft p 1), .float .f32 (tetF T lot hit ft p 2), .float .f32 (tetF T lot hit ft p 3)] := by rw [hW8]; exact Blk.new _ _ _ _ rfl
  have B8 := H7.out.2.trans (BW.mono H7.out.2.size)
  have z0 := R8.c 0 _ rfl; have z1 := R8.c 1 _ rfl; have z2 := R8.c 2 _ rfl; have zf := R8.f; have zl := R8.lt
  have t0 := T8.c 0 _ rfl; have t1 := T8.c 1 _ rfl; have t2 := T8.c 2 _ rfl; have tl := T8.lt
  have lw : w.heap.size < w7.heap.size := H7.out.1.lt
  clear hW8 R8 H7 T8 BW
  go_wp2_with fail
  refine bodyPost_ret (v := .agg #[.float .f32 (tetF T lot hit ft p 0), .float .f32 (tetF T lot hit ft p 1), .float .f32 (tetF T lot hit ft p 2)]) (by simp [results, Try.results108, go_sem, z0, z1, z2]) rfl ⟨⟨fun c => tetF T lot hit ft p c, rfl, fun c hc => by show cn .f32 (tetF T lot hit ft p c) = _; rw [tet_congr T lot hit ft HP.out hc]; rfl⟩, ?_⟩
  exact ((B8.setCell (by first | (simp; done) | (simp; omega) | omega) _).setCell (by first | (simp; done) | (simp; omega) | omega) _).setCell (by first | (simp; done) | (simp; omega) | omega) _
end Go.Proofs.Ytmckkgbdlgldbaa
