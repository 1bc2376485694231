/- A cube of another size: cube.spot, the closures of cube.Resize and of the statement. Conditions: the cube is right; its singles are known. -/
import Derived.Test.YtmckkgbdlgldbaaCpA
namespace Go.Proofs.Ytmckkgbdlgldbaa
open Go Go.RowKit
/-- The value of a place on an axis. -/
def spotF (lo hi v : Nat) : Nat := fop .add .f32 lo (fop .mul .f32 (fop .sub .f32 hi lo) v)
theorem spot_FR {lo hi v r1 r2 r3 : Nat} (h1 : FR .f32 r1 (fop .sub .f32 (cn .f32 hi) (cn .f32 lo))) (h2 : FR .f32 r2 (fop .mul .f32 (cn .f32 r1) (cn .f32 v))) (h3 : FR .f32 r3 (fop .add .f32 (cn .f32 lo) (cn .f32 r2))) : cn .f32 r3 = spotF lo hi v := by
  unfold spotF
  rw [h3.eq, h2.eq, h1.eq]
  simp only [fop_cn_left, fop_cn_right]
theorem spotF_of (lo hi : Nat) {v u : Nat} (h : cn .f32 v = cn .f32 u) : spotF lo hi v = spotF lo hi u := by
  unfold spotF
  rw [← fop_cn_right .mul .f32 _ v, h, fop_cn_right]
set_option maxHeartbeats 800000 in
theorem spot_any (S : Int) (lo hi : Nat) (x : Value) (v : Nat) (w : World) : Calls Try.prog 179 #[.agg #[.int .i64 S, .float .f32 lo, .float .f32 hi, x], .float .f32 v] w fun e w' => (∃ r, e = .returned (.float .f32 r) ∧ cn .f32 r = spotF lo hi v) ∧ Below w.heap.size w w' := by
  go_enter Try.func179, Try.ntmps179
  go_wp2_with (first | ((with_reducible apply wpList_farith); rfl; rfl; rfl; intro _ _ _) | ((with_reducible apply wpList_up); rfl; exact Try.underlying38; exact Try.underlying113; intro _ _ _))
  rename_i r1 n1 h1 r2 n2 h2 r3 n3 h3
  go_ret
  exact ⟨⟨r3, rfl, spot_FR h1 h2 h3⟩, by (repeat (first | exact Below.refl _ _ | assumption | (refine Below.setCell ?_ (by first | (simp; done) | (simp; omega) | omega) _) | (refine Below.drew ?_) | (refine below_drewN ?_ _) | (refine Below.alloc ?_ (by first | (simp; done) | (simp; omega) | omega) _) | (refine Below.trans ?_ (Below.mono (by assumption) (by first | (simp; done) | (simp; omega) | omega)))))⟩
theorem p4_congr {a b c d a' b' c' d' : Nat} (h0 : cn .f32 a = cn .f32 a') (h1 : cn .f32 b = cn .f32 b') (h2 : cn .f32 c = cn .f32 c') (h3 : cn .f32 d = cn .f32 d') (x : Nat) : cn .f32 (p4 a b c d x) = cn .f32 (p4 a' b' c' d' x) := by
  unfold p4; split
  · exact h0
  split
  · exact h1
  split
  · exact h2
  · exact h3
/-- The pixel whose colour is the new entry. -/
def rzP (lo hi T i j k : Nat) : Nat → Nat := p4 (spotF lo hi (partF i T)) (spotF lo hi (partF j T)) (spotF lo hi (partF k T)) 0
theorem spotF_cn (lo hi v : Nat) : cn .f32 (spotF lo hi v) = spotF lo hi v := cn_fop _ _ _ _
def PixQ (m : Nat) (G : Nat → Nat) (u : Value) : Prop := ∃ q : Nat → Nat, (u = if m = 4 then .agg #[.float .f32 (q 0), .float .f32 (q 1), .float .f32 (q 2), .float .f32 (q 3)] else .agg #[.float .f32 (q 0), .float .f32 (q 1), .float .f32 (q 2)]) ∧ ∀ c, c < 3 → q c = G c
def RzPsi (lo hi T : Nat) (G : Nat → Nat) (f : FuncId) (args : Array Value) (u : Value) : Prop :=
  if f = 180 then ∃ r, u = .float .f32 r ∧ FR .f32 r (partF (argI args 0).toNat T)
  else if f = 179 then ∃ r, u = .float .f32 r ∧ cn .f32 r = spotF lo hi (argF args 1)
  else if f = 183 then PixQ 3 G u
  else PixQ 4 G u
theorem rz_part {lo hi T : Nat} {G : Nat → Nat} {n : Nat} {x u : Value} : RzPsi lo hi T G 180 #[.int .i64 n, x] u ↔ ∃ r, u = .float .f32 r ∧ FR .f32 r (partF n T) := by unfold RzPsi; rw [if_pos rfl]; simp [argI_0]
theorem rz_spot {lo hi T : Nat} {G : Nat → Nat} {v : Nat} {x u : Value} : RzPsi lo hi T G 179 #[x, .float .f32 v] u ↔ ∃ r, u = .float .f32 r ∧ cn .f32 r = spotF lo hi v := by unfold RzPsi; rw [if_neg (by decide), if_pos rfl]; simp [argF_1]
theorem rz_col {lo hi T : Nat} {G : Nat → Nat} {args : Array Value} {u : Value} : RzPsi lo hi T G 183 args u ↔ ∃ q : Nat → Nat, u = .agg #[.float .f32 (q 0), .float .f32 (q 1), .float .f32 (q 2)] ∧ ∀ c, c < 3 → q c = G c := by unfold RzPsi; rw [if_neg (by decide), if_neg (by decide), if_pos rfl]; rfl
theorem rz_tet {lo hi T : Nat} {G : Nat → Nat} {args : Array Value} {u : Value} : RzPsi lo hi T G 174 args u ↔ ∃ q : Nat → Nat, u = .agg #[.float .f32 (q 0), .float .f32 (q 1), .float .f32 (q 2), .float .f32 (q 3)] ∧ ∀ c, c < 3 → q c = G c := by unfold RzPsi; rw [if_neg (by decide), if_neg (by decide), if_neg (by decide)]; rfl
/-- The entries of a cube of another size. -/
def rzG (S lo hi T : Nat) (fs : Nat → Nat) (e m : Nat) : Nat := cn .f32 (tetF S lo hi fs (rzP lo hi T (e % T) (e / T % T) (e / T / T)) m)
theorem rzG_eq {S lo hi T : Nat} {fs : Nat → Nat} {i j k m : Nat} (hi' : i < T) (hj : j < T) : rzG S lo hi T fs (enI T i j k) m = cn .f32 (tetF S lo hi fs (rzP lo hi T i j k) m) := by
  obtain ⟨e1, e2, e3⟩ := enI_dec (k := k) hi' hj
  unfold rzG; rw [e1, e2, e3]
set_option maxRecDepth 100000 in
set_option maxHeartbeats 3200000 in
theorem Resize_c (T i j k S lo hi b off n cap : Nat) (fs : Nat → Nat) (pc ps : Nat) (w : World) (hT : T ≤ 17) (h1 : i < T) (h2 : j < T) (_h3 : k < T)
    (hS : 2 ≤ S ∧ S ≤ 17) (hn : n = 3 * (S * S * S)) (hcap : n ≤ cap) (hc : Row w b off n fs) (hA : Blk w pc (cubV S lo hi b off n cap)) (hP : w.cell? ⟨ps, 0, none⟩ = some (.int .i64 T)) :
    Calls Try.prog 184 #[.int .i64 i, .int .i64 j, .int .i64 k, .pointer (some ⟨pc, 0, none⟩), .pointer (some ⟨ps, 0, none⟩)] w fun e w' =>
      (∃ q : Nat → Nat, e = .returned (.agg #[.float .f32 (q 0), .float .f32 (q 1), .float .f32 (q 2)]) ∧ ∀ c, c < 3 → cn .f32 (q c) = rzG S lo hi T fs (enI T i j k) c) ∧ Below w.heap.size w w' := by
  have hbw : b < w.heap.size := hc.lt (by have : 0 < S * S * S := Nat.mul_pos (Nat.mul_pos (by omega) (by omega)) (by omega); omega)
  have HT := Lib.hid (fun p w' hb => tetra_any S lo hi b off n cap fs p w' hS hn hcap (hc.below hb hbw) : ∀ p w', Below w.heap.size w w' → _)
  have HG := Lib.hid (fun m => rzG_eq (S := S) (lo := lo) (hi := hi) (fs := fs) (k := k) (m := m) h1 h2)
  have HTT := Lib.hid hT
  clear hc hn hcap hbw hS h1 h2 _h3 hT
  have g0 := hA.c 0 _ rfl; have g1 := hA.c 1 _ rfl; have g2 := hA.c 2 _ rfl; have g3 := hA.c 3 _ rfl
  have gl := hA.lt; have pl := cell_lt hP; simp only at pl
  clear hA
  go_enter Try.func184, Try.ntmps184
  go_wp2_with fail
  refine wp_world (fun W hW => ?_)
  have B0 : Below w.heap.size w W := by rw [hW]; (repeat (first | exact Below.refl _ _ | assumption | (refine Below.setCell ?_ (by first | (simp; done) | (simp; omega) | omega) _) | (refine Below.drew ?_) | (refine below_drewN ?_ _) | (refine Below.alloc ?_ (by first | (simp; done) | (simp; omega) | omega) _) | (refine Below.trans ?_ (Below.mono (by assumption) (by first | (simp; done) | (simp; omega) | omega)))))
  have R0 : Blk W w.heap.size [.float .f32 0, .float .f32 0, .float .f32 0] := by rw [hW]; exact Blk.new _ _ _ _ rfl
  have k0 := (B0.cell (p := ⟨pc, 0, none⟩) gl).trans g0
  have k1 := (B0.cell (p := ⟨pc, 1, none⟩) gl).trans g1
  have k2 := (B0.cell (p := ⟨pc, 2, none⟩) gl).trans g2
  have k3 := (B0.cell (p := ⟨pc, 3, none⟩) gl).trans g3
  have kp := (B0.cell (p := ⟨ps, 0, none⟩) pl).trans hP
  have l1 : pc < W.heap.size := by have := B0.size; omega
  have l2 : ps < W.heap.size := by have := B0.size; omega
  have R := Lib.hid R0; have B := Lib.hid B0
  clear hW R0 B0 gl pl g0 g1 g2 g3 hP
  refine wp_region_loose 19 (RzPsi lo hi T (tetF S lo hi fs (rzP lo hi T i j k))) (by kernel_rfl) (by kernel_rfl) ?_
  simp only [List.take_succ_cons, List.take_zero, List.drop_succ_cons, List.drop_zero]
  iterate 4 (refine loose_wanted rfl (fun K hK => ?_); go_simp; refine hK _ ?_; clear hK K)
  refine loose_wanted rfl (fun K1 hK => ?_)
  go_simp
  refine ⟨fun p => (part_any _ _ p.w HTT.out).mono ?_, ?_⟩
  · rintro e w' ⟨⟨r, rfl, hr⟩, m, rfl⟩
    exact ⟨_, rfl, rz_part.2 ⟨r, rfl, hr⟩, below_drewN p.h m⟩
  intro u hu
  obtain ⟨r0, rfl, hr0⟩ := rz_part.1 hu
  refine hK _ ?_
  clear hK K1 hu
  refine loose_wanted rfl (fun K1 hK => ?_)
  go_simp
  refine ⟨fun p => (spot_any _ _ _ _ _ p.w).mono ?_, ?_⟩
  · rintro e w' ⟨⟨r, rfl, hr⟩, hb⟩
    exact ⟨_, rfl, rz_spot.2 ⟨r, rfl, hr⟩, p.h.trans (hb.mono p.h.size)⟩
  intro u hu
  obtain ⟨s0, rfl, hs0⟩ := rz_spot.1 hu
  refine hK _ ?_
  clear hK K1 hu
  rw [spotF_of _ _ (hr0.eq.trans (cn_fop _ _ _ _).symm), ← spotF_cn] at hs0
  clear hr0
  iterate 3 (refine loose_wanted rfl (fun K hK => ?_); go_simp; refine hK _ ?_; clear hK K)
  refine loose_wanted rfl (fun K1 hK => ?_)
  go_simp
  refine ⟨fun p => (part_any _ _ p.w HTT.out).mono ?_, ?_⟩
  · rintro e w' ⟨⟨r, rfl, hr⟩, m, rfl⟩
    exact ⟨_, rfl, rz_part.2 ⟨r, rfl, hr⟩, below_drewN p.h m⟩
  intro u hu
  obtain ⟨r1, rfl, hr1⟩ := rz_part.1 hu
  refine hK _ ?_
  clear hK K1 hu
  refine loose_wanted rfl (fun K1 hK => ?_)
  go_simp
  refine ⟨fun p => (spot_any _ _ _ _ _ p.w).mono ?_, ?_⟩
  · rintro e w' ⟨⟨r, rfl, hr⟩, hb⟩
    exact ⟨_, rfl, rz_spot.2 ⟨r, rfl, hr⟩, p.h.trans (hb.mono p.h.size)⟩
  intro u hu
  obtain ⟨s1, rfl, hs1⟩ := rz_spot.1 hu
  refine hK _ ?_
  clear hK K1 hu
  rw [spotF_of _ _ (hr1.eq.trans (cn_fop _ _ _ _).symm), ← spotF_cn] at hs1
  clear hr1
  iterate 3 (refine loose_wanted rfl (fun K hK => ?_); go_simp; refine hK _ ?_; clear hK K)
  refine loose_wanted rfl (fun K1 hK => ?_)
  go_simp
  refine ⟨fun p => (part_any _ _ p.w HTT.out).mono ?_, ?_⟩
  · rintro e w' ⟨⟨r, rfl, hr⟩, m, rfl⟩
    exact ⟨_, rfl, rz_part.2 ⟨r, rfl, hr⟩, below_drewN p.h m⟩
  intro u hu
  obtain ⟨r2, rfl, hr2⟩ := rz_part.1 hu
  refine hK _ ?_
  clear hK K1 hu
  refine loose_wanted rfl (fun K1 hK => ?_)
  go_simp
  refine ⟨fun p => (spot_any _ _ _ _ _ p.w).mono ?_, ?_⟩
  · rintro e w' ⟨⟨r, rfl, hr⟩, hb⟩
    exact ⟨_, rfl, rz_spot.2 ⟨r, rfl, hr⟩, p.h.trans (hb.mono p.h.size)⟩
  intro u hu
  obtain ⟨s2, rfl, hs2⟩ := rz_spot.1 hu
  refine hK _ ?_
  clear hK K1 hu
  rw [spotF_of _ _ (hr2.eq.trans (cn_fop _ _ _ _).symm), ← spotF_cn] at hs2
  clear hr2
  iterate 1 (refine loose_wanted rfl (fun K hK => ?_); go_simp; refine hK _ ?_; clear hK K)
  have HQ := Lib.hid (p4_congr (d := 0) (d' := 0) hs0 hs1 hs2 rfl)
  clear hs0 hs1 hs2
  refine loose_wanted rfl (fun K1 hK => ?_)
  go_simp
  refine ⟨fun p => (HT.out (p4 s0 s1 s2 0) p.w (B.out.trans (p.h.mono B.out.size))).mono ?_, ?_⟩
  · rintro e w' ⟨rfl, hb⟩
    exact ⟨_, rfl, rz_tet.2 ⟨_, rfl, fun c hc => tet_congr S lo hi fs HQ.out hc⟩, p.h.trans (hb.mono p.h.size)⟩
  intro u hu
  obtain ⟨q, rfl, hq⟩ := rz_tet.1 hu
  have HQ2 := Lib.hid hq
  clear hq
  refine hK _ ?_
  clear hK K1 hu
  refine loose_wanted rfl (fun K1 hK => ?_)
  go_simp
  refine ⟨fun p => (colours_any q p.w).mono ?_, ?_⟩
  · rintro e w' ⟨rfl, hb⟩
    exact ⟨_, rfl, rz_col.2 ⟨_, rfl, HQ2.out⟩, p.h.trans (hb.mono p.h.size)⟩
  intro u hu
  obtain ⟨q', rfl, hq'⟩ := rz_col.1 hu
  refine hK _ ?_
  clear hK K1 hu HQ2
  refine loose_nil (fun w5 hb5 => ?_)
  have HQ' := Lib.hid hq'
  have R5 := R.out.past hb5
  have B5 := B.out.trans (hb5.mono B.out.size)
  clear hb5 k0 k1 k2 k3 kp l1 l2 hq'
  have d0 := R5.c 0 _ rfl; have d1 := R5.c 1 _ rfl; have d2 := R5.c 2 _ rfl; have df := R5.f; have dl := R5.lt
  clear R5
  go_wp2_with fail
  refine bodyPost_ret (v := .agg #[.float .f32 (q' 0), .float .f32 (q' 1), .float .f32 (q' 2)]) (by simp [results, Try.results184, go_sem, d0, d1, d2]) rfl ⟨⟨q', rfl, fun c hc => by rw [HG.out c, HQ'.out c hc]⟩, ?_⟩
  exact ((B5.setCell (by first | (simp; done) | (simp; omega) | omega) _).setCell (by first | (simp; done) | (simp; omega) | omega) _).setCell (by first | (simp; done) | (simp; omega) | omega) _
end Go.Proofs.Ytmckkgbdlgldbaa
