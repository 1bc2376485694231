/- CubesCompose: the closures of the statement. Conditions: the cube is right; its singles are known. -/
import Derived.Test.YtmckkgbdlgldbaaCpD
namespace Go.Proofs.Ytmckkgbdlgldbaa
open Go Go.RowKit
set_option maxHeartbeats 1600000 in
theorem at_c (n T S lo hi : Nat) (x : Value) (pc ps : Nat) (w : World) (hT : T ≤ 17) (hA : Blk w pc [.int .i64 S, .float .f32 lo, .float .f32 hi, x]) (hP : w.cell? ⟨ps, 0, none⟩ = some (.int .i64 T)) :
    Calls Try.prog 111 #[.int .i64 n, .pointer (some ⟨pc, 0, none⟩), .pointer (some ⟨ps, 0, none⟩)] w fun e w' => (∃ r, e = .returned (.float .f32 r) ∧ cn .f32 r = spotF lo hi (partF n T)) ∧ Below w.heap.size w w' := by
  have e1 : IntKind.i64.wrap ((T : Int) - 1) = (T : Int) - 1 := by rw [IntKind.wrap_i64]; omega
  have g1 := hA.c 1 _ rfl; have g2 := hA.c 2 _ rfl; have gl := hA.lt; have pl := cell_lt hP; simp only at pl
  clear hA
  go_enter Try.func111, Try.ntmps111
  go_wp2_with (first | ((with_reducible apply wpList_farith); rfl; rfl; rfl; intro _ _ _) | ((with_reducible apply wpList_up); rfl; exact Try.underlying38; exact Try.underlying113; intro _ _ _))
  rename_i r1 n1 h1 r2 n2 h2 r3 n3 h3 r4 n4 h4
  go_ret
  refine ⟨⟨r4, rfl, ?_⟩, by (repeat (first | exact Below.refl _ _ | assumption | (refine Below.setCell ?_ (by first | (simp; done) | (simp; omega) | omega) _) | (refine Below.drew ?_) | (refine below_drewN ?_ _) | (refine Below.alloc ?_ (by first | (simp; done) | (simp; omega) | omega) _) | (refine Below.trans ?_ (Below.mono (by assumption) (by first | (simp; done) | (simp; omega) | omega)))))⟩
  unfold spotF partF
  rw [h4.eq, h3.eq, h2.eq, h1.eq]
  simp only [fop_cn_left, fop_cn_right]
def RoPsi (lo hi T : Nat) (G : Nat → Nat) (f : FuncId) (args : Array Value) (u : Value) : Prop :=
  if f = 111 then ∃ r, u = .float .f32 r ∧ cn .f32 r = spotF lo hi (partF (argI args 0).toNat T)
  else PixQ 4 G u
theorem ro_at {lo hi T : Nat} {G : Nat → Nat} {n : Nat} {x y u : Value} : RoPsi lo hi T G 111 #[.int .i64 n, x, y] u ↔ ∃ r, u = .float .f32 r ∧ cn .f32 r = spotF lo hi (partF n T) := by unfold RoPsi; rw [if_pos rfl]; simp [argI_0]
theorem ro_tet {lo hi T : Nat} {G : Nat → Nat} {args : Array Value} {u : Value} : RoPsi lo hi T G 97 args u ↔ ∃ q : Nat → Nat, u = .agg #[.float .f32 (q 0), .float .f32 (q 1), .float .f32 (q 2), .float .f32 (q 3)] ∧ ∀ c, c < 3 → q c = G c := by unfold RoPsi; rw [if_neg (by decide)]; rfl
set_option maxRecDepth 100000 in
set_option maxHeartbeats 3200000 in
theorem ResizeOf_c (T i j k S lo hi b off n cap : Nat) (fs : Nat → Nat) (pc ps : Nat) (w : World) (hT : T ≤ 17) (h1 : i < T) (h2 : j < T) (_h3 : k < T)
    (hS : 2 ≤ S ∧ S ≤ 17) (hn : n = 3 * (S * S * S)) (hc : Row w b off n fs) (hA : Blk w pc (cubV S lo hi b off n cap)) (hP : w.cell? ⟨ps, 0, none⟩ = some (.int .i64 T)) :
    Calls Try.prog 110 #[.int .i64 i, .int .i64 j, .int .i64 k, .pointer (some ⟨pc, 0, none⟩), .pointer (some ⟨ps, 0, none⟩)] w fun e w' =>
      (∃ q : Nat → Nat, e = .returned (.agg #[.float .f32 (q 0), .float .f32 (q 1), .float .f32 (q 2)]) ∧ ∀ c, c < 3 → cn .f32 (q c) = rzG S lo hi T fs (enI T i j k) c) ∧ Below w.heap.size w w' := by
  have hbw : b < w.heap.size := hc.lt (by have : 0 < S * S * S := Nat.mul_pos (Nat.mul_pos (by omega) (by omega)) (by omega); omega)
  have gl := hA.lt; have pl := cell_lt hP; simp only at pl
  have HT := Lib.hid (fun p w' hb => TetraOf_any S lo hi b off n cap fs p w' hS hn (hc.below hb hbw) : ∀ p w', Below w.heap.size w w' → _)
  have HAT := Lib.hid (fun m w' hb => at_c m T S lo hi _ pc ps w' hT (hA.below hb gl) ((hb.cell (p := ⟨ps, 0, none⟩) pl).trans hP) : ∀ m w', Below w.heap.size w w' → _)
  have HG := Lib.hid (fun m => rzG_eq (S := S) (lo := lo) (hi := hi) (fs := fs) (k := k) (m := m) h1 h2)
  have HA := Lib.hid hA
  clear hc hn hbw hS h1 h2 _h3 hT hP hA
  go_enter Try.func110, Try.ntmps110
  go_wp2_with fail
  refine wp_world (fun W hW => ?_)
  have B0 : Below w.heap.size w W := by rw [hW]; (repeat (first | exact Below.refl _ _ | assumption | (refine Below.setCell ?_ (by first | (simp; done) | (simp; omega) | omega) _) | (refine Below.drew ?_) | (refine below_drewN ?_ _) | (refine Below.alloc ?_ (by first | (simp; done) | (simp; omega) | omega) _) | (refine Below.trans ?_ (Below.mono (by assumption) (by first | (simp; done) | (simp; omega) | omega)))))
  have R0 : Blk W w.heap.size [.float .f32 0, .float .f32 0, .float .f32 0] := by rw [hW]; exact Blk.new _ _ _ _ rfl
  have A0 := HA.out.below B0 gl
  have k0 := A0.c 0 _ rfl; have k1 := A0.c 1 _ rfl; have k2 := A0.c 2 _ rfl; have k3 := A0.c 3 _ rfl
  have l1 := A0.lt
  have R := Lib.hid R0; have B := Lib.hid B0
  clear hW R0 B0 A0 gl pl
  refine wp_region_looseM 13 (RoPsi lo hi T (tetF S lo hi fs (rzP lo hi T i j k))) [(12, 10, .cells #[.float .f32 0, .float .f32 0, .float .f32 0, .float .f32 0] 65)] (by kernel_rfl) (by kernel_rfl) (by kernel_rfl) (by intro m hm; cases hm with | head => exact ⟨_, rfl, ⟨rfl, rfl, fun ev w => by kernel_rfl⟩⟩ | tail _ h => cases h) (by intro m hm; cases hm with | head => exact of_decide_eq_true (by kernel_rfl) | tail _ h => cases h) ?_
  simp only [List.take_succ_cons, List.take_zero, List.drop_succ_cons, List.drop_zero]
  iterate 3 (refine looseM_wanted rfl (fun K hK => ?_); go_simp; refine hK _ ?_; clear hK K)
  refine looseM_wanted rfl (fun K1 hK => ?_)
  go_simp
  refine ⟨fun p => (HAT.out _ p.w (B.out.trans (p.h.mono B.out.size))).mono ?_, ?_⟩
  · rintro e w' ⟨⟨r, rfl, hr⟩, hb⟩
    exact ⟨_, rfl, ro_at.2 ⟨r, rfl, hr⟩, hb⟩
  intro u hu
  obtain ⟨s0, rfl, hs0⟩ := ro_at.1 hu
  refine hK _ ?_
  clear hK K1 hu
  iterate 2 (refine looseM_wanted rfl (fun K hK => ?_); go_simp; refine hK _ ?_; clear hK K)
  refine looseM_wanted rfl (fun K1 hK => ?_)
  go_simp
  refine ⟨fun p => (HAT.out _ p.w (B.out.trans (p.h.mono B.out.size))).mono ?_, ?_⟩
  · rintro e w' ⟨⟨r, rfl, hr⟩, hb⟩
    exact ⟨_, rfl, ro_at.2 ⟨r, rfl, hr⟩, hb⟩
  intro u hu
  obtain ⟨s1, rfl, hs1⟩ := ro_at.1 hu
  refine hK _ ?_
  clear hK K1 hu
  iterate 2 (refine looseM_wanted rfl (fun K hK => ?_); go_simp; refine hK _ ?_; clear hK K)
  refine looseM_wanted rfl (fun K1 hK => ?_)
  go_simp
  refine ⟨fun p => (HAT.out _ p.w (B.out.trans (p.h.mono B.out.size))).mono ?_, ?_⟩
  · rintro e w' ⟨⟨r, rfl, hr⟩, hb⟩
    exact ⟨_, rfl, ro_at.2 ⟨r, rfl, hr⟩, hb⟩
  intro u hu
  obtain ⟨s2, rfl, hs2⟩ := ro_at.1 hu
  refine hK _ ?_
  clear hK K1 hu
  iterate 1 (refine looseM_wanted rfl (fun K hK => ?_); go_simp; refine hK _ ?_; clear hK K)
  have HQ := Lib.hid (p4_congr (d := 0) (d' := 0) (hs0.trans (spotF_cn _ _ _).symm) (hs1.trans (spotF_cn _ _ _).symm) (hs2.trans (spotF_cn _ _ _).symm) rfl)
  clear hs0 hs1 hs2
  refine looseM_wanted rfl (fun K1 hK => ?_)
  go_simp
  refine ⟨fun p => (HT.out (p4 s0 s1 s2 0) p.w (B.out.trans (p.h.mono B.out.size))).mono ?_, ?_⟩
  · rintro e w' ⟨rfl, hb⟩
    exact ⟨_, rfl, ro_tet.2 ⟨_, rfl, fun c hc => tet_congr S lo hi fs HQ.out hc⟩, hb⟩
  intro u hu
  obtain ⟨q, rfl, hq⟩ := ro_tet.1 hu
  have HQ2 := Lib.hid hq
  clear hq
  refine hK _ ?_
  clear hK K1 hu
  refine looseM_lays (d := 10) (blk := .cells #[.float .f32 0, .float .f32 0, .float .f32 0, .float .f32 0] 65) ⟨rfl, rfl, fun ev w => by kernel_rfl⟩ (fun pg hpg => ?_)
  refine looseM_nil (fun w2 hb2 hg2 _ => ?_)
  obtain ⟨pg', hpg1, hpg2⟩ := hg2 _ (List.Mem.head _)
  obtain rfl : pg = pg' := by cases hpg1; rfl
  clear hpg1 hg2
  have N0 : w2.cell? ⟨pg, 0, none⟩ = some (.float .f32 0) := by simp [World.cell?, hpg2]
  have N1 : w2.cell? ⟨pg, 1, none⟩ = some (.float .f32 0) := by simp [World.cell?, hpg2]
  have N2 : w2.cell? ⟨pg, 2, none⟩ = some (.float .f32 0) := by simp [World.cell?, hpg2]
  have N3 : w2.cell? ⟨pg, 3, none⟩ = some (.float .f32 0) := by simp [World.cell?, hpg2]
  have NF : ∀ o, w2.frozen? ⟨pg, o, none⟩ = false := fun o => by simp [World.frozen?, hpg2]
  have R2 := R.out.past hb2
  have B2 := B.out.trans (hb2.mono B.out.size)
  have z0 := R2.c 0 _ rfl; have z1 := R2.c 1 _ rfl; have z2 := R2.c 2 _ rfl; have zf := R2.f; have zl := R2.lt
  have hpn : pg ≠ w.heap.size := by have := R.out.lt; omega
  have hpn2 : w.heap.size ≠ pg := fun e => hpn e.symm
  have hpw : w.heap.size ≤ pg := by have := R.out.lt; omega
  have hpl := cell_lt N0; simp only at hpl
  clear hb2 R2 k0 k1 k2 k3 l1 hpg2 R B HQ hpg
  go_wp2_with fail
  refine bodyPost_ret (v := .agg #[.float .f32 (q 0), .float .f32 (q 1), .float .f32 (q 2)]) (by simp [results, Try.results110, go_sem, z0, z1, z2]) rfl ⟨⟨q, rfl, fun c hc => by rw [HG.out c, HQ2.out c hc]⟩, ?_⟩
  (repeat (first | (with_reducible exact B2) | (refine Below.setCell ?_ (by first | (simp; done) | (simp; omega) | omega) _) | (refine Below.drew ?_)))
end Go.Proofs.Ytmckkgbdlgldbaa
