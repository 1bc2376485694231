/- Grain: the closure of finish.grained. No condition but that of its captured cells. -/
import Derived.Test.YtmnmcmmhnbnndaaGrC
import Derived.Test.YtmnmcmmhnbnndaaFrF
import Derived.Test.YtmnmcmmhnbnndaaOffB
namespace Go.Proofs.Ytmnmcmmhnbnndaa
open Go.RowKit
/-- The noise of four hashes. -/
def uniF (sd a b c n : Int) : Nat := unitF (hashZ sd a b (wrap64 (wrap64 (4 * c) + n)))
def noiF (sd a b c : Int) : Nat := fop .sub .f32 (fop .mul .f32 (fop .add .f32 (fop .add .f32 (uniF sd a b c 0) (uniF sd a b c 1)) (fop .add .f32 (uniF sd a b c 2) (uniF sd a b c 3))) 1056964608) 1065353216
/-- A value with grain. -/
def grnF (sd a b c : Int) (s f v : Nat) : Nat :=
  fop .add .f32 v (fop .mul .f32 (fop .mul .f32 (noiF sd a b c) s) (limF (fop .sub .f32 1065353216 (fop .mul .f32 f v)) 0 1065353216))
theorem limF_FR {r s : Nat} (h : FR .f32 r s) (lo hi : Nat) : limF r lo hi = limF s lo hi := by
  have e : cn .f32 s = cn .f32 r := by rw [← h.eq, cn_cn]
  unfold limF; rw [ord_FR h, ord_FR h, e]
theorem grn_FR {sd a b c : Int} {s f v r1 r2 r3 r4 r5 r6 r7 r8 r9 r10 : Nat} (h1 : FR .f32 r1 (fop .add .f32 (cn .f32 (unitF (hashZ sd a b (wrap64 (wrap64 (4 * c)))))) (cn .f32 (unitF (hashZ sd a b (wrap64 (wrap64 (4 * c) + 1)))))))
    (h2 : FR .f32 r2 (fop .add .f32 (cn .f32 (unitF (hashZ sd a b (wrap64 (wrap64 (4 * c) + 2))))) (cn .f32 (unitF (hashZ sd a b (wrap64 (wrap64 (4 * c) + 3)))))))
    (h3 : FR .f32 r3 (fop .add .f32 (cn .f32 r1) (cn .f32 r2))) (h4 : FR .f32 r4 (fop .mul .f32 (cn .f32 r3) (cn .f32 1056964608))) (h5 : FR .f32 r5 (fop .sub .f32 (cn .f32 r4) (cn .f32 1065353216)))
    (h6 : FR .f32 r6 (fop .mul .f32 (cn .f32 f) (cn .f32 v))) (h7 : FR .f32 r7 (fop .sub .f32 (cn .f32 1065353216) (cn .f32 r6))) (h8 : FR .f32 r8 (fop .mul .f32 (cn .f32 r5) (cn .f32 s)))
    (h9 : FR .f32 r9 (fop .mul .f32 (cn .f32 r8) (cn .f32 (limF r7 0 1065353216)))) (h10 : FR .f32 r10 (fop .add .f32 (cn .f32 v) (cn .f32 r9))) : FR .f32 r10 (grnF sd a b c s f v) := by
  have e0 : wrap64 (wrap64 (4 * c) + 0) = wrap64 (wrap64 (4 * c)) := by rw [Int.add_zero]
  rw [h6.eq] at h7
  rw [limF_FR h7, h8.eq, h5.eq, h4.eq, h3.eq, h2.eq, h1.eq] at h9
  rw [h9.eq] at h10
  simp only [fop_cn_left, fop_cn_right] at h10
  unfold grnF noiF uniF
  rw [e0]
  exact h10
set_option maxRecDepth 100000 in
set_option maxHeartbeats 1600000 in
theorem grained1_walk (seed : Int) (s f : Nat) (mono : Bool) (num a b : Int) (pg pn pa pb : Nat) (c : Int) (v : Nat) (w : World)
    (g0 : w.cell? ⟨pg, 0, none⟩ = some (.int .u32 seed)) (g2 : w.cell? ⟨pg, 2, none⟩ = some (.float .f32 s)) (g3 : w.cell? ⟨pg, 3, none⟩ = some (.float .f32 f)) (g4 : w.cell? ⟨pg, 4, none⟩ = some (.bool mono))
    (hn : w.cell? ⟨pn, 0, none⟩ = some (.int .i64 num)) (ha : w.cell? ⟨pa, 0, none⟩ = some (.int .i64 a)) (hb : w.cell? ⟨pb, 0, none⟩ = some (.int .i64 b)) :
    Calls Try.prog 200 #[.int .i64 c, .float .f32 v, .pointer (some ⟨pg, 0, none⟩), .pointer (some ⟨pn, 0, none⟩), .pointer (some ⟨pa, 0, none⟩), .pointer (some ⟨pb, 0, none⟩)] w fun e w' =>
      (∃ r, e = .returned (.float .f32 r) ∧ FR .f32 r (grnF (bits .xor .u32 seed (num % 4294967296)) a b (if mono then 0 else c) s f v)) ∧ Below w.heap.size w w' := by
  have l1 := cell_lt g0; have l2 := cell_lt hn; have l3 := cell_lt ha; have l4 := cell_lt hb
  simp only at l1 l2 l3 l4
  have hb0 := fun n => hashZ_bd (bits .xor .u32 seed (num % 4294967296)) a b n
  cases mono
  · go_enter Try.func200, Try.ntmps200
    go_wp2
    refine wp_loop_rounds 5 ?_
    go_wp2_with (first | simp only [rounds_succ] | (go_at_call 117; refine (Hash_any _ _ _ _ _).mono ?_; rintro e w' ⟨rfl, rfl⟩) | (go_at_call 116; refine (Unit_any _ _ (hb0 _).1 (hb0 _).2).mono ?_; rintro e w' ⟨m, rfl, rfl⟩) | (go_at_call 150; refine (Limit_any _ _ _ _).mono ?_; rintro e w' ⟨rfl, rfl⟩) | ((with_reducible apply wpList_farith); rfl; rfl; rfl; intro _ _ _) | ((with_reducible apply wpList_up); rfl; exact Try.underlying38; exact Try.underlying51; intro _ _ _))
    rename_i _ _ _ _ a1 _ _ a2 _ _ a3 _ _ a4 _ _ a5 _ _ a6 _ _ a7 _ _ a8 _ _ a9 _ _ a10
    have R := grn_FR a1 a2 a3 a4 a5 a6 a7 a8 a9 a10
    go_ret
    refine ⟨⟨_, rfl, R⟩, ?_⟩
    (repeat (first | exact Below.refl _ _ | assumption | (refine Below.setCell ?_ (by first | (simp; done) | (simp; omega) | omega) _) | (refine Below.drew ?_) | (refine below_drewN ?_ _) | (refine Below.alloc ?_ (by first | (simp; done) | (simp; omega) | omega) _) | (refine Below.trans ?_ (Below.mono (by assumption) (by first | (simp; done) | (simp; omega) | omega)))))
  · have q : wrap64 (wrap64 (4 * 0)) = 0 ∧ wrap64 (wrap64 (4 * 0) + 1) = 1 ∧ wrap64 (wrap64 (4 * 0) + 2) = 2 ∧ wrap64 (wrap64 (4 * 0) + 3) = 3 := by decide +kernel
    have Q := Lib.hid q; clear q
    go_enter Try.func200, Try.ntmps200
    go_wp2
    refine wp_loop_rounds 5 ?_
    go_wp2_with (first | simp only [rounds_succ] | (go_at_call 117; refine (Hash_any _ _ _ _ _).mono ?_; rintro e w' ⟨rfl, rfl⟩) | (go_at_call 116; refine (Unit_any _ _ (hb0 _).1 (hb0 _).2).mono ?_; rintro e w' ⟨m, rfl, rfl⟩) | (go_at_call 150; refine (Limit_any _ _ _ _).mono ?_; rintro e w' ⟨rfl, rfl⟩) | ((with_reducible apply wpList_farith); rfl; rfl; rfl; intro _ _ _) | ((with_reducible apply wpList_up); rfl; exact Try.underlying38; exact Try.underlying51; intro _ _ _))
    rename_i _ _ _ _ a1 _ _ a2 _ _ a3 _ _ a4 _ _ a5 _ _ a6 _ _ a7 _ _ a8 _ _ a9 _ _ a10
    obtain ⟨q0, q1, q2, q3⟩ := Q.out
    have R := grn_FR (c := 0) (by rw [q0, q1]; exact a1) (by rw [q2, q3]; exact a2) a3 a4 a5 a6 a7 a8 a9 a10
    go_ret
    refine ⟨⟨_, rfl, R⟩, ?_⟩
    (repeat (first | exact Below.refl _ _ | assumption | (refine Below.setCell ?_ (by first | (simp; done) | (simp; omega) | omega) _) | (refine Below.drew ?_) | (refine below_drewN ?_ _) | (refine Below.alloc ?_ (by first | (simp; done) | (simp; omega) | omega) _) | (refine Below.trans ?_ (Below.mono (by assumption) (by first | (simp; done) | (simp; omega) | omega)))))
end Go.Proofs.Ytmnmcmmhnbnndaa
