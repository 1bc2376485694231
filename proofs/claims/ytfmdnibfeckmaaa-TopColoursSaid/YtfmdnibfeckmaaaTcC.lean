/- Matrices of doubles: Multiply. Conditions: those named. -/
import Derived.Test.YtfmdnibfeckmaaaTcB
import Derived.Test.YtfmdnibfeckmaaaTcM
namespace Go.Proofs.Ytfmdnibfeckmaaa
open Go Go.RowKit
/-- The product of two matrices. -/
def mulF (A B : Nat → Nat) (i : Nat) : Nat := dotF (A (i / 3 * 3)) (A (i / 3 * 3 + 1)) (A (i / 3 * 3 + 2)) (B (i % 3)) (B (i % 3 + 3)) (B (i % 3 + 6))
structure MuR (w wr : World) (r v g : Nat → Nat) : Prop where
  r : VecD wr w.heap.size 9 r
  v : VecD wr (w.heap.size + 1) 9 v
  z : VecD wr (w.heap.size + 2) 9 (fun _ => 0)
  g : VecD wr (w.heap.size + 3) 9 g
  b : Below w.heap.size w wr
theorem MuR.past {w wr wy : World} {r v g : Nat → Nat} (k : MuR w wr r v g) (h : Below wr.heap.size wr wy) : MuR w wy r v g :=
  ⟨k.r.past h, k.v.past h, k.z.past h, k.g.past h, k.b.trans (h.mono k.b.size)⟩
theorem MuR.set {w wr : World} {r v g : Nat → Nat} (k : MuR w wr r v g) (m : Nat) (hm : m < 9) (x : Nat) : MuR w (wr.setCell ⟨w.heap.size + 3, m, none⟩ (.float .f64 x)) r v (fun j => if j = m then x else g j) :=
  ⟨k.r.far _ _ (by simp), k.v.far _ _ (by simp), k.z.far _ _ (by simp), k.g.set m x hm, k.b.setCell (by simp) _⟩
set_option maxRecDepth 100000 in
set_option maxHeartbeats 12800000 in
theorem Multiply_any (r v : Nat → Nat) (w : World) : Calls Try.prog 34 #[m9 r, m9 v] w fun e w' =>
    (∃ q : Nat → Nat, e = .returned (m9 q) ∧ ∀ i, i < 9 → cn .f64 (q i) = mulF (fun j => cn .f64 (r j)) (fun j => cn .f64 (v j)) i) ∧ Below w.heap.size w w' := by
  go_enter Try.func34, Try.ntmps34
  go_wp2_with fail
  refine wp_world (fun W hW => ?_)
  have M0 : MuR w W r v (fun _ => 0) := by
    rw [hW]
    exact ⟨VecD.of9 ((((Blk.new _ _ _ _ rfl).alloc _).alloc _).alloc _), VecD.of9 (((Blk.new _ _ _ _ (by simp)).alloc _).alloc _), VecD.of9 ((Blk.new _ _ _ _ (by simp)).alloc _), VecD.of9 (Blk.new _ _ _ _ (by simp)), by (repeat (first | exact Below.refl _ _ | assumption | (refine Below.setCell ?_ (by first | (simp; done) | (simp; omega) | omega) _) | (refine Below.drew ?_) | (refine below_drewN ?_ _) | (refine Below.alloc ?_ (by first | (simp; done) | (simp; omega) | omega) _) | (refine Below.trans ?_ (Below.mono (by assumption) (by first | (simp; done) | (simp; omega) | omega)))))⟩
  have HM0 := Lib.hid M0
  clear hW M0
  go_loopw [9] (fun s9 wr => ∃ m : Nat, m ≤ 9 ∧ s9 = .int .i64 m ∧ ∃ g, MuR w wr r v g ∧ ∀ j, j < m → cn .f64 (g j) = mulF (fun j => cn .f64 (r j)) (fun j => cn .f64 (v j)) j) (fun s9 _ => 9 - (intOf s9).toNat)
  case atStart => exact ⟨0, by omega, rfl, _, HM0.out, fun j hj => by omega⟩
  case round =>
    obtain ⟨m, hm, rfl, g, hR, he⟩ := hrel
    have HR := Lib.hid hR; have HE := Lib.hid he
    clear hR he HM0
    by_cases hm9 : m < 9
    · have r0 := HR.out.r.c 0 (by omega); have r1 := HR.out.r.c 1 (by omega); have r2 := HR.out.r.c 2 (by omega); have r3 := HR.out.r.c 3 (by omega); have r4 := HR.out.r.c 4 (by omega); have r5 := HR.out.r.c 5 (by omega); have r6 := HR.out.r.c 6 (by omega); have r7 := HR.out.r.c 7 (by omega); have r8 := HR.out.r.c 8 (by omega)
      have v0 := HR.out.v.c 0 (by omega); have v1 := HR.out.v.c 1 (by omega); have v2 := HR.out.v.c 2 (by omega); have v3 := HR.out.v.c 3 (by omega); have v4 := HR.out.v.c 4 (by omega); have v5 := HR.out.v.c 5 (by omega); have v6 := HR.out.v.c 6 (by omega); have v7 := HR.out.v.c 7 (by omega); have v8 := HR.out.v.c 8 (by omega)
      have rl := HR.out.r.lt; have vl := HR.out.v.lt; have gl := HR.out.g.lt
      have w0 : IntKind.i64.wrap 0 = 0 := (by decide); have w1 : IntKind.i64.wrap 1 = 1 := (by decide); have w2 : IntKind.i64.wrap 2 = 2 := (by decide); have w3 : IntKind.i64.wrap 3 = 3 := (by decide); have w4 : IntKind.i64.wrap 4 = 4 := (by decide); have w5 : IntKind.i64.wrap 5 = 5 := (by decide); have w6 : IntKind.i64.wrap 6 = 6 := (by decide); have w7 : IntKind.i64.wrap 7 = 7 := (by decide); have w8 : IntKind.i64.wrap 8 = 8 := (by decide); have w9 : IntKind.i64.wrap 9 = 9 := (by decide)
      have q0 : (0 : Int).tdiv 3 = 0 := (by decide); have t0 : (0 : Int).tmod 3 = 0 := (by decide); have q1 : (1 : Int).tdiv 3 = 0 := (by decide); have t1 : (1 : Int).tmod 3 = 1 := (by decide); have q2 : (2 : Int).tdiv 3 = 0 := (by decide); have t2 : (2 : Int).tmod 3 = 2 := (by decide); have q3 : (3 : Int).tdiv 3 = 1 := (by decide); have t3 : (3 : Int).tmod 3 = 0 := (by decide); have q4 : (4 : Int).tdiv 3 = 1 := (by decide); have t4 : (4 : Int).tmod 3 = 1 := (by decide); have q5 : (5 : Int).tdiv 3 = 1 := (by decide); have t5 : (5 : Int).tmod 3 = 2 := (by decide); have q6 : (6 : Int).tdiv 3 = 2 := (by decide); have t6 : (6 : Int).tmod 3 = 0 := (by decide); have q7 : (7 : Int).tdiv 3 = 2 := (by decide); have t7 : (7 : Int).tmod 3 = 1 := (by decide); have q8 : (8 : Int).tdiv 3 = 2 := (by decide); have t8 : (8 : Int).tmod 3 = 2 := (by decide)
      rcases (show m = 0 ∨ m = 1 ∨ m = 2 ∨ m = 3 ∨ m = 4 ∨ m = 5 ∨ m = 6 ∨ m = 7 ∨ m = 8 by omega) with rfl | rfl | rfl | rfl | rfl | rfl | rfl | rfl | rfl
      · go_wp2_with fail
        refine wp_region_loose 25 PsD (by kernel_rfl) (by kernel_rfl) ?_
        simp only [List.take_succ_cons, List.take_zero, List.drop_succ_cons, List.drop_zero]
        iterate 23 (refine loose_wanted rfl (fun K hK => ?_); go_simp; refine hK _ ?_; clear hK K)
        refine loose_wanted rfl (fun K hK => ?_)
        go_simp
        refine ⟨fun p => (dot_any _ _ _ _ _ _ p.w).mono ?_, ?_⟩
        · rintro e w' ⟨⟨x, rfl, hx⟩, m, rfl⟩
          exact ⟨_, rfl, ⟨x, rfl, hx⟩, below_drewN p.h m⟩
        rintro u ⟨x, rfl, hx⟩
        refine hK _ ?_
        clear hK K
        (refine loose_wanted rfl (fun K hK => ?_); go_simp; refine hK _ ?_; clear hK K)
        refine loose_nil (fun w5 hb5 => ?_)
        have HR5 := Lib.hid (HR.out.past hb5)
        clear hb5 r0 r1 r2 r3 r4 r5 r6 r7 r8 v0 v1 v2 v3 v4 v5 v6 v7 v8 rl vl gl HR
        have g0 := HR5.out.g.c 0 (by omega); have g1 := HR5.out.g.c 1 (by omega); have g2 := HR5.out.g.c 2 (by omega); have g3 := HR5.out.g.c 3 (by omega); have g4 := HR5.out.g.c 4 (by omega); have g5 := HR5.out.g.c 5 (by omega); have g6 := HR5.out.g.c 6 (by omega); have g7 := HR5.out.g.c 7 (by omega); have g8 := HR5.out.g.c 8 (by omega); have gf := HR5.out.g.f; have gl := HR5.out.g.lt
        go_wp2_with fail
        exact ⟨⟨1, by omega, rfl, _, HR5.out.set 0 (by omega) x, put_j HE.out hx⟩, by simp [intOf]⟩
      · go_wp2_with fail
        refine wp_region_loose 25 PsD (by kernel_rfl) (by kernel_rfl) ?_
        simp only [List.take_succ_cons, List.take_zero, List.drop_succ_cons, List.drop_zero]
        iterate 23 (refine loose_wanted rfl (fun K hK => ?_); go_simp; refine hK _ ?_; clear hK K)
        refine loose_wanted rfl (fun K hK => ?_)
        go_simp
        refine ⟨fun p => (dot_any _ _ _ _ _ _ p.w).mono ?_, ?_⟩
        · rintro e w' ⟨⟨x, rfl, hx⟩, m, rfl⟩
          exact ⟨_, rfl, ⟨x, rfl, hx⟩, below_drewN p.h m⟩
        rintro u ⟨x, rfl, hx⟩
        refine hK _ ?_
        clear hK K
        (refine loose_wanted rfl (fun K hK => ?_); go_simp; refine hK _ ?_; clear hK K)
        refine loose_nil (fun w5 hb5 => ?_)
        have HR5 := Lib.hid (HR.out.past hb5)
        clear hb5 r0 r1 r2 r3 r4 r5 r6 r7 r8 v0 v1 v2 v3 v4 v5 v6 v7 v8 rl vl gl HR
        have g0 := HR5.out.g.c 0 (by omega); have g1 := HR5.out.g.c 1 (by omega); have g2 := HR5.out.g.c 2 (by omega); have g3 := HR5.out.g.c 3 (by omega); have g4 := HR5.out.g.c 4 (by omega); have g5 := HR5.out.g.c 5 (by omega); have g6 := HR5.out.g.c 6 (by omega); have g7 := HR5.out.g.c 7 (by omega); have g8 := HR5.out.g.c 8 (by omega); have gf := HR5.out.g.f; have gl := HR5.out.g.lt
        go_wp2_with fail
        exact ⟨⟨2, by omega, rfl, _, HR5.out.set 1 (by omega) x, put_j HE.out hx⟩, by simp [intOf]⟩
      · go_wp2_with fail
        refine wp_region_loose 25 PsD (by kernel_rfl) (by kernel_rfl) ?_
        simp only [List.take_succ_cons, List.take_zero, List.drop_succ_cons, List.drop_zero]
        iterate 23 (refine loose_wanted rfl (fun K hK => ?_); go_simp; refine hK _ ?_; clear hK K)
        refine loose_wanted rfl (fun K hK => ?_)
        go_simp
        refine ⟨fun p => (dot_any _ _ _ _ _ _ p.w).mono ?_, ?_⟩
        · rintro e w' ⟨⟨x, rfl, hx⟩, m, rfl⟩
          exact ⟨_, rfl, ⟨x, rfl, hx⟩, below_drewN p.h m⟩
        rintro u ⟨x, rfl, hx⟩
        refine hK _ ?_
        clear hK K
        (refine loose_wanted rfl (fun K hK => ?_); go_simp; refine hK _ ?_; clear hK K)
        refine loose_nil (fun w5 hb5 => ?_)
        have HR5 := Lib.hid (HR.out.past hb5)
        clear hb5 r0 r1 r2 r3 r4 r5 r6 r7 r8 v0 v1 v2 v3 v4 v5 v6 v7 v8 rl vl gl HR
        have g0 := HR5.out.g.c 0 (by omega); have g1 := HR5.out.g.c 1 (by omega); have g2 := HR5.out.g.c 2 (by omega); have g3 := HR5.out.g.c 3 (by omega); have g4 := HR5.out.g.c 4 (by omega); have g5 := HR5.out.g.c 5 (by omega); have g6 := HR5.out.g.c 6 (by omega); have g7 := HR5.out.g.c 7 (by omega); have g8 := HR5.out.g.c 8 (by omega); have gf := HR5.out.g.f; have gl := HR5.out.g.lt
        go_wp2_with fail
        exact ⟨⟨3, by omega, rfl, _, HR5.out.set 2 (by omega) x, put_j HE.out hx⟩, by simp [intOf]⟩
      · go_wp2_with fail
        refine wp_region_loose 25 PsD (by kernel_rfl) (by kernel_rfl) ?_
        simp only [List.take_succ_cons, List.take_zero, List.drop_succ_cons, List.drop_zero]
        iterate 23 (refine loose_wanted rfl (fun K hK => ?_); go_simp; refine hK _ ?_; clear hK K)
        refine loose_wanted rfl (fun K hK => ?_)
        go_simp
        refine ⟨fun p => (dot_any _ _ _ _ _ _ p.w).mono ?_, ?_⟩
        · rintro e w' ⟨⟨x, rfl, hx⟩, m, rfl⟩
          exact ⟨_, rfl, ⟨x, rfl, hx⟩, below_drewN p.h m⟩
        rintro u ⟨x, rfl, hx⟩
        refine hK _ ?_
        clear hK K
        (refine loose_wanted rfl (fun K hK => ?_); go_simp; refine hK _ ?_; clear hK K)
        refine loose_nil (fun w5 hb5 => ?_)
        have HR5 := Lib.hid (HR.out.past hb5)
        clear hb5 r0 r1 r2 r3 r4 r5 r6 r7 r8 v0 v1 v2 v3 v4 v5 v6 v7 v8 rl vl gl HR
        have g0 := HR5.out.g.c 0 (by omega); have g1 := HR5.out.g.c 1 (by omega); have g2 := HR5.out.g.c 2 (by omega); have g3 := HR5.out.g.c 3 (by omega); have g4 := HR5.out.g.c 4 (by omega); have g5 := HR5.out.g.c 5 (by omega); have g6 := HR5.out.g.c 6 (by omega); have g7 := HR5.out.g.c 7 (by omega); have g8 := HR5.out.g.c 8 (by omega); have gf := HR5.out.g.f; have gl := HR5.out.g.lt
        go_wp2_with fail
        exact ⟨⟨4, by omega, rfl, _, HR5.out.set 3 (by omega) x, put_j HE.out hx⟩, by simp [intOf]⟩
      · go_wp2_with fail
        refine wp_region_loose 25 PsD (by kernel_rfl) (by kernel_rfl) ?_
        simp only [List.take_succ_cons, List.take_zero, List.drop_succ_cons, List.drop_zero]
        iterate 23 (refine loose_wanted rfl (fun K hK => ?_); go_simp; refine hK _ ?_; clear hK K)
        refine loose_wanted rfl (fun K hK => ?_)
        go_simp
        refine ⟨fun p => (dot_any _ _ _ _ _ _ p.w).mono ?_, ?_⟩
        · rintro e w' ⟨⟨x, rfl, hx⟩, m, rfl⟩
          exact ⟨_, rfl, ⟨x, rfl, hx⟩, below_drewN p.h m⟩
        rintro u ⟨x, rfl, hx⟩
        refine hK _ ?_
        clear hK K
        (refine loose_wanted rfl (fun K hK => ?_); go_simp; refine hK _ ?_; clear hK K)
        refine loose_nil (fun w5 hb5 => ?_)
        have HR5 := Lib.hid (HR.out.past hb5)
        clear hb5 r0 r1 r2 r3 r4 r5 r6 r7 r8 v0 v1 v2 v3 v4 v5 v6 v7 v8 rl vl gl HR
        have g0 := HR5.out.g.c 0 (by omega); have g1 := HR5.out.g.c 1 (by omega); have g2 := HR5.out.g.c 2 (by omega); have g3 := HR5.out.g.c 3 (by omega); have g4 := HR5.out.g.c 4 (by omega); have g5 := HR5.out.g.c 5 (by omega); have g6 := HR5.out.g.c 6 (by omega); have g7 := HR5.out.g.c 7 (by omega); have g8 := HR5.out.g.c 8 (by omega); have gf := HR5.out.g.f; have gl := HR5.out.g.lt
        go_wp2_with fail
        exact ⟨⟨5, by omega, rfl, _, HR5.out.set 4 (by omega) x, put_j HE.out hx⟩, by simp [intOf]⟩
      · go_wp2_with fail
        refine wp_region_loose 25 PsD (by kernel_rfl) (by kernel_rfl) ?_
        simp only [List.take_succ_cons, List.take_zero, List.drop_succ_cons, List.drop_zero]
        iterate 23 (refine loose_wanted rfl (fun K hK => ?_); go_simp; refine hK _ ?_; clear hK K)
        refine loose_wanted rfl (fun K hK => ?_)
        go_simp
        refine ⟨fun p => (dot_any _ _ _ _ _ _ p.w).mono ?_, ?_⟩
        · rintro e w' ⟨⟨x, rfl, hx⟩, m, rfl⟩
          exact ⟨_, rfl, ⟨x, rfl, hx⟩, below_drewN p.h m⟩
        rintro u ⟨x, rfl, hx⟩
        refine hK _ ?_
        clear hK K
        (refine loose_wanted rfl (fun K hK => ?_); go_simp; refine hK _ ?_; clear hK K)
        refine loose_nil (fun w5 hb5 => ?_)
        have HR5 := Lib.hid (HR.out.past hb5)
        clear hb5 r0 r1 r2 r3 r4 r5 r6 r7 r8 v0 v1 v2 v3 v4 v5 v6 v7 v8 rl vl gl HR
        have g0 := HR5.out.g.c 0 (by omega); have g1 := HR5.out.g.c 1 (by omega); have g2 := HR5.out.g.c 2 (by omega); have g3 := HR5.out.g.c 3 (by omega); have g4 := HR5.out.g.c 4 (by omega); have g5 := HR5.out.g.c 5 (by omega); have g6 := HR5.out.g.c 6 (by omega); have g7 := HR5.out.g.c 7 (by omega); have g8 := HR5.out.g.c 8 (by omega); have gf := HR5.out.g.f; have gl := HR5.out.g.lt
        go_wp2_with fail
        exact ⟨⟨6, by omega, rfl, _, HR5.out.set 5 (by omega) x, put_j HE.out hx⟩, by simp [intOf]⟩
      · go_wp2_with fail
        refine wp_region_loose 25 PsD (by kernel_rfl) (by kernel_rfl) ?_
        simp only [List.take_succ_cons, List.take_zero, List.drop_succ_cons, List.drop_zero]
        iterate 23 (refine loose_wanted rfl (fun K hK => ?_); go_simp; refine hK _ ?_; clear hK K)
        refine loose_wanted rfl (fun K hK => ?_)
        go_simp
        refine ⟨fun p => (dot_any _ _ _ _ _ _ p.w).mono ?_, ?_⟩
        · rintro e w' ⟨⟨x, rfl, hx⟩, m, rfl⟩
          exact ⟨_, rfl, ⟨x, rfl, hx⟩, below_drewN p.h m⟩
        rintro u ⟨x, rfl, hx⟩
        refine hK _ ?_
        clear hK K
        (refine loose_wanted rfl (fun K hK => ?_); go_simp; refine hK _ ?_; clear hK K)
        refine loose_nil (fun w5 hb5 => ?_)
        have HR5 := Lib.hid (HR.out.past hb5)
        clear hb5 r0 r1 r2 r3 r4 r5 r6 r7 r8 v0 v1 v2 v3 v4 v5 v6 v7 v8 rl vl gl HR
        have g0 := HR5.out.g.c 0 (by omega); have g1 := HR5.out.g.c 1 (by omega); have g2 := HR5.out.g.c 2 (by omega); have g3 := HR5.out.g.c 3 (by omega); have g4 := HR5.out.g.c 4 (by omega); have g5 := HR5.out.g.c 5 (by omega); have g6 := HR5.out.g.c 6 (by omega); have g7 := HR5.out.g.c 7 (by omega); have g8 := HR5.out.g.c 8 (by omega); have gf := HR5.out.g.f; have gl := HR5.out.g.lt
        go_wp2_with fail
        exact ⟨⟨7, by omega, rfl, _, HR5.out.set 6 (by omega) x, put_j HE.out hx⟩, by simp [intOf]⟩
      · go_wp2_with fail
        refine wp_region_loose 25 PsD (by kernel_rfl) (by kernel_rfl) ?_
        simp only [List.take_succ_cons, List.take_zero, List.drop_succ_cons, List.drop_zero]
        iterate 23 (refine loose_wanted rfl (fun K hK => ?_); go_simp; refine hK _ ?_; clear hK K)
        refine loose_wanted rfl (fun K hK => ?_)
        go_simp
        refine ⟨fun p => (dot_any _ _ _ _ _ _ p.w).mono ?_, ?_⟩
        · rintro e w' ⟨⟨x, rfl, hx⟩, m, rfl⟩
          exact ⟨_, rfl, ⟨x, rfl, hx⟩, below_drewN p.h m⟩
        rintro u ⟨x, rfl, hx⟩
        refine hK _ ?_
        clear hK K
        (refine loose_wanted rfl (fun K hK => ?_); go_simp; refine hK _ ?_; clear hK K)
        refine loose_nil (fun w5 hb5 => ?_)
        have HR5 := Lib.hid (HR.out.past hb5)
        clear hb5 r0 r1 r2 r3 r4 r5 r6 r7 r8 v0 v1 v2 v3 v4 v5 v6 v7 v8 rl vl gl HR
        have g0 := HR5.out.g.c 0 (by omega); have g1 := HR5.out.g.c 1 (by omega); have g2 := HR5.out.g.c 2 (by omega); have g3 := HR5.out.g.c 3 (by omega); have g4 := HR5.out.g.c 4 (by omega); have g5 := HR5.out.g.c 5 (by omega); have g6 := HR5.out.g.c 6 (by omega); have g7 := HR5.out.g.c 7 (by omega); have g8 := HR5.out.g.c 8 (by omega); have gf := HR5.out.g.f; have gl := HR5.out.g.lt
        go_wp2_with fail
        exact ⟨⟨8, by omega, rfl, _, HR5.out.set 7 (by omega) x, put_j HE.out hx⟩, by simp [intOf]⟩
      · go_wp2_with fail
        refine wp_region_loose 25 PsD (by kernel_rfl) (by kernel_rfl) ?_
        simp only [List.take_succ_cons, List.take_zero, List.drop_succ_cons, List.drop_zero]
        iterate 23 (refine loose_wanted rfl (fun K hK => ?_); go_simp; refine hK _ ?_; clear hK K)
        refine loose_wanted rfl (fun K hK => ?_)
        go_simp
        refine ⟨fun p => (dot_any _ _ _ _ _ _ p.w).mono ?_, ?_⟩
        · rintro e w' ⟨⟨x, rfl, hx⟩, m, rfl⟩
          exact ⟨_, rfl, ⟨x, rfl, hx⟩, below_drewN p.h m⟩
        rintro u ⟨x, rfl, hx⟩
        refine hK _ ?_
        clear hK K
        (refine loose_wanted rfl (fun K hK => ?_); go_simp; refine hK _ ?_; clear hK K)
        refine loose_nil (fun w5 hb5 => ?_)
        have HR5 := Lib.hid (HR.out.past hb5)
        clear hb5 r0 r1 r2 r3 r4 r5 r6 r7 r8 v0 v1 v2 v3 v4 v5 v6 v7 v8 rl vl gl HR
        have g0 := HR5.out.g.c 0 (by omega); have g1 := HR5.out.g.c 1 (by omega); have g2 := HR5.out.g.c 2 (by omega); have g3 := HR5.out.g.c 3 (by omega); have g4 := HR5.out.g.c 4 (by omega); have g5 := HR5.out.g.c 5 (by omega); have g6 := HR5.out.g.c 6 (by omega); have g7 := HR5.out.g.c 7 (by omega); have g8 := HR5.out.g.c 8 (by omega); have gf := HR5.out.g.f; have gl := HR5.out.g.lt
        go_wp2_with fail
        exact ⟨⟨9, by omega, rfl, _, HR5.out.set 8 (by omega) x, put_j HE.out hx⟩, by simp [intOf]⟩
    · have hm' : Hid (m = 9) := Lib.hid (by omega)
      go_wp2_with (first | ((with_reducible apply wpList_ld9 (HR.out.g)); rfl; rfl; rfl) | ((with_reducible apply wpList_st9 (r := g) (HR.out.z)); rfl; rfl; rfl; rfl; intro w9 hk9 hs9 hh9 hb9))
      have hm' := hm'.out
      subst hm'
      refine bodyPost_ret (v := m9 g) (results_m9 Try.results34 _ hk9 rfl) rfl ⟨⟨g, rfl, HE.out⟩, ?_⟩
      exact hb9 _ _ HR.out.b (by omega)
end Go.Proofs.Ytfmdnibfeckmaaa
