/- The document's matrices: sums of products, spots as XYZ, minors, what a matrix makes of three doubles. No condition. -/
import Derived.Test.YtfmdnibfeckmaaaDoorTcH
namespace Go.Proofs.YtfmdnibfeckmaaaDoor
open Go Go.RowKit
set_option maxHeartbeats 800000 in
theorem rowR_any (a b c x y z : Nat) (w : World) : Calls Tryd.prog 53 #[.float .f64 a, .float .f64 b, .float .f64 c, .float .f64 x, .float .f64 y, .float .f64 z] w fun e w' =>
    (∃ r, e = .returned (.float .f64 r) ∧ cn .f64 r = dotF (cn .f64 a) (cn .f64 b) (cn .f64 c) (cn .f64 x) (cn .f64 y) (cn .f64 z)) ∧ ∃ m, w' = w.drewN m := by
  go_enter Tryd.func53, Tryd.ntmps53
  go_wp2_with (first | ((with_reducible apply wpList_farith); rfl; rfl; rfl; intro _ _ _) | ((with_reducible apply wpList_up); rfl; exact Tryd.underlying22; exact Tryd.underlying47; intro _ _ _))
  rename_i _ _ a1 _ _ a2 _ _ a3 _ _ a4 _ _ a5
  go_ret
  exact ⟨⟨_, rfl, d_FR a1 a2 a3 a4 a5⟩, _, rfl⟩
set_option maxHeartbeats 1600000 in
theorem xyzR_any (x y : Nat) (w : World) : Calls Tryd.prog 39 #[.agg #[.float .f32 x, .float .f32 y]] w fun e w' =>
    (∃ r s, e = .returned (.agg #[.float .f64 r, .float .f64 4607182418800017408, .float .f64 s]) ∧ cn .f64 r = spX x y ∧ cn .f64 s = spZ x y) ∧ Below w.heap.size w w' := by
  go_enter Tryd.func39, Tryd.ntmps39
  go_upto_region 1 with fail
  refine wp_world (fun W hW => ?_)
  have Z : Blk W (w.heap.size + 1) [.float .f64 0, .float .f64 0, .float .f64 0] := by rw [hW]; exact Blk.new _ _ _ _ (by simp)
  have S : Blk W w.heap.size [.float .f32 x, .float .f32 y] := by rw [hW]; exact (Blk.new _ _ _ _ rfl).alloc _
  have B : Hid (Below w.heap.size w W) := by rw [hW]; exact Lib.hid (by (repeat (first | exact Below.refl _ _ | assumption | (refine Below.setCell ?_ (by first | (simp; done) | (simp; omega) | omega) _) | (refine Below.drew ?_) | (refine below_drewN ?_ _) | (refine Below.alloc ?_ (by first | (simp; done) | (simp; omega) | omega) _) | (refine Below.trans ?_ (Below.mono (by assumption) (by first | (simp; done) | (simp; omega) | omega))))))
  clear hW
  have s0 := S.c 0 _ rfl; have s1 := S.c 1 _ rfl; have sl := S.lt
  have HZ := Lib.hid Z
  clear Z
  refine wp_region_loose 7 (fun _ _ _ => False) (by kernel_rfl) (by kernel_rfl) ?_
  simp only [List.take_succ_cons, List.take_zero, List.drop_succ_cons, List.drop_zero]
  (refine loose_wanted rfl (fun K hK => ?_); go_simp; refine hK _ ?_; clear hK K)
  (refine loose_wanted rfl (fun K hK => ?_); go_simp; refine hK _ ?_; clear hK K)
  (first | ((with_reducible apply loose_farith); rfl; rfl; rfl; rfl; intro _ _) | ((with_reducible apply loose_up); rfl; rfl; exact Tryd.underlying22; exact Tryd.underlying47; intro _ _))
  (refine loose_wanted rfl (fun K hK => ?_); go_simp; refine hK _ ?_; clear hK K)
  (refine loose_wanted rfl (fun K hK => ?_); go_simp; refine hK _ ?_; clear hK K)
  (first | ((with_reducible apply loose_farith); rfl; rfl; rfl; rfl; intro _ _) | ((with_reducible apply loose_up); rfl; rfl; exact Tryd.underlying22; exact Tryd.underlying47; intro _ _))
  (refine loose_wanted rfl (fun K hK => ?_); go_simp; refine hK _ ?_; clear hK K)
  rename_i X hX Y hY
  refine loose_nil (fun w5 hb5 => ?_)
  have Z5 := HZ.out.past hb5
  have B5 : Hid (Below w.heap.size w w5) := Lib.hid (B.out.trans (hb5.mono B.out.size))
  have z0 := Z5.c 0 _ rfl; have z1 := Z5.c 1 _ rfl; have z2 := Z5.c 2 _ rfl; have zf := Z5.f; have zl := Z5.lt
  clear s0 s1 sl HZ S B hb5 Z5
  go_wp2_with (first | ((with_reducible apply wpList_farith); rfl; rfl; rfl; intro _ _ _) | ((with_reducible apply wpList_up); rfl; exact Tryd.underlying22; exact Tryd.underlying47; intro _ _ _))
  rename_i r1 _ h1 r2 _ h2 r3 _ h3 r4 _ h4
  refine bodyPost_ret (v := .agg #[.float .f64 r1, .float .f64 4607182418800017408, .float .f64 r4]) (by simp [results, Tryd.results39, go_sem, z0, z1, z2]) rfl ⟨⟨r1, r4, rfl, ?_, ?_⟩, ?_⟩
  · unfold spX; rw [h1.eq, hX.eq, hY.eq]
  · unfold spZ; rw [h4.eq, h3.eq, h2.eq, hX.eq, hY.eq, one_cn]
  · repeat (first | exact B5.out | (refine Below.setCell ?_ (by first | (simp; done) | (simp; omega) | omega) _) | (refine below_drewN ?_ _))
set_option maxHeartbeats 1600000 in
theorem minorR_any (b : Nat) (i j k l : Nat) (r : Nat → Nat) (w : World) (h : VecD w b 9 r) (hi : i < 9) (hj : j < 9) (hk : k < 9) (hl : l < 9) :
    Calls Tryd.prog 52 #[.int .i64 i, .int .i64 j, .int .i64 k, .int .i64 l, .pointer (some ⟨b, 0, none⟩)] w fun e w' =>
    (∃ v, e = .returned (.float .f64 v) ∧ cn .f64 v = minF (cn .f64 (r i)) (cn .f64 (r j)) (cn .f64 (r k)) (cn .f64 (r l))) ∧ Below w.heap.size w w' := by
  have B := Below.refl w.heap.size w
  have c1 := h.c i hi; have c2 := h.c j hj; have c3 := h.c k hk; have c4 := h.c l hl; have cf := h.f; have cl := h.lt
  have i1 : (i : Int) < 9 := by omega
  have i2 : (j : Int) < 9 := by omega
  have i3 : (k : Int) < 9 := by omega
  have i4 : (l : Int) < 9 := by omega
  go_enter Tryd.func52, Tryd.ntmps52
  go_upto_region 1 with fail
  refine wp_region_loose 15 (fun _ _ _ => False) (by kernel_rfl) (by kernel_rfl) ?_
  simp only [List.take_succ_cons, List.take_zero, List.drop_succ_cons, List.drop_zero]
  iterate 6 (refine loose_wanted rfl (fun K hK => ?_); go_simp; refine hK _ ?_; clear hK K)
  (first | ((with_reducible apply loose_farith); rfl; rfl; rfl; rfl; intro _ _) | ((with_reducible apply loose_up); rfl; rfl; exact Tryd.underlying22; exact Tryd.underlying47; intro _ _))
  iterate 6 (refine loose_wanted rfl (fun K hK => ?_); go_simp; refine hK _ ?_; clear hK K)
  (first | ((with_reducible apply loose_farith); rfl; rfl; rfl; rfl; intro _ _) | ((with_reducible apply loose_up); rfl; rfl; exact Tryd.underlying22; exact Tryd.underlying47; intro _ _))
  (first | ((with_reducible apply loose_farith); rfl; rfl; rfl; rfl; intro _ _) | ((with_reducible apply loose_up); rfl; rfl; exact Tryd.underlying22; exact Tryd.underlying47; intro _ _))
  rename_i v1 h1 v2 h2 v3 h3
  refine loose_nil (fun w5 hb5 => ?_)
  go_wp2_with fail
  go_ret
  exact ⟨⟨v3, rfl, by unfold minF; rw [h3.eq, h2.eq, h1.eq]⟩, B.trans (hb5.mono B.size)⟩
set_option maxRecDepth 100000 in
set_option maxHeartbeats 3200000 in
theorem timesR_any (r v : Nat → Nat) (w : World) : Calls Tryd.prog 41 #[m9 r, m3 v] w fun e w' =>
    (∃ q : Nat → Nat, e = .returned (m3 q) ∧ ∀ i, i < 3 → cn .f64 (q i) = tmF (fun j => cn .f64 (r j)) (fun j => cn .f64 (v j)) i) ∧ Below w.heap.size w w' := by
  go_enter Tryd.func41, Tryd.ntmps41
  go_wp2_with fail
  refine wp_world (fun W hW => ?_)
  have M0 : TmR w W r v (fun _ => 0) := by
    rw [hW]
    exact ⟨VecD.of9 ((((Blk.new _ _ _ _ rfl).alloc _).alloc _).alloc _), VecD.of3 (((Blk.new _ _ _ _ (by simp)).alloc _).alloc _), VecD.of3 ((Blk.new _ _ _ _ (by simp)).alloc _), VecD.of3 (Blk.new _ _ _ _ (by simp)), by (repeat (first | exact Below.refl _ _ | assumption | (refine Below.setCell ?_ (by first | (simp; done) | (simp; omega) | omega) _) | (refine Below.drew ?_) | (refine below_drewN ?_ _) | (refine Below.alloc ?_ (by first | (simp; done) | (simp; omega) | omega) _) | (refine Below.trans ?_ (Below.mono (by assumption) (by first | (simp; done) | (simp; omega) | omega)))))⟩
  have HM0 := Lib.hid M0
  clear hW M0
  go_loopw [7] (fun s7 wr => ∃ m : Nat, m ≤ 3 ∧ s7 = .int .i64 m ∧ ∃ g, TmR w wr r v g ∧ ∀ j, j < m → cn .f64 (g j) = tmF (fun j => cn .f64 (r j)) (fun j => cn .f64 (v j)) j) (fun s7 _ => 3 - (intOf s7).toNat)
  case atStart => exact ⟨0, by omega, rfl, _, HM0.out, fun j hj => by omega⟩
  case round =>
    obtain ⟨m, hm, rfl, g, hR, he⟩ := hrel
    have HR := Lib.hid hR; have HE := Lib.hid he
    clear hR he HM0
    by_cases hm3 : m < 3
    · have r0 := HR.out.r.c 0 (by omega); have r1 := HR.out.r.c 1 (by omega); have r2 := HR.out.r.c 2 (by omega)
      have r3 := HR.out.r.c 3 (by omega); have r4 := HR.out.r.c 4 (by omega); have r5 := HR.out.r.c 5 (by omega)
      have r6 := HR.out.r.c 6 (by omega); have r7 := HR.out.r.c 7 (by omega); have r8 := HR.out.r.c 8 (by omega)
      have v0 := HR.out.v.c 0 (by omega); have v1 := HR.out.v.c 1 (by omega); have v2 := HR.out.v.c 2 (by omega)
      have rl := HR.out.r.lt; have vl := HR.out.v.lt; have gl := HR.out.g.lt
      have w0 : IntKind.i64.wrap 0 = 0 := by decide
      have w1 : IntKind.i64.wrap 1 = 1 := by decide
      have w2 : IntKind.i64.wrap 2 = 2 := by decide
      have w3 : IntKind.i64.wrap 3 = 3 := by decide
      have w4 : IntKind.i64.wrap 4 = 4 := by decide
      have w5 : IntKind.i64.wrap 5 = 5 := by decide
      have w6 : IntKind.i64.wrap 6 = 6 := by decide
      have w7 : IntKind.i64.wrap 7 = 7 := by decide
      have w8 : IntKind.i64.wrap 8 = 8 := by decide
      rcases (show m = 0 ∨ m = 1 ∨ m = 2 by omega) with rfl | rfl | rfl
      all_goals
        go_wp2_with fail
        refine wp_region_loose 23 PsD (by kernel_rfl) (by kernel_rfl) ?_
        simp only [List.take_succ_cons, List.take_zero, List.drop_succ_cons, List.drop_zero]
        iterate 21 (refine loose_wanted rfl (fun K hK => ?_); go_simp; refine hK _ ?_; clear hK K)
        refine loose_wanted rfl (fun K hK => ?_)
        go_simp
        refine ⟨fun p => (rowR_any _ _ _ _ _ _ p.w).mono ?_, ?_⟩
        · rintro e w' ⟨⟨x, rfl, hx⟩, m, rfl⟩
          exact ⟨_, rfl, ⟨x, rfl, hx⟩, below_drewN p.h m⟩
        rintro u ⟨x, rfl, hx⟩
        refine hK _ ?_
        clear hK K
        (refine loose_wanted rfl (fun K hK => ?_); go_simp; refine hK _ ?_; clear hK K)
        refine loose_nil (fun w5 hb5 => ?_)
        have HR5 := Lib.hid (HR.out.past hb5)
        clear hb5 r0 r1 r2 r3 r4 r5 r6 r7 r8 v0 v1 v2 rl vl gl HR
        have g0 := HR5.out.g.c 0 (by omega); have g1 := HR5.out.g.c 1 (by omega); have g2 := HR5.out.g.c 2 (by omega); have gf := HR5.out.g.f; have gl := HR5.out.g.lt
        go_wp2_with fail
        first
        | exact ⟨⟨1, by omega, rfl, _, HR5.out.set 0 (by omega) x, put_j HE.out hx⟩, by simp [intOf]⟩
        | exact ⟨⟨2, by omega, rfl, _, HR5.out.set 1 (by omega) x, put_j HE.out hx⟩, by simp [intOf]⟩
        | exact ⟨⟨3, by omega, rfl, _, HR5.out.set 2 (by omega) x, put_j HE.out hx⟩, by simp [intOf]⟩
    · have hm' : m = 3 := by omega
      subst hm'
      have g0 := HR.out.g.c 0 (by omega); have g1 := HR.out.g.c 1 (by omega); have g2 := HR.out.g.c 2 (by omega); have gf := HR.out.g.f; have gl := HR.out.g.lt
      have z0 := HR.out.z.c 0 (by omega); have z1 := HR.out.z.c 1 (by omega); have z2 := HR.out.z.c 2 (by omega); have zf := HR.out.z.f; have zl := HR.out.z.lt
      have B5 := Lib.hid HR.out.b
      go_wp2_with fail
      refine bodyPost_ret (v := m3 g) (by simp [results, Tryd.results41, go_sem, z0, z1, z2]) rfl ⟨⟨g, rfl, HE.out⟩, ?_⟩
      repeat (first | exact B5.out | (refine Below.setCell ?_ (by first | (simp; done) | (simp; omega) | omega) _))
end Go.Proofs.YtfmdnibfeckmaaaDoor
