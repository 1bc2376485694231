/- Matrices of doubles: times. Conditions: those named. -/
import Derived.Test.YtfmdnibfeckmaaaDoorTcA
namespace Go.Proofs.YtfmdnibfeckmaaaDoor
open Go Go.RowKit
/-- What dot answers, by its arguments. -/
def PsD (_ : FuncId) (args : Array Value) (u : Value) : Prop :=
  ∃ r, u = .float .f64 r ∧ cn .f64 r = dotF (cn .f64 (argF args 0)) (cn .f64 (argF args 1)) (cn .f64 (argF args 2)) (cn .f64 (argF args 3)) (cn .f64 (argF args 4)) (cn .f64 (argF args 5))
/-- What a matrix makes of three doubles. -/
def tmF (R V : Nat → Nat) (i : Nat) : Nat := dotF (R (3 * i)) (R (3 * i + 1)) (R (3 * i + 2)) (V 0) (V 1) (V 2)
theorem put_j {m : Nat} {g T : Nat → Nat} {x : Nat} (he : ∀ j, j < m → cn .f64 (g j) = T j) (hx : cn .f64 x = T m) : ∀ j, j < m + 1 → cn .f64 (if j = m then x else g j) = T j := fun j hj => by
  by_cases h : j = m
  · subst h; rw [if_pos rfl]; exact hx
  · rw [if_neg h]; exact he j (by omega)
structure TmR (w wr : World) (r v g : Nat → Nat) : Prop where
  r : VecD wr w.heap.size 9 r
  v : VecD wr (w.heap.size + 1) 3 v
  z : VecD wr (w.heap.size + 2) 3 (fun _ => 0)
  g : VecD wr (w.heap.size + 3) 3 g
  b : Below w.heap.size w wr
theorem TmR.past {w wr wy : World} {r v g : Nat → Nat} (k : TmR w wr r v g) (h : Below wr.heap.size wr wy) : TmR w wy r v g :=
  ⟨k.r.past h, k.v.past h, k.z.past h, k.g.past h, k.b.trans (h.mono k.b.size)⟩
theorem TmR.set {w wr : World} {r v g : Nat → Nat} (k : TmR w wr r v g) (m : Nat) (hm : m < 3) (x : Nat) : TmR w (wr.setCell ⟨w.heap.size + 3, m, none⟩ (.float .f64 x)) r v (fun j => if j = m then x else g j) :=
  ⟨k.r.far _ _ (by simp), k.v.far _ _ (by simp), k.z.far _ _ (by simp), k.g.set m x hm, k.b.setCell (by simp) _⟩
set_option maxRecDepth 100000 in
set_option maxHeartbeats 3200000 in
theorem times_any (r v : Nat → Nat) (w : World) : Calls Tryd.prog 33 #[m9 r, m3 v] w fun e w' =>
    (∃ q : Nat → Nat, e = .returned (m3 q) ∧ ∀ i, i < 3 → cn .f64 (q i) = tmF (fun j => cn .f64 (r j)) (fun j => cn .f64 (v j)) i) ∧ Below w.heap.size w w' := by
  go_enter Tryd.func33, Tryd.ntmps33
  go_wp2_with fail
  refine wp_world (fun W hW => ?_)
  have M0 : TmR w W r v (fun _ => 0) := by
    rw [hW]
    exact ⟨VecD.of9 ((((Blk.new _ _ _ _ rfl).alloc _).alloc _).alloc _), VecD.of3 (((Blk.new _ _ _ _ (by simp)).alloc _).alloc _), VecD.of3 ((Blk.new _ _ _ _ (by simp)).alloc _), VecD.of3 (Blk.new _ _ _ _ (by simp)), by (repeat (first | exact Below.refl _ _ | assumption | (refine Below.setCell ?_ (by first | (simp; done) | (simp; omega) | omega) _) | (refine Below.drew ?_) | (refine below_drewN ?_ _) | (refine Below.alloc ?_ (by first | (simp; done) | (simp; omega) | omega) _) | (refine Below.trans ?_ (Below.mono (by assumption) (by first | (simp; done) | (simp; omega) | omega)))))⟩
  have HM0 := Lib.hid M0
  clear hW M0
  go_loopw [7] (fun s7 wr => ∃ m : Nat, m ≤ 3 ∧ s7 = .int .i64 m ∧ ∃ g, TmR w wr r v g ∧ ∀ j, j < m → cn .f64 (g j) = tmF (fun j => cn .f64 (r j)) (fun j => cn .f64 (v j)) j) (fun s7 _ => 3 - (intOf s7).toNat)
  case atStart => exact ⟨0, by omega, rfl, _, HM0.out, fun j hj => by omega⟩
  case round =>
    obtain ⟨m, hm, rfl, g, hR, he⟩ := hrel
    have HR := Lib.hid hR; have HE := Lib.hid he
    clear hR he HM0
    by_cases hm3 : m < 3
    · have r0 := HR.out.r.c 0 (by omega); have r1 := HR.out.r.c 1 (by omega); have r2 := HR.out.r.c 2 (by omega)
      have r3 := HR.out.r.c 3 (by omega); have r4 := HR.out.r.c 4 (by omega); have r5 := HR.out.r.c 5 (by omega)
      have r6 := HR.out.r.c 6 (by omega); have r7 := HR.out.r.c 7 (by omega); have r8 := HR.out.r.c 8 (by omega)
      have v0 := HR.out.v.c 0 (by omega); have v1 := HR.out.v.c 1 (by omega); have v2 := HR.out.v.c 2 (by omega)
      have rl := HR.out.r.lt; have vl := HR.out.v.lt; have gl := HR.out.g.lt
      have w0 : IntKind.i64.wrap 0 = 0 := by decide
      have w1 : IntKind.i64.wrap 1 = 1 := by decide
      have w2 : IntKind.i64.wrap 2 = 2 := by decide
      have w3 : IntKind.i64.wrap 3 = 3 := by decide
      have w4 : IntKind.i64.wrap 4 = 4 := by decide
      have w5 : IntKind.i64.wrap 5 = 5 := by decide
      have w6 : IntKind.i64.wrap 6 = 6 := by decide
      have w7 : IntKind.i64.wrap 7 = 7 := by decide
      have w8 : IntKind.i64.wrap 8 = 8 := by decide
      rcases (show m = 0 ∨ m = 1 ∨ m = 2 by omega) with rfl | rfl | rfl
      all_goals
        go_wp2_with fail
        refine wp_region_loose 23 PsD (by kernel_rfl) (by kernel_rfl) ?_
        simp only [List.take_succ_cons, List.take_zero, List.drop_succ_cons, List.drop_zero]
        iterate 21 (refine loose_wanted rfl (fun K hK => ?_); go_simp; refine hK _ ?_; clear hK K)
        refine loose_wanted rfl (fun K hK => ?_)
        go_simp
        refine ⟨fun p => (dot_any _ _ _ _ _ _ p.w).mono ?_, ?_⟩
        · rintro e w' ⟨⟨x, rfl, hx⟩, m, rfl⟩
          exact ⟨_, rfl, ⟨x, rfl, hx⟩, below_drewN p.h m⟩
        rintro u ⟨x, rfl, hx⟩
        refine hK _ ?_
        clear hK K
        (refine loose_wanted rfl (fun K hK => ?_); go_simp; refine hK _ ?_; clear hK K)
        refine loose_nil (fun w5 hb5 => ?_)
        have HR5 := Lib.hid (HR.out.past hb5)
        clear hb5 r0 r1 r2 r3 r4 r5 r6 r7 r8 v0 v1 v2 rl vl gl HR
        have g0 := HR5.out.g.c 0 (by omega); have g1 := HR5.out.g.c 1 (by omega); have g2 := HR5.out.g.c 2 (by omega); have gf := HR5.out.g.f; have gl := HR5.out.g.lt
        go_wp2_with fail
        first
        | exact ⟨⟨1, by omega, rfl, _, HR5.out.set 0 (by omega) x, put_j HE.out hx⟩, by simp [intOf]⟩
        | exact ⟨⟨2, by omega, rfl, _, HR5.out.set 1 (by omega) x, put_j HE.out hx⟩, by simp [intOf]⟩
        | exact ⟨⟨3, by omega, rfl, _, HR5.out.set 2 (by omega) x, put_j HE.out hx⟩, by simp [intOf]⟩
    · have hm' : m = 3 := by omega
      subst hm'
      have g0 := HR.out.g.c 0 (by omega); have g1 := HR.out.g.c 1 (by omega); have g2 := HR.out.g.c 2 (by omega); have gf := HR.out.g.f; have gl := HR.out.g.lt
      have z0 := HR.out.z.c 0 (by omega); have z1 := HR.out.z.c 1 (by omega); have z2 := HR.out.z.c 2 (by omega); have zf := HR.out.z.f; have zl := HR.out.z.lt
      have B5 := Lib.hid HR.out.b
      go_wp2_with fail
      refine bodyPost_ret (v := m3 g) (by simp [results, Tryd.results33, go_sem, z0, z1, z2]) rfl ⟨⟨g, rfl, HE.out⟩, ?_⟩
      repeat (first | exact B5.out | (refine Below.setCell ?_ (by first | (simp; done) | (simp; omega) | omega) _))
end Go.Proofs.YtfmdnibfeckmaaaDoor
