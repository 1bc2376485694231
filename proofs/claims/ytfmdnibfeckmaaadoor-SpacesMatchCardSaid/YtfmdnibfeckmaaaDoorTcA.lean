/- Matrices of doubles: rows of doubles by place, sums of products, spots as XYZ, two-by-two minors. Conditions: those named. -/
import Derived.Test.YtfmdnibfeckmaaaDoorBG
import Derived.Test.YtfmdnibfeckmaaaDoorBH
import Derived.StillTailTactics
namespace Go.Proofs.YtfmdnibfeckmaaaDoor
open Go Go.RowKit
/-- n doubles of a block, by their place; none is frozen. -/
structure VecD (w : World) (b n : Nat) (g : Nat → Nat) : Prop where
  lt : b < w.heap.size
  c : ∀ j, j < n → w.cell? ⟨b, j, none⟩ = some (.float .f64 (g j))
  f : ∀ o, w.frozen? ⟨b, o, none⟩ = false
theorem VecD.block {W w : World} {b n : Nat} {f : Nat → Nat} (k : VecD W b n f) (hs : W.heap.size ≤ w.heap.size) (hb : w.heap[b]? = W.heap[b]?) : VecD w b n f :=
  ⟨Nat.lt_of_lt_of_le k.lt hs, fun j hj => (World.cell?_of_block hb).trans (k.c j hj), fun o => (World.frozen?_of_block hb).trans (k.f o)⟩
theorem VecD.past {W w : World} {b n : Nat} {f : Nat → Nat} (k : VecD W b n f) (h : Below W.heap.size W w) : VecD w b n f := k.block h.size (h.block b k.lt)
theorem VecD.far {w : World} {b n : Nat} {f : Nat → Nat} (k : VecD w b n f) (q : Addr) (t : Value) (hq : q.block ≠ b) : VecD (w.setCell q t) b n f := k.block (by simp [World.setCell]) (Below.heap_setCell _ _ _ _ (Ne.symm hq))
theorem VecD.alloc {w : World} {b n : Nat} {f : Nat → Nat} (k : VecD w b n f) (o : Obj) : VecD (w.alloc o) b n f := k.past ((Below.refl _ _).alloc (Nat.le_refl _) _)
theorem VecD.set {w : World} {b n : Nat} {f : Nat → Nat} (k : VecD w b n f) (i : Nat) (x : Nat) (hi : i < n) : VecD (w.setCell ⟨b, i, none⟩ (.float .f64 x)) b n (fun j => if j = i then x else f j) := by
  refine ⟨by have := k.lt; simpa [World.setCell] using this, fun j hj => ?_, fun o => (World.frozen?_setCell _ _ _ _).trans (k.f o)⟩
  by_cases e : j = i
  · subst e; rw [if_pos rfl]; exact World.cell?_setCell_same _ _ _ (k.c j hj)
  · rw [if_neg e, World.cell?_setCell_other _ _ _ _ (by first | (simp; omega) | (simp; done) | omega)]; exact k.c j hj
theorem VecD.of3 {w : World} {b : Nat} {f : Nat → Nat} (k : Blk w b [.float .f64 (f 0), .float .f64 (f 1), .float .f64 (f 2)]) : VecD w b 3 f :=
  ⟨k.lt, fun j hj => k.c j _ (by rcases (show j = 0 ∨ j = 1 ∨ j = 2 by omega) with rfl | rfl | rfl <;> rfl), k.f⟩
theorem VecD.of9 {w : World} {b : Nat} {f : Nat → Nat} (k : Blk w b [.float .f64 (f 0), .float .f64 (f 1), .float .f64 (f 2), .float .f64 (f 3), .float .f64 (f 4), .float .f64 (f 5), .float .f64 (f 6), .float .f64 (f 7), .float .f64 (f 8)]) : VecD w b 9 f :=
  ⟨k.lt, fun j hj => k.c j _ (by rcases (show j = 0 ∨ j = 1 ∨ j = 2 ∨ j = 3 ∨ j = 4 ∨ j = 5 ∨ j = 6 ∨ j = 7 ∨ j = 8 by omega) with rfl | rfl | rfl | rfl | rfl | rfl | rfl | rfl | rfl <;> rfl), k.f⟩
/-- Nine doubles, three doubles, as a value. -/
abbrev m9 (r : Nat → Nat) : Value := .agg #[.float .f64 (r 0), .float .f64 (r 1), .float .f64 (r 2), .float .f64 (r 3), .float .f64 (r 4), .float .f64 (r 5), .float .f64 (r 6), .float .f64 (r 7), .float .f64 (r 8)]
abbrev m3 (r : Nat → Nat) : Value := .agg #[.float .f64 (r 0), .float .f64 (r 1), .float .f64 (r 2)]
/-- The sum, in order, of three products. -/
def dotF (a b c x y z : Nat) : Nat := fop .add .f64 (fop .add .f64 (fop .mul .f64 a x) (fop .mul .f64 b y)) (fop .mul .f64 c z)
theorem d_FR {a b c x y z r1 r2 r3 r4 r5 : Nat} (h1 : FR .f64 r1 (fop .mul .f64 (cn .f64 a) (cn .f64 x))) (h2 : FR .f64 r2 (fop .mul .f64 (cn .f64 b) (cn .f64 y))) (h3 : FR .f64 r3 (fop .add .f64 (cn .f64 r1) (cn .f64 r2)))
    (h4 : FR .f64 r4 (fop .mul .f64 (cn .f64 c) (cn .f64 z))) (h5 : FR .f64 r5 (fop .add .f64 (cn .f64 r3) (cn .f64 r4))) : cn .f64 r5 = dotF (cn .f64 a) (cn .f64 b) (cn .f64 c) (cn .f64 x) (cn .f64 y) (cn .f64 z) := by
  unfold dotF; rw [h5.eq, h4.eq, h3.eq, h2.eq, h1.eq]
set_option maxHeartbeats 800000 in
theorem dot_any (a b c x y z : Nat) (w : World) : Calls Tryd.prog 49 #[.float .f64 a, .float .f64 b, .float .f64 c, .float .f64 x, .float .f64 y, .float .f64 z] w fun e w' =>
    (∃ r, e = .returned (.float .f64 r) ∧ cn .f64 r = dotF (cn .f64 a) (cn .f64 b) (cn .f64 c) (cn .f64 x) (cn .f64 y) (cn .f64 z)) ∧ ∃ m, w' = w.drewN m := by
  go_enter Tryd.func49, Tryd.ntmps49
  go_wp2_with (first | ((with_reducible apply wpList_farith); rfl; rfl; rfl; intro _ _ _) | ((with_reducible apply wpList_up); rfl; exact Tryd.underlying22; exact Tryd.underlying47; intro _ _ _))
  rename_i _ _ a1 _ _ a2 _ _ a3 _ _ a4 _ _ a5
  go_ret
  exact ⟨⟨_, rfl, d_FR a1 a2 a3 a4 a5⟩, _, rfl⟩
/-- A spot's first and third value in XYZ. -/
def spX (x y : Nat) : Nat := fop .quo .f64 (fcv .f32 .f64 (cn .f32 x)) (fcv .f32 .f64 (cn .f32 y))
def spZ (x y : Nat) : Nat := fop .quo .f64 (fop .sub .f64 (fop .sub .f64 4607182418800017408 (fcv .f32 .f64 (cn .f32 x))) (fcv .f32 .f64 (cn .f32 y))) (fcv .f32 .f64 (cn .f32 y))
theorem one_cn : cn .f64 4607182418800017408 = 4607182418800017408 := by decide +kernel
set_option maxHeartbeats 1600000 in
theorem xyz_any (x y : Nat) (w : World) : Calls Tryd.prog 31 #[.agg #[.float .f32 x, .float .f32 y]] w fun e w' =>
    (∃ r s, e = .returned (.agg #[.float .f64 r, .float .f64 4607182418800017408, .float .f64 s]) ∧ cn .f64 r = spX x y ∧ cn .f64 s = spZ x y) ∧ Below w.heap.size w w' := by
  go_enter Tryd.func31, Tryd.ntmps31
  go_upto_region 1 with fail
  refine wp_world (fun W hW => ?_)
  have Z : Blk W (w.heap.size + 1) [.float .f64 0, .float .f64 0, .float .f64 0] := by rw [hW]; exact Blk.new _ _ _ _ (by simp)
  have S : Blk W w.heap.size [.float .f32 x, .float .f32 y] := by rw [hW]; exact (Blk.new _ _ _ _ rfl).alloc _
  have B : Hid (Below w.heap.size w W) := by rw [hW]; exact Lib.hid (by (repeat (first | exact Below.refl _ _ | assumption | (refine Below.setCell ?_ (by first | (simp; done) | (simp; omega) | omega) _) | (refine Below.drew ?_) | (refine below_drewN ?_ _) | (refine Below.alloc ?_ (by first | (simp; done) | (simp; omega) | omega) _) | (refine Below.trans ?_ (Below.mono (by assumption) (by first | (simp; done) | (simp; omega) | omega))))))
  clear hW
  have s0 := S.c 0 _ rfl; have s1 := S.c 1 _ rfl; have sl := S.lt
  have HZ := Lib.hid Z
  clear Z
  refine wp_region_loose 7 (fun _ _ _ => False) (by kernel_rfl) (by kernel_rfl) ?_
  simp only [List.take_succ_cons, List.take_zero, List.drop_succ_cons, List.drop_zero]
  (refine loose_wanted rfl (fun K hK => ?_); go_simp; refine hK _ ?_; clear hK K)
  (refine loose_wanted rfl (fun K hK => ?_); go_simp; refine hK _ ?_; clear hK K)
  (first | ((with_reducible apply loose_farith); rfl; rfl; rfl; rfl; intro _ _) | ((with_reducible apply loose_up); rfl; rfl; exact Tryd.underlying22; exact Tryd.underlying47; intro _ _))
  (refine loose_wanted rfl (fun K hK => ?_); go_simp; refine hK _ ?_; clear hK K)
  (refine loose_wanted rfl (fun K hK => ?_); go_simp; refine hK _ ?_; clear hK K)
  (first | ((with_reducible apply loose_farith); rfl; rfl; rfl; rfl; intro _ _) | ((with_reducible apply loose_up); rfl; rfl; exact Tryd.underlying22; exact Tryd.underlying47; intro _ _))
  (refine loose_wanted rfl (fun K hK => ?_); go_simp; refine hK _ ?_; clear hK K)
  rename_i X hX Y hY
  refine loose_nil (fun w5 hb5 => ?_)
  have Z5 := HZ.out.past hb5
  have B5 : Hid (Below w.heap.size w w5) := Lib.hid (B.out.trans (hb5.mono B.out.size))
  have z0 := Z5.c 0 _ rfl; have z1 := Z5.c 1 _ rfl; have z2 := Z5.c 2 _ rfl; have zf := Z5.f; have zl := Z5.lt
  clear s0 s1 sl HZ S B hb5 Z5
  go_wp2_with (first | ((with_reducible apply wpList_farith); rfl; rfl; rfl; intro _ _ _) | ((with_reducible apply wpList_up); rfl; exact Tryd.underlying22; exact Tryd.underlying47; intro _ _ _))
  rename_i r1 _ h1 r2 _ h2 r3 _ h3 r4 _ h4
  refine bodyPost_ret (v := .agg #[.float .f64 r1, .float .f64 4607182418800017408, .float .f64 r4]) (by simp [results, Tryd.results31, go_sem, z0, z1, z2]) rfl ⟨⟨r1, r4, rfl, ?_, ?_⟩, ?_⟩
  · unfold spX; rw [h1.eq, hX.eq, hY.eq]
  · unfold spZ; rw [h4.eq, h3.eq, h2.eq, hX.eq, hY.eq, one_cn]
  · repeat (first | exact B5.out | (refine Below.setCell ?_ (by first | (simp; done) | (simp; omega) | omega) _) | (refine below_drewN ?_ _))
/-- A two-by-two minor. -/
def minF (a b c d : Nat) : Nat := fop .sub .f64 (fop .mul .f64 a b) (fop .mul .f64 c d)
set_option maxHeartbeats 1600000 in
theorem minor_any (b : Nat) (i j k l : Nat) (r : Nat → Nat) (w : World) (h : VecD w b 9 r) (hi : i < 9) (hj : j < 9) (hk : k < 9) (hl : l < 9) :
    Calls Tryd.prog 48 #[.int .i64 i, .int .i64 j, .int .i64 k, .int .i64 l, .pointer (some ⟨b, 0, none⟩)] w fun e w' =>
    (∃ v, e = .returned (.float .f64 v) ∧ cn .f64 v = minF (cn .f64 (r i)) (cn .f64 (r j)) (cn .f64 (r k)) (cn .f64 (r l))) ∧ Below w.heap.size w w' := by
  have B := Below.refl w.heap.size w
  have c1 := h.c i hi; have c2 := h.c j hj; have c3 := h.c k hk; have c4 := h.c l hl; have cf := h.f; have cl := h.lt
  have i1 : (i : Int) < 9 := by omega
  have i2 : (j : Int) < 9 := by omega
  have i3 : (k : Int) < 9 := by omega
  have i4 : (l : Int) < 9 := by omega
  go_enter Tryd.func48, Tryd.ntmps48
  go_upto_region 1 with fail
  refine wp_region_loose 15 (fun _ _ _ => False) (by kernel_rfl) (by kernel_rfl) ?_
  simp only [List.take_succ_cons, List.take_zero, List.drop_succ_cons, List.drop_zero]
  iterate 6 (refine loose_wanted rfl (fun K hK => ?_); go_simp; refine hK _ ?_; clear hK K)
  (first | ((with_reducible apply loose_farith); rfl; rfl; rfl; rfl; intro _ _) | ((with_reducible apply loose_up); rfl; rfl; exact Tryd.underlying22; exact Tryd.underlying47; intro _ _))
  iterate 6 (refine loose_wanted rfl (fun K hK => ?_); go_simp; refine hK _ ?_; clear hK K)
  (first | ((with_reducible apply loose_farith); rfl; rfl; rfl; rfl; intro _ _) | ((with_reducible apply loose_up); rfl; rfl; exact Tryd.underlying22; exact Tryd.underlying47; intro _ _))
  (first | ((with_reducible apply loose_farith); rfl; rfl; rfl; rfl; intro _ _) | ((with_reducible apply loose_up); rfl; rfl; exact Tryd.underlying22; exact Tryd.underlying47; intro _ _))
  rename_i v1 h1 v2 h2 v3 h3
  refine loose_nil (fun w5 hb5 => ?_)
  go_wp2_with fail
  go_ret
  exact ⟨⟨v3, rfl, by unfold minF; rw [h3.eq, h2.eq, h1.eq]⟩, B.trans (hb5.mono B.size)⟩
end Go.Proofs.YtfmdnibfeckmaaaDoor
