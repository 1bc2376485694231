/- node.step at the words 'a fill 1 2 3 4'. Conditions: the words can be read; the library's variables read as listed (LibN). -/
import Derived.Test.YtjcakbikpficbaaGreatDoorNgG
namespace Go.Proofs.YtjcakbikpficbaaGreatDoor
open Go Go.RowKit
/-- The step that is being made: its block, its numbers so far. -/
structure StP (w : World) (S B : Nat) (l : List Nat) (u : Value) (X : World) : Prop where
  s1 : w.heap.size ≤ S
  s2 : S < B
  bel : Below w.heap.size w X
  sz : B ≤ X.heap.size
  row : NewRow B X 1 u l.length (l.map (Value.float .f32))
  blk : Blk X S [.string ⟨#[97]⟩, .string ⟨#[102, 105, 108, 108]⟩, .slice none 0 0, .slice none 0 0, u]
theorem StP.past {w X X' : World} {S B : Nat} {l : List Nat} {u : Value} (h : StP w S B l u X) (hb : Below X.heap.size X X') : StP w S B l u X' :=
  ⟨h.s1, h.s2, h.bel.trans (hb.mono h.bel.size), Nat.le_trans h.sz hb.size, h.row.past hb, h.blk.past hb⟩
/-- One number more: behind the append and the store. -/
theorem StP.app {w wa w' : World} {S B : Nat} {l : List Nat} {u u' : Value} {z : Nat} (h : StP w S B l u wa) (r1 : RowV w' 1 u' (l.length + 1) (l.map (Value.float .f32) ++ [.float .f32 z])) (r2 : wa.grownBy w' u.ownBlock) (r3 : u'.ownBlock = u.ownBlock ∨ ∀ b, u'.ownBlock = some b → wa.heap.size ≤ b) :
    StP w S B (l ++ [z]) u' (w'.setCell ⟨S, 4, none⟩ u') := by
  have hub : ∀ b, u'.ownBlock = some b → B ≤ b := fun b e => by
    rcases r3 with r3 | r3
    · exact h.row.2 b (by rw [← r3]; exact e)
    · exact Nat.le_trans h.sz (r3 b e)
  have hT : Tch (fun b => B ≤ b) wa w' := Tch.of_grown r2 (fun b e => h.row.2 b e)
  have hT2 : Tch (fun b => b = S) w' (w'.setCell ⟨S, 4, none⟩ u') := (Tch.refl (fun b => b = S) w').set ⟨S, 4, none⟩ u' rfl
  have hT3 : Tch (fun b => w.heap.size ≤ b) wa (w'.setCell ⟨S, 4, none⟩ u') := (hT.mono (fun k _ hk => Nat.le_trans h.s1 (Nat.le_trans (Nat.le_of_lt h.s2) hk))).trans (hT2.mono (fun k _ hk => by subst hk; exact h.s1))
  refine ⟨h.s1, h.s2, h.bel.trans (hT3.to_below h.bel.size (fun _ hk => hk)), Nat.le_trans h.sz (Nat.le_trans hT.size hT2.size), ?_, ?_⟩
  · rw [List.length_append, List.map_append]
    exact ⟨r1.tch hT2 (fun b e hb => by have := hub b e; have := h.s2; omega), hub⟩
  · have hb := h.blk.tch hT (fun hx => by have := h.s2; omega)
    simpa using hb.set 4 u'
/-- The words. -/
def wdZ : List (List UInt8) := [[97], [102, 105, 108, 108], [49], [50], [51], [52]]
def codes : List Nat := [1065353216, 1073741824, 1077936128, 1082130432]
set_option maxRecDepth 100000 in
set_option maxHeartbeats 12800000 in
theorem step_one (g : Nat) (w : World) (hL : LibN w) (hg : g < w.heap.size) (hc : ∀ i p, wdZ[i]? = some p → w.cell? ⟨g, i, none⟩ = some (.string (bs p))) :
    Calls Tryz.prog 92 #[.slice (some ⟨g, 0, none⟩) 6 6] w fun e w' => ∃ ar cr, e = .returned (.tuple #[.agg #[.string ⟨#[97]⟩, .string ⟨#[102, 105, 108, 108]⟩, .slice none 0 0, .slice none 0 0, .slice ar 4 cr], .bool true]) ∧ RealsAt w.heap.size w' ar codes ∧ Below w.heap.size w w' := by
  have c0 : w.cell? ⟨g, 0, none⟩ = some (.string ⟨#[97]⟩) := hc 0 _ rfl
  have c1 : w.cell? ⟨g, 1, none⟩ = some (.string ⟨#[102, 105, 108, 108]⟩) := hc 1 _ rfl
  have HH := Lib.hid (And.intro hL (And.intro hg hc))
  clear hL hc
  go_enter Tryz.func92, Tryz.ntmps92
  go_upto_region 1 with fail
  refine wp_world (fun W hW => ?_)
  have HW : Hid (Below w.heap.size w W ∧ Blk W w.heap.size [.string ⟨#[]⟩, .string ⟨#[]⟩, .slice none 0 0, .slice none 0 0, .slice none 0 0]) := Lib.hid (by rw [hW]; exact ⟨by (repeat (first | exact Below.refl _ _ | assumption | (refine Below.setCell ?_ (by first | (simp; done) | (simp; omega) | omega) _) | (refine Below.drew ?_) | (refine below_drewN ?_ _) | (refine Below.alloc ?_ (by first | (simp; done) | (simp; omega) | omega) _) | (refine Below.trans ?_ (Below.mono (by assumption) (by first | (simp; done) | (simp; omega) | omega))))), Blk.new _ _ _ _ rfl⟩)
  have d0 := (HW.out.1.cell (p := ⟨g, 0, none⟩) hg).trans c0
  have d1 := (HW.out.1.cell (p := ⟨g, 1, none⟩) hg).trans c1
  have hgW : g < W.heap.size := Nat.lt_of_lt_of_le hg HW.out.1.size
  clear hW c0 c1
  refine wp_region_loose 7 (fun _ _ _ => False) (by kernel_rfl) (by kernel_rfl) ?_
  simp only [List.take_succ_cons, List.take_zero, List.drop_succ_cons, List.drop_zero]
  iterate 7 (refine loose_wanted rfl (fun K hK => ?_); go_simp; refine hK _ ?_; clear hK K)
  refine loose_nil (fun X hX => ?_)
  have hB0 := HW.out.2.past hX
  have HX := Lib.hid (And.intro (HW.out.1.trans (hX.mono HW.out.1.size)) hB0)
  have z0 := hB0.c 0 _ rfl; have z1 := hB0.c 1 _ rfl; have z2 := hB0.c 2 _ rfl; have z3 := hB0.c 3 _ rfl; have z4 := hB0.c 4 _ rfl; have zl := hB0.lt; have zf := hB0.f
  clear hB0 hX d0 d1 hgW
  go_upto_region 2 with fail
  refine wp_world (fun Y hY => ?_)
  have hTY : Tch (fun b => b = w.heap.size) X Y := by rw [hY]; exact (((((Tch.refl (fun b => b = w.heap.size) X).set ⟨w.heap.size, 0, none⟩ _ rfl).set ⟨w.heap.size, 1, none⟩ _ rfl).set ⟨w.heap.size, 2, none⟩ _ rfl).set ⟨w.heap.size, 3, none⟩ _ rfl).set ⟨w.heap.size, 4, none⟩ _ rfl
  have HY : Hid (StP w w.heap.size Y.heap.size [] (.slice none 0 0) Y) := Lib.hid (by
    have hb : Blk Y w.heap.size [.string ⟨#[97]⟩, .string ⟨#[102, 105, 108, 108]⟩, .slice none 0 0, .slice none 0 0, .slice none 0 0] := by
      rw [hY]; simpa using ((((HX.out.2.set 0 (.string ⟨#[97]⟩)).set 1 (.string ⟨#[102, 105, 108, 108]⟩)).set 2 (.slice none 0 0)).set 3 (.slice none 0 0)).set 4 (.slice none 0 0)
    exact ⟨Nat.le_refl _, hb.lt, below_own HX.out.1 hTY (Nat.le_refl _), Nat.le_refl _, NewRow.nil _ _ _, hb⟩)
  clear hY hTY z0 z1 z2 z3 z4 zl zf HX HW
  obtain ⟨B, hB⟩ : ∃ B, B = Y.heap.size := ⟨_, rfl⟩
  rw [← hB] at HY
  obtain ⟨S, hS⟩ : ∃ S, S = w.heap.size := ⟨_, rfl⟩
  rw [← hS] at HY ⊢
  have HG : Hid (∀ X, Below w.heap.size w X → g < X.heap.size ∧ ∀ i p, wdZ[i]? = some p → X.cell? ⟨g, i, none⟩ = some (.string (bs p))) := Lib.hid (fun X hX => ⟨Nat.lt_of_lt_of_le HH.out.2.1 hX.size, fun i p hp => (hX.cell (p := ⟨g, i, none⟩) HH.out.2.1).trans (HH.out.2.2 i p hp)⟩)
  have d1 : Y.cell? ⟨g, 1, none⟩ = some (.string ⟨#[102, 105, 108, 108]⟩) := (HG.out _ HY.out.bel).2 1 _ rfl
  have hgY := (HG.out _ HY.out.bel).1
  clear hS hB hg
  go_upto_region 3 with (go_at_call 9; refine (op_fill _).mono ?_; rintro e v1 ⟨fa, fc, rfl, hb1⟩; replace HY := Lib.hid (HY.out.past hb1); clear hb1 d1 hgY)
  refine wp_world (fun Z hZ => ?_)
  have HZ : Hid (StP w S B [] (.slice none 0 0) Z ∧ Blk Z v1.heap.size [.string ⟨#[102, 105, 108, 108]⟩, .slice fa 0 fc, .int .i64 1, .int .i64 0, .int .i64 4, .bool false]) := Lib.hid (by rw [hZ]; exact ⟨HY.out.past ((Below.refl _ _).alloc (Nat.le_refl _) _), Blk.new _ _ _ _ rfl⟩)
  clear hZ HY
  obtain ⟨fb, hfb⟩ : ∃ fb, fb = v1.heap.size := ⟨_, rfl⟩
  rw [← hfb] at HZ ⊢
  clear hfb
  have f1 := HZ.out.2.c 1 _ rfl; have f3 := HZ.out.2.c 3 _ rfl; have f4 := HZ.out.2.c 4 _ rfl; have fl := HZ.out.2.lt
  have s2 := HZ.out.1.blk.c 2 _ rfl; have sl := HZ.out.1.blk.lt
  have hgZ := (HG.out _ HZ.out.1.bel).1
  go_upto_region 8 with fail
  refine wp_region_loose 8 (fun _ _ _ => False) (by kernel_rfl) (by kernel_rfl) ?_
  simp only [List.take_succ_cons, List.take_zero, List.drop_succ_cons, List.drop_zero]
  iterate 8 (refine loose_wanted rfl (fun K hK => ?_); go_simp; refine hK _ ?_; clear hK K)
  refine loose_nil (fun X hX => ?_)
  have HX : Hid (StP w S B [] (.slice none 0 0) X ∧ Blk X fb [.string ⟨#[102, 105, 108, 108]⟩, .slice fa 0 fc, .int .i64 1, .int .i64 0, .int .i64 4, .bool false]) := Lib.hid ⟨HZ.out.1.past hX, HZ.out.2.past hX⟩
  clear f1 f3 f4 fl s2 sl hgZ hX
  have s2 := HX.out.1.blk.c 2 _ rfl; have sl := HX.out.1.blk.lt; have sf := HX.out.1.blk.f
  go_upto_region 9 with fail
  refine wp_world (fun U hU => ?_)
  have hTU : Tch (fun b => b = S) X U := by rw [hU]; exact (Tch.refl (fun b => b = S) X).set ⟨S, 2, none⟩ _ rfl
  have HU : Hid (StP w S B [] (.slice none 0 0) U ∧ Blk U fb [.string ⟨#[102, 105, 108, 108]⟩, .slice fa 0 fc, .int .i64 1, .int .i64 0, .int .i64 4, .bool false]) := Lib.hid (by
    have h := HX.out.1
    have hne : fb ≠ S := fun e => by
      have h1 := HX.out.2.c 1 _ rfl
      have h2 := h.blk.c 1 _ rfl
      rw [e, h2] at h1
      cases h1
    have hbl : Blk U S [.string ⟨#[97]⟩, .string ⟨#[102, 105, 108, 108]⟩, .slice none 0 0, .slice none 0 0, .slice none 0 0] := by rw [hU]; simpa using h.blk.set 2 (.slice none 0 0)
    have hbel : Below w.heap.size w U := ((Tch.of_below (S := fun _ => False) h.bel).then hTU (fun i hi e => by subst e; have := h.s1; omega)).to_below (Nat.le_refl _) (fun _ hk => hk.elim)
    exact ⟨⟨h.s1, h.s2, hbel, Nat.le_trans h.sz hTU.size, NewRow.nil _ _ _, hbl⟩, HX.out.2.tch hTU hne⟩)
  clear hU hTU HX HZ s2 sl sf
  have f1 := HU.out.2.c 1 _ rfl; have f3 := HU.out.2.c 3 _ rfl; have fl := HU.out.2.lt
  go_wp2_with fail
  refine wp_loop_rounds 1 ?_
  rw [rounds_succ]
  go_wp2_with fail
  refine wp_loop_rounds 5 ?_
  clear f1 f3 fl
  replace HU := Lib.hid HU.out.1
  obtain ⟨i0, hi0, hz0, hz1, hz2⟩ := info_parts infoF32N
  rw [rounds_succ]
  have e1 : U.cell? ⟨g, 2, none⟩ = some (.string ⟨#[49]⟩) := (HG.out _ HU.out.bel).2 2 _ rfl
  have hgU := (HG.out _ HU.out.bel).1
  go_upto_region 23 with (go_at_call 139; refine (nparse_49 _ (HH.out.1.past HU.out.bel)).mono ?_; rintro e v1 ⟨rfl, hb1⟩; replace HU := Lib.hid (HU.out.past hb1); clear hb1 e1 hgU)
  have s4 := HU.out.blk.c 4 _ rfl; have sl := HU.out.blk.lt
  go_upto_region 24 with (at_builtin; refine wpList_append_row (v := .slice none 0 0) _ rfl _ _ 49 rfl Tryz.underlying49 hi0 hz0 hz1 hz2 rfl (by decide) rfl (HU.out.row.1.past ((Below.refl _ _).alloc (Nat.le_refl _) _)) ⟨v1.heap.size, 0, none⟩ 1 [.float .f32 1065353216] rfl rfl (by intro j u hj; match j, hj with | 0, hj => (simp at hj; subst hj; simp [Addr.add])) (by intro u hu; simp at hu; subst hu; rfl) (by decide) (by decide) ?_; intro a1 k1 w6 hR6 hG6 ho6; have hb6 := ((HU.out.past ((Below.refl _ _).alloc (Nat.le_refl _) (.cells #[.float .f32 1065353216] 54))).blk).tch (Tch.of_grown (S := fun b => Value.ownBlock (.slice none 0 0) = some b) hG6 (fun b hb => hb)) (fun e => by (have h1 := HU.out.row.2 S e; have h2 := HU.out.s2; omega)); have t4 := hb6.c 4 _ rfl; have tl := hb6.lt; have tf := hb6.f; have HQ := Lib.hid (StP.app (HU.out.past ((Below.refl _ _).alloc (Nat.le_refl _) (.cells #[.float .f32 1065353216] 54))) hR6 hG6 ho6); clear hb6 hR6 hG6 ho6)
  refine wp_world (fun U1 hNU => ?_)
  replace HU : Hid (StP w S B [1065353216] (.slice a1 1 k1) U1) := Lib.hid (by rw [hNU]; exact HQ.out)
  clear hNU HQ t4 tl tf s4 sl
  go_wp2_with fail
  rw [rounds_succ]
  have e1 : U1.cell? ⟨g, 3, none⟩ = some (.string ⟨#[50]⟩) := (HG.out _ HU.out.bel).2 3 _ rfl
  have hgU := (HG.out _ HU.out.bel).1
  go_upto_region 23 with (go_at_call 139; refine (nparse_50 _ (HH.out.1.past HU.out.bel)).mono ?_; rintro e v1 ⟨rfl, hb1⟩; replace HU := Lib.hid (HU.out.past hb1); clear hb1 e1 hgU)
  have s4 := HU.out.blk.c 4 _ rfl; have sl := HU.out.blk.lt
  go_upto_region 24 with (at_builtin; refine wpList_append_row (v := .slice a1 1 k1) _ rfl _ _ 49 rfl Tryz.underlying49 hi0 hz0 hz1 hz2 rfl (by decide) rfl (HU.out.row.1.past ((Below.refl _ _).alloc (Nat.le_refl _) _)) ⟨v1.heap.size, 0, none⟩ 1 [.float .f32 1073741824] rfl rfl (by intro j u hj; match j, hj with | 0, hj => (simp at hj; subst hj; simp [Addr.add])) (by intro u hu; simp at hu; subst hu; rfl) (by decide) (by decide) ?_; intro a2 k2 w6 hR6 hG6 ho6; have hb6 := ((HU.out.past ((Below.refl _ _).alloc (Nat.le_refl _) (.cells #[.float .f32 1073741824] 54))).blk).tch (Tch.of_grown (S := fun b => Value.ownBlock (.slice a1 1 k1) = some b) hG6 (fun b hb => hb)) (fun e => by (have h1 := HU.out.row.2 S e; have h2 := HU.out.s2; omega)); have t4 := hb6.c 4 _ rfl; have tl := hb6.lt; have tf := hb6.f; have HQ := Lib.hid (StP.app (HU.out.past ((Below.refl _ _).alloc (Nat.le_refl _) (.cells #[.float .f32 1073741824] 54))) hR6 hG6 ho6); clear hb6 hR6 hG6 ho6)
  refine wp_world (fun U2 hNU => ?_)
  replace HU : Hid (StP w S B [1065353216, 1073741824] (.slice a2 2 k2) U2) := Lib.hid (by rw [hNU]; exact HQ.out)
  clear hNU HQ t4 tl tf s4 sl
  go_wp2_with fail
  rw [rounds_succ]
  have e1 : U2.cell? ⟨g, 4, none⟩ = some (.string ⟨#[51]⟩) := (HG.out _ HU.out.bel).2 4 _ rfl
  have hgU := (HG.out _ HU.out.bel).1
  go_upto_region 23 with (go_at_call 139; refine (nparse_51 _ (HH.out.1.past HU.out.bel)).mono ?_; rintro e v1 ⟨rfl, hb1⟩; replace HU := Lib.hid (HU.out.past hb1); clear hb1 e1 hgU)
  have s4 := HU.out.blk.c 4 _ rfl; have sl := HU.out.blk.lt
  go_upto_region 24 with (at_builtin; refine wpList_append_row (v := .slice a2 2 k2) _ rfl _ _ 49 rfl Tryz.underlying49 hi0 hz0 hz1 hz2 rfl (by decide) rfl (HU.out.row.1.past ((Below.refl _ _).alloc (Nat.le_refl _) _)) ⟨v1.heap.size, 0, none⟩ 1 [.float .f32 1077936128] rfl rfl (by intro j u hj; match j, hj with | 0, hj => (simp at hj; subst hj; simp [Addr.add])) (by intro u hu; simp at hu; subst hu; rfl) (by decide) (by decide) ?_; intro a3 k3 w6 hR6 hG6 ho6; have hb6 := ((HU.out.past ((Below.refl _ _).alloc (Nat.le_refl _) (.cells #[.float .f32 1077936128] 54))).blk).tch (Tch.of_grown (S := fun b => Value.ownBlock (.slice a2 2 k2) = some b) hG6 (fun b hb => hb)) (fun e => by (have h1 := HU.out.row.2 S e; have h2 := HU.out.s2; omega)); have t4 := hb6.c 4 _ rfl; have tl := hb6.lt; have tf := hb6.f; have HQ := Lib.hid (StP.app (HU.out.past ((Below.refl _ _).alloc (Nat.le_refl _) (.cells #[.float .f32 1077936128] 54))) hR6 hG6 ho6); clear hb6 hR6 hG6 ho6)
  refine wp_world (fun U3 hNU => ?_)
  replace HU : Hid (StP w S B [1065353216, 1073741824, 1077936128] (.slice a3 3 k3) U3) := Lib.hid (by rw [hNU]; exact HQ.out)
  clear hNU HQ t4 tl tf s4 sl
  go_wp2_with fail
  rw [rounds_succ]
  have e1 : U3.cell? ⟨g, 5, none⟩ = some (.string ⟨#[52]⟩) := (HG.out _ HU.out.bel).2 5 _ rfl
  have hgU := (HG.out _ HU.out.bel).1
  go_upto_region 23 with (go_at_call 139; refine (nparse_52 _ (HH.out.1.past HU.out.bel)).mono ?_; rintro e v1 ⟨rfl, hb1⟩; replace HU := Lib.hid (HU.out.past hb1); clear hb1 e1 hgU)
  have s4 := HU.out.blk.c 4 _ rfl; have sl := HU.out.blk.lt
  go_upto_region 24 with (at_builtin; refine wpList_append_row (v := .slice a3 3 k3) _ rfl _ _ 49 rfl Tryz.underlying49 hi0 hz0 hz1 hz2 rfl (by decide) rfl (HU.out.row.1.past ((Below.refl _ _).alloc (Nat.le_refl _) _)) ⟨v1.heap.size, 0, none⟩ 1 [.float .f32 1082130432] rfl rfl (by intro j u hj; match j, hj with | 0, hj => (simp at hj; subst hj; simp [Addr.add])) (by intro u hu; simp at hu; subst hu; rfl) (by decide) (by decide) ?_; intro a4 k4 w6 hR6 hG6 ho6; have hb6 := ((HU.out.past ((Below.refl _ _).alloc (Nat.le_refl _) (.cells #[.float .f32 1082130432] 54))).blk).tch (Tch.of_grown (S := fun b => Value.ownBlock (.slice a3 3 k3) = some b) hG6 (fun b hb => hb)) (fun e => by (have h1 := HU.out.row.2 S e; have h2 := HU.out.s2; omega)); have t4 := hb6.c 4 _ rfl; have tl := hb6.lt; have tf := hb6.f; have HQ := Lib.hid (StP.app (HU.out.past ((Below.refl _ _).alloc (Nat.le_refl _) (.cells #[.float .f32 1082130432] 54))) hR6 hG6 ho6); clear hb6 hR6 hG6 ho6)
  refine wp_world (fun U4 hNU => ?_)
  replace HU : Hid (StP w S B [1065353216, 1073741824, 1077936128, 1082130432] (.slice a4 4 k4) U4) := Lib.hid (by rw [hNU]; exact HQ.out)
  clear hNU HQ t4 tl tf s4 sl
  go_wp2_with fail
  rw [rounds_succ]
  have s0 := HU.out.blk.c 0 _ rfl; have s1 := HU.out.blk.c 1 _ rfl; have s2 := HU.out.blk.c 2 _ rfl; have s3 := HU.out.blk.c 3 _ rfl; have s4 := HU.out.blk.c 4 _ rfl; have sl := HU.out.blk.lt; have sf := HU.out.blk.f
  go_wp2_with fail
  refine bodyPost_retN (v := .tuple #[.agg #[.string ⟨#[97]⟩, .string ⟨#[102, 105, 108, 108]⟩, .slice none 0 0, .slice none 0 0, .slice a4 4 k4], .bool true]) (by simp [results, Tryz.results92, go_sem, s0, s1, s2, s3, s4]) rfl (fun WF hWF => ⟨a4, k4, rfl, ?_⟩)
  have hT : Tch (fun b => b = S) U4 WF := by rw [hWF]; exact (((((Tch.refl (fun b => b = S) U4).set ⟨S, 0, none⟩ _ rfl).set ⟨S, 1, none⟩ _ rfl).set ⟨S, 2, none⟩ _ rfl).set ⟨S, 3, none⟩ _ rfl).set ⟨S, 4, none⟩ _ rfl
  have h := HU.out
  refine ⟨(h.row.reals.tch hT (fun b hb => by subst hb; exact h.s2)).mono (Nat.le_trans h.s1 (Nat.le_of_lt h.s2)), ?_⟩
  exact ((Tch.of_below (S := fun _ => False) h.bel).then hT (fun i hi e => by subst e; have := h.s1; omega)).to_below (Nat.le_refl _) (fun _ hk => hk.elim)
end Go.Proofs.YtjcakbikpficbaaGreatDoor
