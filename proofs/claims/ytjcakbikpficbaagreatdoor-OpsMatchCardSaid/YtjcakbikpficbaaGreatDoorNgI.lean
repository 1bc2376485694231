/- node.Parse at the text 'a fill 1 2 3 4, out a'. Conditions: the library's variables read as listed (LibN). -/
import Derived.Test.YtjcakbikpficbaaGreatDoorNgH
import Derived.Test.YtjcakbikpficbaaGreatDoorNfR
namespace Go.Proofs.YtjcakbikpficbaaGreatDoor
open Go Go.RowKit
def tx0 : List UInt8 := [97, 32, 102, 105, 108, 108, 32, 49, 32, 50, 32, 51, 32, 52, 10, 111, 117, 116, 32, 97, 10]
theorem cut_1 (w : World) (h : LibW w) : Calls Tryz.prog 91 #[.string ⟨#[97, 32, 102, 105, 108, 108, 32, 49, 32, 50, 32, 51, 32, 52, 10, 111, 117, 116, 32, 97, 10]⟩, .string ⟨#[10]⟩] w fun e w' => e = .returned (.tuple #[.string ⟨#[97, 32, 102, 105, 108, 108, 32, 49, 32, 50, 32, 51, 32, 52]⟩, .string ⟨#[111, 117, 116, 32, 97, 10]⟩, .bool true]) ∧ Below w.heap.size w w' := by
  refine (Cut_any ⟨#[97, 32, 102, 105, 108, 108, 32, 49, 32, 50, 32, 51, 32, 52, 10, 111, 117, 116, 32, 97, 10]⟩ ⟨#[10]⟩ w h (by decide)).mono ?_
  rintro e w' ⟨rfl, hb⟩
  rw [show Lib.cut (⟨#[97, 32, 102, 105, 108, 108, 32, 49, 32, 50, 32, 51, 32, 52, 10, 111, 117, 116, 32, 97, 10]⟩ : ByteArray).data.toList (⟨#[10]⟩ : ByteArray).data.toList = ([97, 32, 102, 105, 108, 108, 32, 49, 32, 50, 32, 51, 32, 52], [111, 117, 116, 32, 97, 10], true) from by decide +kernel]
  exact ⟨rfl, hb⟩
theorem cut_2 (w : World) (h : LibW w) : Calls Tryz.prog 91 #[.string ⟨#[111, 117, 116, 32, 97, 10]⟩, .string ⟨#[10]⟩] w fun e w' => e = .returned (.tuple #[.string ⟨#[111, 117, 116, 32, 97]⟩, .string ⟨#[]⟩, .bool true]) ∧ Below w.heap.size w w' := by
  refine (Cut_any ⟨#[111, 117, 116, 32, 97, 10]⟩ ⟨#[10]⟩ w h (by decide)).mono ?_
  rintro e w' ⟨rfl, hb⟩
  rw [show Lib.cut (⟨#[111, 117, 116, 32, 97, 10]⟩ : ByteArray).data.toList (⟨#[10]⟩ : ByteArray).data.toList = ([111, 117, 116, 32, 97], [], true) from by decide +kernel]
  exact ⟨rfl, hb⟩
theorem split_1 (w : World) (h : LibW w) : Calls Tryz.prog 50 #[.string ⟨#[97, 32, 102, 105, 108, 108, 32, 49, 32, 50, 32, 51, 32, 52]⟩, .string ⟨#[32]⟩] w fun e w' =>
    ∃ g, e = .returned (.slice (some ⟨g, 0, none⟩) 6 6) ∧ g < w'.heap.size ∧ (∀ i p, wdZ[i]? = some p → w'.cell? ⟨g, i, none⟩ = some (.string (bs p))) ∧ Below w.heap.size w w' := by
  have h1 := SplitW ⟨#[97, 32, 102, 105, 108, 108, 32, 49, 32, 50, 32, 51, 32, 52]⟩ w h (by decide)
  rw [show spP (⟨#[97, 32, 102, 105, 108, 108, 32, 49, 32, 50, 32, 51, 32, 52]⟩ : ByteArray).data.toList = wdZ from by decide +kernel] at h1
  exact h1
theorem split_2 (w : World) (h : LibW w) : Calls Tryz.prog 50 #[.string ⟨#[111, 117, 116, 32, 97]⟩, .string ⟨#[32]⟩] w fun e w' =>
    ∃ g, e = .returned (.slice (some ⟨g, 0, none⟩) 2 2) ∧ g < w'.heap.size ∧ (∀ i p, [[111, 117, 116], [97]][i]? = some p → w'.cell? ⟨g, i, none⟩ = some (.string (bs p))) ∧ Below w.heap.size w w' := by
  have h1 := SplitW ⟨#[111, 117, 116, 32, 97]⟩ w h (by decide)
  rw [show spP (⟨#[111, 117, 116, 32, 97]⟩ : ByteArray).data.toList = [[111, 117, 116], [97]] from by decide +kernel] at h1
  exact h1
theorem OneAt.tch {S : Nat → Prop} {w w' : World} {b off : Nat} {ar : Option Addr} {cr : Nat} (h : OneAt w b off ar cr) (t : Tch S w w') (hb : ¬ S b) : OneAt w' b off ar cr := by
  obtain ⟨h0, h1, h2, h3, h4⟩ := h
  have hl := cell_lt h0
  simp only at hl
  have g : ∀ j, w'.cell? ⟨b, j, none⟩ = w.cell? ⟨b, j, none⟩ := fun j => World.cell?_of_block (a := ⟨b, j, none⟩) (t.block b hl hb)
  exact ⟨by rw [g]; exact h0, by rw [g]; exact h1, by rw [g]; exact h2, by rw [g]; exact h3, by rw [g]; exact h4⟩
theorem five_new (w : World) (ty : TypeId) (v0 v1 v2 v3 v4 : Value) : ∀ j u, [v0, v1, v2, v3, v4][j]? = some u → (w.alloc (.cells #[v0, v1, v2, v3, v4] ty)).cell? ((⟨w.heap.size, 0, none⟩ : Addr).add j) = some u := fun j u hj => by
  rw [Addr.add_lit, Nat.zero_add, World.cell?_alloc_new]
  simpa using hj
theorem five_one (s t : ByteArray) (a b c : Option Addr) (n m k d e f : Nat) : ∀ u ∈ [Value.string s, .string t, .slice a n d, .slice b m e, .slice c k f], u.oneCell' = true := fun u hu => by
  simp only [List.mem_cons, List.not_mem_nil, or_false] at hu
  rcases hu with rfl | rfl | rfl | rfl | rfl <;> rfl
theorem infoStep : (Tryz.prog.info? 107).map (fun i => (i.zero, i.size, i.bytes)) = some (some (.agg #[.string ⟨#[]⟩, .string ⟨#[]⟩, .slice none 0 0, .slice none 0 0, .slice none 0 0]), 5, 104) := by kernel_rfl
set_option maxRecDepth 100000 in
set_option maxHeartbeats 12800000 in
theorem parse_one (w : World) (hL : LibN w) : Calls Tryz.prog 56 #[.string ⟨#[97, 32, 102, 105, 108, 108, 32, 49, 32, 50, 32, 51, 32, 52, 10, 111, 117, 116, 32, 97, 10]⟩] w fun e w' => ∃ b off c br ro cr, e = .returned (.tuple #[.agg #[.slice (some ⟨b, off, none⟩) 1 c, .string ⟨#[97]⟩], .int .i64 0, .int .i64 0]) ∧ OneAt w' b off (some ⟨br, ro, none⟩) cr ∧ RealsAt 0 w' (some ⟨br, ro, none⟩) codes ∧ Below w.heap.size w w' := by
  have HL := Lib.hid hL
  clear hL
  go_enter Tryz.func56, Tryz.ntmps56
  go_wp2_with fail
  refine wp_world (fun W hW => ?_)
  have HW : Hid (Below w.heap.size w W ∧ Blk W w.heap.size [.slice none 0 0, .string ⟨#[]⟩] ∧ Blk W (w.heap.size + 1) [.slice none 0 0, .string ⟨#[]⟩]) := Lib.hid (by rw [hW]; exact ⟨by (repeat (first | exact Below.refl _ _ | assumption | (refine Below.setCell ?_ (by first | (simp; done) | (simp; omega) | omega) _) | (refine Below.drew ?_) | (refine below_drewN ?_ _) | (refine Below.alloc ?_ (by first | (simp; done) | (simp; omega) | omega) _) | (refine Below.trans ?_ (Below.mono (by assumption) (by first | (simp; done) | (simp; omega) | omega))))), (Blk.new _ _ _ _ rfl).alloc _, Blk.new _ _ _ _ (by simp)⟩)
  clear hW
  refine wp_loop_rounds 3 ?_
  rw [rounds_succ]
  go_wp2_with (first | (go_at_call 91; refine (cut_1 _ (HL.out.past HW.out.1).l).mono ?_; rintro e v1 ⟨rfl, hb1⟩; have HV1 := Lib.hid (HW.out.1.trans (hb1.mono HW.out.1.size)); have HVB := Lib.hid hb1; clear hb1) | (go_at_call 50; refine (split_1 _ (HL.out.past HV1.out).l).mono ?_; rintro e v2 ⟨g, rfl, hg, hc, hb2⟩))
  have HG := Lib.hid (And.intro hg (And.intro hc (HVB.out.trans (hb2.mono HVB.out.size))))
  have d0 : v2.cell? ⟨g, 0, none⟩ = some (.string ⟨#[97]⟩) := hc 0 _ rfl
  have d1 : v2.cell? ⟨g, 1, none⟩ = some (.string ⟨#[102, 105, 108, 108]⟩) := hc 1 _ rfl
  have d2 : v2.cell? ⟨g, 2, none⟩ = some (.string ⟨#[49]⟩) := hc 2 _ rfl
  have d3 : v2.cell? ⟨g, 3, none⟩ = some (.string ⟨#[50]⟩) := hc 3 _ rfl
  have d4 : v2.cell? ⟨g, 4, none⟩ = some (.string ⟨#[51]⟩) := hc 4 _ rfl
  have d5 : v2.cell? ⟨g, 5, none⟩ = some (.string ⟨#[52]⟩) := hc 5 _ rfl
  clear hc hb2 HVB HV1
  refine wp_loop_rounds 7 ?_
  iterate 6 (rw [rounds_succ]; go_wp2_with fail)
  rw [rounds_succ]
  go_upto_region 21 with fail
  refine wp_world (fun X hX => ?_)
  have hbX : Below v2.heap.size v2 X := by rw [hX]; (repeat (first | exact Below.refl _ _ | assumption | (refine Below.setCell ?_ (by first | (simp; done) | (simp; omega) | omega) _) | (refine Below.drew ?_) | (refine below_drewN ?_ _) | (refine Below.alloc ?_ (by first | (simp; done) | (simp; omega) | omega) _) | (refine Below.trans ?_ (Below.mono (by assumption) (by first | (simp; done) | (simp; omega) | omega)))))
  have HX : Hid (Below W.heap.size W X ∧ Blk X v2.heap.size [.string ⟨#[]⟩, .string ⟨#[]⟩, .slice none 0 0, .slice none 0 0, .slice none 0 0]) := Lib.hid ⟨HG.out.2.2.trans (hbX.mono HG.out.2.2.size), by rw [hX]; exact Blk.new _ _ _ _ rfl⟩
  have HS := Lib.hid (step_one g X (HL.out.past (HW.out.1.trans (HX.out.1.mono HW.out.1.size))) (Nat.lt_of_lt_of_le hg hbX.size) (fun i p hp => (hbX.cell (p := ⟨g, i, none⟩) hg).trans (HG.out.2.1 i p hp)))
  obtain ⟨sb, hsb⟩ : ∃ sb, sb = v2.heap.size := ⟨_, rfl⟩
  have HSB : Hid (W.heap.size ≤ sb) := Lib.hid (by rw [hsb]; exact HG.out.2.2.size)
  rw [← hsb] at HX ⊢
  clear hX hbX d0 d1 d2 d3 d4 d5 hg HG hsb
  go_upto_region 22 with (go_at_call 92; refine HS.out.mono ?_; rintro e v3 ⟨ar, cr, rfl, hR, hb3⟩; have hz := HX.out.2.past hb3; have z0 := hz.c 0 _ rfl; have z1 := hz.c 1 _ rfl; have z2 := hz.c 2 _ rfl; have z3 := hz.c 3 _ rfl; have z4 := hz.c 4 _ rfl; have zl := hz.lt; have zf := hz.f)
  refine wp_world (fun Y hY => ?_)
  have hT : Tch (fun b => b = sb) v3 Y := by rw [hY]; exact (((((Tch.refl (fun b => b = sb) v3).set ⟨sb, 0, none⟩ _ rfl).set ⟨sb, 1, none⟩ _ rfl).set ⟨sb, 2, none⟩ _ rfl).set ⟨sb, 3, none⟩ _ rfl).set ⟨sb, 4, none⟩ _ rfl
  have HY : Hid (Blk Y sb [.string ⟨#[97]⟩, .string ⟨#[102, 105, 108, 108]⟩, .slice none 0 0, .slice none 0 0, .slice ar 4 cr] ∧ RealsAt W.heap.size Y ar codes ∧ Below W.heap.size W Y) := Lib.hid (by
    refine ⟨by rw [hY]; simpa using ((((hz.set 0 (.string ⟨#[97]⟩)).set 1 (.string ⟨#[102, 105, 108, 108]⟩)).set 2 (.slice none 0 0)).set 3 (.slice none 0 0)).set 4 (.slice ar 4 cr), ?_, ?_⟩
    · exact (hR.tch hT (fun b hb => by subst hb; exact HX.out.2.lt)).mono HX.out.1.size
    · exact ((Tch.of_below (S := fun _ => False) (HX.out.1.trans (hb3.mono HX.out.1.size))).then hT (fun i hi e => by subst e; have := HSB.out; omega)).to_below (Nat.le_refl _) (fun _ hk => hk.elim))
  clear hY hT hR hb3 hz z0 z1 z2 z3 z4 zl zf HX HS
  have HPW := Lib.hid (And.intro (HW.out.2.1.past HY.out.2.2) (HW.out.2.2.past HY.out.2.2))
  have p0 := HPW.out.2.c 0 _ rfl; have pl := HPW.out.2.lt
  have y0 := HY.out.1.c 0 _ rfl; have y1 := HY.out.1.c 1 _ rfl; have y2 := HY.out.1.c 2 _ rfl; have y3 := HY.out.1.c 3 _ rfl; have y4 := HY.out.1.c 4 _ rfl; have yl := HY.out.1.lt
  obtain ⟨i0, hi0, hz0, hz1, hz2⟩ := info_parts infoStep
  go_upto_region 23 with (at_builtin; refine wpList_append_row (v := .slice none 0 0) _ rfl _ _ 38 rfl Tryz.underlying38 hi0 hz0 hz1 hz2 rfl (by decide) rfl (RowV.nil _ 5) ⟨Y.heap.size, 0, none⟩ 1 [.string ⟨#[97]⟩, .string ⟨#[102, 105, 108, 108]⟩, .slice none 0 0, .slice none 0 0, .slice ar 4 cr] rfl rfl (five_new _ _ _ _ _ _ _) (five_one _ _ _ _ _ _ _ _ _ _ _) (by decide) (by decide) ?_; intro ao5 cap5 w6 hR6 hG6 ho6; have hB6 : Below Y.heap.size Y w6 := Below.grown ((Below.refl _ Y).alloc (Nat.le_refl _) _) hG6 (by simp) (fun j hj => by simp [Value.ownBlock] at hj); have hp6 := HPW.out.2.past hB6; have g0 := hp6.c 0 _ rfl; have gl := hp6.lt; have gf := hp6.f)
  refine wp_world (fun U hU => ?_)
  have hT : Tch (fun b => b = w.heap.size + 1) w6 U := by rw [hU]; exact (Tch.refl (fun b => b = w.heap.size + 1) w6).set ⟨w.heap.size + 1, 0, none⟩ _ rfl
  have HU : Hid (Blk U (w.heap.size + 1) [.slice ao5 1 cap5, .string ⟨#[]⟩] ∧ Blk U w.heap.size [.slice none 0 0, .string ⟨#[]⟩] ∧ (RowV U 5 (.slice ao5 1 cap5) 1 [.string ⟨#[97]⟩, .string ⟨#[102, 105, 108, 108]⟩, .slice none 0 0, .slice none 0 0, .slice ar 4 cr] ∧ ∀ b, (Value.slice ao5 1 cap5).ownBlock = some b → W.heap.size ≤ b) ∧ RealsAt W.heap.size U ar codes ∧ Below w.heap.size w U) := Lib.hid (by
    have hw1 := HW.out.2.2.lt
    have hown : ∀ b, (Value.slice ao5 1 cap5).ownBlock = some b → W.heap.size ≤ b := fun b e => by
      rcases ho6 with h | h
      · rw [show (Value.slice ao5 1 cap5).ownBlock = (Value.slice ao5 (0 + 1) cap5).ownBlock from rfl] at e
        rw [h] at e; simp [Value.ownBlock] at e
      · have h1 := h b e
        have h2 := HY.out.2.2.size
        simp at h1
        omega
    refine ⟨by rw [hU]; simpa using hp6.set 0 (.slice ao5 1 cap5), (HPW.out.1.past hB6).tch hT (fun e => by omega), ⟨RowV.tch hR6 hT (fun b e hb => by have := hown b e; omega), hown⟩, (HY.out.2.1.past hB6).tch hT (fun b hb => by omega), ?_⟩
    have hbw : Below w.heap.size w w6 := HW.out.1.trans ((HY.out.2.2.trans (hB6.mono HY.out.2.2.size)).mono HW.out.1.size)
    exact below_own hbw hT (by omega))
  clear hU hT hR6 hG6 ho6 hB6 hp6 g0 gl gf p0 pl y0 y1 y2 y3 y4 yl HY HPW hi0 hz0 hz1 hz2
  go_wp2_with fail
  rw [rounds_succ]
  go_wp2_with (first | (go_at_call 91; refine (cut_2 _ (HL.out.past HU.out.2.2.2.2).l).mono ?_; rintro e v1 ⟨rfl, hb1⟩; have HV1 := Lib.hid (HU.out.2.2.2.2.trans (hb1.mono HU.out.2.2.2.2.size)); have HVB := Lib.hid hb1; clear hb1) | (go_at_call 50; refine (split_2 _ (HL.out.past HV1.out).l).mono ?_; rintro e v2 ⟨g', rfl, hg, hc, hb2⟩))
  have HG := Lib.hid (HVB.out.trans (hb2.mono HVB.out.size))
  have d0 : v2.cell? ⟨g', 0, none⟩ = some (.string ⟨#[111, 117, 116]⟩) := hc 0 _ rfl
  have d1 : v2.cell? ⟨g', 1, none⟩ = some (.string ⟨#[97]⟩) := hc 1 _ rfl
  have hP := HU.out.1.past HG.out
  have p0 := hP.c 0 _ rfl; have p1 := hP.c 1 _ rfl; have pl := hP.lt; have pf := hP.f
  clear hc hb2 HVB HV1 hP
  refine wp_loop_rounds 3 ?_
  iterate 2 (rw [rounds_succ]; go_wp2_with fail)
  rw [rounds_succ]
  go_upto_region 18 with fail
  refine wp_world (fun Y hY => ?_)
  have hT : Tch (fun b => b = w.heap.size + 1) v2 Y := by rw [hY]; exact (Tch.refl (fun b => b = w.heap.size + 1) v2).set ⟨w.heap.size + 1, 1, none⟩ _ rfl
  have HY : Hid (Blk Y (w.heap.size + 1) [.slice ao5 1 cap5, .string ⟨#[97]⟩] ∧ Blk Y w.heap.size [.slice none 0 0, .string ⟨#[]⟩] ∧ RowV Y 5 (.slice ao5 1 cap5) 1 [.string ⟨#[97]⟩, .string ⟨#[102, 105, 108, 108]⟩, .slice none 0 0, .slice none 0 0, .slice ar 4 cr] ∧ RealsAt W.heap.size Y ar codes ∧ Below w.heap.size w Y) := Lib.hid (by
    have hw1 := HW.out.2.2.lt
    have h := HU.out
    exact ⟨by rw [hY]; simpa using (h.1.past HG.out).set 1 (.string ⟨#[97]⟩), (h.2.1.past HG.out).tch hT (fun e => by omega), RowV.tch (h.2.2.1.1.past HG.out) hT (fun b e hb => by have := h.2.2.1.2 b e; omega), (h.2.2.2.1.past HG.out).tch hT (fun b hb => by omega), below_own (h.2.2.2.2.trans (HG.out.mono h.2.2.2.2.size)) hT (by omega)⟩)
  have HOWN := Lib.hid HU.out.2.2.1.2
  clear hY hT d0 d1 p0 p1 pl pf hg HG HU
  go_wp2_with fail
  rw [rounds_succ]
  obtain ⟨br, ro, har, -⟩ : ∃ br ro, ar = some ⟨br, ro, none⟩ ∧ True := by
    rcases HY.out.2.2.2.1 with h | ⟨br, ro, h, -⟩
    · cases h
    · exact ⟨br, ro, h, trivial⟩
  subst har
  obtain ⟨b, off, hao, HO⟩ : ∃ b off, ao5 = some ⟨b, off, none⟩ ∧ OneAt Y b off (some ⟨br, ro, none⟩) cr := by
    obtain ⟨-, ao, cap, e, h1, h2, h3⟩ := HY.out.2.2.1
    injection e with e1 e2 e3
    subst e1 e3
    rcases h3 with ⟨-, h3⟩ | ⟨b, off, h4, h5, h6, h7⟩
    · omega
    · exact ⟨b, off, h4, ⟨h6 0 _ rfl, h6 1 _ rfl, h6 2 _ rfl, h6 3 _ rfl, h6 4 _ rfl⟩⟩
  subst hao
  have HOO := Lib.hid HO
  have p0 := HY.out.1.c 0 _ rfl; have p1 := HY.out.1.c 1 _ rfl; have pl := HY.out.1.lt
  clear HO
  go_upto_region 28 with (go_at_call 57; refine (check_one _ _ _ _ _ _ HOO.out).mono ?_; rintro e v6 ⟨rfl, hb6⟩; have hz := HY.out.2.1.past hb6; have hp := HY.out.1.past hb6; have z0 := hz.c 0 _ rfl; have z1 := hz.c 1 _ rfl; have zl := hz.lt; have zf := hz.f; clear p0 p1 pl; have p0 := hp.c 0 _ rfl; have p1 := hp.c 1 _ rfl; have pl := hp.lt; have H6 := Lib.hid hb6; clear hz hp hb6)
  go_wp2_with fail
  refine bodyPost_retN (v := .tuple #[.agg #[.slice (some ⟨b, off, none⟩) 1 cap5, .string ⟨#[97]⟩], .int .i64 0, .int .i64 0]) (by simp [results, Tryz.results56, go_sem, z0, z1]) rfl (fun WF hWF => ⟨b, off, cap5, br, ro, cr, rfl, ?_⟩)
  have hT : Tch (fun b => b = w.heap.size) v6 WF := by rw [hWF]; exact ((Tch.refl (fun b => b = w.heap.size) v6).set ⟨w.heap.size, 0, none⟩ _ rfl).set ⟨w.heap.size, 1, none⟩ _ rfl
  have hw1 := HW.out.2.2.lt
  have hb := HOWN.out b rfl
  exact ⟨(HOO.out.past H6.out).tch hT (fun e => by omega), ((HY.out.2.2.2.1.past H6.out).tch hT (fun b hb => by omega)).mono (Nat.zero_le _), below_own (HY.out.2.2.2.2.trans (H6.out.mono HY.out.2.2.2.2.size)) hT (Nat.le_refl _)⟩
set_option maxRecDepth 100000 in
set_option maxHeartbeats 6400000 in
/-- Programs are compiled. -/
theorem nodes_any (w : World) (hL : LibN w) : Calls Tryz.prog 12 #[] w fun e w' => e = .returned (.bool true) ∧ Below w.heap.size w w' := by
  have HL := Lib.hid hL
  clear hL
  go_enter Tryz.func12, Tryz.ntmps12
  go_upto_region 2 with (go_at_call 56; refine (parse_one _ HL.out).mono ?_; rintro e w1 ⟨b, off, c, br, ro, cr, rfl, hO, hR, hb⟩)
  refine wp_world (fun W hW => ?_)
  have hbW : Below w1.heap.size w1 W := by rw [hW]; (repeat (first | exact Below.refl _ _ | assumption | (refine Below.setCell ?_ (by first | (simp; done) | (simp; omega) | omega) _) | (refine Below.drew ?_) | (refine below_drewN ?_ _) | (refine Below.alloc ?_ (by first | (simp; done) | (simp; omega) | omega) _) | (refine Below.trans ?_ (Below.mono (by assumption) (by first | (simp; done) | (simp; omega) | omega)))))
  have HW : Hid (Below w.heap.size w W ∧ Blk W w1.heap.size [.slice (some ⟨b, off, none⟩) 1 c, .string ⟨#[97]⟩]) := Lib.hid (by rw [hW]; exact ⟨by rw [← hW]; exact hb.trans (hbW.mono hb.size), Blk.new _ _ _ _ rfl⟩)
  have HC := Lib.hid (compile_one b off c br ro cr codes W (HL.out.past HW.out.1).l (hO.past hbW) rfl (hR.past hbW))
  have p0 := HW.out.2.c 0 _ rfl; have p1 := HW.out.2.c 1 _ rfl; have pl := HW.out.2.lt
  clear hW hbW hO hR hb
  go_wp2_with (go_at_call 15; refine HC.out.mono ?_; rintro e w2 ⟨⟨ao, cap, rfl⟩, hb2⟩)
  go_ret
  have h1 := HW.out.1
  have h2 : Below w.heap.size w w2 := h1.trans (hb2.mono h1.size)
  exact ⟨rfl, h2.alloc h2.size _⟩
end Go.Proofs.YtjcakbikpficbaaGreatDoor
