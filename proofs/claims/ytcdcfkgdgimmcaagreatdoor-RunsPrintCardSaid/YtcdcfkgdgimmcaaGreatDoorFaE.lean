/- Work on machines at the one work and the one machine that dyelaw2.farms asks for: what ends. Conditions: what each theorem names. -/
import Derived.Test.YtcdcfkgdgimmcaaGreatDoorFaD
import Derived.Deep.RegionLaw
namespace Go.Proofs.YtcdcfkgdgimmcaaGreatDoor
open Go Go.RowKit
theorem infoRun : (Tryz.prog.info? 34).map (fun i => (i.zero, i.size, i.bytes)) = some (some (.agg #[.int .i64 0, .int .i64 0, .int .i64 0, .int .i64 0, .bool false]), 5, 40) := by kernel_rfl
theorem Blk.grown {w V w' : World} {n : Nat} {vs : List Value} (k : Blk w n vs) (hV : Below w.heap.size w V) (hg : V.grownBy w' none) : Blk w' n vs :=
  (k.past hV).block hg.size (hg.block n (k.past hV).lt (by simp))
theorem SimW.grown {w V w' : World} {ps gw gm gs gf gb : Nat} {now st fl : Int} {bz rv : Value} (k : SimW w ps gw gm gs gf gb now st fl bz rv) (hV : Below w.heap.size w V) (hg : V.grownBy w' none) : SimW w' ps gw gm gs gf gb now st fl bz rv :=
  ⟨k.kS.grown hV hg, k.kW.grown hV hg, k.kM.grown hV hg, k.kT.grown hV hg, k.kF.grown hV hg, k.kB.grown hV hg⟩
theorem end_app {ps gw gm gs gf gb pr base gr cap : Nat} {W5 V W6 : World} {N H : Nat} (hs : SimW W5 ps gw gm gs gf gb 2 1 0 (.pointer none) (.slice none 0 0)) (hr : Blk W5 pr [.int .i64 0, .int .i64 0, .int .i64 0, .int .i64 2, .bool false])
    (hV : Below W5.heap.size W5 V) (hown : W6.ownsRow base 34 5 (.slice (some ⟨gr, 0, none⟩) N cap) N [.int .i64 0, .int .i64 0, .int .i64 0, .int .i64 2, .bool false]) (hgrow : V.grownBy W6 none) (hat : none = some gr ∨ gr = H) (hH : H = W5.heap.size + 1) (hb : base ≤ W5.heap.size) :
    SimW W6 ps gw gm gs gf gb 2 1 0 (.pointer none) (.slice none 0 0) ∧ Blk W6 pr [.int .i64 0, .int .i64 0, .int .i64 0, .int .i64 2, .bool false] ∧ W6.cell? ⟨gr, 3, none⟩ = some (.int .i64 2) ∧ gr = W5.heap.size + 1 ∧ Below base W5 W6 ∧ W5.heap.size ≤ W6.heap.size := by
  have hz := hV.size
  refine ⟨hs.grown hV hgrow, hr.grown hV hgrow, ?_, ?_, ?_, ?_⟩
  · have h := hown.cells (g := gr) rfl 3 (.int .i64 2) rfl
    rw [Go.WideShapes.add_plain] at h
    exact h
  · rcases hat with h | h
    · cases h
    · rw [h, hH]
  · exact (hV.mono hb).grown hgrow (by omega) (fun j hj => by cases hj)
  · have := hgrow.size; omega
set_option maxRecDepth 100000 in
set_option maxHeartbeats 3200000 in
theorem end_done {ps gw gm gs gf gb pr base : Nat} (w : World) (h : SimW w ps gw gm gs gf gb 2 1 0 (.pointer (some ⟨pr, 0, none⟩)) (.slice none 0 0)) (hr : Blk w pr [.int .i64 0, .int .i64 0, .int .i64 0, .int .i64 2, .bool false]) (hd : ps ≠ gb ∧ ps ≠ gs ∧ gw ≠ gb ∧ gw ≠ gs ∧ gm ≠ gb ∧ gm ≠ gs ∧ gs ≠ gb ∧ gf ≠ gb ∧ gf ≠ gs ∧ pr ≠ ps ∧ pr ≠ gs ∧ pr ≠ gb ∧ gw ≠ ps ∧ gm ≠ ps ∧ gs ≠ ps ∧ gf ≠ ps) (hb : base ≤ gs ∧ base ≤ gb ∧ base ≤ ps ∧ base ≤ w.heap.size) :
    Calls Tryz.prog 39 #[.pointer (some ⟨ps, 0, none⟩)] w fun e w' => e = .returned (.tuple #[]) ∧ ∃ gr c, SimW w' ps gw gm gs gf gb 2 2 0 (.pointer none) (.slice (some ⟨gr, 0, none⟩) 1 c) ∧ w'.cell? ⟨gr, 3, none⟩ = some (.int .i64 2) ∧ w.heap.size < gr ∧ Below base w w' := by
  obtain ⟨i0, hi0, hz0, hz1, hz2⟩ := info_parts infoRun
  have HH := Lib.hid (And.intro h hr)
  have HD := Lib.hid hd; have HB := Lib.hid hb
  have s6 := h.kS.c 6 _ rfl; have s3 := h.kS.c 3 _ rfl; have sl := h.kS.lt; have b0 := h.kB.c 0 _ rfl; have bl := h.kB.lt; have bf := h.kB.f; have r3 := hr.c 3 _ rfl; have rl := hr.lt
  clear h hr hd hb
  go_enter Tryz.func39, Tryz.ntmps39
  go_wp2_with fail
  refine wp_loop_rounds 2 ?_
  go_wp2_with (simp only [rounds_succ])
  go_quiet (fail)
  go_upto_region 5 with fail
  refine wp_world (fun W5 hW5 => ?_)
  obtain ⟨d1, d2, d3, d4, d5, d6, d7, d8, d9, d10, d11, d12, d13, d14, d15, d16⟩ := HD.out
  have HW5 : SimW W5 ps gw gm gs gf gb 2 1 0 (.pointer none) (.slice none 0 0) ∧ Blk W5 pr [.int .i64 0, .int .i64 0, .int .i64 0, .int .i64 2, .bool false] ∧ W5.heap.size = w.heap.size := by
    rw [hW5]
    have h := HH.out.1.draw nq
    have hr := HH.out.2.drewN nq
    exact ⟨⟨h.kS.far _ _ (by simp; omega), h.kW.far _ _ (by simp; omega), h.kM.far _ _ (by simp; omega), h.kT.far _ _ (by simp; omega), h.kF.far _ _ (by simp; omega), h.kB.set 0 _⟩, hr.far _ _ (by simp; omega), by simp⟩
  have HB5 := Lib.hid (show Below base w W5 by rw [hW5]; have hb := HB.out; exact ((below_drewN (Below.refl _ _) nq).setCell (by simp; omega) _))
  have H5 := Lib.hid HW5
  clear hW5 HW5 s6 s3 sl b0 bl bf r3 rl HH
  have h := H5.out.1; have hr := H5.out.2.1
  have s7 := h.kS.c 7 _ rfl; have sl := h.kS.lt; have sf := h.kS.f; have r0 := hr.c 0 _ rfl; have r1 := hr.c 1 _ rfl; have r2 := hr.c 2 _ rfl; have r3 := hr.c 3 _ rfl; have r4 := hr.c 4 _ rfl; have rl := hr.lt
  clear h hr
  have hbs := HB5.out.size
  go_region_law (refine step_append_lies _ rfl (.tmp 37) (.tmp 41) 23 rfl base 34 i0 (.agg #[.int .i64 0, .int .i64 0, .int .i64 0, .int .i64 0, .bool false]) 5 40 Tryz.underlying23 hi0 hz0 hz1 hz2 rfl (by decide) (.slice none 0 0) 0 [] rfl (World.ownsRow_nil _ _ _ _) ⟨W5.heap.size, 0, none⟩ 1 1 [.int .i64 0, .int .i64 0, .int .i64 0, .int .i64 2, .bool false] rfl rfl (by intro j u hj; match j, hj with | 0, hj => (simp at hj; subst hj; simp [Addr.add]) | 1, hj => (simp at hj; subst hj; simp [Addr.add]) | 2, hj => (simp at hj; subst hj; simp [Addr.add]) | 3, hj => (simp at hj; subst hj; simp [Addr.add]) | 4, hj => (simp at hj; subst hj; simp [Addr.add])) (by intro u hu; simp at hu; rcases hu with rfl | rfl | rfl | rfl | rfl <;> rfl) (by decide) (by unfold maxLen; omega) (by omega) (by have := HB5.out.size; have := HB.out; have := H5.out.2.2; simp; omega) _ rfl ?_; intro gr cap W6 hown hgrow hat hlt; have HS6 := Lib.hid (end_app H5.out.1 H5.out.2.1 (by (repeat (first | exact Below.refl _ _ | assumption | (refine Below.setCell ?_ (by first | (simp; done) | (simp; omega) | omega) _) | (refine Below.drew ?_) | (refine below_drewN ?_ _) | (refine Below.alloc ?_ (by first | (simp; done) | (simp; omega) | omega) _) | (refine Below.trans ?_ (Below.mono (by assumption) (by first | (simp; done) | (simp; omega) | omega)))))) hown hgrow hat (by simp) (by have := HB.out; have := H5.out.2.2; omega)); have s7' := HS6.out.1.kS.c 7 _ rfl; have sl' := HS6.out.1.kS.lt; have sf' := HS6.out.1.kS.f; clear hown hgrow hat)
  all_goals
    go_upto_region 6 with fail
    refine wp_world (fun W7 hW7 => ?_)
    have hbb := HB.out; have h5 := H5.out.2.2
    have HW7 : SimW W7 ps gw gm gs gf gb 2 1 0 (.pointer none) (.slice (some ⟨gr, 0, none⟩) 1 cap) ∧ Blk W7 pr [.int .i64 0, .int .i64 0, .int .i64 0, .int .i64 2, .bool false] ∧ W7.cell? ⟨gr, 3, none⟩ = some (.int .i64 2) ∧ W7.heap.size = W6.heap.size ∧ gr = W5.heap.size + 1 := by
      obtain ⟨hS6, hR6, hc3, hgr, -, -⟩ := HS6.out
      have l1 := H5.out.1.kS.lt
      rw [hW7]
      refine ⟨⟨hS6.kS.set 7 _, hS6.kW.far _ _ (by simp; omega), hS6.kM.far _ _ (by simp; omega), hS6.kT.far _ _ (by simp; omega), hS6.kF.far _ _ (by simp; omega), hS6.kB.far _ _ (by simp; omega)⟩, hR6.far _ _ (by simp; omega), ?_, by simp, hgr⟩
      rw [World.cell?_setCell_other _ _ _ _ (by intro e; have := congrArg Addr.block e; simp at this; omega)]
      exact hc3
    have HB7 := Lib.hid (show Below base w W7 by rw [hW7]; exact (HB5.out.trans HS6.out.2.2.2.2.1).setCell (by simp; omega) _)
    have HZ7 := Lib.hid (show w.heap.size ≤ W7.heap.size by have := HS6.out.2.2.2.2.2; have := HW7.2.2.2.1; omega)
    have H7 := Lib.hid HW7
    have hl5 := H5.out.1.kT.lt
    clear hW7 HW7 s7 sl sf r0 r1 r2 r3 r4 rl s7' sl' sf' HS6 HB5 hbs
    have h := H7.out.1; have hr := H7.out.2.1
    have s4 := h.kS.c 4 _ rfl; have sl := h.kS.lt; have r0 := hr.c 0 _ rfl; have rl := hr.lt; have t0 := h.kT.c 0 _ rfl; have tl := h.kT.lt; have tf := h.kT.f
    clear h hr
    refine wp_region_loose 9 (fun _ _ _ => False) (by kernel_rfl) (by kernel_rfl) ?_
    simp only [List.take_succ_cons, List.take_zero, List.drop_succ_cons, List.drop_zero]
    iterate 9 (refine loose_wanted rfl (fun K hK => ?_); go_simp; refine hK _ ?_; clear hK K)
    refine loose_nil (fun w8 hb8 => ?_)
    have H8 := Lib.hid (And.intro (H7.out.1.past hb8) (And.intro (H7.out.2.1.past hb8) (And.intro (hb8.cell (p := ⟨gr, 3, none⟩) (cell_lt H7.out.2.2.1) |>.trans H7.out.2.2.1) (And.intro hb8.size hb8))))
    clear hb8 s4 sl r0 rl t0 tl tf
    have h := H8.out.1; have hr := H8.out.2.1
    have t0 := h.kT.c 0 _ rfl; have tl := h.kT.lt; have tf := h.kT.f; have r4 := hr.c 4 _ rfl; have rl := hr.lt
    clear h hr
    go_wp2_with (simp only [rounds_succ])
    go_end0
    refine ⟨rfl, gr, cap, ⟨?_, ?_, ?_, ?_, ?_, ?_⟩, ?_, ?_, ?_⟩
    · exact H8.out.1.kS.far _ _ (by simp; omega)
    · exact H8.out.1.kW.far _ _ (by simp; omega)
    · exact H8.out.1.kM.far _ _ (by simp; omega)
    · exact H8.out.1.kT.set 0 _
    · exact H8.out.1.kF.far _ _ (by simp; omega)
    · exact H8.out.1.kB.far _ _ (by simp; omega)
    · have := H7.out.2.2.2.2
      rw [World.cell?_setCell_other _ _ _ _ (by intro e; have := congrArg Addr.block e; simp at this; omega)]
      exact H8.out.2.2.1
    · have := H7.out.2.2.2.2; have := H5.out.2.2; omega
    · exact ((HB7.out.trans (H8.out.2.2.2.2.mono (by have := HZ7.out; omega))).setCell (by simp; omega) _)
end Go.Proofs.YtcdcfkgdgimmcaaGreatDoor
