/- Work on machines at the one work and the one machine that dyelaw2.farms asks for: the whole, and dyelaw2.farms. No condition. -/
import Derived.Test.YtcdcfkgdgimmcaaGreatDoorFaE
namespace Go.Proofs.YtcdcfkgdgimmcaaGreatDoor
open Go Go.RowKit
theorem Insert_one (gr c : Nat) (f : Value) (w : World) : Calls Tryz.prog 84 #[.slice (some ⟨gr, 0, none⟩) 1 c, .int .i64 0, .int .i64 1, f] w fun e w' => e = .returned (.tuple #[]) ∧ w' = w := by
  go_enter Tryz.func84, Tryz.ntmps84
  go_wp2_with fail
  refine wp_loop_rounds 1 ?_
  go_wp2_with (simp only [rounds_succ])
  go_end0
  exact ⟨rfl, rfl⟩
theorem Stable_one (gr c : Nat) (f : Value) (w : World) : Calls Tryz.prog 62 #[.slice (some ⟨gr, 0, none⟩) 1 c, .int .i64 1, f] w fun e w' => e = .returned (.tuple #[]) ∧ w' = w := by
  go_enter Tryz.func62, Tryz.ntmps62
  go_wp2_with fail
  refine wp_loop_rounds 1 ?_
  go_wp2_with (first | (go_at_call 84; refine (Insert_one _ _ _ _).mono ?_; rintro e w' ⟨rfl, rfl⟩) | (simp only [rounds_succ]))
  refine wp_loop_rounds 1 ?_
  go_wp2_with (simp only [rounds_succ])
  go_end0
  exact ⟨rfl, rfl⟩
theorem Sort_one (gr c : Nat) (f : Value) (w : World) : Calls Tryz.prog 44 #[.slice (some ⟨gr, 0, none⟩) 1 c, f] w fun e w' => e = .returned (.tuple #[]) ∧ w' = w := by
  go_enter Tryz.func44, Tryz.ntmps44
  go_wp2_with (first | (go_at_call 62; refine (Stable_one _ _ _ _).mono ?_; rintro e w' ⟨rfl, rfl⟩))
  go_end0
  exact ⟨rfl, rfl⟩
set_option maxRecDepth 100000 in
set_option maxHeartbeats 3200000 in
theorem Simulate_one (gw gm : Nat) (w : World) (hw : Blk w gw [.int .i64 2, .int .i64 0, .slice none 0 0]) (hm : Blk w gm [.int .i64 1, .slice none 0 0]) :
    Calls Tryz.prog 23 #[.slice (some ⟨gw, 0, none⟩) 1 1, .slice (some ⟨gm, 0, none⟩) 1 1, .int .i64 1] w fun e w' => (∃ gr c, e = .returned (.tuple #[.slice (some ⟨gr, 0, none⟩) 1 c, .int .i64 0]) ∧ w'.cell? ⟨gr, 3, none⟩ = some (.int .i64 2)) ∧ Below w.heap.size w w' := by
  have HH := Lib.hid (And.intro hw hm)
  clear hw hm
  have hmk : ∀ w : World, (Instr.makeSlice 36 (.int .i64 1) (.int .i64 1)).run Tryz.prog w = .ok (.slice (some ⟨w.heap.size, 0, none⟩) 1 1) (w.alloc (.cells #[.int .i64 0] 3)) := fun w => by
    have h := run_make_row' (P := Tryz.prog) 36 3 (.int .i64 0) 8 Tryz.underlying36 (by kernel_rfl) rfl .i64 .i64 1 (by omega) (by omega) w
    rw [show madeCells #[Value.int .i64 0] 1 = #[.int .i64 0] by kernel_rfl] at h
    exact h
  have hmk2 : ∀ w : World, (Instr.makeSlice 86 (.int .i64 1) (.int .i64 1)).run Tryz.prog w = .ok (.slice (some ⟨w.heap.size, 0, none⟩) 1 1) (w.alloc (.cells #[.pointer none] 104)) := fun w => by
    have h := run_make_row' (P := Tryz.prog) 86 104 (.pointer none) 8 Tryz.underlying86 (by kernel_rfl) rfl .i64 .i64 1 (by omega) (by omega) w
    rw [show madeCells #[Value.pointer none] 1 = #[.pointer none] by kernel_rfl] at h
    exact h
  go_enter Tryz.func23, Tryz.ntmps23
  go_upto_region 9 with (first | (go_at_call 27; refine (CheckWork_one _ _ HH.out.1).mono ?_; rintro e w1 ⟨rfl, hb⟩; have H1 := Lib.hid (And.intro (HH.out.1.past hb) (And.intro (HH.out.2.past hb) hb)); clear hb HH) | (go_at_call 38; refine (CheckMachines_one _ _ H1.out.2.1).mono ?_; rintro e w2 ⟨rfl, hb⟩; have H2 := Lib.hid (And.intro (H1.out.1.past hb) (And.intro (H1.out.2.1.past hb) (H1.out.2.2.trans (hb.mono H1.out.2.2.size)))); clear hb H1))
  go_cut [10] (fun s10 wx => ∃ ps gs gf gb, s10 = .pointer (some ⟨ps, 0, none⟩) ∧ SimW wx ps gw gm gs gf gb 0 0 0 (.pointer none) (.slice none 0 0) ∧ w2.heap.size ≤ gs ∧ w2.heap.size ≤ gf ∧ w2.heap.size ≤ gb ∧ w2.heap.size ≤ ps ∧ gs ≠ gb ∧ gf ≠ gb ∧ gf ≠ gs ∧ ps ≠ gs ∧ ps ≠ gf ∧ ps ≠ gb ∧ Below w2.heap.size w2 wx)
  case first =>
    go_region
    all_goals (go_wp2_with fail; go_meet)
    all_goals
      refine ⟨_, _, _, _, rfl, ⟨(Blk.new _ _ _ _ (by simp)).past (Below.drew (Below.refl _ _)), H2.out.1.past (by (repeat (first | exact Below.refl _ _ | assumption | (refine Below.setCell ?_ (by first | (simp; done) | (simp; omega) | omega) _) | (refine Below.drew ?_) | (refine below_drewN ?_ _) | (refine Below.alloc ?_ (by first | (simp; done) | (simp; omega) | omega) _) | (refine Below.trans ?_ (Below.mono (by assumption) (by first | (simp; done) | (simp; omega) | omega)))))), H2.out.2.1.past (by (repeat (first | exact Below.refl _ _ | assumption | (refine Below.setCell ?_ (by first | (simp; done) | (simp; omega) | omega) _) | (refine Below.drew ?_) | (refine below_drewN ?_ _) | (refine Below.alloc ?_ (by first | (simp; done) | (simp; omega) | omega) _) | (refine Below.trans ?_ (Below.mono (by assumption) (by first | (simp; done) | (simp; omega) | omega)))))), ?_, ?_, ?_⟩, by omega, by omega, by omega, by omega, by omega, by omega, by omega, by omega, by omega, by omega, by (repeat (first | exact Below.refl _ _ | assumption | (refine Below.setCell ?_ (by first | (simp; done) | (simp; omega) | omega) _) | (refine Below.drew ?_) | (refine below_drewN ?_ _) | (refine Below.alloc ?_ (by first | (simp; done) | (simp; omega) | omega) _) | (refine Below.trans ?_ (Below.mono (by assumption) (by first | (simp; done) | (simp; omega) | omega)))))⟩
      · first | (refine ((((Blk.new _ _ _ _ ?_).alloc _).alloc _).alloc _).past (Below.drew (Below.refl _ _)); simp; done) | (refine (((Blk.new _ _ _ _ ?_).alloc _).alloc _).past (Below.drew (Below.refl _ _)); simp; done) | (refine ((Blk.new _ _ _ _ ?_).alloc _).past (Below.drew (Below.refl _ _)); simp; done)
      · first | (refine ((((Blk.new _ _ _ _ ?_).alloc _).alloc _).alloc _).past (Below.drew (Below.refl _ _)); simp; done) | (refine (((Blk.new _ _ _ _ ?_).alloc _).alloc _).past (Below.drew (Below.refl _ _)); simp; done) | (refine ((Blk.new _ _ _ _ ?_).alloc _).past (Below.drew (Below.refl _ _)); simp; done)
      · first | (refine ((((Blk.new _ _ _ _ ?_).alloc _).alloc _).alloc _).past (Below.drew (Below.refl _ _)); simp; done) | (refine (((Blk.new _ _ _ _ ?_).alloc _).alloc _).past (Below.drew (Below.refl _ _)); simp; done) | (refine ((Blk.new _ _ _ _ ?_).alloc _).past (Below.drew (Below.refl _ _)); simp; done)
  case rest =>
    obtain ⟨ps, gs, gf, gb, rfl, hS, hN⟩ := hcut
    have hlw := hS.kW.lt; have hlm := hS.kM.lt
    have hww := H2.out.1.lt; have hmm := H2.out.2.1.lt
    have HS := Lib.hid hS
    have HN := Lib.hid (show (ps ≠ gb ∧ ps ≠ gs ∧ gw ≠ gb ∧ gw ≠ gs ∧ gm ≠ gb ∧ gm ≠ gs ∧ gs ≠ gb ∧ gf ≠ gb ∧ gf ≠ gs) ∧ (gw ≠ ps ∧ gm ≠ ps ∧ gs ≠ ps ∧ gf ≠ ps) ∧ w.heap.size ≤ gs ∧ w.heap.size ≤ gb ∧ w.heap.size ≤ ps ∧ w.heap.size ≤ wc.heap.size ∧ Below w.heap.size w wc by
      obtain ⟨h1, h2, h3, h4, h5, h6, h7, h8, h9, h10, hB⟩ := hN
      have hz := H2.out.2.2.size
      have hz2 := hB.size
      exact ⟨by omega, by omega, by omega, by omega, by omega, by omega, H2.out.2.2.trans (hB.mono hz)⟩)
    clear hS hN hlw hlm hww hmm H2
    go_wp2_with fail
    refine wp_loop_rounds 3 ?_
    go_wp2_with (simp only [rounds_succ])
    refine (end_none _ HS.out).mono ?_
    rintro e w3 ⟨rfl, hb⟩
    have H3 := Lib.hid (And.intro (HS.out.past hb) (HN.out.2.2.2.2.2.2.trans (hb.mono HN.out.2.2.2.2.2.1)))
    clear hb HS
    go_wp2_with fail
    refine wp_loop_rounds 2 ?_
    go_wp2_with (first | (go_at_call 40; refine (ready_yes _ H3.out.1).mono ?_; rintro e w4 ⟨rfl, hb⟩; have H4 := Lib.hid (And.intro (H3.out.1.past hb) (H3.out.2.trans (hb.mono H3.out.2.size))); clear hb H3) | (go_at_call 41; refine (free_yes _ H4.out.1).mono ?_; rintro e w5 ⟨rfl, hb⟩; have H5 := Lib.hid (And.intro (H4.out.1.past hb) (H4.out.2.trans (hb.mono H4.out.2.size))); clear hb H4) | (go_at_call 42; refine (begin_one _ H5.out.1 HN.out.1).mono ?_; rintro e w6 ⟨rfl, pr, hS6, hR6, hpr, hsz, hB⟩; have H6 := Lib.hid (And.intro hS6 (And.intro hR6 (And.intro hpr (H5.out.2.trans (hB w.heap.size HN.out.2.2.1 HN.out.2.2.2.1 H5.out.2.size))))); have HL5 := Lib.hid (And.intro H5.out.1.kS.lt (And.intro H5.out.1.kT.lt H5.out.1.kB.lt)); clear hS6 hR6 hpr hsz hB H5) | (go_at_call 40; refine (ready_no _ H6.out.1 (by decide)).mono ?_; rintro e w7 ⟨rfl, hb⟩; have H7 := Lib.hid (And.intro (H6.out.1.past hb) (And.intro (H6.out.2.1.past hb) (And.intro H6.out.2.2.1 (H6.out.2.2.2.trans (hb.mono H6.out.2.2.2.size))))); clear hb H6) | (simp only [rounds_succ]))
    refine (next_run _ H7.out.1 H7.out.2.1 (by decide)).mono ?_
    rintro e w8 ⟨rfl, hb⟩
    have H8 := Lib.hid (And.intro (H7.out.1.past hb) (And.intro (H7.out.2.1.past hb) (And.intro H7.out.2.2.1 (H7.out.2.2.2.trans (hb.mono H7.out.2.2.2.size)))))
    clear hb H7
    have s3 := H8.out.1.kS.c 3 _ rfl; have sl := H8.out.1.kS.lt; have sf := H8.out.1.kS.f
    go_wp2_with (simp only [rounds_succ])
    refine calls_world (fun W9 hW9 => ?_)
    have HDD := Lib.hid (show ps ≠ gb ∧ ps ≠ gs ∧ gw ≠ gb ∧ gw ≠ gs ∧ gm ≠ gb ∧ gm ≠ gs ∧ gs ≠ gb ∧ gf ≠ gb ∧ gf ≠ gs ∧ pr ≠ ps ∧ pr ≠ gs ∧ pr ≠ gb ∧ gw ≠ ps ∧ gm ≠ ps ∧ gs ≠ ps ∧ gf ≠ ps by
      obtain ⟨⟨d1, d2, d3, d4, d5, d6, d7, d8, d9⟩, ⟨d10, d11, d12, d13⟩, -⟩ := HN.out
      obtain ⟨l1, l2, l3⟩ := HL5.out
      have := H8.out.2.2.1
      exact ⟨d1, d2, d3, d4, d5, d6, d7, d8, d9, by omega, by omega, by omega, d10, d11, d12, d13⟩)
    have HW9 : SimW W9 ps gw gm gs gf gb 2 1 0 (.pointer (some ⟨pr, 0, none⟩)) (.slice none 0 0) ∧ Blk W9 pr [.int .i64 0, .int .i64 0, .int .i64 0, .int .i64 2, .bool false] ∧ Below w.heap.size w W9 := by
      obtain ⟨h, hr, -, hB⟩ := H8.out
      have hd := HDD.out
      have hn := HN.out.2.2.2.2.1
      rw [hW9]
      exact ⟨⟨h.kS.set 3 _, h.kW.far _ _ (by simp; omega), h.kM.far _ _ (by simp; omega), h.kT.far _ _ (by simp; omega), h.kF.far _ _ (by simp; omega), h.kB.far _ _ (by simp; omega)⟩, hr.far _ _ (by simp; omega), hB.setCell (by simpa using hn) _⟩
    have H9 := Lib.hid HW9
    clear hW9 HW9 s3 sl sf H8
    refine (end_done (base := w.heap.size) _ H9.out.1 H9.out.2.1 HDD.out ⟨HN.out.2.2.1, HN.out.2.2.2.1, HN.out.2.2.2.2.1, H9.out.2.2.size⟩).mono ?_
    rintro e w10 ⟨rfl, gr, c, hS, hc3, hsz, hB⟩
    have H10 := Lib.hid (And.intro hS (And.intro hc3 (H9.out.2.2.trans hB)))
    have hgp : gr ≠ ps := by have := H9.out.1.kS.lt; omega
    have HGP := Lib.hid hgp
    clear hgp
    clear hS hc3 hsz hB H9
    go_wp2_with fail
    refine wp_loop_rounds 1 ?_
    go_wp2_with (first | (go_at_call 40; refine (ready_no _ H10.out.1 (by decide)).mono ?_; rintro e w11 ⟨rfl, hb⟩; have H11 := Lib.hid (And.intro (H10.out.1.past hb) (And.intro ((hb.cell (p := ⟨gr, 3, none⟩) (cell_lt H10.out.2.1)).trans H10.out.2.1) (H10.out.2.2.trans (hb.mono H10.out.2.2.size)))); clear hb H10) | (simp only [rounds_succ]))
    refine (next_no _ H11.out.1 (by decide)).mono ?_
    rintro e w12 ⟨rfl, hb⟩
    have H12 := Lib.hid (And.intro (H11.out.1.past hb) (And.intro ((hb.cell (p := ⟨gr, 3, none⟩) (cell_lt H11.out.2.1)).trans H11.out.2.1) (H11.out.2.2.trans (hb.mono H11.out.2.2.size))))
    clear hb H11
    have s3 := H12.out.1.kS.c 3 _ rfl; have s7 := H12.out.1.kS.c 7 _ rfl; have sl := H12.out.1.kS.lt; have sf := H12.out.1.kS.f
    go_wp2_with (first | (go_at_call 44; refine (Sort_one _ _ _ _).mono ?_; rintro e w' ⟨rfl, rfl⟩) | (simp only [rounds_succ]))
    go_ret2
    refine ⟨⟨gr, c, rfl, ?_⟩, H12.out.2.2.setCell (by have := HN.out; simp; omega) _⟩
    have hgp := HGP.out
    rw [World.cell?_setCell_other _ _ _ _ (by intro e; have := congrArg Addr.block e; simp at this; omega)]
    exact H12.out.2.1
theorem farms_any (w : World) : Calls Tryz.prog 6 #[] w fun e w' => e = .returned (.bool true) ∧ Below w.heap.size w w' := by
  go_enter Tryz.func6, Tryz.ntmps6
  go_wp2_with fail
  refine calls_world (fun W hW => ?_)
  have B : Below w.heap.size w W := by rw [hW]; (repeat (first | exact Below.refl _ _ | assumption | (refine Below.setCell ?_ (by first | (simp; done) | (simp; omega) | omega) _) | (refine Below.drew ?_) | (refine below_drewN ?_ _) | (refine Below.alloc ?_ (by first | (simp; done) | (simp; omega) | omega) _) | (refine Below.trans ?_ (Below.mono (by assumption) (by first | (simp; done) | (simp; omega) | omega)))))
  have A0 : Blk W w.heap.size [.int .i64 2, .int .i64 0, .slice none 0 0] := by rw [hW]; exact (Blk.new _ _ _ _ rfl).alloc _
  have A1 : Blk W (w.heap.size + 1) [.int .i64 1, .slice none 0 0] := by rw [hW]; exact Blk.new _ _ _ _ (by simp)
  have HB := Lib.hid B
  clear hW B
  refine (Simulate_one _ _ _ A0 A1).mono ?_
  rintro e w2 ⟨⟨gr, c, rfl, hc⟩, hb⟩
  have hl := cell_lt hc; simp only at hl
  have HB2 := Lib.hid (HB.out.trans (hb.mono HB.out.size))
  clear hb HB A0 A1
  go_wp2_with fail
  go_ret
  exact ⟨by simp, HB2.out⟩
end Go.Proofs.YtcdcfkgdgimmcaaGreatDoor
