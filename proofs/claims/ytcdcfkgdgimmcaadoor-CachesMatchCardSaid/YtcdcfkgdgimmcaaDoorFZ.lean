/- Work on machines at the one work and the one machine that dyelaw2.farms asks for: the checks. Conditions: what each theorem names. (with: FaB, FaC, FaD, FaE, FaF) -/
import Derived.Test.YtcdcfkgdgimmcaaDoorBG
import Derived.BigQuiet
import Derived.Deep.RegionLaw
namespace Go.Proofs.YtcdcfkgdgimmcaaDoor
open Go Go.RowKit
set_option maxRecDepth 100000 in
set_option maxHeartbeats 1600000 in
theorem CheckWork_one (gw : Nat) (w : World) (h : Blk w gw [.int .i64 2, .int .i64 0, .slice none 0 0]) :
    Calls Tryd.prog 76 #[.slice (some ⟨gw, 0, none⟩) 1 1] w fun e w' => e = .returned (.int .i64 0) ∧ Below w.heap.size w w' := by
  have c0 := h.c 0 _ rfl; have c1 := h.c 1 _ rfl; have c2 := h.c 2 _ rfl; have cl := h.lt
  clear h
  go_enter Tryd.func76, Tryd.ntmps76
  go_wp2_with fail
  refine wp_loop_rounds 2 ?_
  go_wp2_with (simp only [rounds_succ])
  refine wp_loop_rounds 1 ?_
  go_wp2_with (simp only [rounds_succ])
  go_ret
  refine ⟨rfl, ?_⟩
  (repeat (first | exact Below.refl _ _ | assumption | (refine Below.setCell ?_ (by first | (simp; done) | (simp; omega) | omega) _) | (refine Below.drew ?_) | (refine below_drewN ?_ _) | (refine Below.alloc ?_ (by first | (simp; done) | (simp; omega) | omega) _) | (refine Below.trans ?_ (Below.mono (by assumption) (by first | (simp; done) | (simp; omega) | omega)))))
set_option maxRecDepth 100000 in
set_option maxHeartbeats 1600000 in
theorem CheckMachines_one (gm : Nat) (w : World) (h : Blk w gm [.int .i64 1, .slice none 0 0]) :
    Calls Tryd.prog 77 #[.slice (some ⟨gm, 0, none⟩) 1 1] w fun e w' => e = .returned (.int .i64 0) ∧ Below w.heap.size w w' := by
  have c0 := h.c 0 _ rfl; have c1 := h.c 1 _ rfl; have cl := h.lt
  clear h
  go_enter Tryd.func77, Tryd.ntmps77
  go_wp2_with fail
  refine wp_loop_rounds 2 ?_
  go_wp2_with (simp only [rounds_succ])
  refine wp_loop_rounds 1 ?_
  go_wp2_with (simp only [rounds_succ])
  go_ret
  refine ⟨rfl, ?_⟩
  (repeat (first | exact Below.refl _ _ | assumption | (refine Below.setCell ?_ (by first | (simp; done) | (simp; omega) | omega) _) | (refine Below.drew ?_) | (refine below_drewN ?_ _) | (refine Below.alloc ?_ (by first | (simp; done) | (simp; omega) | omega) _) | (refine Below.trans ?_ (Below.mono (by assumption) (by first | (simp; done) | (simp; omega) | omega)))))
end Go.Proofs.YtcdcfkgdgimmcaaDoor

namespace Go.Proofs.YtcdcfkgdgimmcaaDoor
open Go Go.RowKit
/-- What stands of a simulation of one work on one machine. -/
structure SimW (w : World) (ps gw gm gs gf gb : Nat) (now st fl : Int) (bz rv : Value) : Prop where
  kS : Blk w ps [.slice (some ⟨gw, 0, none⟩) 1 1, .slice (some ⟨gm, 0, none⟩) 1 1, .int .i64 1, .int .i64 now, .slice (some ⟨gs, 0, none⟩) 1 1, .slice (some ⟨gf, 0, none⟩) 1 1, .slice (some ⟨gb, 0, none⟩) 1 1, rv]
  kW : Blk w gw [.int .i64 2, .int .i64 0, .slice none 0 0]
  kM : Blk w gm [.int .i64 1, .slice none 0 0]
  kT : Blk w gs [.int .i64 st]
  kF : Blk w gf [.int .i64 fl]
  kB : Blk w gb [bz]
theorem SimW.past {w w' : World} {ps gw gm gs gf gb : Nat} {now st fl : Int} {bz rv : Value} (k : SimW w ps gw gm gs gf gb now st fl bz rv) (h : Below w.heap.size w w') : SimW w' ps gw gm gs gf gb now st fl bz rv :=
  ⟨k.kS.past h, k.kW.past h, k.kM.past h, k.kT.past h, k.kF.past h, k.kB.past h⟩
theorem ContainsFuncI_nil (f : Value) (w : World) : Calls Tryd.prog 116 #[.slice none 0 0, f] w fun e w' => e = .returned (.bool false) ∧ w' = w := by
  go_enter Tryd.func116, Tryd.ntmps116
  go_wp2
  refine wp_loop_rounds 1 ?_
  go_wp2_with (simp only [rounds_succ])
  go_ret
  exact ⟨rfl, rfl⟩
theorem upAt_one {ps gw gm gs gf gb : Nat} {now st fl : Int} {bz rv : Value} (w : World) (h : SimW w ps gw gm gs gf gb now st fl bz rv) :
    Calls Tryd.prog 118 #[.pointer (some ⟨ps, 0, none⟩), .int .i64 0] w fun e w' => e = .returned (.int .i64 now) ∧ w' = w := by
  have s1 := h.kS.c 1 _ rfl; have s3 := h.kS.c 3 _ rfl; have sl := h.kS.lt; have m1 := h.kM.c 1 _ rfl; have ml := h.kM.lt
  clear h
  go_enter Tryd.func118, Tryd.ntmps118
  go_wp2_with fail
  refine wp_loop_rounds 1 ?_
  go_wp2_with (simp only [rounds_succ])
  go_ret
  exact ⟨rfl, rfl⟩
/-- Nothing ends where nothing runs. -/
theorem end_none {ps gw gm gs gf gb : Nat} {now st fl : Int} {rv : Value} (w : World) (h : SimW w ps gw gm gs gf gb now st fl (.pointer none) rv) :
    Calls Tryd.prog 78 #[.pointer (some ⟨ps, 0, none⟩)] w fun e w' => e = .returned (.tuple #[]) ∧ Below w.heap.size w w' := by
  have s6 := h.kS.c 6 _ rfl; have sl := h.kS.lt; have b0 := h.kB.c 0 _ rfl; have bl := h.kB.lt
  clear h
  go_enter Tryd.func78, Tryd.ntmps78
  go_wp2_with fail
  refine wp_loop_rounds 2 ?_
  go_wp2_with (simp only [rounds_succ])
  go_quiet (fail)
  go_wp2_with (simp only [rounds_succ])
  go_end0
  exact ⟨rfl, by (repeat (first | exact Below.refl _ _ | assumption | (refine Below.setCell ?_ (by first | (simp; done) | (simp; omega) | omega) _) | (refine Below.drew ?_) | (refine below_drewN ?_ _) | (refine Below.alloc ?_ (by first | (simp; done) | (simp; omega) | omega) _) | (refine Below.trans ?_ (Below.mono (by assumption) (by first | (simp; done) | (simp; omega) | omega)))))⟩
theorem ready_yes {ps gw gm gs gf gb : Nat} {now fl : Int} {bz rv : Value} (w : World) (h : SimW w ps gw gm gs gf gb now 0 fl bz rv) :
    Calls Tryd.prog 79 #[.pointer (some ⟨ps, 0, none⟩)] w fun e w' => e = .returned (.int .i64 0) ∧ Below w.heap.size w w' := by
  have s0 := h.kS.c 0 _ rfl; have s4 := h.kS.c 4 _ rfl; have sl := h.kS.lt; have t0 := h.kT.c 0 _ rfl; have tl := h.kT.lt; have w0 := h.kW.c 0 _ rfl; have w1 := h.kW.c 1 _ rfl; have w2 := h.kW.c 2 _ rfl; have wl := h.kW.lt
  clear h
  go_enter Tryd.func79, Tryd.ntmps79
  go_wp2_with fail
  refine wp_loop_rounds 2 ?_
  go_wp2_with (first | (go_at_call 116; refine (ContainsFuncI_nil _ _).mono ?_; rintro e w' ⟨rfl, rfl⟩) | (simp only [rounds_succ]))
  go_quiet (fail)
  go_wp2_with (simp only [rounds_succ])
  go_ret
  refine ⟨rfl, ?_⟩
  (repeat (first | exact Below.refl _ _ | assumption | (refine Below.setCell ?_ (by first | (simp; done) | (simp; omega) | omega) _) | (refine Below.drew ?_) | (refine below_drewN ?_ _) | (refine Below.alloc ?_ (by first | (simp; done) | (simp; omega) | omega) _) | (refine Below.trans ?_ (Below.mono (by assumption) (by first | (simp; done) | (simp; omega) | omega)))))
theorem ready_no {ps gw gm gs gf gb : Nat} {now st fl : Int} {bz rv : Value} (w : World) (h : SimW w ps gw gm gs gf gb now st fl bz rv) (hst : (st != 0) = true) :
    Calls Tryd.prog 79 #[.pointer (some ⟨ps, 0, none⟩)] w fun e w' => e = .returned (.int .i64 (-1)) ∧ Below w.heap.size w w' := by
  have s0 := h.kS.c 0 _ rfl; have s4 := h.kS.c 4 _ rfl; have sl := h.kS.lt; have t0 := h.kT.c 0 _ rfl; have tl := h.kT.lt; have w0 := h.kW.c 0 _ rfl; have w1 := h.kW.c 1 _ rfl; have w2 := h.kW.c 2 _ rfl; have wl := h.kW.lt
  clear h
  go_enter Tryd.func79, Tryd.ntmps79
  go_wp2_with fail
  refine wp_loop_rounds 2 ?_
  go_wp2_with (simp only [rounds_succ])
  go_ret
  refine ⟨rfl, ?_⟩
  (repeat (first | exact Below.refl _ _ | assumption | (refine Below.setCell ?_ (by first | (simp; done) | (simp; omega) | omega) _) | (refine Below.drew ?_) | (refine below_drewN ?_ _) | (refine Below.alloc ?_ (by first | (simp; done) | (simp; omega) | omega) _) | (refine Below.trans ?_ (Below.mono (by assumption) (by first | (simp; done) | (simp; omega) | omega)))))
set_option maxRecDepth 100000 in
theorem free_yes {ps gw gm gs gf gb : Nat} {now st fl : Int} {rv : Value} (w : World) (h : SimW w ps gw gm gs gf gb now st fl (.pointer none) rv) :
    Calls Tryd.prog 80 #[.pointer (some ⟨ps, 0, none⟩)] w fun e w' => e = .returned (.int .i64 0) ∧ Below w.heap.size w w' := by
  have HH := Lib.hid h
  have s1 := h.kS.c 1 _ rfl; have s3 := h.kS.c 3 _ rfl; have s6 := h.kS.c 6 _ rfl; have sl := h.kS.lt; have m0 := h.kM.c 0 _ rfl; have m1 := h.kM.c 1 _ rfl; have ml := h.kM.lt; have b0 := h.kB.c 0 _ rfl; have bl := h.kB.lt
  clear h
  go_enter Tryd.func80, Tryd.ntmps80
  go_wp2_with fail
  refine wp_loop_rounds 2 ?_
  go_wp2_with (simp only [rounds_succ])
  refine wp_world (fun W hW => ?_)
  have B : Below w.heap.size w W := by rw [hW]; (repeat (first | exact Below.refl _ _ | assumption | (refine Below.setCell ?_ (by first | (simp; done) | (simp; omega) | omega) _) | (refine Below.drew ?_) | (refine below_drewN ?_ _) | (refine Below.alloc ?_ (by first | (simp; done) | (simp; omega) | omega) _) | (refine Below.trans ?_ (Below.mono (by assumption) (by first | (simp; done) | (simp; omega) | omega)))))
  have HW := Lib.hid (HH.out.past B)
  have HB := Lib.hid B
  have q0 : W.cell? ⟨w.heap.size, 0, none⟩ = some (.int .i64 1) := (show Blk W w.heap.size [.int .i64 1, .slice none 0 0] by rw [hW]; exact Blk.new _ _ _ _ rfl).c 0 _ rfl
  have q1 := cell_lt q0; simp only at q1
  have h := HW.out
  have s1 := h.kS.c 1 _ rfl; have s3 := h.kS.c 3 _ rfl; have s6 := h.kS.c 6 _ rfl; have sl := h.kS.lt; have m0 := h.kM.c 0 _ rfl; have m1 := h.kM.c 1 _ rfl; have ml := h.kM.lt; have b0 := h.kB.c 0 _ rfl; have bl := h.kB.lt
  clear hW B h HH
  go_quiet ((go_at_call 118; exact Calls.quiet_of_same (upAt_one _ (HW.out.past (below_drewN (Below.refl _ _) _)))))
  go_wp2_with (simp only [rounds_succ])
  go_ret
  refine ⟨rfl, ?_⟩
  have hb := HB.out
  (repeat (first | exact Below.refl _ _ | assumption | (refine Below.setCell ?_ (by first | (simp; done) | (simp; omega) | omega) _) | (refine Below.drew ?_) | (refine below_drewN ?_ _) | (refine Below.alloc ?_ (by first | (simp; done) | (simp; omega) | omega) _) | (refine Below.trans ?_ (Below.mono (by assumption) (by first | (simp; done) | (simp; omega) | omega)))))
end Go.Proofs.YtcdcfkgdgimmcaaDoor

namespace Go.Proofs.YtcdcfkgdgimmcaaDoor
open Go Go.RowKit
theorem SimW.draw {w : World} {ps gw gm gs gf gb : Nat} {now st fl : Int} {bz rv : Value} (k : SimW w ps gw gm gs gf gb now st fl bz rv) (n : Nat) : SimW (w.drewN n) ps gw gm gs gf gb now st fl bz rv := k.past (below_drewN (Below.refl _ _) n)
set_option maxRecDepth 100000 in
set_option maxHeartbeats 1600000 in
theorem begin_one {ps gw gm gs gf gb : Nat} {fl : Int} {rv : Value} (w : World) (h : SimW w ps gw gm gs gf gb 0 0 fl (.pointer none) rv) (hd : ps ≠ gb ∧ ps ≠ gs ∧ gw ≠ gb ∧ gw ≠ gs ∧ gm ≠ gb ∧ gm ≠ gs ∧ gs ≠ gb ∧ gf ≠ gb ∧ gf ≠ gs) :
    Calls Tryd.prog 81 #[.pointer (some ⟨ps, 0, none⟩), .int .i64 0, .int .i64 0] w fun e w' => e = .returned (.tuple #[]) ∧ ∃ pr, SimW w' ps gw gm gs gf gb 0 1 fl (.pointer (some ⟨pr, 0, none⟩)) rv ∧ Blk w' pr [.int .i64 0, .int .i64 0, .int .i64 0, .int .i64 2, .bool false] ∧ w.heap.size ≤ pr ∧ w.heap.size ≤ w'.heap.size ∧ ∀ N, N ≤ gs → N ≤ gb → N ≤ w.heap.size → Below N w w' := by
  have HH := Lib.hid h
  have HD := Lib.hid hd
  have s1 := h.kS.c 1 _ rfl; have sl := h.kS.lt; have m0 := h.kM.c 0 _ rfl; have m1 := h.kM.c 1 _ rfl; have ml := h.kM.lt
  clear h hd
  go_enter Tryd.func81, Tryd.ntmps81
  go_upto_region 1 with fail
  refine wp_world (fun W hW => ?_)
  have B : Below w.heap.size w W := by rw [hW]; (repeat (first | exact Below.refl _ _ | assumption | (refine Below.setCell ?_ (by first | (simp; done) | (simp; omega) | omega) _) | (refine Below.drew ?_) | (refine below_drewN ?_ _) | (refine Below.alloc ?_ (by first | (simp; done) | (simp; omega) | omega) _) | (refine Below.trans ?_ (Below.mono (by assumption) (by first | (simp; done) | (simp; omega) | omega)))))
  have HW := Lib.hid (HH.out.past B)
  have HB := Lib.hid B
  have Q0 : Blk W w.heap.size [.int .i64 1, .slice none 0 0] := by rw [hW]; exact Blk.new _ _ _ _ rfl
  have HQ := Lib.hid Q0
  clear hW B s1 sl m0 m1 ml HH
  have hsz := HB.out.size
  have h := HW.out
  have s0 := h.kS.c 0 _ rfl; have s3 := h.kS.c 3 _ rfl; have sl := h.kS.lt; have w0 := h.kW.c 0 _ rfl; have wl := h.kW.lt; have q0 := Q0.c 0 _ rfl; have ql := Q0.lt
  clear h Q0
  refine wp_region_loose 27 (fun _ _ _ => False) (by kernel_rfl) (by kernel_rfl) ?_
  simp only [List.take_succ_cons, List.take_zero, List.drop_succ_cons, List.drop_zero]
  iterate 27 (refine loose_wanted rfl (fun K hK => ?_); go_simp; refine hK _ ?_; clear hK K)
  refine loose_nil (fun w5 hb5 => ?_)
  have H5 := Lib.hid (HW.out.past hb5); have HQ5 := Lib.hid (HQ.out.past hb5); have HB5 := Lib.hid (HB.out.trans (hb5.mono HB.out.size))
  clear hb5 s0 s3 sl w0 wl q0 ql HW HQ HB hsz
  go_upto_region 2 with fail
  refine wp_world (fun W6 hW6 => ?_)
  have B6 : Below w5.heap.size w5 W6 := by rw [hW6]; (repeat (first | exact Below.refl _ _ | assumption | (refine Below.setCell ?_ (by first | (simp; done) | (simp; omega) | omega) _) | (refine Below.drew ?_) | (refine below_drewN ?_ _) | (refine Below.alloc ?_ (by first | (simp; done) | (simp; omega) | omega) _) | (refine Below.trans ?_ (Below.mono (by assumption) (by first | (simp; done) | (simp; omega) | omega)))))
  have R6 : Blk W6 w5.heap.size [.int .i64 0, .int .i64 0, .int .i64 0, .int .i64 2, .bool false] := by rw [hW6]; exact Blk.new _ _ _ _ rfl
  have hlt := And.intro H5.out.kS.lt (And.intro H5.out.kW.lt (And.intro H5.out.kM.lt (And.intro H5.out.kT.lt (And.intro H5.out.kF.lt H5.out.kB.lt))))
  have hpr : w.heap.size ≤ w5.heap.size := HB5.out.size
  have H6 := Lib.hid (H5.out.past B6); have HQ6 := Lib.hid (HQ5.out.past B6); have HB6 := Lib.hid (HB5.out.trans (B6.mono HB5.out.size)); have HR6 := Lib.hid R6
  clear hW6 B6 R6 H5 HQ5 HB5
  generalize w5.heap.size = pr at *
  have HL := Lib.hid hlt; have HP := Lib.hid hpr
  clear hlt hpr
  have h := H6.out
  have s4 := h.kS.c 4 _ rfl; have s6 := h.kS.c 6 _ rfl; have sl := h.kS.lt; have t0 := h.kT.c 0 _ rfl; have tl := h.kT.lt; have tf := h.kT.f; have b0 := h.kB.c 0 _ rfl; have bl := h.kB.lt; have bf := h.kB.f
  have q1 := HQ6.out.c 1 _ rfl; have ql := HQ6.out.lt
  obtain ⟨d1, d2, d3, d4, d5, d6, d7, d8, d9⟩ := HD.out
  have d1' := Ne.symm d1; have d2' := Ne.symm d2; have d7' := Ne.symm d7
  clear h
  go_wp2_with fail
  refine wp_loop_rounds 1 ?_
  go_wp2_with (simp only [rounds_succ])
  go_end0
  have h := H6.out
  have hsz := HB6.out.size
  refine ⟨rfl, pr, ⟨(h.kS.far _ _ (by simp; omega)).far _ _ (by simp; omega), (h.kW.far _ _ (by simp; omega)).far _ _ (by simp; omega), (h.kM.far _ _ (by simp; omega)).far _ _ (by simp; omega), (h.kT.far _ _ (by simp; omega)).set 0 _, (h.kF.far _ _ (by simp; omega)).far _ _ (by simp; omega), (h.kB.set 0 _).far _ _ (by simp; omega)⟩, ?_, HP.out, by simpa [World.setCell] using hsz, fun N h1 h2 h3 => ?_⟩
  · have hl := HL.out
    exact (HR6.out.far _ _ (by simp; omega)).far _ _ (by simp; omega)
  · exact ((HB6.out.mono h3).setCell (by simpa using h2) _).setCell (by simpa using h1) _
end Go.Proofs.YtcdcfkgdgimmcaaDoor

namespace Go.Proofs.YtcdcfkgdgimmcaaDoor
open Go Go.RowKit
theorem take_first (n a : Int) (pi pa : Nat) (w : World) (h : pi ≠ pa) (hi : Blk w pi [.bool false]) (ha : Blk w pa [.int .i64 a]) :
    Calls Tryd.prog 119 #[.int .i64 n, .pointer (some ⟨pi, 0, none⟩), .pointer (some ⟨pa, 0, none⟩)] w fun e w' => e = .returned (.tuple #[]) ∧ Blk w' pi [.bool true] ∧ Blk w' pa [.int .i64 n] ∧ w.heap.size ≤ w'.heap.size ∧ ∀ N, N ≤ pi → N ≤ pa → N ≤ w.heap.size → Below N w w' := by
  have HI := Lib.hid hi; have HA := Lib.hid ha
  have i0 := hi.c 0 _ rfl; have il := hi.lt; have if' := hi.f; have a0 := ha.c 0 _ rfl; have al := ha.lt; have af := ha.f
  have h' := Ne.symm h
  clear hi ha
  go_enter Tryd.func119, Tryd.ntmps119
  go_wp2_with fail
  go_end0
  exact ⟨rfl, (HI.out.far _ _ (by simp; omega)).set 0 _, (HA.out.set 0 _).far _ _ (by simp; omega), by simp [World.setCell], fun N h1 h2 h3 => (((Below.refl _ _).setCell (by simpa using h2) _).setCell (by simpa using h1) _)⟩
set_option maxRecDepth 100000 in
set_option maxHeartbeats 1600000 in
theorem next_run {ps gw gm gs gf gb pr : Nat} {st fl : Int} {rv : Value} (w : World) (h : SimW w ps gw gm gs gf gb 0 st fl (.pointer (some ⟨pr, 0, none⟩)) rv) (hr : Blk w pr [.int .i64 0, .int .i64 0, .int .i64 0, .int .i64 2, .bool false]) (hst : (st != 0) = true) :
    Calls Tryd.prog 82 #[.pointer (some ⟨ps, 0, none⟩)] w fun e w' => e = .returned (.tuple #[.int .i64 2, .bool true]) ∧ Below w.heap.size w w' := by
  have HH := Lib.hid (And.intro h hr)
  clear h hr
  go_enter Tryd.func82, Tryd.ntmps82
  go_upto_region 3 with fail
  refine wp_world (fun W hW => ?_)
  have B : Below w.heap.size w W := by rw [hW]; (repeat (first | exact Below.refl _ _ | assumption | (refine Below.setCell ?_ (by first | (simp; done) | (simp; omega) | omega) _) | (refine Below.drew ?_) | (refine below_drewN ?_ _) | (refine Below.alloc ?_ (by first | (simp; done) | (simp; omega) | omega) _) | (refine Below.trans ?_ (Below.mono (by assumption) (by first | (simp; done) | (simp; omega) | omega)))))
  have A0 : Blk W w.heap.size [.int .i64 0] := by rw [hW]; first | exact Blk.new _ _ _ _ rfl | exact (Blk.new _ _ _ _ rfl).alloc _
  have I0 : Blk W (w.heap.size + 1) [.bool false] := by rw [hW]; exact Blk.new _ _ _ _ (by simp)
  have H1 := Lib.hid (And.intro (HH.out.1.past B) (And.intro (HH.out.2.past B) (And.intro A0 (And.intro I0 B))))
  clear hW B A0 I0 HH
  go_upto_region 4 with (first | (go_at_call 79; refine (ready_no _ H1.out.1 hst).mono ?_; rintro e w2 ⟨rfl, hb⟩; have H2 := Lib.hid (And.intro (H1.out.1.past hb) (And.intro (H1.out.2.1.past hb) (And.intro (H1.out.2.2.1.past hb) (And.intro (H1.out.2.2.2.1.past hb) (H1.out.2.2.2.2.trans (hb.mono H1.out.2.2.2.2.size)))))); clear hb H1))
  have h := H2.out.1; have hr := H2.out.2.1
  have s6 := h.kS.c 6 _ rfl; have sl := h.kS.lt; have b0 := h.kB.c 0 _ rfl; have bl := h.kB.lt; have r3 := hr.c 3 _ rfl; have rl := hr.lt
  clear h hr
  go_wp2_with fail
  refine wp_loop_rounds 2 ?_
  go_wp2_with (first | (go_at_call 119; refine (take_first _ _ _ _ _ (by omega) H2.out.2.2.2.1 H2.out.2.2.1).mono ?_; rintro e w3 ⟨rfl, hi, ha, hsz, hb⟩; have i0 := hi.c 0 _ rfl; have a0 := ha.c 0 _ rfl; have il := hi.lt; have al := ha.lt; have HB := Lib.hid (H2.out.2.2.2.2.trans (hb w.heap.size (by omega) (by omega) H2.out.2.2.2.2.size)); clear hi ha hsz hb s6 sl b0 bl r3 rl H2) | (simp only [rounds_succ]))
  go_quiet (fail)
  go_wp2_with fail
  go_ret2
  have hb := HB.out
  refine ⟨rfl, ?_⟩
  (repeat (first | exact Below.refl _ _ | assumption | (refine Below.setCell ?_ (by first | (simp; done) | (simp; omega) | omega) _) | (refine Below.drew ?_) | (refine below_drewN ?_ _) | (refine Below.alloc ?_ (by first | (simp; done) | (simp; omega) | omega) _) | (refine Below.trans ?_ (Below.mono (by assumption) (by first | (simp; done) | (simp; omega) | omega)))))
set_option maxRecDepth 100000 in
set_option maxHeartbeats 1600000 in
theorem next_no {ps gw gm gs gf gb : Nat} {now st fl : Int} {rv : Value} (w : World) (h : SimW w ps gw gm gs gf gb now st fl (.pointer none) rv) (hst : (st != 0) = true) :
    Calls Tryd.prog 82 #[.pointer (some ⟨ps, 0, none⟩)] w fun e w' => e = .returned (.tuple #[.int .i64 0, .bool false]) ∧ Below w.heap.size w w' := by
  have HH := Lib.hid h
  clear h
  go_enter Tryd.func82, Tryd.ntmps82
  go_upto_region 3 with fail
  refine wp_world (fun W hW => ?_)
  have B : Below w.heap.size w W := by rw [hW]; (repeat (first | exact Below.refl _ _ | assumption | (refine Below.setCell ?_ (by first | (simp; done) | (simp; omega) | omega) _) | (refine Below.drew ?_) | (refine below_drewN ?_ _) | (refine Below.alloc ?_ (by first | (simp; done) | (simp; omega) | omega) _) | (refine Below.trans ?_ (Below.mono (by assumption) (by first | (simp; done) | (simp; omega) | omega)))))
  have A0 : Blk W w.heap.size [.int .i64 0] := by rw [hW]; first | exact Blk.new _ _ _ _ rfl | exact (Blk.new _ _ _ _ rfl).alloc _
  have I0 : Blk W (w.heap.size + 1) [.bool false] := by rw [hW]; exact Blk.new _ _ _ _ (by simp)
  have H1 := Lib.hid (And.intro (HH.out.past B) (And.intro A0 (And.intro I0 B)))
  clear hW B A0 I0 HH
  go_upto_region 4 with (first | (go_at_call 79; refine (ready_no _ H1.out.1 hst).mono ?_; rintro e w2 ⟨rfl, hb⟩; have H2 := Lib.hid (And.intro (H1.out.1.past hb) (And.intro (H1.out.2.1.past hb) (And.intro (H1.out.2.2.1.past hb) (H1.out.2.2.2.trans (hb.mono H1.out.2.2.2.size))))); clear hb H1))
  have h := H2.out.1
  have s6 := h.kS.c 6 _ rfl; have sl := h.kS.lt; have b0 := h.kB.c 0 _ rfl; have bl := h.kB.lt; have i0 := H2.out.2.2.1.c 0 _ rfl; have il := H2.out.2.2.1.lt; have a0 := H2.out.2.1.c 0 _ rfl; have al := H2.out.2.1.lt
  clear h
  go_wp2_with fail
  refine wp_loop_rounds 2 ?_
  go_wp2_with (simp only [rounds_succ])
  go_quiet (fail)
  go_wp2_with (simp only [rounds_succ])
  go_quiet (fail)
  go_wp2_with fail
  go_ret2
  have hb := H2.out.2.2.2
  refine ⟨rfl, ?_⟩
  (repeat (first | exact Below.refl _ _ | assumption | (refine Below.setCell ?_ (by first | (simp; done) | (simp; omega) | omega) _) | (refine Below.drew ?_) | (refine below_drewN ?_ _) | (refine Below.alloc ?_ (by first | (simp; done) | (simp; omega) | omega) _) | (refine Below.trans ?_ (Below.mono (by assumption) (by first | (simp; done) | (simp; omega) | omega)))))
end Go.Proofs.YtcdcfkgdgimmcaaDoor

namespace Go.Proofs.YtcdcfkgdgimmcaaDoor
open Go Go.RowKit
theorem infoRun : (Tryd.prog.info? 105).map (fun i => (i.zero, i.size, i.bytes)) = some (some (.agg #[.int .i64 0, .int .i64 0, .int .i64 0, .int .i64 0, .bool false]), 5, 40) := by kernel_rfl
theorem Blk.grown {w V w' : World} {n : Nat} {vs : List Value} (k : Blk w n vs) (hV : Below w.heap.size w V) (hg : V.grownBy w' none) : Blk w' n vs :=
  (k.past hV).block hg.size (hg.block n (k.past hV).lt (by simp))
theorem SimW.grown {w V w' : World} {ps gw gm gs gf gb : Nat} {now st fl : Int} {bz rv : Value} (k : SimW w ps gw gm gs gf gb now st fl bz rv) (hV : Below w.heap.size w V) (hg : V.grownBy w' none) : SimW w' ps gw gm gs gf gb now st fl bz rv :=
  ⟨k.kS.grown hV hg, k.kW.grown hV hg, k.kM.grown hV hg, k.kT.grown hV hg, k.kF.grown hV hg, k.kB.grown hV hg⟩
theorem end_app {ps gw gm gs gf gb pr base gr cap : Nat} {W5 V W6 : World} {N H : Nat} (hs : SimW W5 ps gw gm gs gf gb 2 1 0 (.pointer none) (.slice none 0 0)) (hr : Blk W5 pr [.int .i64 0, .int .i64 0, .int .i64 0, .int .i64 2, .bool false])
    (hV : Below W5.heap.size W5 V) (hown : W6.ownsRow base 105 5 (.slice (some ⟨gr, 0, none⟩) N cap) N [.int .i64 0, .int .i64 0, .int .i64 0, .int .i64 2, .bool false]) (hgrow : V.grownBy W6 none) (hat : none = some gr ∨ gr = H) (hH : H = W5.heap.size + 1) (hb : base ≤ W5.heap.size) :
    SimW W6 ps gw gm gs gf gb 2 1 0 (.pointer none) (.slice none 0 0) ∧ Blk W6 pr [.int .i64 0, .int .i64 0, .int .i64 0, .int .i64 2, .bool false] ∧ W6.cell? ⟨gr, 3, none⟩ = some (.int .i64 2) ∧ gr = W5.heap.size + 1 ∧ Below base W5 W6 ∧ W5.heap.size ≤ W6.heap.size := by
  have hz := hV.size
  refine ⟨hs.grown hV hgrow, hr.grown hV hgrow, ?_, ?_, ?_, ?_⟩
  · have h := hown.cells (g := gr) rfl 3 (.int .i64 2) rfl
    rw [Go.WideShapes.add_plain] at h
    exact h
  · rcases hat with h | h
    · cases h
    · rw [h, hH]
  · exact (hV.mono hb).grown hgrow (by omega) (fun j hj => by cases hj)
  · have := hgrow.size; omega
set_option maxRecDepth 100000 in
set_option maxHeartbeats 3200000 in
theorem end_done {ps gw gm gs gf gb pr base : Nat} (w : World) (h : SimW w ps gw gm gs gf gb 2 1 0 (.pointer (some ⟨pr, 0, none⟩)) (.slice none 0 0)) (hr : Blk w pr [.int .i64 0, .int .i64 0, .int .i64 0, .int .i64 2, .bool false]) (hd : ps ≠ gb ∧ ps ≠ gs ∧ gw ≠ gb ∧ gw ≠ gs ∧ gm ≠ gb ∧ gm ≠ gs ∧ gs ≠ gb ∧ gf ≠ gb ∧ gf ≠ gs ∧ pr ≠ ps ∧ pr ≠ gs ∧ pr ≠ gb ∧ gw ≠ ps ∧ gm ≠ ps ∧ gs ≠ ps ∧ gf ≠ ps) (hb : base ≤ gs ∧ base ≤ gb ∧ base ≤ ps ∧ base ≤ w.heap.size) :
    Calls Tryd.prog 78 #[.pointer (some ⟨ps, 0, none⟩)] w fun e w' => e = .returned (.tuple #[]) ∧ ∃ gr c, SimW w' ps gw gm gs gf gb 2 2 0 (.pointer none) (.slice (some ⟨gr, 0, none⟩) 1 c) ∧ w'.cell? ⟨gr, 3, none⟩ = some (.int .i64 2) ∧ w.heap.size < gr ∧ Below base w w' := by
  obtain ⟨i0, hi0, hz0, hz1, hz2⟩ := info_parts infoRun
  have HH := Lib.hid (And.intro h hr)
  have HD := Lib.hid hd; have HB := Lib.hid hb
  have s6 := h.kS.c 6 _ rfl; have s3 := h.kS.c 3 _ rfl; have sl := h.kS.lt; have b0 := h.kB.c 0 _ rfl; have bl := h.kB.lt; have bf := h.kB.f; have r3 := hr.c 3 _ rfl; have rl := hr.lt
  clear h hr hd hb
  go_enter Tryd.func78, Tryd.ntmps78
  go_wp2_with fail
  refine wp_loop_rounds 2 ?_
  go_wp2_with (simp only [rounds_succ])
  go_quiet (fail)
  go_upto_region 5 with fail
  refine wp_world (fun W5 hW5 => ?_)
  obtain ⟨d1, d2, d3, d4, d5, d6, d7, d8, d9, d10, d11, d12, d13, d14, d15, d16⟩ := HD.out
  have HW5 : SimW W5 ps gw gm gs gf gb 2 1 0 (.pointer none) (.slice none 0 0) ∧ Blk W5 pr [.int .i64 0, .int .i64 0, .int .i64 0, .int .i64 2, .bool false] ∧ W5.heap.size = w.heap.size := by
    rw [hW5]
    have h := HH.out.1.draw nq
    have hr := HH.out.2.drewN nq
    exact ⟨⟨h.kS.far _ _ (by simp; omega), h.kW.far _ _ (by simp; omega), h.kM.far _ _ (by simp; omega), h.kT.far _ _ (by simp; omega), h.kF.far _ _ (by simp; omega), h.kB.set 0 _⟩, hr.far _ _ (by simp; omega), by simp⟩
  have HB5 := Lib.hid (show Below base w W5 by rw [hW5]; have hb := HB.out; exact ((below_drewN (Below.refl _ _) nq).setCell (by simp; omega) _))
  have H5 := Lib.hid HW5
  clear hW5 HW5 s6 s3 sl b0 bl bf r3 rl HH
  have h := H5.out.1; have hr := H5.out.2.1
  have s7 := h.kS.c 7 _ rfl; have sl := h.kS.lt; have sf := h.kS.f; have r0 := hr.c 0 _ rfl; have r1 := hr.c 1 _ rfl; have r2 := hr.c 2 _ rfl; have r3 := hr.c 3 _ rfl; have r4 := hr.c 4 _ rfl; have rl := hr.lt
  clear h hr
  have hbs := HB5.out.size
  go_region_law (refine step_append_lies _ rfl (.tmp 37) (.tmp 41) 86 rfl base 105 i0 (.agg #[.int .i64 0, .int .i64 0, .int .i64 0, .int .i64 0, .bool false]) 5 40 Tryd.underlying86 hi0 hz0 hz1 hz2 rfl (by decide) (.slice none 0 0) 0 [] rfl (World.ownsRow_nil _ _ _ _) ⟨W5.heap.size, 0, none⟩ 1 1 [.int .i64 0, .int .i64 0, .int .i64 0, .int .i64 2, .bool false] rfl rfl (by intro j u hj; match j, hj with | 0, hj => (simp at hj; subst hj; simp [Addr.add]) | 1, hj => (simp at hj; subst hj; simp [Addr.add]) | 2, hj => (simp at hj; subst hj; simp [Addr.add]) | 3, hj => (simp at hj; subst hj; simp [Addr.add]) | 4, hj => (simp at hj; subst hj; simp [Addr.add])) (by intro u hu; simp at hu; rcases hu with rfl | rfl | rfl | rfl | rfl <;> rfl) (by decide) (by unfold maxLen; omega) (by omega) (by have := HB5.out.size; have := HB.out; have := H5.out.2.2; simp; omega) _ rfl ?_; intro gr cap W6 hown hgrow hat hlt; have HS6 := Lib.hid (end_app H5.out.1 H5.out.2.1 (by (repeat (first | exact Below.refl _ _ | assumption | (refine Below.setCell ?_ (by first | (simp; done) | (simp; omega) | omega) _) | (refine Below.drew ?_) | (refine below_drewN ?_ _) | (refine Below.alloc ?_ (by first | (simp; done) | (simp; omega) | omega) _) | (refine Below.trans ?_ (Below.mono (by assumption) (by first | (simp; done) | (simp; omega) | omega)))))) hown hgrow hat (by simp) (by have := HB.out; have := H5.out.2.2; omega)); have s7' := HS6.out.1.kS.c 7 _ rfl; have sl' := HS6.out.1.kS.lt; have sf' := HS6.out.1.kS.f; clear hown hgrow hat)
  all_goals
    go_upto_region 6 with fail
    refine wp_world (fun W7 hW7 => ?_)
    have hbb := HB.out; have h5 := H5.out.2.2
    have HW7 : SimW W7 ps gw gm gs gf gb 2 1 0 (.pointer none) (.slice (some ⟨gr, 0, none⟩) 1 cap) ∧ Blk W7 pr [.int .i64 0, .int .i64 0, .int .i64 0, .int .i64 2, .bool false] ∧ W7.cell? ⟨gr, 3, none⟩ = some (.int .i64 2) ∧ W7.heap.size = W6.heap.size ∧ gr = W5.heap.size + 1 := by
      obtain ⟨hS6, hR6, hc3, hgr, -, -⟩ := HS6.out
      have l1 := H5.out.1.kS.lt
      rw [hW7]
      refine ⟨⟨hS6.kS.set 7 _, hS6.kW.far _ _ (by simp; omega), hS6.kM.far _ _ (by simp; omega), hS6.kT.far _ _ (by simp; omega), hS6.kF.far _ _ (by simp; omega), hS6.kB.far _ _ (by simp; omega)⟩, hR6.far _ _ (by simp; omega), ?_, by simp, hgr⟩
      rw [World.cell?_setCell_other _ _ _ _ (by intro e; have := congrArg Addr.block e; simp at this; omega)]
      exact hc3
    have HB7 := Lib.hid (show Below base w W7 by rw [hW7]; exact (HB5.out.trans HS6.out.2.2.2.2.1).setCell (by simp; omega) _)
    have HZ7 := Lib.hid (show w.heap.size ≤ W7.heap.size by have := HS6.out.2.2.2.2.2; have := HW7.2.2.2.1; omega)
    have H7 := Lib.hid HW7
    have hl5 := H5.out.1.kT.lt
    clear hW7 HW7 s7 sl sf r0 r1 r2 r3 r4 rl s7' sl' sf' HS6 HB5 hbs
    have h := H7.out.1; have hr := H7.out.2.1
    have s4 := h.kS.c 4 _ rfl; have sl := h.kS.lt; have r0 := hr.c 0 _ rfl; have rl := hr.lt; have t0 := h.kT.c 0 _ rfl; have tl := h.kT.lt; have tf := h.kT.f
    clear h hr
    refine wp_region_loose 9 (fun _ _ _ => False) (by kernel_rfl) (by kernel_rfl) ?_
    simp only [List.take_succ_cons, List.take_zero, List.drop_succ_cons, List.drop_zero]
    iterate 9 (refine loose_wanted rfl (fun K hK => ?_); go_simp; refine hK _ ?_; clear hK K)
    refine loose_nil (fun w8 hb8 => ?_)
    have H8 := Lib.hid (And.intro (H7.out.1.past hb8) (And.intro (H7.out.2.1.past hb8) (And.intro (hb8.cell (p := ⟨gr, 3, none⟩) (cell_lt H7.out.2.2.1) |>.trans H7.out.2.2.1) (And.intro hb8.size hb8))))
    clear hb8 s4 sl r0 rl t0 tl tf
    have h := H8.out.1; have hr := H8.out.2.1
    have t0 := h.kT.c 0 _ rfl; have tl := h.kT.lt; have tf := h.kT.f; have r4 := hr.c 4 _ rfl; have rl := hr.lt
    clear h hr
    go_wp2_with (simp only [rounds_succ])
    go_end0
    refine ⟨rfl, gr, cap, ⟨?_, ?_, ?_, ?_, ?_, ?_⟩, ?_, ?_, ?_⟩
    · exact H8.out.1.kS.far _ _ (by simp; omega)
    · exact H8.out.1.kW.far _ _ (by simp; omega)
    · exact H8.out.1.kM.far _ _ (by simp; omega)
    · exact H8.out.1.kT.set 0 _
    · exact H8.out.1.kF.far _ _ (by simp; omega)
    · exact H8.out.1.kB.far _ _ (by simp; omega)
    · have := H7.out.2.2.2.2
      rw [World.cell?_setCell_other _ _ _ _ (by intro e; have := congrArg Addr.block e; simp at this; omega)]
      exact H8.out.2.2.1
    · have := H7.out.2.2.2.2; have := H5.out.2.2; omega
    · exact ((HB7.out.trans (H8.out.2.2.2.2.mono (by have := HZ7.out; omega))).setCell (by simp; omega) _)
end Go.Proofs.YtcdcfkgdgimmcaaDoor

namespace Go.Proofs.YtcdcfkgdgimmcaaDoor
open Go Go.RowKit
theorem Insert_one (gr c : Nat) (f : Value) (w : World) : Calls Tryd.prog 147 #[.slice (some ⟨gr, 0, none⟩) 1 c, .int .i64 0, .int .i64 1, f] w fun e w' => e = .returned (.tuple #[]) ∧ w' = w := by
  go_enter Tryd.func147, Tryd.ntmps147
  go_wp2_with fail
  refine wp_loop_rounds 1 ?_
  go_wp2_with (simp only [rounds_succ])
  go_end0
  exact ⟨rfl, rfl⟩
theorem Stable_one (gr c : Nat) (f : Value) (w : World) : Calls Tryd.prog 120 #[.slice (some ⟨gr, 0, none⟩) 1 c, .int .i64 1, f] w fun e w' => e = .returned (.tuple #[]) ∧ w' = w := by
  go_enter Tryd.func120, Tryd.ntmps120
  go_wp2_with fail
  refine wp_loop_rounds 1 ?_
  go_wp2_with (first | (go_at_call 147; refine (Insert_one _ _ _ _).mono ?_; rintro e w' ⟨rfl, rfl⟩) | (simp only [rounds_succ]))
  refine wp_loop_rounds 1 ?_
  go_wp2_with (simp only [rounds_succ])
  go_end0
  exact ⟨rfl, rfl⟩
theorem Sort_one (gr c : Nat) (f : Value) (w : World) : Calls Tryd.prog 83 #[.slice (some ⟨gr, 0, none⟩) 1 c, f] w fun e w' => e = .returned (.tuple #[]) ∧ w' = w := by
  go_enter Tryd.func83, Tryd.ntmps83
  go_wp2_with (first | (go_at_call 120; refine (Stable_one _ _ _ _).mono ?_; rintro e w' ⟨rfl, rfl⟩))
  go_end0
  exact ⟨rfl, rfl⟩
set_option maxRecDepth 100000 in
set_option maxHeartbeats 3200000 in
theorem Simulate_one (gw gm : Nat) (w : World) (hw : Blk w gw [.int .i64 2, .int .i64 0, .slice none 0 0]) (hm : Blk w gm [.int .i64 1, .slice none 0 0]) :
    Calls Tryd.prog 44 #[.slice (some ⟨gw, 0, none⟩) 1 1, .slice (some ⟨gm, 0, none⟩) 1 1, .int .i64 1] w fun e w' => (∃ gr c, e = .returned (.tuple #[.slice (some ⟨gr, 0, none⟩) 1 c, .int .i64 0]) ∧ w'.cell? ⟨gr, 3, none⟩ = some (.int .i64 2)) ∧ Below w.heap.size w w' := by
  have HH := Lib.hid (And.intro hw hm)
  clear hw hm
  have hmk : ∀ w : World, (Instr.makeSlice 82 (.int .i64 1) (.int .i64 1)).run Tryd.prog w = .ok (.slice (some ⟨w.heap.size, 0, none⟩) 1 1) (w.alloc (.cells #[.int .i64 0] 3)) := fun w => by
    have h := run_make_row' (P := Tryd.prog) 82 3 (.int .i64 0) 8 Tryd.underlying82 (by kernel_rfl) rfl .i64 .i64 1 (by omega) (by omega) w
    rw [show madeCells #[Value.int .i64 0] 1 = #[.int .i64 0] by kernel_rfl] at h
    exact h
  have hmk2 : ∀ w : World, (Instr.makeSlice 138 (.int .i64 1) (.int .i64 1)).run Tryd.prog w = .ok (.slice (some ⟨w.heap.size, 0, none⟩) 1 1) (w.alloc (.cells #[.pointer none] 175)) := fun w => by
    have h := run_make_row' (P := Tryd.prog) 138 175 (.pointer none) 8 Tryd.underlying138 (by kernel_rfl) rfl .i64 .i64 1 (by omega) (by omega) w
    rw [show madeCells #[Value.pointer none] 1 = #[.pointer none] by kernel_rfl] at h
    exact h
  go_enter Tryd.func44, Tryd.ntmps44
  go_upto_region 9 with (first | (go_at_call 76; refine (CheckWork_one _ _ HH.out.1).mono ?_; rintro e w1 ⟨rfl, hb⟩; have H1 := Lib.hid (And.intro (HH.out.1.past hb) (And.intro (HH.out.2.past hb) hb)); clear hb HH) | (go_at_call 77; refine (CheckMachines_one _ _ H1.out.2.1).mono ?_; rintro e w2 ⟨rfl, hb⟩; have H2 := Lib.hid (And.intro (H1.out.1.past hb) (And.intro (H1.out.2.1.past hb) (H1.out.2.2.trans (hb.mono H1.out.2.2.size)))); clear hb H1))
  go_cut [10] (fun s10 wx => ∃ ps gs gf gb, s10 = .pointer (some ⟨ps, 0, none⟩) ∧ SimW wx ps gw gm gs gf gb 0 0 0 (.pointer none) (.slice none 0 0) ∧ w2.heap.size ≤ gs ∧ w2.heap.size ≤ gf ∧ w2.heap.size ≤ gb ∧ w2.heap.size ≤ ps ∧ gs ≠ gb ∧ gf ≠ gb ∧ gf ≠ gs ∧ ps ≠ gs ∧ ps ≠ gf ∧ ps ≠ gb ∧ Below w2.heap.size w2 wx)
  case first =>
    go_region
    all_goals (go_wp2_with fail; go_meet)
    all_goals
      refine ⟨_, _, _, _, rfl, ⟨(Blk.new _ _ _ _ (by simp)).past (Below.drew (Below.refl _ _)), H2.out.1.past (by (repeat (first | exact Below.refl _ _ | assumption | (refine Below.setCell ?_ (by first | (simp; done) | (simp; omega) | omega) _) | (refine Below.drew ?_) | (refine below_drewN ?_ _) | (refine Below.alloc ?_ (by first | (simp; done) | (simp; omega) | omega) _) | (refine Below.trans ?_ (Below.mono (by assumption) (by first | (simp; done) | (simp; omega) | omega)))))), H2.out.2.1.past (by (repeat (first | exact Below.refl _ _ | assumption | (refine Below.setCell ?_ (by first | (simp; done) | (simp; omega) | omega) _) | (refine Below.drew ?_) | (refine below_drewN ?_ _) | (refine Below.alloc ?_ (by first | (simp; done) | (simp; omega) | omega) _) | (refine Below.trans ?_ (Below.mono (by assumption) (by first | (simp; done) | (simp; omega) | omega)))))), ?_, ?_, ?_⟩, by omega, by omega, by omega, by omega, by omega, by omega, by omega, by omega, by omega, by omega, by (repeat (first | exact Below.refl _ _ | assumption | (refine Below.setCell ?_ (by first | (simp; done) | (simp; omega) | omega) _) | (refine Below.drew ?_) | (refine below_drewN ?_ _) | (refine Below.alloc ?_ (by first | (simp; done) | (simp; omega) | omega) _) | (refine Below.trans ?_ (Below.mono (by assumption) (by first | (simp; done) | (simp; omega) | omega)))))⟩
      · first | (refine ((((Blk.new _ _ _ _ ?_).alloc _).alloc _).alloc _).past (Below.drew (Below.refl _ _)); simp; done) | (refine (((Blk.new _ _ _ _ ?_).alloc _).alloc _).past (Below.drew (Below.refl _ _)); simp; done) | (refine ((Blk.new _ _ _ _ ?_).alloc _).past (Below.drew (Below.refl _ _)); simp; done)
      · first | (refine ((((Blk.new _ _ _ _ ?_).alloc _).alloc _).alloc _).past (Below.drew (Below.refl _ _)); simp; done) | (refine (((Blk.new _ _ _ _ ?_).alloc _).alloc _).past (Below.drew (Below.refl _ _)); simp; done) | (refine ((Blk.new _ _ _ _ ?_).alloc _).past (Below.drew (Below.refl _ _)); simp; done)
      · first | (refine ((((Blk.new _ _ _ _ ?_).alloc _).alloc _).alloc _).past (Below.drew (Below.refl _ _)); simp; done) | (refine (((Blk.new _ _ _ _ ?_).alloc _).alloc _).past (Below.drew (Below.refl _ _)); simp; done) | (refine ((Blk.new _ _ _ _ ?_).alloc _).past (Below.drew (Below.refl _ _)); simp; done)
  case rest =>
    obtain ⟨ps, gs, gf, gb, rfl, hS, hN⟩ := hcut
    have hlw := hS.kW.lt; have hlm := hS.kM.lt
    have hww := H2.out.1.lt; have hmm := H2.out.2.1.lt
    have HS := Lib.hid hS
    have HN := Lib.hid (show (ps ≠ gb ∧ ps ≠ gs ∧ gw ≠ gb ∧ gw ≠ gs ∧ gm ≠ gb ∧ gm ≠ gs ∧ gs ≠ gb ∧ gf ≠ gb ∧ gf ≠ gs) ∧ (gw ≠ ps ∧ gm ≠ ps ∧ gs ≠ ps ∧ gf ≠ ps) ∧ w.heap.size ≤ gs ∧ w.heap.size ≤ gb ∧ w.heap.size ≤ ps ∧ w.heap.size ≤ wc.heap.size ∧ Below w.heap.size w wc by
      obtain ⟨h1, h2, h3, h4, h5, h6, h7, h8, h9, h10, hB⟩ := hN
      have hz := H2.out.2.2.size
      have hz2 := hB.size
      exact ⟨by omega, by omega, by omega, by omega, by omega, by omega, H2.out.2.2.trans (hB.mono hz)⟩)
    clear hS hN hlw hlm hww hmm H2
    go_wp2_with fail
    refine wp_loop_rounds 3 ?_
    go_wp2_with (simp only [rounds_succ])
    refine (end_none _ HS.out).mono ?_
    rintro e w3 ⟨rfl, hb⟩
    have H3 := Lib.hid (And.intro (HS.out.past hb) (HN.out.2.2.2.2.2.2.trans (hb.mono HN.out.2.2.2.2.2.1)))
    clear hb HS
    go_wp2_with fail
    refine wp_loop_rounds 2 ?_
    go_wp2_with (first | (go_at_call 79; refine (ready_yes _ H3.out.1).mono ?_; rintro e w4 ⟨rfl, hb⟩; have H4 := Lib.hid (And.intro (H3.out.1.past hb) (H3.out.2.trans (hb.mono H3.out.2.size))); clear hb H3) | (go_at_call 80; refine (free_yes _ H4.out.1).mono ?_; rintro e w5 ⟨rfl, hb⟩; have H5 := Lib.hid (And.intro (H4.out.1.past hb) (H4.out.2.trans (hb.mono H4.out.2.size))); clear hb H4) | (go_at_call 81; refine (begin_one _ H5.out.1 HN.out.1).mono ?_; rintro e w6 ⟨rfl, pr, hS6, hR6, hpr, hsz, hB⟩; have H6 := Lib.hid (And.intro hS6 (And.intro hR6 (And.intro hpr (H5.out.2.trans (hB w.heap.size HN.out.2.2.1 HN.out.2.2.2.1 H5.out.2.size))))); have HL5 := Lib.hid (And.intro H5.out.1.kS.lt (And.intro H5.out.1.kT.lt H5.out.1.kB.lt)); clear hS6 hR6 hpr hsz hB H5) | (go_at_call 79; refine (ready_no _ H6.out.1 (by decide)).mono ?_; rintro e w7 ⟨rfl, hb⟩; have H7 := Lib.hid (And.intro (H6.out.1.past hb) (And.intro (H6.out.2.1.past hb) (And.intro H6.out.2.2.1 (H6.out.2.2.2.trans (hb.mono H6.out.2.2.2.size))))); clear hb H6) | (simp only [rounds_succ]))
    refine (next_run _ H7.out.1 H7.out.2.1 (by decide)).mono ?_
    rintro e w8 ⟨rfl, hb⟩
    have H8 := Lib.hid (And.intro (H7.out.1.past hb) (And.intro (H7.out.2.1.past hb) (And.intro H7.out.2.2.1 (H7.out.2.2.2.trans (hb.mono H7.out.2.2.2.size)))))
    clear hb H7
    have s3 := H8.out.1.kS.c 3 _ rfl; have sl := H8.out.1.kS.lt; have sf := H8.out.1.kS.f
    go_wp2_with (simp only [rounds_succ])
    refine calls_world (fun W9 hW9 => ?_)
    have HDD := Lib.hid (show ps ≠ gb ∧ ps ≠ gs ∧ gw ≠ gb ∧ gw ≠ gs ∧ gm ≠ gb ∧ gm ≠ gs ∧ gs ≠ gb ∧ gf ≠ gb ∧ gf ≠ gs ∧ pr ≠ ps ∧ pr ≠ gs ∧ pr ≠ gb ∧ gw ≠ ps ∧ gm ≠ ps ∧ gs ≠ ps ∧ gf ≠ ps by
      obtain ⟨⟨d1, d2, d3, d4, d5, d6, d7, d8, d9⟩, ⟨d10, d11, d12, d13⟩, -⟩ := HN.out
      obtain ⟨l1, l2, l3⟩ := HL5.out
      have := H8.out.2.2.1
      exact ⟨d1, d2, d3, d4, d5, d6, d7, d8, d9, by omega, by omega, by omega, d10, d11, d12, d13⟩)
    have HW9 : SimW W9 ps gw gm gs gf gb 2 1 0 (.pointer (some ⟨pr, 0, none⟩)) (.slice none 0 0) ∧ Blk W9 pr [.int .i64 0, .int .i64 0, .int .i64 0, .int .i64 2, .bool false] ∧ Below w.heap.size w W9 := by
      obtain ⟨h, hr, -, hB⟩ := H8.out
      have hd := HDD.out
      have hn := HN.out.2.2.2.2.1
      rw [hW9]
      exact ⟨⟨h.kS.set 3 _, h.kW.far _ _ (by simp; omega), h.kM.far _ _ (by simp; omega), h.kT.far _ _ (by simp; omega), h.kF.far _ _ (by simp; omega), h.kB.far _ _ (by simp; omega)⟩, hr.far _ _ (by simp; omega), hB.setCell (by simpa using hn) _⟩
    have H9 := Lib.hid HW9
    clear hW9 HW9 s3 sl sf H8
    refine (end_done (base := w.heap.size) _ H9.out.1 H9.out.2.1 HDD.out ⟨HN.out.2.2.1, HN.out.2.2.2.1, HN.out.2.2.2.2.1, H9.out.2.2.size⟩).mono ?_
    rintro e w10 ⟨rfl, gr, c, hS, hc3, hsz, hB⟩
    have H10 := Lib.hid (And.intro hS (And.intro hc3 (H9.out.2.2.trans hB)))
    have hgp : gr ≠ ps := by have := H9.out.1.kS.lt; omega
    have HGP := Lib.hid hgp
    clear hgp
    clear hS hc3 hsz hB H9
    go_wp2_with fail
    refine wp_loop_rounds 1 ?_
    go_wp2_with (first | (go_at_call 79; refine (ready_no _ H10.out.1 (by decide)).mono ?_; rintro e w11 ⟨rfl, hb⟩; have H11 := Lib.hid (And.intro (H10.out.1.past hb) (And.intro ((hb.cell (p := ⟨gr, 3, none⟩) (cell_lt H10.out.2.1)).trans H10.out.2.1) (H10.out.2.2.trans (hb.mono H10.out.2.2.size)))); clear hb H10) | (simp only [rounds_succ]))
    refine (next_no _ H11.out.1 (by decide)).mono ?_
    rintro e w12 ⟨rfl, hb⟩
    have H12 := Lib.hid (And.intro (H11.out.1.past hb) (And.intro ((hb.cell (p := ⟨gr, 3, none⟩) (cell_lt H11.out.2.1)).trans H11.out.2.1) (H11.out.2.2.trans (hb.mono H11.out.2.2.size))))
    clear hb H11
    have s3 := H12.out.1.kS.c 3 _ rfl; have s7 := H12.out.1.kS.c 7 _ rfl; have sl := H12.out.1.kS.lt; have sf := H12.out.1.kS.f
    go_wp2_with (first | (go_at_call 83; refine (Sort_one _ _ _ _).mono ?_; rintro e w' ⟨rfl, rfl⟩) | (simp only [rounds_succ]))
    go_ret2
    refine ⟨⟨gr, c, rfl, ?_⟩, H12.out.2.2.setCell (by have := HN.out; simp; omega) _⟩
    have hgp := HGP.out
    rw [World.cell?_setCell_other _ _ _ _ (by intro e; have := congrArg Addr.block e; simp at this; omega)]
    exact H12.out.2.1
theorem farms_any (w : World) : Calls Tryd.prog 9 #[] w fun e w' => e = .returned (.bool true) ∧ Below w.heap.size w w' := by
  go_enter Tryd.func9, Tryd.ntmps9
  go_wp2_with fail
  refine calls_world (fun W hW => ?_)
  have B : Below w.heap.size w W := by rw [hW]; (repeat (first | exact Below.refl _ _ | assumption | (refine Below.setCell ?_ (by first | (simp; done) | (simp; omega) | omega) _) | (refine Below.drew ?_) | (refine below_drewN ?_ _) | (refine Below.alloc ?_ (by first | (simp; done) | (simp; omega) | omega) _) | (refine Below.trans ?_ (Below.mono (by assumption) (by first | (simp; done) | (simp; omega) | omega)))))
  have A0 : Blk W w.heap.size [.int .i64 2, .int .i64 0, .slice none 0 0] := by rw [hW]; exact (Blk.new _ _ _ _ rfl).alloc _
  have A1 : Blk W (w.heap.size + 1) [.int .i64 1, .slice none 0 0] := by rw [hW]; exact Blk.new _ _ _ _ (by simp)
  have HB := Lib.hid B
  clear hW B
  refine (Simulate_one _ _ _ A0 A1).mono ?_
  rintro e w2 ⟨⟨gr, c, rfl, hc⟩, hb⟩
  have hl := cell_lt hc; simp only at hl
  have HB2 := Lib.hid (HB.out.trans (hb.mono HB.out.size))
  clear hb HB A0 A1
  go_wp2_with fail
  go_ret
  exact ⟨by simp, HB2.out⟩
end Go.Proofs.YtcdcfkgdgimmcaaDoor
