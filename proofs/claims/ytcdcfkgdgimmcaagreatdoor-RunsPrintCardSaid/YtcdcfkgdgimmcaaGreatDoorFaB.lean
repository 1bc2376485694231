/- Work on machines at the one work and the one machine that dyelaw2.farms asks for: the steps. Conditions: what each theorem names. -/
import Derived.Test.YtcdcfkgdgimmcaaGreatDoorFaA
namespace Go.Proofs.YtcdcfkgdgimmcaaGreatDoor
open Go Go.RowKit
/-- What stands of a simulation of one work on one machine. -/
structure SimW (w : World) (ps gw gm gs gf gb : Nat) (now st fl : Int) (bz rv : Value) : Prop where
  kS : Blk w ps [.slice (some ⟨gw, 0, none⟩) 1 1, .slice (some ⟨gm, 0, none⟩) 1 1, .int .i64 1, .int .i64 now, .slice (some ⟨gs, 0, none⟩) 1 1, .slice (some ⟨gf, 0, none⟩) 1 1, .slice (some ⟨gb, 0, none⟩) 1 1, rv]
  kW : Blk w gw [.int .i64 2, .int .i64 0, .slice none 0 0]
  kM : Blk w gm [.int .i64 1, .slice none 0 0]
  kT : Blk w gs [.int .i64 st]
  kF : Blk w gf [.int .i64 fl]
  kB : Blk w gb [bz]
theorem SimW.past {w w' : World} {ps gw gm gs gf gb : Nat} {now st fl : Int} {bz rv : Value} (k : SimW w ps gw gm gs gf gb now st fl bz rv) (h : Below w.heap.size w w') : SimW w' ps gw gm gs gf gb now st fl bz rv :=
  ⟨k.kS.past h, k.kW.past h, k.kM.past h, k.kT.past h, k.kF.past h, k.kB.past h⟩
theorem ContainsFuncI_nil (f : Value) (w : World) : Calls Tryz.prog 58 #[.slice none 0 0, f] w fun e w' => e = .returned (.bool false) ∧ w' = w := by
  go_enter Tryz.func58, Tryz.ntmps58
  go_wp2
  refine wp_loop_rounds 1 ?_
  go_wp2_with (simp only [rounds_succ])
  go_ret
  exact ⟨rfl, rfl⟩
theorem upAt_one {ps gw gm gs gf gb : Nat} {now st fl : Int} {bz rv : Value} (w : World) (h : SimW w ps gw gm gs gf gb now st fl bz rv) :
    Calls Tryz.prog 60 #[.pointer (some ⟨ps, 0, none⟩), .int .i64 0] w fun e w' => e = .returned (.int .i64 now) ∧ w' = w := by
  have s1 := h.kS.c 1 _ rfl; have s3 := h.kS.c 3 _ rfl; have sl := h.kS.lt; have m1 := h.kM.c 1 _ rfl; have ml := h.kM.lt
  clear h
  go_enter Tryz.func60, Tryz.ntmps60
  go_wp2_with fail
  refine wp_loop_rounds 1 ?_
  go_wp2_with (simp only [rounds_succ])
  go_ret
  exact ⟨rfl, rfl⟩
/-- Nothing ends where nothing runs. -/
theorem end_none {ps gw gm gs gf gb : Nat} {now st fl : Int} {rv : Value} (w : World) (h : SimW w ps gw gm gs gf gb now st fl (.pointer none) rv) :
    Calls Tryz.prog 39 #[.pointer (some ⟨ps, 0, none⟩)] w fun e w' => e = .returned (.tuple #[]) ∧ Below w.heap.size w w' := by
  have s6 := h.kS.c 6 _ rfl; have sl := h.kS.lt; have b0 := h.kB.c 0 _ rfl; have bl := h.kB.lt
  clear h
  go_enter Tryz.func39, Tryz.ntmps39
  go_wp2_with fail
  refine wp_loop_rounds 2 ?_
  go_wp2_with (simp only [rounds_succ])
  go_quiet (fail)
  go_wp2_with (simp only [rounds_succ])
  go_end0
  exact ⟨rfl, by (repeat (first | exact Below.refl _ _ | assumption | (refine Below.setCell ?_ (by first | (simp; done) | (simp; omega) | omega) _) | (refine Below.drew ?_) | (refine below_drewN ?_ _) | (refine Below.alloc ?_ (by first | (simp; done) | (simp; omega) | omega) _) | (refine Below.trans ?_ (Below.mono (by assumption) (by first | (simp; done) | (simp; omega) | omega)))))⟩
theorem ready_yes {ps gw gm gs gf gb : Nat} {now fl : Int} {bz rv : Value} (w : World) (h : SimW w ps gw gm gs gf gb now 0 fl bz rv) :
    Calls Tryz.prog 40 #[.pointer (some ⟨ps, 0, none⟩)] w fun e w' => e = .returned (.int .i64 0) ∧ Below w.heap.size w w' := by
  have s0 := h.kS.c 0 _ rfl; have s4 := h.kS.c 4 _ rfl; have sl := h.kS.lt; have t0 := h.kT.c 0 _ rfl; have tl := h.kT.lt; have w0 := h.kW.c 0 _ rfl; have w1 := h.kW.c 1 _ rfl; have w2 := h.kW.c 2 _ rfl; have wl := h.kW.lt
  clear h
  go_enter Tryz.func40, Tryz.ntmps40
  go_wp2_with fail
  refine wp_loop_rounds 2 ?_
  go_wp2_with (first | (go_at_call 58; refine (ContainsFuncI_nil _ _).mono ?_; rintro e w' ⟨rfl, rfl⟩) | (simp only [rounds_succ]))
  go_quiet (fail)
  go_wp2_with (simp only [rounds_succ])
  go_ret
  refine ⟨rfl, ?_⟩
  (repeat (first | exact Below.refl _ _ | assumption | (refine Below.setCell ?_ (by first | (simp; done) | (simp; omega) | omega) _) | (refine Below.drew ?_) | (refine below_drewN ?_ _) | (refine Below.alloc ?_ (by first | (simp; done) | (simp; omega) | omega) _) | (refine Below.trans ?_ (Below.mono (by assumption) (by first | (simp; done) | (simp; omega) | omega)))))
theorem ready_no {ps gw gm gs gf gb : Nat} {now st fl : Int} {bz rv : Value} (w : World) (h : SimW w ps gw gm gs gf gb now st fl bz rv) (hst : (st != 0) = true) :
    Calls Tryz.prog 40 #[.pointer (some ⟨ps, 0, none⟩)] w fun e w' => e = .returned (.int .i64 (-1)) ∧ Below w.heap.size w w' := by
  have s0 := h.kS.c 0 _ rfl; have s4 := h.kS.c 4 _ rfl; have sl := h.kS.lt; have t0 := h.kT.c 0 _ rfl; have tl := h.kT.lt; have w0 := h.kW.c 0 _ rfl; have w1 := h.kW.c 1 _ rfl; have w2 := h.kW.c 2 _ rfl; have wl := h.kW.lt
  clear h
  go_enter Tryz.func40, Tryz.ntmps40
  go_wp2_with fail
  refine wp_loop_rounds 2 ?_
  go_wp2_with (simp only [rounds_succ])
  go_ret
  refine ⟨rfl, ?_⟩
  (repeat (first | exact Below.refl _ _ | assumption | (refine Below.setCell ?_ (by first | (simp; done) | (simp; omega) | omega) _) | (refine Below.drew ?_) | (refine below_drewN ?_ _) | (refine Below.alloc ?_ (by first | (simp; done) | (simp; omega) | omega) _) | (refine Below.trans ?_ (Below.mono (by assumption) (by first | (simp; done) | (simp; omega) | omega)))))
set_option maxRecDepth 100000 in
theorem free_yes {ps gw gm gs gf gb : Nat} {now st fl : Int} {rv : Value} (w : World) (h : SimW w ps gw gm gs gf gb now st fl (.pointer none) rv) :
    Calls Tryz.prog 41 #[.pointer (some ⟨ps, 0, none⟩)] w fun e w' => e = .returned (.int .i64 0) ∧ Below w.heap.size w w' := by
  have HH := Lib.hid h
  have s1 := h.kS.c 1 _ rfl; have s3 := h.kS.c 3 _ rfl; have s6 := h.kS.c 6 _ rfl; have sl := h.kS.lt; have m0 := h.kM.c 0 _ rfl; have m1 := h.kM.c 1 _ rfl; have ml := h.kM.lt; have b0 := h.kB.c 0 _ rfl; have bl := h.kB.lt
  clear h
  go_enter Tryz.func41, Tryz.ntmps41
  go_wp2_with fail
  refine wp_loop_rounds 2 ?_
  go_wp2_with (simp only [rounds_succ])
  refine wp_world (fun W hW => ?_)
  have B : Below w.heap.size w W := by rw [hW]; (repeat (first | exact Below.refl _ _ | assumption | (refine Below.setCell ?_ (by first | (simp; done) | (simp; omega) | omega) _) | (refine Below.drew ?_) | (refine below_drewN ?_ _) | (refine Below.alloc ?_ (by first | (simp; done) | (simp; omega) | omega) _) | (refine Below.trans ?_ (Below.mono (by assumption) (by first | (simp; done) | (simp; omega) | omega)))))
  have HW := Lib.hid (HH.out.past B)
  have HB := Lib.hid B
  have q0 : W.cell? ⟨w.heap.size, 0, none⟩ = some (.int .i64 1) := (show Blk W w.heap.size [.int .i64 1, .slice none 0 0] by rw [hW]; exact Blk.new _ _ _ _ rfl).c 0 _ rfl
  have q1 := cell_lt q0; simp only at q1
  have h := HW.out
  have s1 := h.kS.c 1 _ rfl; have s3 := h.kS.c 3 _ rfl; have s6 := h.kS.c 6 _ rfl; have sl := h.kS.lt; have m0 := h.kM.c 0 _ rfl; have m1 := h.kM.c 1 _ rfl; have ml := h.kM.lt; have b0 := h.kB.c 0 _ rfl; have bl := h.kB.lt
  clear hW B h HH
  go_quiet ((go_at_call 60; exact Calls.quiet_of_same (upAt_one _ (HW.out.past (below_drewN (Below.refl _ _) _)))))
  go_wp2_with (simp only [rounds_succ])
  go_ret
  refine ⟨rfl, ?_⟩
  have hb := HB.out
  (repeat (first | exact Below.refl _ _ | assumption | (refine Below.setCell ?_ (by first | (simp; done) | (simp; omega) | omega) _) | (refine Below.drew ?_) | (refine below_drewN ?_ _) | (refine Below.alloc ?_ (by first | (simp; done) | (simp; omega) | omega) _) | (refine Below.trans ?_ (Below.mono (by assumption) (by first | (simp; done) | (simp; omega) | omega)))))
end Go.Proofs.YtcdcfkgdgimmcaaGreatDoor
