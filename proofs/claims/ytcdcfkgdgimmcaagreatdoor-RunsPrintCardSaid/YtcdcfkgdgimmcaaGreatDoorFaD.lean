/- Work on machines at the one work and the one machine that dyelaw2.farms asks for: the next time. Conditions: what each theorem names. -/
import Derived.Test.YtcdcfkgdgimmcaaGreatDoorFaC
namespace Go.Proofs.YtcdcfkgdgimmcaaGreatDoor
open Go Go.RowKit
theorem take_first (n a : Int) (pi pa : Nat) (w : World) (h : pi ≠ pa) (hi : Blk w pi [.bool false]) (ha : Blk w pa [.int .i64 a]) :
    Calls Tryz.prog 61 #[.int .i64 n, .pointer (some ⟨pi, 0, none⟩), .pointer (some ⟨pa, 0, none⟩)] w fun e w' => e = .returned (.tuple #[]) ∧ Blk w' pi [.bool true] ∧ Blk w' pa [.int .i64 n] ∧ w.heap.size ≤ w'.heap.size ∧ ∀ N, N ≤ pi → N ≤ pa → N ≤ w.heap.size → Below N w w' := by
  have HI := Lib.hid hi; have HA := Lib.hid ha
  have i0 := hi.c 0 _ rfl; have il := hi.lt; have if' := hi.f; have a0 := ha.c 0 _ rfl; have al := ha.lt; have af := ha.f
  have h' := Ne.symm h
  clear hi ha
  go_enter Tryz.func61, Tryz.ntmps61
  go_wp2_with fail
  go_end0
  exact ⟨rfl, (HI.out.far _ _ (by simp; omega)).set 0 _, (HA.out.set 0 _).far _ _ (by simp; omega), by simp [World.setCell], fun N h1 h2 h3 => (((Below.refl _ _).setCell (by simpa using h2) _).setCell (by simpa using h1) _)⟩
set_option maxRecDepth 100000 in
set_option maxHeartbeats 1600000 in
theorem next_run {ps gw gm gs gf gb pr : Nat} {st fl : Int} {rv : Value} (w : World) (h : SimW w ps gw gm gs gf gb 0 st fl (.pointer (some ⟨pr, 0, none⟩)) rv) (hr : Blk w pr [.int .i64 0, .int .i64 0, .int .i64 0, .int .i64 2, .bool false]) (hst : (st != 0) = true) :
    Calls Tryz.prog 43 #[.pointer (some ⟨ps, 0, none⟩)] w fun e w' => e = .returned (.tuple #[.int .i64 2, .bool true]) ∧ Below w.heap.size w w' := by
  have HH := Lib.hid (And.intro h hr)
  clear h hr
  go_enter Tryz.func43, Tryz.ntmps43
  go_upto_region 3 with fail
  refine wp_world (fun W hW => ?_)
  have B : Below w.heap.size w W := by rw [hW]; (repeat (first | exact Below.refl _ _ | assumption | (refine Below.setCell ?_ (by first | (simp; done) | (simp; omega) | omega) _) | (refine Below.drew ?_) | (refine below_drewN ?_ _) | (refine Below.alloc ?_ (by first | (simp; done) | (simp; omega) | omega) _) | (refine Below.trans ?_ (Below.mono (by assumption) (by first | (simp; done) | (simp; omega) | omega)))))
  have A0 : Blk W w.heap.size [.int .i64 0] := by rw [hW]; first | exact Blk.new _ _ _ _ rfl | exact (Blk.new _ _ _ _ rfl).alloc _
  have I0 : Blk W (w.heap.size + 1) [.bool false] := by rw [hW]; exact Blk.new _ _ _ _ (by simp)
  have H1 := Lib.hid (And.intro (HH.out.1.past B) (And.intro (HH.out.2.past B) (And.intro A0 (And.intro I0 B))))
  clear hW B A0 I0 HH
  go_upto_region 4 with (first | (go_at_call 40; refine (ready_no _ H1.out.1 hst).mono ?_; rintro e w2 ⟨rfl, hb⟩; have H2 := Lib.hid (And.intro (H1.out.1.past hb) (And.intro (H1.out.2.1.past hb) (And.intro (H1.out.2.2.1.past hb) (And.intro (H1.out.2.2.2.1.past hb) (H1.out.2.2.2.2.trans (hb.mono H1.out.2.2.2.2.size)))))); clear hb H1))
  have h := H2.out.1; have hr := H2.out.2.1
  have s6 := h.kS.c 6 _ rfl; have sl := h.kS.lt; have b0 := h.kB.c 0 _ rfl; have bl := h.kB.lt; have r3 := hr.c 3 _ rfl; have rl := hr.lt
  clear h hr
  go_wp2_with fail
  refine wp_loop_rounds 2 ?_
  go_wp2_with (first | (go_at_call 61; refine (take_first _ _ _ _ _ (by omega) H2.out.2.2.2.1 H2.out.2.2.1).mono ?_; rintro e w3 ⟨rfl, hi, ha, hsz, hb⟩; have i0 := hi.c 0 _ rfl; have a0 := ha.c 0 _ rfl; have il := hi.lt; have al := ha.lt; have HB := Lib.hid (H2.out.2.2.2.2.trans (hb w.heap.size (by omega) (by omega) H2.out.2.2.2.2.size)); clear hi ha hsz hb s6 sl b0 bl r3 rl H2) | (simp only [rounds_succ]))
  go_quiet (fail)
  go_wp2_with fail
  go_ret2
  have hb := HB.out
  refine ⟨rfl, ?_⟩
  (repeat (first | exact Below.refl _ _ | assumption | (refine Below.setCell ?_ (by first | (simp; done) | (simp; omega) | omega) _) | (refine Below.drew ?_) | (refine below_drewN ?_ _) | (refine Below.alloc ?_ (by first | (simp; done) | (simp; omega) | omega) _) | (refine Below.trans ?_ (Below.mono (by assumption) (by first | (simp; done) | (simp; omega) | omega)))))
set_option maxRecDepth 100000 in
set_option maxHeartbeats 1600000 in
theorem next_no {ps gw gm gs gf gb : Nat} {now st fl : Int} {rv : Value} (w : World) (h : SimW w ps gw gm gs gf gb now st fl (.pointer none) rv) (hst : (st != 0) = true) :
    Calls Tryz.prog 43 #[.pointer (some ⟨ps, 0, none⟩)] w fun e w' => e = .returned (.tuple #[.int .i64 0, .bool false]) ∧ Below w.heap.size w w' := by
  have HH := Lib.hid h
  clear h
  go_enter Tryz.func43, Tryz.ntmps43
  go_upto_region 3 with fail
  refine wp_world (fun W hW => ?_)
  have B : Below w.heap.size w W := by rw [hW]; (repeat (first | exact Below.refl _ _ | assumption | (refine Below.setCell ?_ (by first | (simp; done) | (simp; omega) | omega) _) | (refine Below.drew ?_) | (refine below_drewN ?_ _) | (refine Below.alloc ?_ (by first | (simp; done) | (simp; omega) | omega) _) | (refine Below.trans ?_ (Below.mono (by assumption) (by first | (simp; done) | (simp; omega) | omega)))))
  have A0 : Blk W w.heap.size [.int .i64 0] := by rw [hW]; first | exact Blk.new _ _ _ _ rfl | exact (Blk.new _ _ _ _ rfl).alloc _
  have I0 : Blk W (w.heap.size + 1) [.bool false] := by rw [hW]; exact Blk.new _ _ _ _ (by simp)
  have H1 := Lib.hid (And.intro (HH.out.past B) (And.intro A0 (And.intro I0 B)))
  clear hW B A0 I0 HH
  go_upto_region 4 with (first | (go_at_call 40; refine (ready_no _ H1.out.1 hst).mono ?_; rintro e w2 ⟨rfl, hb⟩; have H2 := Lib.hid (And.intro (H1.out.1.past hb) (And.intro (H1.out.2.1.past hb) (And.intro (H1.out.2.2.1.past hb) (H1.out.2.2.2.trans (hb.mono H1.out.2.2.2.size))))); clear hb H1))
  have h := H2.out.1
  have s6 := h.kS.c 6 _ rfl; have sl := h.kS.lt; have b0 := h.kB.c 0 _ rfl; have bl := h.kB.lt; have i0 := H2.out.2.2.1.c 0 _ rfl; have il := H2.out.2.2.1.lt; have a0 := H2.out.2.1.c 0 _ rfl; have al := H2.out.2.1.lt
  clear h
  go_wp2_with fail
  refine wp_loop_rounds 2 ?_
  go_wp2_with (simp only [rounds_succ])
  go_quiet (fail)
  go_wp2_with (simp only [rounds_succ])
  go_quiet (fail)
  go_wp2_with fail
  go_ret2
  have hb := H2.out.2.2.2
  refine ⟨rfl, ?_⟩
  (repeat (first | exact Below.refl _ _ | assumption | (refine Below.setCell ?_ (by first | (simp; done) | (simp; omega) | omega) _) | (refine Below.drew ?_) | (refine below_drewN ?_ _) | (refine Below.alloc ?_ (by first | (simp; done) | (simp; omega) | omega) _) | (refine Below.trans ?_ (Below.mono (by assumption) (by first | (simp; done) | (simp; omega) | omega)))))
end Go.Proofs.YtcdcfkgdgimmcaaGreatDoor
