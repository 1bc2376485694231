/- Work on machines at the one work and the one machine that dyelaw2.farms asks for: what writes. Conditions: what each theorem names. -/
import Derived.Test.YtcdcfkgdgimmcaaGreatDoorFaB
namespace Go.Proofs.YtcdcfkgdgimmcaaGreatDoor
open Go Go.RowKit
theorem SimW.draw {w : World} {ps gw gm gs gf gb : Nat} {now st fl : Int} {bz rv : Value} (k : SimW w ps gw gm gs gf gb now st fl bz rv) (n : Nat) : SimW (w.drewN n) ps gw gm gs gf gb now st fl bz rv := k.past (below_drewN (Below.refl _ _) n)
set_option maxRecDepth 100000 in
set_option maxHeartbeats 1600000 in
theorem begin_one {ps gw gm gs gf gb : Nat} {fl : Int} {rv : Value} (w : World) (h : SimW w ps gw gm gs gf gb 0 0 fl (.pointer none) rv) (hd : ps ≠ gb ∧ ps ≠ gs ∧ gw ≠ gb ∧ gw ≠ gs ∧ gm ≠ gb ∧ gm ≠ gs ∧ gs ≠ gb ∧ gf ≠ gb ∧ gf ≠ gs) :
    Calls Tryz.prog 42 #[.pointer (some ⟨ps, 0, none⟩), .int .i64 0, .int .i64 0] w fun e w' => e = .returned (.tuple #[]) ∧ ∃ pr, SimW w' ps gw gm gs gf gb 0 1 fl (.pointer (some ⟨pr, 0, none⟩)) rv ∧ Blk w' pr [.int .i64 0, .int .i64 0, .int .i64 0, .int .i64 2, .bool false] ∧ w.heap.size ≤ pr ∧ w.heap.size ≤ w'.heap.size ∧ ∀ N, N ≤ gs → N ≤ gb → N ≤ w.heap.size → Below N w w' := by
  have HH := Lib.hid h
  have HD := Lib.hid hd
  have s1 := h.kS.c 1 _ rfl; have sl := h.kS.lt; have m0 := h.kM.c 0 _ rfl; have m1 := h.kM.c 1 _ rfl; have ml := h.kM.lt
  clear h hd
  go_enter Tryz.func42, Tryz.ntmps42
  go_upto_region 1 with fail
  refine wp_world (fun W hW => ?_)
  have B : Below w.heap.size w W := by rw [hW]; (repeat (first | exact Below.refl _ _ | assumption | (refine Below.setCell ?_ (by first | (simp; done) | (simp; omega) | omega) _) | (refine Below.drew ?_) | (refine below_drewN ?_ _) | (refine Below.alloc ?_ (by first | (simp; done) | (simp; omega) | omega) _) | (refine Below.trans ?_ (Below.mono (by assumption) (by first | (simp; done) | (simp; omega) | omega)))))
  have HW := Lib.hid (HH.out.past B)
  have HB := Lib.hid B
  have Q0 : Blk W w.heap.size [.int .i64 1, .slice none 0 0] := by rw [hW]; exact Blk.new _ _ _ _ rfl
  have HQ := Lib.hid Q0
  clear hW B s1 sl m0 m1 ml HH
  have hsz := HB.out.size
  have h := HW.out
  have s0 := h.kS.c 0 _ rfl; have s3 := h.kS.c 3 _ rfl; have sl := h.kS.lt; have w0 := h.kW.c 0 _ rfl; have wl := h.kW.lt; have q0 := Q0.c 0 _ rfl; have ql := Q0.lt
  clear h Q0
  refine wp_region_loose 27 (fun _ _ _ => False) (by kernel_rfl) (by kernel_rfl) ?_
  simp only [List.take_succ_cons, List.take_zero, List.drop_succ_cons, List.drop_zero]
  iterate 27 (refine loose_wanted rfl (fun K hK => ?_); go_simp; refine hK _ ?_; clear hK K)
  refine loose_nil (fun w5 hb5 => ?_)
  have H5 := Lib.hid (HW.out.past hb5); have HQ5 := Lib.hid (HQ.out.past hb5); have HB5 := Lib.hid (HB.out.trans (hb5.mono HB.out.size))
  clear hb5 s0 s3 sl w0 wl q0 ql HW HQ HB hsz
  go_upto_region 2 with fail
  refine wp_world (fun W6 hW6 => ?_)
  have B6 : Below w5.heap.size w5 W6 := by rw [hW6]; (repeat (first | exact Below.refl _ _ | assumption | (refine Below.setCell ?_ (by first | (simp; done) | (simp; omega) | omega) _) | (refine Below.drew ?_) | (refine below_drewN ?_ _) | (refine Below.alloc ?_ (by first | (simp; done) | (simp; omega) | omega) _) | (refine Below.trans ?_ (Below.mono (by assumption) (by first | (simp; done) | (simp; omega) | omega)))))
  have R6 : Blk W6 w5.heap.size [.int .i64 0, .int .i64 0, .int .i64 0, .int .i64 2, .bool false] := by rw [hW6]; exact Blk.new _ _ _ _ rfl
  have hlt := And.intro H5.out.kS.lt (And.intro H5.out.kW.lt (And.intro H5.out.kM.lt (And.intro H5.out.kT.lt (And.intro H5.out.kF.lt H5.out.kB.lt))))
  have hpr : w.heap.size ≤ w5.heap.size := HB5.out.size
  have H6 := Lib.hid (H5.out.past B6); have HQ6 := Lib.hid (HQ5.out.past B6); have HB6 := Lib.hid (HB5.out.trans (B6.mono HB5.out.size)); have HR6 := Lib.hid R6
  clear hW6 B6 R6 H5 HQ5 HB5
  generalize w5.heap.size = pr at *
  have HL := Lib.hid hlt; have HP := Lib.hid hpr
  clear hlt hpr
  have h := H6.out
  have s4 := h.kS.c 4 _ rfl; have s6 := h.kS.c 6 _ rfl; have sl := h.kS.lt; have t0 := h.kT.c 0 _ rfl; have tl := h.kT.lt; have tf := h.kT.f; have b0 := h.kB.c 0 _ rfl; have bl := h.kB.lt; have bf := h.kB.f
  have q1 := HQ6.out.c 1 _ rfl; have ql := HQ6.out.lt
  obtain ⟨d1, d2, d3, d4, d5, d6, d7, d8, d9⟩ := HD.out
  have d1' := Ne.symm d1; have d2' := Ne.symm d2; have d7' := Ne.symm d7
  clear h
  go_wp2_with fail
  refine wp_loop_rounds 1 ?_
  go_wp2_with (simp only [rounds_succ])
  go_end0
  have h := H6.out
  have hsz := HB6.out.size
  refine ⟨rfl, pr, ⟨(h.kS.far _ _ (by simp; omega)).far _ _ (by simp; omega), (h.kW.far _ _ (by simp; omega)).far _ _ (by simp; omega), (h.kM.far _ _ (by simp; omega)).far _ _ (by simp; omega), (h.kT.far _ _ (by simp; omega)).set 0 _, (h.kF.far _ _ (by simp; omega)).far _ _ (by simp; omega), (h.kB.set 0 _).far _ _ (by simp; omega)⟩, ?_, HP.out, by simpa [World.setCell] using hsz, fun N h1 h2 h3 => ?_⟩
  · have hl := HL.out
    exact (HR6.out.far _ _ (by simp; omega)).far _ _ (by simp; omega)
  · exact ((HB6.out.mono h3).setCell (by simpa using h2) _).setCell (by simpa using h1) _
end Go.Proofs.YtcdcfkgdgimmcaaGreatDoor
