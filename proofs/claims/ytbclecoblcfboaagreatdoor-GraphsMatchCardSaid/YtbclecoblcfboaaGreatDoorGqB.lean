/- How far an operation looks around: node.reach, dyelaw2.reach. Conditions: the numbers can be read. -/
import Derived.Test.YtbclecoblcfboaaGreatDoorGqA
namespace Go.Proofs.YtbclecoblcfboaaGreatDoor
open Go Go.RowKit
set_option maxRecDepth 100000 in
theorem rch_source (a : Option Addr) (c : Nat) (w : World) : Calls Tryz.prog 71 #[.string ⟨#[115, 111, 117, 114, 99, 101]⟩, .slice a 1 c] w fun e w' => e = .returned (.int .i64 (0)) ∧ Below w.heap.size w w' := by
  go_enter Tryz.func71, Tryz.ntmps71
  go_wp2_with fail
  go_ret
  exact ⟨rfl, by (repeat (first | exact Below.refl _ _ | assumption | (refine Below.setCell ?_ (by first | (simp; done) | (simp; omega) | omega) _) | (refine Below.drew ?_) | (refine below_drewN ?_ _) | (refine Below.alloc ?_ (by first | (simp; done) | (simp; omega) | omega) _) | (refine Below.trans ?_ (Below.mono (by assumption) (by first | (simp; done) | (simp; omega) | omega)))))⟩
set_option maxRecDepth 100000 in
theorem drch_source (a : Option Addr) (c : Nat) (ai ar : Option Addr) (ni ci nr cr : Nat) (w : World) : Calls Tryz.prog 49 #[.agg #[.string ⟨#[115, 111, 117, 114, 99, 101]⟩, .slice ai ni ci, .slice a 1 c, .slice ar nr cr]] w fun e w' => e = .returned (.int .i64 (0)) ∧ Below w.heap.size w w' := by
  go_enter Tryz.func49, Tryz.ntmps49
  go_wp2_with fail
  go_ret
  exact ⟨rfl, by (repeat (first | exact Below.refl _ _ | assumption | (refine Below.setCell ?_ (by first | (simp; done) | (simp; omega) | omega) _) | (refine Below.drew ?_) | (refine below_drewN ?_ _) | (refine Below.alloc ?_ (by first | (simp; done) | (simp; omega) | omega) _) | (refine Below.trans ?_ (Below.mono (by assumption) (by first | (simp; done) | (simp; omega) | omega)))))⟩
set_option maxRecDepth 100000 in
theorem rch_fill (a : Option Addr) (c : Nat) (w : World) : Calls Tryz.prog 71 #[.string ⟨#[102, 105, 108, 108]⟩, .slice a 0 c] w fun e w' => e = .returned (.int .i64 (0)) ∧ Below w.heap.size w w' := by
  go_enter Tryz.func71, Tryz.ntmps71
  go_wp2_with fail
  go_ret
  exact ⟨rfl, by (repeat (first | exact Below.refl _ _ | assumption | (refine Below.setCell ?_ (by first | (simp; done) | (simp; omega) | omega) _) | (refine Below.drew ?_) | (refine below_drewN ?_ _) | (refine Below.alloc ?_ (by first | (simp; done) | (simp; omega) | omega) _) | (refine Below.trans ?_ (Below.mono (by assumption) (by first | (simp; done) | (simp; omega) | omega)))))⟩
set_option maxRecDepth 100000 in
theorem drch_fill (a : Option Addr) (c : Nat) (ai ar : Option Addr) (ni ci nr cr : Nat) (w : World) : Calls Tryz.prog 49 #[.agg #[.string ⟨#[102, 105, 108, 108]⟩, .slice ai ni ci, .slice a 0 c, .slice ar nr cr]] w fun e w' => e = .returned (.int .i64 (0)) ∧ Below w.heap.size w w' := by
  go_enter Tryz.func49, Tryz.ntmps49
  go_wp2_with fail
  go_ret
  exact ⟨rfl, by (repeat (first | exact Below.refl _ _ | assumption | (refine Below.setCell ?_ (by first | (simp; done) | (simp; omega) | omega) _) | (refine Below.drew ?_) | (refine below_drewN ?_ _) | (refine Below.alloc ?_ (by first | (simp; done) | (simp; omega) | omega) _) | (refine Below.trans ?_ (Below.mono (by assumption) (by first | (simp; done) | (simp; omega) | omega)))))⟩
set_option maxRecDepth 100000 in
theorem rch_grade (a : Option Addr) (c : Nat) (w : World) : Calls Tryz.prog 71 #[.string ⟨#[103, 114, 97, 100, 101]⟩, .slice a 1 c] w fun e w' => e = .returned (.int .i64 (0)) ∧ Below w.heap.size w w' := by
  go_enter Tryz.func71, Tryz.ntmps71
  go_wp2_with fail
  go_ret
  exact ⟨rfl, by (repeat (first | exact Below.refl _ _ | assumption | (refine Below.setCell ?_ (by first | (simp; done) | (simp; omega) | omega) _) | (refine Below.drew ?_) | (refine below_drewN ?_ _) | (refine Below.alloc ?_ (by first | (simp; done) | (simp; omega) | omega) _) | (refine Below.trans ?_ (Below.mono (by assumption) (by first | (simp; done) | (simp; omega) | omega)))))⟩
set_option maxRecDepth 100000 in
theorem drch_grade (a : Option Addr) (c : Nat) (ai ar : Option Addr) (ni ci nr cr : Nat) (w : World) : Calls Tryz.prog 49 #[.agg #[.string ⟨#[103, 114, 97, 100, 101]⟩, .slice ai ni ci, .slice a 1 c, .slice ar nr cr]] w fun e w' => e = .returned (.int .i64 (0)) ∧ Below w.heap.size w w' := by
  go_enter Tryz.func49, Tryz.ntmps49
  go_wp2_with fail
  go_ret
  exact ⟨rfl, by (repeat (first | exact Below.refl _ _ | assumption | (refine Below.setCell ?_ (by first | (simp; done) | (simp; omega) | omega) _) | (refine Below.drew ?_) | (refine below_drewN ?_ _) | (refine Below.alloc ?_ (by first | (simp; done) | (simp; omega) | omega) _) | (refine Below.trans ?_ (Below.mono (by assumption) (by first | (simp; done) | (simp; omega) | omega)))))⟩
set_option maxRecDepth 100000 in
theorem rch_cube (a : Option Addr) (c : Nat) (w : World) : Calls Tryz.prog 71 #[.string ⟨#[99, 117, 98, 101]⟩, .slice a 2 c] w fun e w' => e = .returned (.int .i64 (0)) ∧ Below w.heap.size w w' := by
  go_enter Tryz.func71, Tryz.ntmps71
  go_wp2_with fail
  go_ret
  exact ⟨rfl, by (repeat (first | exact Below.refl _ _ | assumption | (refine Below.setCell ?_ (by first | (simp; done) | (simp; omega) | omega) _) | (refine Below.drew ?_) | (refine below_drewN ?_ _) | (refine Below.alloc ?_ (by first | (simp; done) | (simp; omega) | omega) _) | (refine Below.trans ?_ (Below.mono (by assumption) (by first | (simp; done) | (simp; omega) | omega)))))⟩
set_option maxRecDepth 100000 in
theorem drch_cube (a : Option Addr) (c : Nat) (ai ar : Option Addr) (ni ci nr cr : Nat) (w : World) : Calls Tryz.prog 49 #[.agg #[.string ⟨#[99, 117, 98, 101]⟩, .slice ai ni ci, .slice a 2 c, .slice ar nr cr]] w fun e w' => e = .returned (.int .i64 (0)) ∧ Below w.heap.size w w' := by
  go_enter Tryz.func49, Tryz.ntmps49
  go_wp2_with fail
  go_ret
  exact ⟨rfl, by (repeat (first | exact Below.refl _ _ | assumption | (refine Below.setCell ?_ (by first | (simp; done) | (simp; omega) | omega) _) | (refine Below.drew ?_) | (refine below_drewN ?_ _) | (refine Below.alloc ?_ (by first | (simp; done) | (simp; omega) | omega) _) | (refine Below.trans ?_ (Below.mono (by assumption) (by first | (simp; done) | (simp; omega) | omega)))))⟩
set_option maxRecDepth 100000 in
theorem rch_convert (a : Option Addr) (c : Nat) (w : World) : Calls Tryz.prog 71 #[.string ⟨#[99, 111, 110, 118, 101, 114, 116]⟩, .slice a 2 c] w fun e w' => e = .returned (.int .i64 (0)) ∧ Below w.heap.size w w' := by
  go_enter Tryz.func71, Tryz.ntmps71
  go_wp2_with fail
  go_ret
  exact ⟨rfl, by (repeat (first | exact Below.refl _ _ | assumption | (refine Below.setCell ?_ (by first | (simp; done) | (simp; omega) | omega) _) | (refine Below.drew ?_) | (refine below_drewN ?_ _) | (refine Below.alloc ?_ (by first | (simp; done) | (simp; omega) | omega) _) | (refine Below.trans ?_ (Below.mono (by assumption) (by first | (simp; done) | (simp; omega) | omega)))))⟩
set_option maxRecDepth 100000 in
theorem drch_convert (a : Option Addr) (c : Nat) (ai ar : Option Addr) (ni ci nr cr : Nat) (w : World) : Calls Tryz.prog 49 #[.agg #[.string ⟨#[99, 111, 110, 118, 101, 114, 116]⟩, .slice ai ni ci, .slice a 2 c, .slice ar nr cr]] w fun e w' => e = .returned (.int .i64 (0)) ∧ Below w.heap.size w w' := by
  go_enter Tryz.func49, Tryz.ntmps49
  go_wp2_with fail
  go_ret
  exact ⟨rfl, by (repeat (first | exact Below.refl _ _ | assumption | (refine Below.setCell ?_ (by first | (simp; done) | (simp; omega) | omega) _) | (refine Below.drew ?_) | (refine below_drewN ?_ _) | (refine Below.alloc ?_ (by first | (simp; done) | (simp; omega) | omega) _) | (refine Below.trans ?_ (Below.mono (by assumption) (by first | (simp; done) | (simp; omega) | omega)))))⟩
set_option maxRecDepth 100000 in
theorem rch_saturate (a : Option Addr) (c : Nat) (w : World) : Calls Tryz.prog 71 #[.string ⟨#[115, 97, 116, 117, 114, 97, 116, 101]⟩, .slice a 0 c] w fun e w' => e = .returned (.int .i64 (0)) ∧ Below w.heap.size w w' := by
  go_enter Tryz.func71, Tryz.ntmps71
  go_wp2_with fail
  go_ret
  exact ⟨rfl, by (repeat (first | exact Below.refl _ _ | assumption | (refine Below.setCell ?_ (by first | (simp; done) | (simp; omega) | omega) _) | (refine Below.drew ?_) | (refine below_drewN ?_ _) | (refine Below.alloc ?_ (by first | (simp; done) | (simp; omega) | omega) _) | (refine Below.trans ?_ (Below.mono (by assumption) (by first | (simp; done) | (simp; omega) | omega)))))⟩
set_option maxRecDepth 100000 in
theorem drch_saturate (a : Option Addr) (c : Nat) (ai ar : Option Addr) (ni ci nr cr : Nat) (w : World) : Calls Tryz.prog 49 #[.agg #[.string ⟨#[115, 97, 116, 117, 114, 97, 116, 101]⟩, .slice ai ni ci, .slice a 0 c, .slice ar nr cr]] w fun e w' => e = .returned (.int .i64 (0)) ∧ Below w.heap.size w w' := by
  go_enter Tryz.func49, Tryz.ntmps49
  go_wp2_with fail
  go_ret
  exact ⟨rfl, by (repeat (first | exact Below.refl _ _ | assumption | (refine Below.setCell ?_ (by first | (simp; done) | (simp; omega) | omega) _) | (refine Below.drew ?_) | (refine below_drewN ?_ _) | (refine Below.alloc ?_ (by first | (simp; done) | (simp; omega) | omega) _) | (refine Below.trans ?_ (Below.mono (by assumption) (by first | (simp; done) | (simp; omega) | omega)))))⟩
set_option maxRecDepth 100000 in
theorem rch_turn (a : Option Addr) (c : Nat) (w : World) : Calls Tryz.prog 71 #[.string ⟨#[116, 117, 114, 110]⟩, .slice a 0 c] w fun e w' => e = .returned (.int .i64 (0)) ∧ Below w.heap.size w w' := by
  go_enter Tryz.func71, Tryz.ntmps71
  go_wp2_with fail
  go_ret
  exact ⟨rfl, by (repeat (first | exact Below.refl _ _ | assumption | (refine Below.setCell ?_ (by first | (simp; done) | (simp; omega) | omega) _) | (refine Below.drew ?_) | (refine below_drewN ?_ _) | (refine Below.alloc ?_ (by first | (simp; done) | (simp; omega) | omega) _) | (refine Below.trans ?_ (Below.mono (by assumption) (by first | (simp; done) | (simp; omega) | omega)))))⟩
set_option maxRecDepth 100000 in
theorem drch_turn (a : Option Addr) (c : Nat) (ai ar : Option Addr) (ni ci nr cr : Nat) (w : World) : Calls Tryz.prog 49 #[.agg #[.string ⟨#[116, 117, 114, 110]⟩, .slice ai ni ci, .slice a 0 c, .slice ar nr cr]] w fun e w' => e = .returned (.int .i64 (0)) ∧ Below w.heap.size w w' := by
  go_enter Tryz.func49, Tryz.ntmps49
  go_wp2_with fail
  go_ret
  exact ⟨rfl, by (repeat (first | exact Below.refl _ _ | assumption | (refine Below.setCell ?_ (by first | (simp; done) | (simp; omega) | omega) _) | (refine Below.drew ?_) | (refine below_drewN ?_ _) | (refine Below.alloc ?_ (by first | (simp; done) | (simp; omega) | omega) _) | (refine Below.trans ?_ (Below.mono (by assumption) (by first | (simp; done) | (simp; omega) | omega)))))⟩
set_option maxRecDepth 100000 in
theorem rch_tone (a : Option Addr) (c : Nat) (w : World) : Calls Tryz.prog 71 #[.string ⟨#[116, 111, 110, 101]⟩, .slice a 1 c] w fun e w' => e = .returned (.int .i64 (0)) ∧ Below w.heap.size w w' := by
  go_enter Tryz.func71, Tryz.ntmps71
  go_wp2_with fail
  go_ret
  exact ⟨rfl, by (repeat (first | exact Below.refl _ _ | assumption | (refine Below.setCell ?_ (by first | (simp; done) | (simp; omega) | omega) _) | (refine Below.drew ?_) | (refine below_drewN ?_ _) | (refine Below.alloc ?_ (by first | (simp; done) | (simp; omega) | omega) _) | (refine Below.trans ?_ (Below.mono (by assumption) (by first | (simp; done) | (simp; omega) | omega)))))⟩
set_option maxRecDepth 100000 in
theorem drch_tone (a : Option Addr) (c : Nat) (ai ar : Option Addr) (ni ci nr cr : Nat) (w : World) : Calls Tryz.prog 49 #[.agg #[.string ⟨#[116, 111, 110, 101]⟩, .slice ai ni ci, .slice a 1 c, .slice ar nr cr]] w fun e w' => e = .returned (.int .i64 (0)) ∧ Below w.heap.size w w' := by
  go_enter Tryz.func49, Tryz.ntmps49
  go_wp2_with fail
  go_ret
  exact ⟨rfl, by (repeat (first | exact Below.refl _ _ | assumption | (refine Below.setCell ?_ (by first | (simp; done) | (simp; omega) | omega) _) | (refine Below.drew ?_) | (refine below_drewN ?_ _) | (refine Below.alloc ?_ (by first | (simp; done) | (simp; omega) | omega) _) | (refine Below.trans ?_ (Below.mono (by assumption) (by first | (simp; done) | (simp; omega) | omega)))))⟩
set_option maxRecDepth 100000 in
theorem rch_expose (a : Option Addr) (c : Nat) (w : World) : Calls Tryz.prog 71 #[.string ⟨#[101, 120, 112, 111, 115, 101]⟩, .slice a 0 c] w fun e w' => e = .returned (.int .i64 (0)) ∧ Below w.heap.size w w' := by
  go_enter Tryz.func71, Tryz.ntmps71
  go_wp2_with fail
  go_ret
  exact ⟨rfl, by (repeat (first | exact Below.refl _ _ | assumption | (refine Below.setCell ?_ (by first | (simp; done) | (simp; omega) | omega) _) | (refine Below.drew ?_) | (refine below_drewN ?_ _) | (refine Below.alloc ?_ (by first | (simp; done) | (simp; omega) | omega) _) | (refine Below.trans ?_ (Below.mono (by assumption) (by first | (simp; done) | (simp; omega) | omega)))))⟩
set_option maxRecDepth 100000 in
theorem drch_expose (a : Option Addr) (c : Nat) (ai ar : Option Addr) (ni ci nr cr : Nat) (w : World) : Calls Tryz.prog 49 #[.agg #[.string ⟨#[101, 120, 112, 111, 115, 101]⟩, .slice ai ni ci, .slice a 0 c, .slice ar nr cr]] w fun e w' => e = .returned (.int .i64 (0)) ∧ Below w.heap.size w w' := by
  go_enter Tryz.func49, Tryz.ntmps49
  go_wp2_with fail
  go_ret
  exact ⟨rfl, by (repeat (first | exact Below.refl _ _ | assumption | (refine Below.setCell ?_ (by first | (simp; done) | (simp; omega) | omega) _) | (refine Below.drew ?_) | (refine below_drewN ?_ _) | (refine Below.alloc ?_ (by first | (simp; done) | (simp; omega) | omega) _) | (refine Below.trans ?_ (Below.mono (by assumption) (by first | (simp; done) | (simp; omega) | omega)))))⟩
set_option maxRecDepth 100000 in
theorem rch_compress (a : Option Addr) (c : Nat) (w : World) : Calls Tryz.prog 71 #[.string ⟨#[99, 111, 109, 112, 114, 101, 115, 115]⟩, .slice a 0 c] w fun e w' => e = .returned (.int .i64 (0)) ∧ Below w.heap.size w w' := by
  go_enter Tryz.func71, Tryz.ntmps71
  go_wp2_with fail
  go_ret
  exact ⟨rfl, by (repeat (first | exact Below.refl _ _ | assumption | (refine Below.setCell ?_ (by first | (simp; done) | (simp; omega) | omega) _) | (refine Below.drew ?_) | (refine below_drewN ?_ _) | (refine Below.alloc ?_ (by first | (simp; done) | (simp; omega) | omega) _) | (refine Below.trans ?_ (Below.mono (by assumption) (by first | (simp; done) | (simp; omega) | omega)))))⟩
set_option maxRecDepth 100000 in
theorem drch_compress (a : Option Addr) (c : Nat) (ai ar : Option Addr) (ni ci nr cr : Nat) (w : World) : Calls Tryz.prog 49 #[.agg #[.string ⟨#[99, 111, 109, 112, 114, 101, 115, 115]⟩, .slice ai ni ci, .slice a 0 c, .slice ar nr cr]] w fun e w' => e = .returned (.int .i64 (0)) ∧ Below w.heap.size w w' := by
  go_enter Tryz.func49, Tryz.ntmps49
  go_wp2_with fail
  go_ret
  exact ⟨rfl, by (repeat (first | exact Below.refl _ _ | assumption | (refine Below.setCell ?_ (by first | (simp; done) | (simp; omega) | omega) _) | (refine Below.drew ?_) | (refine below_drewN ?_ _) | (refine Below.alloc ?_ (by first | (simp; done) | (simp; omega) | omega) _) | (refine Below.trans ?_ (Below.mono (by assumption) (by first | (simp; done) | (simp; omega) | omega)))))⟩
set_option maxRecDepth 100000 in
theorem rch_grain (a : Option Addr) (c : Nat) (w : World) : Calls Tryz.prog 71 #[.string ⟨#[103, 114, 97, 105, 110]⟩, .slice a 3 c] w fun e w' => e = .returned (.int .i64 (0)) ∧ Below w.heap.size w w' := by
  go_enter Tryz.func71, Tryz.ntmps71
  go_wp2_with fail
  go_ret
  exact ⟨rfl, by (repeat (first | exact Below.refl _ _ | assumption | (refine Below.setCell ?_ (by first | (simp; done) | (simp; omega) | omega) _) | (refine Below.drew ?_) | (refine below_drewN ?_ _) | (refine Below.alloc ?_ (by first | (simp; done) | (simp; omega) | omega) _) | (refine Below.trans ?_ (Below.mono (by assumption) (by first | (simp; done) | (simp; omega) | omega)))))⟩
set_option maxRecDepth 100000 in
theorem drch_grain (a : Option Addr) (c : Nat) (ai ar : Option Addr) (ni ci nr cr : Nat) (w : World) : Calls Tryz.prog 49 #[.agg #[.string ⟨#[103, 114, 97, 105, 110]⟩, .slice ai ni ci, .slice a 3 c, .slice ar nr cr]] w fun e w' => e = .returned (.int .i64 (0)) ∧ Below w.heap.size w w' := by
  go_enter Tryz.func49, Tryz.ntmps49
  go_wp2_with fail
  go_ret
  exact ⟨rfl, by (repeat (first | exact Below.refl _ _ | assumption | (refine Below.setCell ?_ (by first | (simp; done) | (simp; omega) | omega) _) | (refine Below.drew ?_) | (refine below_drewN ?_ _) | (refine Below.alloc ?_ (by first | (simp; done) | (simp; omega) | omega) _) | (refine Below.trans ?_ (Below.mono (by assumption) (by first | (simp; done) | (simp; omega) | omega)))))⟩
set_option maxRecDepth 100000 in
theorem rch_vignette (a : Option Addr) (c : Nat) (w : World) : Calls Tryz.prog 71 #[.string ⟨#[118, 105, 103, 110, 101, 116, 116, 101]⟩, .slice a 0 c] w fun e w' => e = .returned (.int .i64 (0)) ∧ Below w.heap.size w w' := by
  go_enter Tryz.func71, Tryz.ntmps71
  go_wp2_with fail
  go_ret
  exact ⟨rfl, by (repeat (first | exact Below.refl _ _ | assumption | (refine Below.setCell ?_ (by first | (simp; done) | (simp; omega) | omega) _) | (refine Below.drew ?_) | (refine below_drewN ?_ _) | (refine Below.alloc ?_ (by first | (simp; done) | (simp; omega) | omega) _) | (refine Below.trans ?_ (Below.mono (by assumption) (by first | (simp; done) | (simp; omega) | omega)))))⟩
set_option maxRecDepth 100000 in
theorem drch_vignette (a : Option Addr) (c : Nat) (ai ar : Option Addr) (ni ci nr cr : Nat) (w : World) : Calls Tryz.prog 49 #[.agg #[.string ⟨#[118, 105, 103, 110, 101, 116, 116, 101]⟩, .slice ai ni ci, .slice a 0 c, .slice ar nr cr]] w fun e w' => e = .returned (.int .i64 (0)) ∧ Below w.heap.size w w' := by
  go_enter Tryz.func49, Tryz.ntmps49
  go_wp2_with fail
  go_ret
  exact ⟨rfl, by (repeat (first | exact Below.refl _ _ | assumption | (refine Below.setCell ?_ (by first | (simp; done) | (simp; omega) | omega) _) | (refine Below.drew ?_) | (refine below_drewN ?_ _) | (refine Below.alloc ?_ (by first | (simp; done) | (simp; omega) | omega) _) | (refine Below.trans ?_ (Below.mono (by assumption) (by first | (simp; done) | (simp; omega) | omega)))))⟩
set_option maxRecDepth 100000 in
theorem rch_sharpen (a : Option Addr) (c : Nat) (w : World) : Calls Tryz.prog 71 #[.string ⟨#[115, 104, 97, 114, 112, 101, 110]⟩, .slice a 0 c] w fun e w' => e = .returned (.int .i64 (1)) ∧ Below w.heap.size w w' := by
  go_enter Tryz.func71, Tryz.ntmps71
  go_wp2_with fail
  go_ret
  exact ⟨rfl, by (repeat (first | exact Below.refl _ _ | assumption | (refine Below.setCell ?_ (by first | (simp; done) | (simp; omega) | omega) _) | (refine Below.drew ?_) | (refine below_drewN ?_ _) | (refine Below.alloc ?_ (by first | (simp; done) | (simp; omega) | omega) _) | (refine Below.trans ?_ (Below.mono (by assumption) (by first | (simp; done) | (simp; omega) | omega)))))⟩
set_option maxRecDepth 100000 in
theorem drch_sharpen (a : Option Addr) (c : Nat) (ai ar : Option Addr) (ni ci nr cr : Nat) (w : World) : Calls Tryz.prog 49 #[.agg #[.string ⟨#[115, 104, 97, 114, 112, 101, 110]⟩, .slice ai ni ci, .slice a 0 c, .slice ar nr cr]] w fun e w' => e = .returned (.int .i64 (1)) ∧ Below w.heap.size w w' := by
  go_enter Tryz.func49, Tryz.ntmps49
  go_wp2_with fail
  go_ret
  exact ⟨rfl, by (repeat (first | exact Below.refl _ _ | assumption | (refine Below.setCell ?_ (by first | (simp; done) | (simp; omega) | omega) _) | (refine Below.drew ?_) | (refine below_drewN ?_ _) | (refine Below.alloc ?_ (by first | (simp; done) | (simp; omega) | omega) _) | (refine Below.trans ?_ (Below.mono (by assumption) (by first | (simp; done) | (simp; omega) | omega)))))⟩
set_option maxRecDepth 100000 in
theorem rch_blur (a : Option Addr) (c : Nat) (i0 : Int) (w : World) (h : IntsAt 0 w a [i0]) : Calls Tryz.prog 71 #[.string ⟨#[98, 108, 117, 114]⟩, .slice a 1 c] w fun e w' => e = .returned (.int .i64 i0) ∧ Below w.heap.size w w' := by
  obtain ⟨b, off, rfl, hc⟩ := h.one (i := 0) rfl
  rw [Nat.add_zero] at hc
  have hl := cell_lt hc; simp only at hl
  go_enter Tryz.func71, Tryz.ntmps71
  go_wp2_with fail
  go_ret
  exact ⟨rfl, by (repeat (first | exact Below.refl _ _ | assumption | (refine Below.setCell ?_ (by first | (simp; done) | (simp; omega) | omega) _) | (refine Below.drew ?_) | (refine below_drewN ?_ _) | (refine Below.alloc ?_ (by first | (simp; done) | (simp; omega) | omega) _) | (refine Below.trans ?_ (Below.mono (by assumption) (by first | (simp; done) | (simp; omega) | omega)))))⟩
set_option maxRecDepth 100000 in
theorem drch_blur (a : Option Addr) (c : Nat) (ai ar : Option Addr) (ni ci nr cr : Nat) (i0 : Int) (w : World) (h : IntsAt 0 w a [i0]) : Calls Tryz.prog 49 #[.agg #[.string ⟨#[98, 108, 117, 114]⟩, .slice ai ni ci, .slice a 1 c, .slice ar nr cr]] w fun e w' => e = .returned (.int .i64 i0) ∧ Below w.heap.size w w' := by
  obtain ⟨b, off, rfl, hc⟩ := h.one (i := 0) rfl
  rw [Nat.add_zero] at hc
  have hl := cell_lt hc; simp only at hl
  go_enter Tryz.func49, Tryz.ntmps49
  go_wp2_with fail
  go_ret
  exact ⟨rfl, by (repeat (first | exact Below.refl _ _ | assumption | (refine Below.setCell ?_ (by first | (simp; done) | (simp; omega) | omega) _) | (refine Below.drew ?_) | (refine below_drewN ?_ _) | (refine Below.alloc ?_ (by first | (simp; done) | (simp; omega) | omega) _) | (refine Below.trans ?_ (Below.mono (by assumption) (by first | (simp; done) | (simp; omega) | omega)))))⟩
set_option maxRecDepth 100000 in
theorem rch_mix (a : Option Addr) (c : Nat) (w : World) : Calls Tryz.prog 71 #[.string ⟨#[109, 105, 120]⟩, .slice a 0 c] w fun e w' => e = .returned (.int .i64 (0)) ∧ Below w.heap.size w w' := by
  go_enter Tryz.func71, Tryz.ntmps71
  go_wp2_with fail
  go_ret
  exact ⟨rfl, by (repeat (first | exact Below.refl _ _ | assumption | (refine Below.setCell ?_ (by first | (simp; done) | (simp; omega) | omega) _) | (refine Below.drew ?_) | (refine below_drewN ?_ _) | (refine Below.alloc ?_ (by first | (simp; done) | (simp; omega) | omega) _) | (refine Below.trans ?_ (Below.mono (by assumption) (by first | (simp; done) | (simp; omega) | omega)))))⟩
set_option maxRecDepth 100000 in
theorem drch_mix (a : Option Addr) (c : Nat) (ai ar : Option Addr) (ni ci nr cr : Nat) (w : World) : Calls Tryz.prog 49 #[.agg #[.string ⟨#[109, 105, 120]⟩, .slice ai ni ci, .slice a 0 c, .slice ar nr cr]] w fun e w' => e = .returned (.int .i64 (0)) ∧ Below w.heap.size w w' := by
  go_enter Tryz.func49, Tryz.ntmps49
  go_wp2_with fail
  go_ret
  exact ⟨rfl, by (repeat (first | exact Below.refl _ _ | assumption | (refine Below.setCell ?_ (by first | (simp; done) | (simp; omega) | omega) _) | (refine Below.drew ?_) | (refine below_drewN ?_ _) | (refine Below.alloc ?_ (by first | (simp; done) | (simp; omega) | omega) _) | (refine Below.trans ?_ (Below.mono (by assumption) (by first | (simp; done) | (simp; omega) | omega)))))⟩
set_option maxRecDepth 100000 in
theorem rch_combine (a : Option Addr) (c : Nat) (w : World) : Calls Tryz.prog 71 #[.string ⟨#[99, 111, 109, 98, 105, 110, 101]⟩, .slice a 1 c] w fun e w' => e = .returned (.int .i64 (0)) ∧ Below w.heap.size w w' := by
  go_enter Tryz.func71, Tryz.ntmps71
  go_wp2_with fail
  go_ret
  exact ⟨rfl, by (repeat (first | exact Below.refl _ _ | assumption | (refine Below.setCell ?_ (by first | (simp; done) | (simp; omega) | omega) _) | (refine Below.drew ?_) | (refine below_drewN ?_ _) | (refine Below.alloc ?_ (by first | (simp; done) | (simp; omega) | omega) _) | (refine Below.trans ?_ (Below.mono (by assumption) (by first | (simp; done) | (simp; omega) | omega)))))⟩
set_option maxRecDepth 100000 in
theorem drch_combine (a : Option Addr) (c : Nat) (ai ar : Option Addr) (ni ci nr cr : Nat) (w : World) : Calls Tryz.prog 49 #[.agg #[.string ⟨#[99, 111, 109, 98, 105, 110, 101]⟩, .slice ai ni ci, .slice a 1 c, .slice ar nr cr]] w fun e w' => e = .returned (.int .i64 (0)) ∧ Below w.heap.size w w' := by
  go_enter Tryz.func49, Tryz.ntmps49
  go_wp2_with fail
  go_ret
  exact ⟨rfl, by (repeat (first | exact Below.refl _ _ | assumption | (refine Below.setCell ?_ (by first | (simp; done) | (simp; omega) | omega) _) | (refine Below.drew ?_) | (refine below_drewN ?_ _) | (refine Below.alloc ?_ (by first | (simp; done) | (simp; omega) | omega) _) | (refine Below.trans ?_ (Below.mono (by assumption) (by first | (simp; done) | (simp; omega) | omega)))))⟩
set_option maxRecDepth 100000 in
theorem rch_through (a : Option Addr) (c : Nat) (w : World) : Calls Tryz.prog 71 #[.string ⟨#[116, 104, 114, 111, 117, 103, 104]⟩, .slice a 0 c] w fun e w' => e = .returned (.int .i64 (0)) ∧ Below w.heap.size w w' := by
  go_enter Tryz.func71, Tryz.ntmps71
  go_wp2_with fail
  go_ret
  exact ⟨rfl, by (repeat (first | exact Below.refl _ _ | assumption | (refine Below.setCell ?_ (by first | (simp; done) | (simp; omega) | omega) _) | (refine Below.drew ?_) | (refine below_drewN ?_ _) | (refine Below.alloc ?_ (by first | (simp; done) | (simp; omega) | omega) _) | (refine Below.trans ?_ (Below.mono (by assumption) (by first | (simp; done) | (simp; omega) | omega)))))⟩
set_option maxRecDepth 100000 in
theorem drch_through (a : Option Addr) (c : Nat) (ai ar : Option Addr) (ni ci nr cr : Nat) (w : World) : Calls Tryz.prog 49 #[.agg #[.string ⟨#[116, 104, 114, 111, 117, 103, 104]⟩, .slice ai ni ci, .slice a 0 c, .slice ar nr cr]] w fun e w' => e = .returned (.int .i64 (0)) ∧ Below w.heap.size w w' := by
  go_enter Tryz.func49, Tryz.ntmps49
  go_wp2_with fail
  go_ret
  exact ⟨rfl, by (repeat (first | exact Below.refl _ _ | assumption | (refine Below.setCell ?_ (by first | (simp; done) | (simp; omega) | omega) _) | (refine Below.drew ?_) | (refine below_drewN ?_ _) | (refine Below.alloc ?_ (by first | (simp; done) | (simp; omega) | omega) _) | (refine Below.trans ?_ (Below.mono (by assumption) (by first | (simp; done) | (simp; omega) | omega)))))⟩
set_option maxRecDepth 100000 in
theorem rch_alpha (a : Option Addr) (c : Nat) (w : World) : Calls Tryz.prog 71 #[.string ⟨#[97, 108, 112, 104, 97]⟩, .slice a 0 c] w fun e w' => e = .returned (.int .i64 (0)) ∧ Below w.heap.size w w' := by
  go_enter Tryz.func71, Tryz.ntmps71
  go_wp2_with fail
  go_ret
  exact ⟨rfl, by (repeat (first | exact Below.refl _ _ | assumption | (refine Below.setCell ?_ (by first | (simp; done) | (simp; omega) | omega) _) | (refine Below.drew ?_) | (refine below_drewN ?_ _) | (refine Below.alloc ?_ (by first | (simp; done) | (simp; omega) | omega) _) | (refine Below.trans ?_ (Below.mono (by assumption) (by first | (simp; done) | (simp; omega) | omega)))))⟩
set_option maxRecDepth 100000 in
theorem drch_alpha (a : Option Addr) (c : Nat) (ai ar : Option Addr) (ni ci nr cr : Nat) (w : World) : Calls Tryz.prog 49 #[.agg #[.string ⟨#[97, 108, 112, 104, 97]⟩, .slice ai ni ci, .slice a 0 c, .slice ar nr cr]] w fun e w' => e = .returned (.int .i64 (0)) ∧ Below w.heap.size w w' := by
  go_enter Tryz.func49, Tryz.ntmps49
  go_wp2_with fail
  go_ret
  exact ⟨rfl, by (repeat (first | exact Below.refl _ _ | assumption | (refine Below.setCell ?_ (by first | (simp; done) | (simp; omega) | omega) _) | (refine Below.drew ?_) | (refine below_drewN ?_ _) | (refine Below.alloc ?_ (by first | (simp; done) | (simp; omega) | omega) _) | (refine Below.trans ?_ (Below.mono (by assumption) (by first | (simp; done) | (simp; omega) | omega)))))⟩
set_option maxRecDepth 100000 in
theorem rch_cover (a : Option Addr) (c : Nat) (w : World) : Calls Tryz.prog 71 #[.string ⟨#[99, 111, 118, 101, 114]⟩, .slice a 0 c] w fun e w' => e = .returned (.int .i64 (0)) ∧ Below w.heap.size w w' := by
  go_enter Tryz.func71, Tryz.ntmps71
  go_wp2_with fail
  go_ret
  exact ⟨rfl, by (repeat (first | exact Below.refl _ _ | assumption | (refine Below.setCell ?_ (by first | (simp; done) | (simp; omega) | omega) _) | (refine Below.drew ?_) | (refine below_drewN ?_ _) | (refine Below.alloc ?_ (by first | (simp; done) | (simp; omega) | omega) _) | (refine Below.trans ?_ (Below.mono (by assumption) (by first | (simp; done) | (simp; omega) | omega)))))⟩
set_option maxRecDepth 100000 in
theorem drch_cover (a : Option Addr) (c : Nat) (ai ar : Option Addr) (ni ci nr cr : Nat) (w : World) : Calls Tryz.prog 49 #[.agg #[.string ⟨#[99, 111, 118, 101, 114]⟩, .slice ai ni ci, .slice a 0 c, .slice ar nr cr]] w fun e w' => e = .returned (.int .i64 (0)) ∧ Below w.heap.size w w' := by
  go_enter Tryz.func49, Tryz.ntmps49
  go_wp2_with fail
  go_ret
  exact ⟨rfl, by (repeat (first | exact Below.refl _ _ | assumption | (refine Below.setCell ?_ (by first | (simp; done) | (simp; omega) | omega) _) | (refine Below.drew ?_) | (refine below_drewN ?_ _) | (refine Below.alloc ?_ (by first | (simp; done) | (simp; omega) | omega) _) | (refine Below.trans ?_ (Below.mono (by assumption) (by first | (simp; done) | (simp; omega) | omega)))))⟩
set_option maxRecDepth 100000 in
theorem rch_luma (a : Option Addr) (c : Nat) (w : World) : Calls Tryz.prog 71 #[.string ⟨#[108, 117, 109, 97]⟩, .slice a 0 c] w fun e w' => e = .returned (.int .i64 (0)) ∧ Below w.heap.size w w' := by
  go_enter Tryz.func71, Tryz.ntmps71
  go_wp2_with fail
  go_ret
  exact ⟨rfl, by (repeat (first | exact Below.refl _ _ | assumption | (refine Below.setCell ?_ (by first | (simp; done) | (simp; omega) | omega) _) | (refine Below.drew ?_) | (refine below_drewN ?_ _) | (refine Below.alloc ?_ (by first | (simp; done) | (simp; omega) | omega) _) | (refine Below.trans ?_ (Below.mono (by assumption) (by first | (simp; done) | (simp; omega) | omega)))))⟩
set_option maxRecDepth 100000 in
theorem drch_luma (a : Option Addr) (c : Nat) (ai ar : Option Addr) (ni ci nr cr : Nat) (w : World) : Calls Tryz.prog 49 #[.agg #[.string ⟨#[108, 117, 109, 97]⟩, .slice ai ni ci, .slice a 0 c, .slice ar nr cr]] w fun e w' => e = .returned (.int .i64 (0)) ∧ Below w.heap.size w w' := by
  go_enter Tryz.func49, Tryz.ntmps49
  go_wp2_with fail
  go_ret
  exact ⟨rfl, by (repeat (first | exact Below.refl _ _ | assumption | (refine Below.setCell ?_ (by first | (simp; done) | (simp; omega) | omega) _) | (refine Below.drew ?_) | (refine below_drewN ?_ _) | (refine Below.alloc ?_ (by first | (simp; done) | (simp; omega) | omega) _) | (refine Below.trans ?_ (Below.mono (by assumption) (by first | (simp; done) | (simp; omega) | omega)))))⟩
set_option maxRecDepth 100000 in
theorem rch_hue (a : Option Addr) (c : Nat) (w : World) : Calls Tryz.prog 71 #[.string ⟨#[104, 117, 101]⟩, .slice a 0 c] w fun e w' => e = .returned (.int .i64 (0)) ∧ Below w.heap.size w w' := by
  go_enter Tryz.func71, Tryz.ntmps71
  go_wp2_with fail
  go_ret
  exact ⟨rfl, by (repeat (first | exact Below.refl _ _ | assumption | (refine Below.setCell ?_ (by first | (simp; done) | (simp; omega) | omega) _) | (refine Below.drew ?_) | (refine below_drewN ?_ _) | (refine Below.alloc ?_ (by first | (simp; done) | (simp; omega) | omega) _) | (refine Below.trans ?_ (Below.mono (by assumption) (by first | (simp; done) | (simp; omega) | omega)))))⟩
set_option maxRecDepth 100000 in
theorem drch_hue (a : Option Addr) (c : Nat) (ai ar : Option Addr) (ni ci nr cr : Nat) (w : World) : Calls Tryz.prog 49 #[.agg #[.string ⟨#[104, 117, 101]⟩, .slice ai ni ci, .slice a 0 c, .slice ar nr cr]] w fun e w' => e = .returned (.int .i64 (0)) ∧ Below w.heap.size w w' := by
  go_enter Tryz.func49, Tryz.ntmps49
  go_wp2_with fail
  go_ret
  exact ⟨rfl, by (repeat (first | exact Below.refl _ _ | assumption | (refine Below.setCell ?_ (by first | (simp; done) | (simp; omega) | omega) _) | (refine Below.drew ?_) | (refine below_drewN ?_ _) | (refine Below.alloc ?_ (by first | (simp; done) | (simp; omega) | omega) _) | (refine Below.trans ?_ (Below.mono (by assumption) (by first | (simp; done) | (simp; omega) | omega)))))⟩
set_option maxRecDepth 100000 in
theorem rch_window (a : Option Addr) (c : Nat) (w : World) : Calls Tryz.prog 71 #[.string ⟨#[119, 105, 110, 100, 111, 119]⟩, .slice a 1 c] w fun e w' => e = .returned (.int .i64 (0)) ∧ Below w.heap.size w w' := by
  go_enter Tryz.func71, Tryz.ntmps71
  go_wp2_with fail
  go_ret
  exact ⟨rfl, by (repeat (first | exact Below.refl _ _ | assumption | (refine Below.setCell ?_ (by first | (simp; done) | (simp; omega) | omega) _) | (refine Below.drew ?_) | (refine below_drewN ?_ _) | (refine Below.alloc ?_ (by first | (simp; done) | (simp; omega) | omega) _) | (refine Below.trans ?_ (Below.mono (by assumption) (by first | (simp; done) | (simp; omega) | omega)))))⟩
set_option maxRecDepth 100000 in
theorem drch_window (a : Option Addr) (c : Nat) (ai ar : Option Addr) (ni ci nr cr : Nat) (w : World) : Calls Tryz.prog 49 #[.agg #[.string ⟨#[119, 105, 110, 100, 111, 119]⟩, .slice ai ni ci, .slice a 1 c, .slice ar nr cr]] w fun e w' => e = .returned (.int .i64 (0)) ∧ Below w.heap.size w w' := by
  go_enter Tryz.func49, Tryz.ntmps49
  go_wp2_with fail
  go_ret
  exact ⟨rfl, by (repeat (first | exact Below.refl _ _ | assumption | (refine Below.setCell ?_ (by first | (simp; done) | (simp; omega) | omega) _) | (refine Below.drew ?_) | (refine below_drewN ?_ _) | (refine Below.alloc ?_ (by first | (simp; done) | (simp; omega) | omega) _) | (refine Below.trans ?_ (Below.mono (by assumption) (by first | (simp; done) | (simp; omega) | omega)))))⟩
set_option maxRecDepth 100000 in
theorem rch_invert (a : Option Addr) (c : Nat) (w : World) : Calls Tryz.prog 71 #[.string ⟨#[105, 110, 118, 101, 114, 116]⟩, .slice a 0 c] w fun e w' => e = .returned (.int .i64 (0)) ∧ Below w.heap.size w w' := by
  go_enter Tryz.func71, Tryz.ntmps71
  go_wp2_with fail
  go_ret
  exact ⟨rfl, by (repeat (first | exact Below.refl _ _ | assumption | (refine Below.setCell ?_ (by first | (simp; done) | (simp; omega) | omega) _) | (refine Below.drew ?_) | (refine below_drewN ?_ _) | (refine Below.alloc ?_ (by first | (simp; done) | (simp; omega) | omega) _) | (refine Below.trans ?_ (Below.mono (by assumption) (by first | (simp; done) | (simp; omega) | omega)))))⟩
set_option maxRecDepth 100000 in
theorem drch_invert (a : Option Addr) (c : Nat) (ai ar : Option Addr) (ni ci nr cr : Nat) (w : World) : Calls Tryz.prog 49 #[.agg #[.string ⟨#[105, 110, 118, 101, 114, 116]⟩, .slice ai ni ci, .slice a 0 c, .slice ar nr cr]] w fun e w' => e = .returned (.int .i64 (0)) ∧ Below w.heap.size w w' := by
  go_enter Tryz.func49, Tryz.ntmps49
  go_wp2_with fail
  go_ret
  exact ⟨rfl, by (repeat (first | exact Below.refl _ _ | assumption | (refine Below.setCell ?_ (by first | (simp; done) | (simp; omega) | omega) _) | (refine Below.drew ?_) | (refine below_drewN ?_ _) | (refine Below.alloc ?_ (by first | (simp; done) | (simp; omega) | omega) _) | (refine Below.trans ?_ (Below.mono (by assumption) (by first | (simp; done) | (simp; omega) | omega)))))⟩
set_option maxRecDepth 100000 in
theorem rch_meet (a : Option Addr) (c : Nat) (w : World) : Calls Tryz.prog 71 #[.string ⟨#[109, 101, 101, 116]⟩, .slice a 1 c] w fun e w' => e = .returned (.int .i64 (0)) ∧ Below w.heap.size w w' := by
  go_enter Tryz.func71, Tryz.ntmps71
  go_wp2_with fail
  go_ret
  exact ⟨rfl, by (repeat (first | exact Below.refl _ _ | assumption | (refine Below.setCell ?_ (by first | (simp; done) | (simp; omega) | omega) _) | (refine Below.drew ?_) | (refine below_drewN ?_ _) | (refine Below.alloc ?_ (by first | (simp; done) | (simp; omega) | omega) _) | (refine Below.trans ?_ (Below.mono (by assumption) (by first | (simp; done) | (simp; omega) | omega)))))⟩
set_option maxRecDepth 100000 in
theorem drch_meet (a : Option Addr) (c : Nat) (ai ar : Option Addr) (ni ci nr cr : Nat) (w : World) : Calls Tryz.prog 49 #[.agg #[.string ⟨#[109, 101, 101, 116]⟩, .slice ai ni ci, .slice a 1 c, .slice ar nr cr]] w fun e w' => e = .returned (.int .i64 (0)) ∧ Below w.heap.size w w' := by
  go_enter Tryz.func49, Tryz.ntmps49
  go_wp2_with fail
  go_ret
  exact ⟨rfl, by (repeat (first | exact Below.refl _ _ | assumption | (refine Below.setCell ?_ (by first | (simp; done) | (simp; omega) | omega) _) | (refine Below.drew ?_) | (refine below_drewN ?_ _) | (refine Below.alloc ?_ (by first | (simp; done) | (simp; omega) | omega) _) | (refine Below.trans ?_ (Below.mono (by assumption) (by first | (simp; done) | (simp; omega) | omega)))))⟩
set_option maxRecDepth 100000 in
theorem rch_spread (a : Option Addr) (c : Nat) (i0 : Int) (w : World) (h : IntsAt 0 w a [i0]) : Calls Tryz.prog 71 #[.string ⟨#[115, 112, 114, 101, 97, 100]⟩, .slice a 1 c] w fun e w' => e = .returned (.int .i64 i0) ∧ Below w.heap.size w w' := by
  obtain ⟨b, off, rfl, hc⟩ := h.one (i := 0) rfl
  rw [Nat.add_zero] at hc
  have hl := cell_lt hc; simp only at hl
  go_enter Tryz.func71, Tryz.ntmps71
  go_wp2_with fail
  go_ret
  exact ⟨rfl, by (repeat (first | exact Below.refl _ _ | assumption | (refine Below.setCell ?_ (by first | (simp; done) | (simp; omega) | omega) _) | (refine Below.drew ?_) | (refine below_drewN ?_ _) | (refine Below.alloc ?_ (by first | (simp; done) | (simp; omega) | omega) _) | (refine Below.trans ?_ (Below.mono (by assumption) (by first | (simp; done) | (simp; omega) | omega)))))⟩
set_option maxRecDepth 100000 in
theorem drch_spread (a : Option Addr) (c : Nat) (ai ar : Option Addr) (ni ci nr cr : Nat) (i0 : Int) (w : World) (h : IntsAt 0 w a [i0]) : Calls Tryz.prog 49 #[.agg #[.string ⟨#[115, 112, 114, 101, 97, 100]⟩, .slice ai ni ci, .slice a 1 c, .slice ar nr cr]] w fun e w' => e = .returned (.int .i64 i0) ∧ Below w.heap.size w w' := by
  obtain ⟨b, off, rfl, hc⟩ := h.one (i := 0) rfl
  rw [Nat.add_zero] at hc
  have hl := cell_lt hc; simp only at hl
  go_enter Tryz.func49, Tryz.ntmps49
  go_wp2_with fail
  go_ret
  exact ⟨rfl, by (repeat (first | exact Below.refl _ _ | assumption | (refine Below.setCell ?_ (by first | (simp; done) | (simp; omega) | omega) _) | (refine Below.drew ?_) | (refine below_drewN ?_ _) | (refine Below.alloc ?_ (by first | (simp; done) | (simp; omega) | omega) _) | (refine Below.trans ?_ (Below.mono (by assumption) (by first | (simp; done) | (simp; omega) | omega)))))⟩
set_option maxRecDepth 100000 in
theorem rch_shrink (a : Option Addr) (c : Nat) (i0 : Int) (w : World) (h : IntsAt 0 w a [i0]) : Calls Tryz.prog 71 #[.string ⟨#[115, 104, 114, 105, 110, 107]⟩, .slice a 1 c] w fun e w' => e = .returned (.int .i64 i0) ∧ Below w.heap.size w w' := by
  obtain ⟨b, off, rfl, hc⟩ := h.one (i := 0) rfl
  rw [Nat.add_zero] at hc
  have hl := cell_lt hc; simp only at hl
  go_enter Tryz.func71, Tryz.ntmps71
  go_wp2_with fail
  go_ret
  exact ⟨rfl, by (repeat (first | exact Below.refl _ _ | assumption | (refine Below.setCell ?_ (by first | (simp; done) | (simp; omega) | omega) _) | (refine Below.drew ?_) | (refine below_drewN ?_ _) | (refine Below.alloc ?_ (by first | (simp; done) | (simp; omega) | omega) _) | (refine Below.trans ?_ (Below.mono (by assumption) (by first | (simp; done) | (simp; omega) | omega)))))⟩
set_option maxRecDepth 100000 in
theorem drch_shrink (a : Option Addr) (c : Nat) (ai ar : Option Addr) (ni ci nr cr : Nat) (i0 : Int) (w : World) (h : IntsAt 0 w a [i0]) : Calls Tryz.prog 49 #[.agg #[.string ⟨#[115, 104, 114, 105, 110, 107]⟩, .slice ai ni ci, .slice a 1 c, .slice ar nr cr]] w fun e w' => e = .returned (.int .i64 i0) ∧ Below w.heap.size w w' := by
  obtain ⟨b, off, rfl, hc⟩ := h.one (i := 0) rfl
  rw [Nat.add_zero] at hc
  have hl := cell_lt hc; simp only at hl
  go_enter Tryz.func49, Tryz.ntmps49
  go_wp2_with fail
  go_ret
  exact ⟨rfl, by (repeat (first | exact Below.refl _ _ | assumption | (refine Below.setCell ?_ (by first | (simp; done) | (simp; omega) | omega) _) | (refine Below.drew ?_) | (refine below_drewN ?_ _) | (refine Below.alloc ?_ (by first | (simp; done) | (simp; omega) | omega) _) | (refine Below.trans ?_ (Below.mono (by assumption) (by first | (simp; done) | (simp; omega) | omega)))))⟩
set_option maxRecDepth 100000 in
theorem rch_feather (a : Option Addr) (c : Nat) (i0 : Int) (w : World) (h : IntsAt 0 w a [i0]) : Calls Tryz.prog 71 #[.string ⟨#[102, 101, 97, 116, 104, 101, 114]⟩, .slice a 1 c] w fun e w' => e = .returned (.int .i64 i0) ∧ Below w.heap.size w w' := by
  obtain ⟨b, off, rfl, hc⟩ := h.one (i := 0) rfl
  rw [Nat.add_zero] at hc
  have hl := cell_lt hc; simp only at hl
  go_enter Tryz.func71, Tryz.ntmps71
  go_wp2_with fail
  go_ret
  exact ⟨rfl, by (repeat (first | exact Below.refl _ _ | assumption | (refine Below.setCell ?_ (by first | (simp; done) | (simp; omega) | omega) _) | (refine Below.drew ?_) | (refine below_drewN ?_ _) | (refine Below.alloc ?_ (by first | (simp; done) | (simp; omega) | omega) _) | (refine Below.trans ?_ (Below.mono (by assumption) (by first | (simp; done) | (simp; omega) | omega)))))⟩
set_option maxRecDepth 100000 in
theorem drch_feather (a : Option Addr) (c : Nat) (ai ar : Option Addr) (ni ci nr cr : Nat) (i0 : Int) (w : World) (h : IntsAt 0 w a [i0]) : Calls Tryz.prog 49 #[.agg #[.string ⟨#[102, 101, 97, 116, 104, 101, 114]⟩, .slice ai ni ci, .slice a 1 c, .slice ar nr cr]] w fun e w' => e = .returned (.int .i64 i0) ∧ Below w.heap.size w w' := by
  obtain ⟨b, off, rfl, hc⟩ := h.one (i := 0) rfl
  rw [Nat.add_zero] at hc
  have hl := cell_lt hc; simp only at hl
  go_enter Tryz.func49, Tryz.ntmps49
  go_wp2_with fail
  go_ret
  exact ⟨rfl, by (repeat (first | exact Below.refl _ _ | assumption | (refine Below.setCell ?_ (by first | (simp; done) | (simp; omega) | omega) _) | (refine Below.drew ?_) | (refine below_drewN ?_ _) | (refine Below.alloc ?_ (by first | (simp; done) | (simp; omega) | omega) _) | (refine Below.trans ?_ (Below.mono (by assumption) (by first | (simp; done) | (simp; omega) | omega)))))⟩
theorem reach_all {s : ByteArray} {k : Nat} (hk : opK s.data.toList = some k) (a : Option Addr) (c : Nat) (is : List Int) (w : World) (hn : (is.length : Int) = (F k).ints) (h : IntsAt 0 w a is) : Calls Tryz.prog 71 #[.string s, .slice a is.length c] w fun e w' => e = .returned (.int .i64 (rcK k is)) ∧ Below w.heap.size w w' := by
  obtain ⟨h1, rfl⟩ := opK_name hk
  clear hk
  match k, h1 with
  | 0, _ =>
    have q : is.length = 1 := by have h : (is.length : Int) = 1 := hn; omega
    rw [q]
    exact rch_source a c w
  | 1, _ =>
    have q : is.length = 0 := by have h : (is.length : Int) = 0 := hn; omega
    rw [q]
    exact rch_fill a c w
  | 2, _ =>
    have q : is.length = 1 := by have h : (is.length : Int) = 1 := hn; omega
    rw [q]
    exact rch_grade a c w
  | 3, _ =>
    have q : is.length = 2 := by have h : (is.length : Int) = 2 := hn; omega
    rw [q]
    exact rch_cube a c w
  | 4, _ =>
    have q : is.length = 2 := by have h : (is.length : Int) = 2 := hn; omega
    rw [q]
    exact rch_convert a c w
  | 5, _ =>
    have q : is.length = 0 := by have h : (is.length : Int) = 0 := hn; omega
    rw [q]
    exact rch_saturate a c w
  | 6, _ =>
    have q : is.length = 0 := by have h : (is.length : Int) = 0 := hn; omega
    rw [q]
    exact rch_turn a c w
  | 7, _ =>
    have q : is.length = 1 := by have h : (is.length : Int) = 1 := hn; omega
    rw [q]
    exact rch_tone a c w
  | 8, _ =>
    have q : is.length = 0 := by have h : (is.length : Int) = 0 := hn; omega
    rw [q]
    exact rch_expose a c w
  | 9, _ =>
    have q : is.length = 0 := by have h : (is.length : Int) = 0 := hn; omega
    rw [q]
    exact rch_compress a c w
  | 10, _ =>
    have q : is.length = 3 := by have h : (is.length : Int) = 3 := hn; omega
    rw [q]
    exact rch_grain a c w
  | 11, _ =>
    have q : is.length = 0 := by have h : (is.length : Int) = 0 := hn; omega
    rw [q]
    exact rch_vignette a c w
  | 12, _ =>
    have q : is.length = 0 := by have h : (is.length : Int) = 0 := hn; omega
    rw [q]
    exact rch_sharpen a c w
  | 13, _ =>
    have q : is.length = 1 := by have h : (is.length : Int) = 1 := hn; omega
    obtain ⟨i0, rfl⟩ : ∃ i0, is = [i0] := by match is, q with | [i0], _ => exact ⟨i0, rfl⟩
    exact rch_blur a c i0 w h
  | 14, _ =>
    have q : is.length = 0 := by have h : (is.length : Int) = 0 := hn; omega
    rw [q]
    exact rch_mix a c w
  | 15, _ =>
    have q : is.length = 1 := by have h : (is.length : Int) = 1 := hn; omega
    rw [q]
    exact rch_combine a c w
  | 16, _ =>
    have q : is.length = 0 := by have h : (is.length : Int) = 0 := hn; omega
    rw [q]
    exact rch_through a c w
  | 17, _ =>
    have q : is.length = 0 := by have h : (is.length : Int) = 0 := hn; omega
    rw [q]
    exact rch_alpha a c w
  | 18, _ =>
    have q : is.length = 0 := by have h : (is.length : Int) = 0 := hn; omega
    rw [q]
    exact rch_cover a c w
  | 19, _ =>
    have q : is.length = 0 := by have h : (is.length : Int) = 0 := hn; omega
    rw [q]
    exact rch_luma a c w
  | 20, _ =>
    have q : is.length = 0 := by have h : (is.length : Int) = 0 := hn; omega
    rw [q]
    exact rch_hue a c w
  | 21, _ =>
    have q : is.length = 1 := by have h : (is.length : Int) = 1 := hn; omega
    rw [q]
    exact rch_window a c w
  | 22, _ =>
    have q : is.length = 0 := by have h : (is.length : Int) = 0 := hn; omega
    rw [q]
    exact rch_invert a c w
  | 23, _ =>
    have q : is.length = 1 := by have h : (is.length : Int) = 1 := hn; omega
    rw [q]
    exact rch_meet a c w
  | 24, _ =>
    have q : is.length = 1 := by have h : (is.length : Int) = 1 := hn; omega
    obtain ⟨i0, rfl⟩ : ∃ i0, is = [i0] := by match is, q with | [i0], _ => exact ⟨i0, rfl⟩
    exact rch_spread a c i0 w h
  | 25, _ =>
    have q : is.length = 1 := by have h : (is.length : Int) = 1 := hn; omega
    obtain ⟨i0, rfl⟩ : ∃ i0, is = [i0] := by match is, q with | [i0], _ => exact ⟨i0, rfl⟩
    exact rch_shrink a c i0 w h
  | 26, _ =>
    have q : is.length = 1 := by have h : (is.length : Int) = 1 := hn; omega
    obtain ⟨i0, rfl⟩ : ∃ i0, is = [i0] := by match is, q with | [i0], _ => exact ⟨i0, rfl⟩
    exact rch_feather a c i0 w h
  | k + 27, h => exact absurd h (by omega)
theorem dreach_all {s : ByteArray} {k : Nat} (hk : opK s.data.toList = some k) (ai a ar : Option Addr) (ni ci c nr cr : Nat) (is : List Int) (w : World) (hn : (is.length : Int) = (F k).ints) (h : IntsAt 0 w a is) : Calls Tryz.prog 49 #[.agg #[.string s, .slice ai ni ci, .slice a is.length c, .slice ar nr cr]] w fun e w' => e = .returned (.int .i64 (rcK k is)) ∧ Below w.heap.size w w' := by
  obtain ⟨h1, rfl⟩ := opK_name hk
  clear hk
  match k, h1 with
  | 0, _ =>
    have q : is.length = 1 := by have h : (is.length : Int) = 1 := hn; omega
    rw [q]
    exact drch_source a c ai ar ni ci nr cr w
  | 1, _ =>
    have q : is.length = 0 := by have h : (is.length : Int) = 0 := hn; omega
    rw [q]
    exact drch_fill a c ai ar ni ci nr cr w
  | 2, _ =>
    have q : is.length = 1 := by have h : (is.length : Int) = 1 := hn; omega
    rw [q]
    exact drch_grade a c ai ar ni ci nr cr w
  | 3, _ =>
    have q : is.length = 2 := by have h : (is.length : Int) = 2 := hn; omega
    rw [q]
    exact drch_cube a c ai ar ni ci nr cr w
  | 4, _ =>
    have q : is.length = 2 := by have h : (is.length : Int) = 2 := hn; omega
    rw [q]
    exact drch_convert a c ai ar ni ci nr cr w
  | 5, _ =>
    have q : is.length = 0 := by have h : (is.length : Int) = 0 := hn; omega
    rw [q]
    exact drch_saturate a c ai ar ni ci nr cr w
  | 6, _ =>
    have q : is.length = 0 := by have h : (is.length : Int) = 0 := hn; omega
    rw [q]
    exact drch_turn a c ai ar ni ci nr cr w
  | 7, _ =>
    have q : is.length = 1 := by have h : (is.length : Int) = 1 := hn; omega
    rw [q]
    exact drch_tone a c ai ar ni ci nr cr w
  | 8, _ =>
    have q : is.length = 0 := by have h : (is.length : Int) = 0 := hn; omega
    rw [q]
    exact drch_expose a c ai ar ni ci nr cr w
  | 9, _ =>
    have q : is.length = 0 := by have h : (is.length : Int) = 0 := hn; omega
    rw [q]
    exact drch_compress a c ai ar ni ci nr cr w
  | 10, _ =>
    have q : is.length = 3 := by have h : (is.length : Int) = 3 := hn; omega
    rw [q]
    exact drch_grain a c ai ar ni ci nr cr w
  | 11, _ =>
    have q : is.length = 0 := by have h : (is.length : Int) = 0 := hn; omega
    rw [q]
    exact drch_vignette a c ai ar ni ci nr cr w
  | 12, _ =>
    have q : is.length = 0 := by have h : (is.length : Int) = 0 := hn; omega
    rw [q]
    exact drch_sharpen a c ai ar ni ci nr cr w
  | 13, _ =>
    have q : is.length = 1 := by have h : (is.length : Int) = 1 := hn; omega
    obtain ⟨i0, rfl⟩ : ∃ i0, is = [i0] := by match is, q with | [i0], _ => exact ⟨i0, rfl⟩
    exact drch_blur a c ai ar ni ci nr cr i0 w h
  | 14, _ =>
    have q : is.length = 0 := by have h : (is.length : Int) = 0 := hn; omega
    rw [q]
    exact drch_mix a c ai ar ni ci nr cr w
  | 15, _ =>
    have q : is.length = 1 := by have h : (is.length : Int) = 1 := hn; omega
    rw [q]
    exact drch_combine a c ai ar ni ci nr cr w
  | 16, _ =>
    have q : is.length = 0 := by have h : (is.length : Int) = 0 := hn; omega
    rw [q]
    exact drch_through a c ai ar ni ci nr cr w
  | 17, _ =>
    have q : is.length = 0 := by have h : (is.length : Int) = 0 := hn; omega
    rw [q]
    exact drch_alpha a c ai ar ni ci nr cr w
  | 18, _ =>
    have q : is.length = 0 := by have h : (is.length : Int) = 0 := hn; omega
    rw [q]
    exact drch_cover a c ai ar ni ci nr cr w
  | 19, _ =>
    have q : is.length = 0 := by have h : (is.length : Int) = 0 := hn; omega
    rw [q]
    exact drch_luma a c ai ar ni ci nr cr w
  | 20, _ =>
    have q : is.length = 0 := by have h : (is.length : Int) = 0 := hn; omega
    rw [q]
    exact drch_hue a c ai ar ni ci nr cr w
  | 21, _ =>
    have q : is.length = 1 := by have h : (is.length : Int) = 1 := hn; omega
    rw [q]
    exact drch_window a c ai ar ni ci nr cr w
  | 22, _ =>
    have q : is.length = 0 := by have h : (is.length : Int) = 0 := hn; omega
    rw [q]
    exact drch_invert a c ai ar ni ci nr cr w
  | 23, _ =>
    have q : is.length = 1 := by have h : (is.length : Int) = 1 := hn; omega
    rw [q]
    exact drch_meet a c ai ar ni ci nr cr w
  | 24, _ =>
    have q : is.length = 1 := by have h : (is.length : Int) = 1 := hn; omega
    obtain ⟨i0, rfl⟩ : ∃ i0, is = [i0] := by match is, q with | [i0], _ => exact ⟨i0, rfl⟩
    exact drch_spread a c ai ar ni ci nr cr i0 w h
  | 25, _ =>
    have q : is.length = 1 := by have h : (is.length : Int) = 1 := hn; omega
    obtain ⟨i0, rfl⟩ : ∃ i0, is = [i0] := by match is, q with | [i0], _ => exact ⟨i0, rfl⟩
    exact drch_shrink a c ai ar ni ci nr cr i0 w h
  | 26, _ =>
    have q : is.length = 1 := by have h : (is.length : Int) = 1 := hn; omega
    obtain ⟨i0, rfl⟩ : ∃ i0, is = [i0] := by match is, q with | [i0], _ => exact ⟨i0, rfl⟩
    exact drch_feather a c ai ar ni ci nr cr i0 w h
  | k + 27, h => exact absurd h (by omega)
end Go.Proofs.YtbclecoblcfboaaGreatDoor
