/- Maps that a call makes of its own, their values held as they stand; node.isName, beyond, parameters, outKind at a step 'fill' of the name a. Conditions: what each theorem names. -/
import Derived.Test.YtjcakbikpficbaaGreatDoorNgC
import Derived.Maps.StringElems
import Derived.Maps.OwnSet
import Derived.Maps.OwnOps
namespace Go.Proofs.YtjcakbikpficbaaGreatDoor
open Go Go.RowKit
/-- How a value in a map reads: as it stands. -/
def heldV (v : Value) : Option (DataW Value × List MemPlace) := some (.held v, [])
theorem lawStr : Maps.Keyed Tryz.prog 9 := Maps.string_keyed Tryz.underlying9
def keyS (nm : ByteArray) : Lit := .string nm.data.toList
theorem keyS_mk {nm : ByteArray} (h : nm.size ≤ maxLen) : keyOf Tryz.prog 9 (.string nm) = some (keyS nm) := WideMaps.keyOf_string_mk Tryz.underlying9 h
/-- m[k], its value known. -/
theorem wpList_look0 {P : Program} (w : World) {ops : Array Oper} {rest : List Oper} {o : Oper} {a : Act} {Q : Exit → Act → World → Prop} (hg : o.guard = none) (m x : Operand) (t : TypeId) (hop : o.op = Op.lookup t m x false)
    (k e : TypeId) (K : Maps.Keyed P k) (ht : P.underlying t = some (.map k e)) {z : Value} (hz : (zeroValue e).run P w = .ok z w) (b n : Nat) (D : DataW Value) (hm : a.eval m = .map (some b)) (hown : w.ownsMap P k heldV b n D) (key : Value) (kl : Lit) (hx : a.eval x = key) (hkey : keyOf P k key = some kl)
    (v : Value) (hat : D.atKey kl (.held z) = .held v) (hK : wpList P ops Q rest (a.put o.dst v) w) : wpList P ops Q (o :: rest) a w := by
  refine wpList_plain hg fun K' hK' => ?_
  obtain ⟨v', ps, hrun, hv⟩ := hown.lookup K ht hz (zd := .held z) (zp := []) rfl hkey
  unfold heldV at hv
  rw [hat] at hv
  injection hv with hv
  injection hv with hv _
  injection hv with hv
  subst hv
  unfold Oper.wp
  simp [execOp, hop, hm, hx, hrun, Result.andThen]
  exact hK' _ _ hK
/-- v, ok := m[k], its value known. -/
theorem wpList_look1 {P : Program} (w : World) {ops : Array Oper} {rest : List Oper} {o : Oper} {a : Act} {Q : Exit → Act → World → Prop} (hg : o.guard = none) (m x : Operand) (t : TypeId) (hop : o.op = Op.lookup t m x true)
    (k e : TypeId) (K : Maps.Keyed P k) (ht : P.underlying t = some (.map k e)) {z : Value} (hz : (zeroValue e).run P w = .ok z w) (b n : Nat) (D : DataW Value) (hm : a.eval m = .map (some b)) (hown : w.ownsMap P k heldV b n D) (key : Value) (kl : Lit) (hx : a.eval x = key) (hkey : keyOf P k key = some kl)
    (v : Value) (is : Bool) (hat : D.atKey kl (.held z) = .held v) (his : Maps.has D kl = is) (hK : wpList P ops Q rest (a.put o.dst (.tuple #[v, .bool is])) w) : wpList P ops Q (o :: rest) a w :=
  wpList_lookup_own_ok w hg m x t hop k e K ht heldV hz (.held z) [] rfl b n D hm hown key kl hx hkey (fun v' ps hv => by
    unfold heldV at hv
    rw [hat] at hv
    injection hv with hv
    injection hv with hv _
    injection hv with hv
    subst hv
    rw [his]; exact hK)
def nmSet : ByteArray := ⟨#[97, 98, 99, 100, 101, 102, 103, 104, 105, 106, 107, 108, 109, 110, 111, 112, 113, 114, 115, 116, 117, 118, 119, 120, 121, 122, 48, 49, 50, 51, 52, 53, 54, 55, 56, 57, 95]⟩
theorem trimA (w : World) : Calls Tryz.prog 140 #[.string ⟨#[97]⟩, .string nmSet] w fun e w' => e = .returned (.string ⟨#[]⟩) ∧ Below w.heap.size w w' := by
  refine (Any.strings_Trim_laid Tryz.lays160 (by kernel_rfl) ⟨#[97]⟩ nmSet w (by decide) (by decide) (ascii_of_all (by decide))).mono ?_
  rintro e w' ⟨rfl, hb⟩
  rw [show Lib.trimS (⟨#[97]⟩ : ByteArray).data.toList nmSet.data.toList = [] from by decide +kernel]
  exact ⟨rfl, hb⟩
set_option maxRecDepth 100000 in
set_option maxHeartbeats 1600000 in
theorem isName_a (w : World) : Calls Tryz.prog 93 #[.string ⟨#[97]⟩] w fun e w' => e = .returned (.bool true) ∧ Below w.heap.size w w' := by
  go_enter Tryz.func93, Tryz.ntmps93
  go_wp2_with (go_at_call 140; refine (trimA _).mono ?_; rintro e w1 ⟨rfl, hb⟩)
  go_ret
  exact ⟨rfl, hb⟩
set_option maxRecDepth 100000 in
set_option maxHeartbeats 1600000 in
theorem beyond_fill (w : World) : Calls Tryz.prog 108 #[.string ⟨#[102, 105, 108, 108]⟩, .slice none 0 0] w fun e w' => e = .returned (.bool false) ∧ Below w.heap.size w w' := by
  go_enter Tryz.func108, Tryz.ntmps108
  go_wp2_with fail
  go_ret
  exact ⟨rfl, by (repeat (first | exact Below.refl _ _ | assumption | (refine Below.setCell ?_ (by first | (simp; done) | (simp; omega) | omega) _) | (refine Below.drew ?_) | (refine below_drewN ?_ _) | (refine Below.alloc ?_ (by first | (simp; done) | (simp; omega) | omega) _) | (refine Below.trans ?_ (Below.mono (by assumption) (by first | (simp; done) | (simp; omega) | omega)))))⟩
set_option maxRecDepth 100000 in
set_option maxHeartbeats 1600000 in
theorem parameters_fill (v : Value) (w : World) : Calls Tryz.prog 78 #[.string ⟨#[102, 105, 108, 108]⟩, .slice none 0 0, v] w fun e w' => e = .returned (.int .i64 0) ∧ Below w.heap.size w w' := by
  go_enter Tryz.func78, Tryz.ntmps78
  go_wp2_with (go_at_call 108; refine (beyond_fill _).mono ?_; rintro e w1 ⟨rfl, hb⟩)
  go_ret
  exact ⟨rfl, hb⟩
theorem outKind_1 (w : World) : Calls Tryz.prog 79 #[.int .i64 1] w fun e w' => e = .returned (.int .i64 0) ∧ w = w' := by
  go_enter Tryz.func79, Tryz.ntmps79
  go_wp2_with fail
  go_ret
  exact ⟨rfl, rfl⟩
end Go.Proofs.YtjcakbikpficbaaGreatDoor
