/- Maps of a call's own, from strings, told by what they say of each name. Conditions: what each theorem names. -/
import Derived.Test.YtbaocallhnehfaaGreatDoorQE
namespace Go.Proofs.YtbaocallhnehfaaGreatDoor
open Go Go.RowKit
/-- A map from strings, by what it says of each name. -/
def MapS (w : World) (mb n : Nat) (f : List UInt8 → Option Value) : Prop :=
  ∃ D : DataW Value, Maps.IsMap D ∧ w.ownsMap Tryz.prog 9 heldV mb n D ∧ ∀ s : ByteArray, s.size ≤ maxLen → (∀ z : Value, D.atKey (keyS s) (.held z) = .held ((f s.data.toList).getD z)) ∧ Maps.has D (keyS s) = (f s.data.toList).isSome
theorem MapS.lt {w : World} {mb n : Nat} {f : List UInt8 → Option Value} (h : MapS w mb n f) : mb < w.heap.size := by
  obtain ⟨D, -, h1, -⟩ := h; exact h1.lt
theorem MapS.block {w w' : World} {mb n : Nat} {f : List UInt8 → Option Value} (h : MapS w mb n f) (hb : w'.heap[mb]? = w.heap[mb]?) : MapS w' mb n f := by
  obtain ⟨D, h0, h1, h2⟩ := h
  exact ⟨D, h0, ownsMap_block h1 hb, h2⟩
theorem MapS.past {w w' : World} {mb n : Nat} {f : List UInt8 → Option Value} (h : MapS w mb n f) (hb : Below w.heap.size w w') : MapS w' mb n f := h.block (hb.block mb h.lt)
theorem MapS.made (w : World) : MapS (w.alloc (.map #[] 0)) w.heap.size 0 (fun _ => none) := by
  refine ⟨.map [], ⟨[], rfl⟩, World.ownsMap_made w Tryz.prog 9 heldV, fun s _ => ⟨fun z => rfl, rfl⟩⟩
theorem MapS.congr {w : World} {mb n : Nat} {f g : List UInt8 → Option Value} (h : MapS w mb n f) (e : ∀ l, f l = g l) : MapS w mb n g := by
  rw [show g = f from funext (fun l => (e l).symm)]; exact h
def putS (f : List UInt8 → Option Value) (s : List UInt8) (v : Value) : List UInt8 → Option Value := fun l => if l = s then some v else f l
theorem keyS_ne {s t : ByteArray} (h : s.data.toList ≠ t.data.toList) : keyS s ≠ keyS t := fun e => h (by unfold keyS at e; injection e)
section
variable {w : World} {ops : Array Oper} {rest : List Oper} {o : Oper} {a : Act} {Q : Exit → Act → World → Prop}
/-- m[k]. -/
theorem wpList_lookS0 (hg : o.guard = none) (m x : Operand) (t e : TypeId) (hop : o.op = Op.lookup t m x false) (ht : Tryz.prog.underlying t = some (.map 9 e)) {z : Value} (hz : (zeroValue e).run Tryz.prog w = .ok z w) (b n : Nat) {f : List UInt8 → Option Value} (hm : a.eval m = .map (some b)) (h : MapS w b n f) (s : ByteArray) (hs : s.size ≤ maxLen) (hx : a.eval x = .string s)
    (hK : wpList Tryz.prog ops Q rest (a.put o.dst ((f s.data.toList).getD z)) w) : wpList Tryz.prog ops Q (o :: rest) a w := by
  obtain ⟨D, h0, h1, h2⟩ := h
  exact wpList_look0 w hg m x t hop 9 e lawStr ht hz b n D hm h1 (.string s) (keyS s) hx (keyS_mk hs) _ ((h2 s hs).1 z) hK
/-- v, ok := m[k]. -/
theorem wpList_lookS1 (hg : o.guard = none) (m x : Operand) (t e : TypeId) (hop : o.op = Op.lookup t m x true) (ht : Tryz.prog.underlying t = some (.map 9 e)) {z : Value} (hz : (zeroValue e).run Tryz.prog w = .ok z w) (b n : Nat) {f : List UInt8 → Option Value} (hm : a.eval m = .map (some b)) (h : MapS w b n f) (s : ByteArray) (hs : s.size ≤ maxLen) (hx : a.eval x = .string s)
    (hK : wpList Tryz.prog ops Q rest (a.put o.dst (.tuple #[(f s.data.toList).getD z, .bool (f s.data.toList).isSome])) w) : wpList Tryz.prog ops Q (o :: rest) a w := by
  obtain ⟨D, h0, h1, h2⟩ := h
  exact wpList_look1 w hg m x t hop 9 e lawStr ht hz b n D hm h1 (.string s) (keyS s) hx (keyS_mk hs) _ _ ((h2 s hs).1 z) (h2 s hs).2 hK
/-- m[k] = v. -/
theorem wpList_putS (hg : o.guard = none) (m x v : Operand) (t e : TypeId) (hop : o.op = Op.mapUpdate t m x v) (ht : Tryz.prog.underlying t = some (.map 9 e)) (b n : Nat) {f : List UInt8 → Option Value} (hm : a.eval m = .map (some b)) (h : MapS w b n f) (hn : n < maxLen) (s : ByteArray) (hs : s.size ≤ maxLen) (hx : a.eval x = .string s) (val : Value) (hv : a.eval v = val)
    (hK : ∀ w', MapS w' b (n + 1) (putS f s.data.toList val) → w.grownBy w' (some b) → wpList Tryz.prog ops Q rest (a.put o.dst undef) w') : wpList Tryz.prog ops Q (o :: rest) a w := by
  obtain ⟨D, h0, h1, h2⟩ := h
  refine wpList_mapUpdate_own w hg m x v t hop 9 e lawStr ht heldV b n D hm h1 hn (.string s) val (keyS s) hx hv (keyS_mk hs) (.held val) [] rfl (fun w' hw' hgr => hK w' ⟨D.put (keyS s) (.held val), ?_, hw', fun u hu => ?_⟩ hgr)
  · obtain ⟨es, rfl⟩ := h0; exact ⟨_, rfl⟩
  · unfold putS
    by_cases e : u.data.toList = s.data.toList
    · have e2 : keyS u = keyS s := by unfold keyS; rw [e]
      rw [if_pos e, e2]
      exact ⟨fun z => Maps.atKey_put_same h0 (lawStr.key (keyS_mk hs)) _ _, Maps.has_put_same h0 (lawStr.key (keyS_mk hs)) _⟩
    · rw [if_neg e]
      exact ⟨fun z => by rw [Maps.atKey_put_other (keyS_ne e)]; exact (h2 u hu).1 z, by rw [Maps.has_put_other (keyS_ne e)]; exact (h2 u hu).2⟩
end
end Go.Proofs.YtbaocallhnehfaaGreatDoor
