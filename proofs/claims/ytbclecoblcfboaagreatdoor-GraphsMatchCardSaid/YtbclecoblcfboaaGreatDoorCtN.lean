/- Rows of numbers that grow. No condition. -/
import Derived.Test.YtbclecoblcfboaaGreatDoorCA
import Derived.Test.YtbclecoblcfboaaGreatDoorQF
namespace Go.Proofs.YtbclecoblcfboaaGreatDoor
open Go Go.RowKit
/-- The numbers below n for which f. -/
def nmZ (f : Nat → Bool) : Nat → List Int
  | 0 => []
  | i + 1 => if f i = true then nmZ f i ++ [(i : Int)] else nmZ f i
theorem nmZ_len (f : Nat → Bool) (n : Nat) : (nmZ f n).length ≤ n := by
  induction n with
  | zero => exact Nat.le_refl _
  | succ n ih =>
    unfold nmZ
    split
    · rw [List.length_append]; simp; omega
    · omega
/-- A row of numbers that grows. -/
structure NmR (w wr : World) (u : Value) (l : List Int) : Prop where
  own : wr.ownsRow w.heap.size 3 1 u l.length (l.map (Value.int .i64))
  bel : Below w.heap.size w wr
theorem NmR.nil (w : World) : NmR w w (.slice none 0 0) [] := ⟨World.ownsRow_nil _ _ _ _, Below.refl _ _⟩
theorem NmR.past {w wr wy : World} {u : Value} {l : List Int} (k : NmR w wr u l) (h : Below wr.heap.size wr wy) : NmR w wy u l := ⟨own_past k.own h, k.bel.trans (h.mono k.bel.size)⟩
theorem NmR.app {w wr wa w1 : World} {u u' : Value} {l : List Int} {x : Int} (k0 : NmR w wr u l) (hb : Below wr.heap.size wr wa) (hown : w1.ownsRow w.heap.size 3 1 u' (l.length + 1) (l.map (Value.int .i64) ++ [.int .i64 x])) (hg : wa.grownBy w1 u.ownBlock) : NmR w w1 u' (l ++ [x]) := by
  have k := k0.past hb
  refine ⟨by simpa using hown, k.bel.grown hg k.bel.size (fun j hj => ?_)⟩
  exact (k.own.lt j hj).1
theorem NmR.cells {w wr : World} {u : Value} {l : List Int} (k : NmR w wr u l) : ∃ (g : Nat) (a : Option Addr) (c : Nat), u = .slice a l.length c ∧ (0 < l.length → a = some ⟨g, 0, none⟩) ∧ ∀ i, i < l.length → wr.cell? ⟨g, 0 + i, none⟩ = some (.int .i64 (l.getD i 0)) := by
  rcases Nat.eq_zero_or_pos l.length with h0 | h0
  · rcases k.own.2 with ⟨h1, h2⟩ | ⟨g, cap, cur, h1, -⟩
    · rw [h2]
      exact ⟨0, none, 0, by rw [h1], fun h => by omega, fun i hi => by omega⟩
    · exact ⟨g, _, cap, h1, fun h => by omega, fun i hi => by omega⟩
  · obtain ⟨g, c, rfl, -, -, -, -⟩ := own_form k.own h0
    have hc := k.own.cells (g := g) rfl
    refine ⟨g, _, c, rfl, fun _ => rfl, fun i hi => ?_⟩
    have := hc i (.int .i64 (l.getD i 0)) (by simp [hi])
    rw [Go.WideShapes.add_plain] at this
    exact this
end Go.Proofs.YtbclecoblcfboaaGreatDoor
