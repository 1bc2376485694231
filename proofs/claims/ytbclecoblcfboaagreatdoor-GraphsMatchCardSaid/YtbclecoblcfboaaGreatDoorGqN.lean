/- Whether something holds below n; rows of numbers that are handed back. No condition. -/
import Derived.Test.YtbclecoblcfboaaGreatDoorCtN
namespace Go.Proofs.YtbclecoblcfboaaGreatDoor
open Go Go.RowKit
/-- Whether p holds below n. -/
def anyQ (p : Nat → Bool) : Nat → Bool
  | 0 => false
  | n + 1 => anyQ p n || p n
theorem anyQ_true {p : Nat → Bool} {k n : Nat} (hk : k < n) (h : p k = true) : anyQ p n = true := by
  induction n with
  | zero => omega
  | succ n ih =>
    unfold anyQ
    by_cases e : k = n
    · subst e; rw [h]; simp
    · rw [ih (by omega)]; rfl
theorem anyQ_range (p : Nat → Bool) (n : Nat) : anyQ p n = (List.range n).any p := by
  induction n with
  | zero => rfl
  | succ n ih => rw [List.range_succ]; simp [anyQ, ih]
theorem anyQ_congr {p q : Nat → Bool} : ∀ n, (∀ k, k < n → p k = q k) → anyQ p n = anyQ q n
  | 0, _ => rfl
  | n + 1, h => by unfold anyQ; rw [anyQ_congr n (fun k hk => h k (by omega)), h n (by omega)]
theorem NmR.ints {w wr : World} {u : Value} {l : List Int} (k : NmR w wr u l) : ∃ a c, u = .slice a l.length c ∧ IntsAt 0 wr a l := by
  obtain ⟨g, a, c, rfl, h1, h2⟩ := k.cells
  refine ⟨a, c, rfl, ?_⟩
  rcases Nat.eq_zero_or_pos l.length with h0 | h0
  · exact .inl (List.eq_nil_of_length_eq_zero h0)
  · exact .inr ⟨g, 0, h1 h0, Nat.zero_le _, cell_lt (h2 0 h0), fun i v hv => by
      have hi := (List.getElem?_eq_some_iff.1 hv).1
      rw [h2 i hi, List.getD_eq_getElem?_getD, hv, Option.getD_some]⟩
/-- What a function hands back: a row of numbers, and no error. -/
def StrP (l : List Int) (w : World) (e : Ending) (w' : World) : Prop := ∃ u, e = .returned (.tuple #[u, .int .i64 0]) ∧ NmR w w' u l
end Go.Proofs.YtbclecoblcfboaaGreatDoor
