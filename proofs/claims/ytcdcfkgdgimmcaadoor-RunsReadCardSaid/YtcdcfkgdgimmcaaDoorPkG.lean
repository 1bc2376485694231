/- Packed levels: slices.Equal of integers; finish.Pack's errors. Conditions: what each theorem names. -/
import Derived.Test.YtcdcfkgdgimmcaaDoorPkF
namespace Go.Proofs.YtcdcfkgdgimmcaaDoor
open Go Go.RowKit
/-- Whether the levels are in range, as an error. -/
def pE (zs : Nat → Int) (M : Int) : Nat → Int
  | 0 => 0
  | k + 1 => firstE (pE zs M k) (whenE (!inB (zs k) 0 M) 3)
theorem pE_zero {zs : Nat → Int} {M : Int} : ∀ {k : Nat}, (∀ i, i < k → 0 ≤ zs i ∧ zs i ≤ M) → pE zs M k = 0 := by
  intro k
  induction k with
  | zero => intro _; rfl
  | succ k ih =>
    intro h
    show firstE (pE zs M k) (whenE (!inB (zs k) 0 M) 3) = 0
    rw [ih (fun i hi => h i (by omega)), inB_t (h k (by omega))]; rfl
theorem pE_cases (zs : Nat → Int) (M : Int) : ∀ k : Nat, (pE zs M k = 0 ∧ ∀ i, i < k → 0 ≤ zs i ∧ zs i ≤ M) ∨ (pE zs M k = 3 ∧ ∃ N0, N0 < k ∧ (∀ i, i < N0 → 0 ≤ zs i ∧ zs i ≤ M) ∧ ¬ (0 ≤ zs N0 ∧ zs N0 ≤ M)) := by
  intro k
  induction k with
  | zero => exact .inl ⟨rfl, fun i hi => by omega⟩
  | succ k ih =>
    have e : pE zs M (k + 1) = firstE (pE zs M k) (whenE (!inB (zs k) 0 M) 3) := rfl
    rcases ih with ⟨h1, h2⟩ | ⟨h1, N0, h2, h3, h4⟩
    · by_cases h : 0 ≤ zs k ∧ zs k ≤ M
      · left
        refine ⟨by rw [e, h1, inB_t h]; rfl, fun i hi => ?_⟩
        rcases (show i < k ∨ i = k by omega) with h' | rfl
        · exact h2 i h'
        · exact h
      · right
        have hf : inB (zs k) 0 M = false := by
          cases hb : inB (zs k) 0 M
          · rfl
          · exact absurd (inB_iff.1 hb) h
        exact ⟨by rw [e, h1, hf]; rfl, k, by omega, h2, h⟩
    · right
      exact ⟨by rw [e, h1]; rfl, N0, by omega, h3, h4⟩
/-- The cells of what was unpacked. -/
theorem un_cells {w wr : World} {u : Value} {f : Nat → Int} {n : Nat} (h : UnR w wr u f n) : ∃ (g : Nat) (a : Option Addr) (c : Nat), u = .slice a n c ∧ (0 < n → a = some ⟨g, 0, none⟩) ∧ ∀ i, i < n → wr.cell? ⟨g, 0 + i, none⟩ = some (.int .i64 (f i)) := by
  rcases Nat.eq_zero_or_pos n with h0 | h0
  · obtain ⟨a, c, rfl⟩ := un_form h
    exact ⟨0, a, c, rfl, fun h => by omega, fun i hi => by omega⟩
  · obtain ⟨g, c, rfl, -, -, -, -⟩ := own_form h.own h0
    have hc := h.own.cells (g := g) rfl
    refine ⟨g, _, c, rfl, fun _ => rfl, fun i hi => ?_⟩
    have := hc i (.int .i64 (f i)) (by simp [valsI, hi])
    rw [Go.WideShapes.add_plain] at this
    exact this
end Go.Proofs.YtcdcfkgdgimmcaaDoor
