/- The longest row of works: farm.Longest. Conditions: what each theorem names. -/
import Derived.Test.YtcdcfkgdgimmcaaDoorDnC
namespace Go.Proofs.YtcdcfkgdgimmcaaDoor
open Go Go.RowKit
theorem firstN_zero {f : Nat → Int} {n : Nat} (h : firstN f n = 0) : ∀ k, k < n → f k = 0 := by
  induction n with
  | zero => intro k hk; omega
  | succ n ih =>
    unfold firstN at h
    intro k hk
    by_cases h0 : firstN f n = 0
    · rw [if_pos h0] at h
      rcases Nat.lt_or_ge k n with h1 | h1
      · exact ih h0 k h1
      · have : k = n := by omega
        subst this; exact h
    · rw [if_neg h0] at h; exact absurd h h0
/-- What right work says. -/
theorem wk_ok {n : Nat} {ks : Nat → Wk} (h : wkErr n ks = 0) : n ≤ 2000 ∧ ∀ i, i < n → (1 ≤ (ks i).cost ∧ (ks i).cost ≤ 1000000) ∧ (0 ≤ (ks i).rank ∧ (ks i).rank ≤ 100) ∧ (ks i).an ≤ 20 ∧ ∀ k, k < (ks i).an → ∃ q : Nat, (ks i).az k = q ∧ q < i := by
  unfold wkErr at h
  by_cases hn : 2000 < n
  · rw [if_pos hn] at h; cases h
  · rw [if_neg hn] at h
    refine ⟨by omega, fun i hi => ?_⟩
    have hw := firstN_zero h i hi
    unfold wkE at hw
    split at hw
    · cases hw
    · rename_i hb
      split at hw
      · cases hw
      · rename_i ha
        refine ⟨by omega, by omega, by omega, fun k hk => ?_⟩
        have hk2 := firstN_zero hw k hk
        unfold afE at hk2
        split at hk2
        · cases hk2
        · rename_i hz
          exact ⟨((ks i).az k).toNat, by omega, by omega⟩
/-- Go's max. -/
def mxI (a b : Int) : Int := if a < b then b else a
/-- The sums while work i is looked at: k of what it comes after. -/
def lgA (zs : Nat → Int) (i : Nat) (s : Nat → Int) : Nat → (Nat → Int)
  | 0 => s
  | k + 1 => fun j => if j = i then mxI (lgA zs i s k i) (lgA zs i s k (zs k).toNat) else lgA zs i s k j
/-- The sums behind i works. -/
def lgS (ks : Nat → Wk) : Nat → (Nat → Int)
  | 0 => fun _ => 0
  | i + 1 => fun j => if j = i then IntKind.i64.wrap (lgA (ks i).az i (lgS ks i) (ks i).an i + (ks i).cost) else lgA (ks i).az i (lgS ks i) (ks i).an j
/-- The greatest of them. -/
def lgM (ks : Nat → Wk) : Nat → Int
  | 0 => 0
  | i + 1 => mxI (lgM ks i) (lgS ks (i + 1) i)
end Go.Proofs.YtcdcfkgdgimmcaaDoor
