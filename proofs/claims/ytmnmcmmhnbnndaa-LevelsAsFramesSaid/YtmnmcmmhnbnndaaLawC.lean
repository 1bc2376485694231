/- LevelsAsFrames: the walk of the statement, whole. No condition. -/
import Derived.Test.YtmnmcmmhnbnndaaLawB
import Derived.Test.YtmnmcmmhnbnndaaOpen
namespace Go.Proofs.Ytmnmcmmhnbnndaa
open Go.RowKit

/-- The first that is not right, or the end. -/
theorem first_bad (p : Nat → Prop) [DecidablePred p] : ∀ n, ∃ N, N ≤ n ∧ (∀ i, i < N → p i) ∧ (N < n → ¬ p N)
  | 0 => ⟨0, Nat.le_refl _, fun _ h => absurd h (Nat.not_lt_zero _), fun h => absurd h (Nat.lt_irrefl _)⟩
  | n + 1 => by
    obtain ⟨N, h1, h2, h3⟩ := first_bad p n
    by_cases hN : N < n
    · exact ⟨N, by omega, h2, fun _ => h3 hN⟩
    · have e : N = n := by omega
      subst e
      by_cases hp : p N
      · exact ⟨N + 1, Nat.le_refl _, fun i hi => by
          rcases Nat.lt_or_eq_of_le (Nat.le_of_lt_succ hi) with h | h
          · exact h2 i h
          · rw [h]; exact hp, fun h => absurd h (Nat.lt_irrefl _)⟩
      · exact ⟨N, by omega, h2, fun _ => hp⟩
theorem laf_walk (x y v h : Int) (a : Option Addr) (len cap : Nat) (zs : List Int) (d : Int) (w : World)
    (hx : IntKind.i64.min ≤ x ∧ x ≤ IntKind.i64.max) (hy : IntKind.i64.min ≤ y ∧ y ≤ IntKind.i64.max) (_ : IntKind.i64.min ≤ v ∧ v ≤ IntKind.i64.max) (_ : IntKind.i64.min ≤ h ∧ h ≤ IntKind.i64.max) (hr : IsRow .i64 w a len cap zs) (_ : IntKind.i64.min ≤ d ∧ d ≤ IntKind.i64.max) :
    Calls Try.prog 3 #[.agg #[.int .i64 x, .int .i64 y, .int .i64 v, .int .i64 h], .slice a len cap, .int .i64 d] w fun e w' => e = .returned (.bool true) ∧ Below w.heap.size w w' := by
  by_cases he : regErr x y v h = 0
  · cases hd : inB d 1 16 with
    | false => exact laf_b x y v h d a len cap w hx hy he hd
    | true =>
      by_cases hl : (len : Int) = 4 * v * h
      · have hd' := inB_iff.1 hd
        obtain ⟨r1, r2, r3, r4, r5, r6, -⟩ := regErr_ok he
        have hlen : 0 < len := by have : 1 ≤ 4 * v * h := by { rw [Int.mul_assoc]; omega }; omega
        rcases hr with ⟨rfl, rfl, -⟩ | ⟨ad, rfl, hlc, -, hzl, hcell, -⟩
        · omega
        · obtain ⟨b, off, spot⟩ := ad
          have hspot : spot = none := by simpa [Addr.add] using World.cell?_spot (hcell 0 (by omega))
          subst hspot
          obtain ⟨N, n1, n2, n3⟩ := first_bad (fun i => 0 ≤ zs.getD i 0 ∧ zs.getD i 0 ≤ 2 ^ d.toNat - 1) len
          exact laf_d x y v h d b off len cap N zs w hx hy he hd' hl n1 (fun hN => by have := n3 hN; omega) (fun i hi => by rw [← Go.WideShapes.add_plain]; exact hcell i (by omega)) n2
      · exact laf_c x y v h d a len cap w hx hy he hd hl
  · exact laf_a x y v h d a len cap w hx hy he
end Go.Proofs.Ytmnmcmmhnbnndaa
