/- dyetop.TopWorks returns true for every input. No condition. -/
import Derived.Test.YtkadinjhfldokaaTwB
namespace Go.Proofs.Ytkadinjhfldokaa
open Go Go.RowKit
theorem tw_walk (a : Option Addr) (n c : Nat) (ks : Nat → Wk) (a2 : Option Addr) (m c2 : Nat) (ms : Nat → Mc) (t : Int) (w : World) (h : IsWorks w a n c ks) (h2 : IsMachines w a2 m c2 ms) (_ht : -9223372036854775808 ≤ t ∧ t ≤ 9223372036854775807) :
    Calls Try.prog 4 #[.slice a n c, .slice a2 m c2, .int .i64 t] w fun e w' => e = .returned (.bool true) ∧ Below w.heap.size w w' := by
  by_cases hE : wkErr n ks = 0
  · by_cases hF : mcErr m ms = 0
    · by_cases ht : t < 1 ∨ 10 < t
      · exact TopWorks_err (D := ⟨n, ks, m, ms, t⟩) w 3 (by decide) (Simulate_no3 (D := ⟨n, ks, m, ms, t⟩) t w h h2 hE hF ht)
      · exact TopWorks_yes (D := ⟨n, ks, m, ms, t⟩) w h h2 ⟨hE, hF, by show 1 ≤ t ∧ t ≤ 10; omega⟩
    · exact TopWorks_err (D := ⟨n, ks, m, ms, t⟩) w _ hF (Simulate_no2 (D := ⟨n, ks, m, ms, t⟩) (.int .i64 t) w h h2 hE hF)
  · exact TopWorks_err (D := ⟨n, ks, m, ms, t⟩) w _ hE (Simulate_no1 (D := ⟨n, ks, m, ms, t⟩) (.int .i64 t) w h hE)
end Go.Proofs.Ytkadinjhfldokaa
