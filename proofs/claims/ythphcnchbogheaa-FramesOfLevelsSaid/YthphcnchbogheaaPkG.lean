/- Packed levels: slices.Equal of integers; finish.Pack's errors. Conditions: what each theorem names. -/
import Derived.Test.YthphcnchbogheaaPkF
namespace Go.Proofs.Ythphcnchbogheaa
open Go Go.RowKit
set_option maxRecDepth 100000 in
set_option maxHeartbeats 1600000 in
theorem EqI_yes (b off b' off' n cap cap' : Nat) (a a' : Option Addr) (f : Nat → Int) (w : World) (ha : 0 < n → a = some ⟨b, off, none⟩) (hc : ∀ i, i < n → w.cell? ⟨b, off + i, none⟩ = some (.int .i64 (f i))) (ha' : 0 < n → a' = some ⟨b', off', none⟩) (hc' : ∀ i, i < n → w.cell? ⟨b', off' + i, none⟩ = some (.int .i64 (f i))) (hn : n ≤ 65536) :
    Calls Try.prog 12 #[.slice a n cap, .slice a' n cap'] w fun e w' => e = .returned (.bool true) ∧ Below w.heap.size w w' := by
  have HA := Lib.hid ha; have HC := Lib.hid hc; have HA' := Lib.hid ha'; have HC' := Lib.hid hc'
  have HBW := Lib.hid (fun h => cell_lt (hc 0 h) : 0 < n → b < w.heap.size)
  have HBW' := Lib.hid (fun h => cell_lt (hc' 0 h) : 0 < n → b' < w.heap.size)
  clear ha hc ha' hc'
  go_enter Try.func12, Try.ntmps12
  go_wp2_with fail
  go_loopw [13] (fun s13 wr => ∃ k : Nat, k ≤ n ∧ s13 = .int .i64 k ∧ Below w.heap.size w wr) (fun s13 _ => n - (intOf s13).toNat)
  case atStart => exact ⟨0, Nat.zero_le _, rfl, Below.refl _ _⟩
  case round =>
    obtain ⟨k, hk, rfl, hB⟩ := hrel
    have HB := Lib.hid hB
    clear hB
    by_cases hkn : k < n
    · obtain rfl := HA.out (by omega)
      obtain rfl := HA'.out (by omega)
      have c0 := (HB.out.cell (p := ⟨b, off + k, none⟩) (HBW.out (by omega))).trans (HC.out k hkn)
      have c1 := (HB.out.cell (p := ⟨b', off' + k, none⟩) (HBW'.out (by omega))).trans (HC'.out k hkn)
      generalize f k = z at *
      have l0 := cell_lt c0; have l1 := cell_lt c1
      simp only at l0 l1
      have hkn' : (k : Int) < (n : Int) := by omega
      go_wp2_with fail
      go_quiet (fail)
      go_wp2_with fail
      go_roundw
      case rel => exact ⟨k + 1, by omega, by go_num, HB.out.trans ((below_drewN (Below.refl _ _) _).mono HB.out.size)⟩
      case measure => simp [intOf]; omega
    · have hkk : ¬ (k : Int) < (n : Int) := by omega
      go_wp2_with fail
      go_ret
      exact ⟨rfl, HB.out⟩
/-- Whether the levels are in range, as an error. -/
def pE (zs : Nat → Int) (M : Int) : Nat → Int
  | 0 => 0
  | k + 1 => firstE (pE zs M k) (whenE (!inB (zs k) 0 M) 3)
theorem pE_zero {zs : Nat → Int} {M : Int} : ∀ {k : Nat}, (∀ i, i < k → 0 ≤ zs i ∧ zs i ≤ M) → pE zs M k = 0 := by
  intro k
  induction k with
  | zero => intro _; rfl
  | succ k ih =>
    intro h
    show firstE (pE zs M k) (whenE (!inB (zs k) 0 M) 3) = 0
    rw [ih (fun i hi => h i (by omega)), inB_t (h k (by omega))]; rfl
theorem pE_cases (zs : Nat → Int) (M : Int) : ∀ k : Nat, (pE zs M k = 0 ∧ ∀ i, i < k → 0 ≤ zs i ∧ zs i ≤ M) ∨ (pE zs M k = 3 ∧ ∃ N0, N0 < k ∧ (∀ i, i < N0 → 0 ≤ zs i ∧ zs i ≤ M) ∧ ¬ (0 ≤ zs N0 ∧ zs N0 ≤ M)) := by
  intro k
  induction k with
  | zero => exact .inl ⟨rfl, fun i hi => by omega⟩
  | succ k ih =>
    have e : pE zs M (k + 1) = firstE (pE zs M k) (whenE (!inB (zs k) 0 M) 3) := rfl
    rcases ih with ⟨h1, h2⟩ | ⟨h1, N0, h2, h3, h4⟩
    · by_cases h : 0 ≤ zs k ∧ zs k ≤ M
      · left
        refine ⟨by rw [e, h1, inB_t h]; rfl, fun i hi => ?_⟩
        rcases (show i < k ∨ i = k by omega) with h' | rfl
        · exact h2 i h'
        · exact h
      · right
        have hf : inB (zs k) 0 M = false := by
          cases hb : inB (zs k) 0 M
          · rfl
          · exact absurd (inB_iff.1 hb) h
        exact ⟨by rw [e, h1, hf]; rfl, k, by omega, h2, h⟩
    · right
      exact ⟨by rw [e, h1]; rfl, N0, by omega, h3, h4⟩
/-- The cells of what was unpacked. -/
theorem un_cells {w wr : World} {u : Value} {f : Nat → Int} {n : Nat} (h : UnR w wr u f n) : ∃ (g : Nat) (a : Option Addr) (c : Nat), u = .slice a n c ∧ (0 < n → a = some ⟨g, 0, none⟩) ∧ ∀ i, i < n → wr.cell? ⟨g, 0 + i, none⟩ = some (.int .i64 (f i)) := by
  rcases Nat.eq_zero_or_pos n with h0 | h0
  · obtain ⟨a, c, rfl⟩ := un_form h
    exact ⟨0, a, c, rfl, fun h => by omega, fun i hi => by omega⟩
  · obtain ⟨g, c, rfl, -, -, -, -⟩ := own_form h.own h0
    have hc := h.own.cells (g := g) rfl
    refine ⟨g, _, c, rfl, fun _ => rfl, fun i hi => ?_⟩
    have := hc i (.int .i64 (f i)) (by simp [valsI, hi])
    rw [Go.WideShapes.add_plain] at this
    exact this
end Go.Proofs.Ythphcnchbogheaa
