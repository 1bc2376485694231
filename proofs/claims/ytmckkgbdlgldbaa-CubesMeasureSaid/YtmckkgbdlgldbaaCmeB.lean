/- The greatest difference of two cubes: cube.Apart, dyeref2.CubesApart. Conditions: what each theorem names. -/
import Derived.Test.YtmckkgbdlgldbaaCmeA
namespace Go.Proofs.Ytmckkgbdlgldbaa
open Go Go.RowKit
theorem gapF_le (a b : Nat) : gapF a b ≤ 2139095040 := by
  unfold gapF
  split
  · omega
  split
  · omega
  · rename_i h
    have h : isN .f32 (fop .sub .f32 a b) = false := by simpa using h
    rw [← meNan_mod, isN_rung] at h
    have e : ∀ y, rung FloatKind.f32.format y = y % 2147483648 := fun _ => rfl
    rw [e, Nat.mod_mod, f32_ir] at h
    simpa using h
theorem key_pos {x : Nat} (hx : x ≤ 2139095040) : key FloatKind.f32.format x = (x : Int) := by
  have e : rung FloatKind.f32.format x = x % 2147483648 := rfl
  have hs : sgn FloatKind.f32.format x = false := by
    show (x / 2147483648 % 2 == 1) = false
    rw [Nat.div_eq_of_lt (by omega)]; rfl
  unfold key
  rw [hs, e, Nat.mod_eq_of_lt (by omega)]; rfl
theorem key_m0 : key FloatKind.f32.format 2147483648 = 0 := by decide
theorem num_pos {x : Nat} (hx : x ≤ 2139095040) : isN .f32 x = false := by
  rw [isN_rung, f32_ir]
  have e : rung FloatKind.f32.format x = x % 2147483648 := rfl
  rw [e, Nat.mod_eq_of_lt (by omega)]; simpa using hx
theorem num_m0 : isN .f32 2147483648 = false := by decide +kernel
/-- A value of cube.gap beside its magnitude. -/
theorem gap_key {a b r : Nat} (h : GapR a b r) : key FloatKind.f32.format r = (gapF a b : Int) ∧ isN .f32 r = false := by
  rcases h with rfl | ⟨rfl, h⟩
  · exact ⟨key_pos (gapF_le a b), num_pos (gapF_le a b)⟩
  · rw [h]; exact ⟨key_m0, num_m0⟩
theorem run_max_gap {P : Program} {a b r x : Nat} (h : GapR a b r) (hx : x ≤ 2139095040) (ts : Array TypeId) (t : TypeId) (w : World) :
    (Builtin.max_ ts t #[.float .f32 x, .float .f32 r]).run P w = .ok (.float .f32 (Nat.max x (gapF a b))) w := by
  obtain ⟨hk, hn⟩ := gap_key h
  have ho := ord_of (num_pos hx) hn
  rw [key_pos hx, hk] at ho
  unfold Builtin.max_ 
  simp only [List.foldlM]
  unfold Builtin.max2
  simp only [ho]
  rcases Int.lt_trichotomy (x : Int) (gapF a b : Int) with h1 | h1 | h1
  · have hc : compare (x : Int) (gapF a b : Int) = .lt := by rw [Int.compare_eq_lt]; exact h1
    rw [hc]
    have : r = gapF a b := by
      rcases h with rfl | ⟨rfl, h⟩
      · rfl
      · omega
    subst this
    simp [Nat.max_def]; omega
  · have hc : compare (x : Int) (gapF a b : Int) = .eq := by rw [Int.compare_eq_eq]; exact h1
    rw [hc]
    have hs : (FloatKind.f32.decode x).neg = false := by
      have hz : (x / FloatKind.f32.format.signWeight % 2 == 1) = false := by
        show (x / 2147483648 % 2 == 1) = false
        rw [Nat.div_eq_of_lt (by omega)]; rfl
      show (FloatKind.f32.format.read x).neg = false
      unfold Ieee.Format.read
      simp only [hz]
      repeat' split
      all_goals rfl
    have e : Nat.max x (gapF a b) = x := Nat.max_eq_left (by omega)
    rw [e]
    simp [hs]
  · have hc : compare (x : Int) (gapF a b : Int) = .gt := by rw [Int.compare_eq_gt]; exact h1
    rw [hc]
    simp [Nat.max_def]; omega
end Go.Proofs.Ytmckkgbdlgldbaa
