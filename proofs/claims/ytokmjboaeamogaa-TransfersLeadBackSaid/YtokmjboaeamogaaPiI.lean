/- num.Power of 2: near the square. Conditions: those named. -/
import Derived.Test.YtokmjboaeamogaaPiH
namespace Go.Proofs.Ytokmjboaeamogaa
open Go Go.RowKit
/-- p is the single near the square of x. -/
def SquareR (x : Rat) (p : Nat) : Prop := isNum .f32 p = true ∧ Nr (val .f32 p) (x * x) (x * x * (1 / 12000000))
theorem log_twice {D : Nat} (hD : isNum .f64 D = true) (d1 : -100 ≤ val .f64 D) (d2 : val .f64 D ≤ 80) :
    isNum .f64 (fop .mul .f64 D 4611686018427387904) = true ∧ -160 - 41 ≤ val .f64 (fop .mul .f64 D 4611686018427387904) ∧ val .f64 (fop .mul .f64 D 4611686018427387904) ≤ 161 ∧ Nr (val .f64 (fop .mul .f64 D 4611686018427387904)) (2 * val .f64 D) (1 / 17592186044416) := by
  obtain ⟨n, e⟩ := mul64 (x := D) (y := 4611686018427387904) 256 hD lits64.1.1 (by decide +kernel) (by decide +kernel) (by rw [lits64.1.2]; grind) (by rw [lits64.1.2]; grind)
  rw [lits64.1.2] at e
  unfold Nr uQ at *
  refine ⟨n, by grind, by grind, by constructor <;> grind⟩
theorem pow_down {x : Rat} {D V : Nat} (hD : LogP x (val .f64 D)) (hM : Nr (val .f64 (fop .mul .f64 D 4611686018427387904)) (2 * val .f64 D) (1 / 17592186044416)) (hV : isNum .f64 V = true) (hE : ExpP (val .f64 (fop .mul .f64 D 4611686018427387904)) (val .f64 V))
    (q1 : (2 : Rat) ^ (-126 : Int) * (999 / 1000) ≤ x * x) (q2 : x * x ≤ (2 : Rat) ^ (128 : Int) * (33554429 / 33554432)) :
    ∃ p, ovf .f64 .f32 V = false ∧ fcv .f64 .f32 V = p ∧ isN .f32 p = false ∧ cn .f32 p = p ∧ SquareR x p := by
  have n := square_near hD hM hE
  have z1 := zp_pos (-126)
  have z2 := zp_pos 128
  unfold Nr at n
  obtain ⟨Q, hQ⟩ : ∃ Q, Q = x * x := ⟨_, rfl⟩
  rw [← hQ] at n q1 q2
  obtain ⟨g1, g2, g3⟩ := down_rel hV (by grind) (by grind)
  have hn := isNum_not_nan g2
  refine ⟨_, g1, rfl, hn, by unfold cn; rw [hn]; rfl, g2, ?_⟩
  rw [← hQ]
  unfold Nr at *
  constructor <;> grind
end Go.Proofs.Ytokmjboaeamogaa
