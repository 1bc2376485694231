/- Spreading of errors, as a plain function of the steps. Conditions: what each theorem names. -/
import Derived.Test.YthphcnchbogheaaLvF
namespace Go.Proofs.Ythphcnchbogheaa
open Go Go.RowKit
/-- What is left of a value at its level: nothing where that is no number. -/
def errF (v : Nat) (d : Int) : Nat := if isNum .f32 (fop .sub .f32 v (valueF (levelOf v 0 d) d)) = true then fop .sub .f32 v (valueF (levelOf v 0 d) d) else 0
/-- A sixteenth of w parts of e, added at place k. -/
def giveF (t : Nat → Nat) (k e w : Nat) : Nat → Nat := fun j => if j = k then fop .add .f32 (t k) (fop .quo .f32 (fop .mul .f32 e w) 1098907648) else t j
def toF (c : Bool) (t : Nat → Nat) (k e w : Nat) : Nat → Nat := if c = true then giveF t k e w else t
/-- The value at place j with what came to it. -/
def sumF (fs t : Nat → Nat) (j : Nat) : Nat := fop .add .f32 (fs j) (t j)
/-- One step: pixel p = y V + x, channel c. -/
def stepF (V h : Nat) (d : Int) (fs : Nat → Nat) (x y c : Nat) (t : Nat → Nat) : Nat → Nat :=
  let j := 4 * (y * V + x) + c
  let e := errF (sumF fs t j) d
  toF (decide (x + 1 < V) && decide (y + 1 < h)) (toF (decide (y + 1 < h)) (toF (decide (0 < x) && decide (y + 1 < h)) (toF (decide (x + 1 < V)) t (j + 4) e 1088421888) (j + 4 * V - 4) e 1077936128) (j + 4 * V) e 1084227584) (j + 4 * V + 4) e 1065353216
def stT (V h : Nat) (d : Int) (fs : Nat → Nat) : Nat → Nat → Nat
  | 0 => fun _ => 0
  | s + 1 => stepF V h d fs (s / 3 % V) (s / 3 / V) (s % 3) (stT V h d fs s)
/-- The level at place j. -/
def dfZ (V h : Nat) (d : Int) (fs : Nat → Nat) (j : Nat) : Int := if j % 4 = 3 then levelOf (fs j) 0 d else levelOf (sumF fs (stT V h d fs (3 * (j / 4) + j % 4)) j) 0 d
theorem stT_succ (V h : Nat) (d : Int) (fs : Nat → Nat) (x y c : Nat) (hx : x < V) (hc : c < 3) : stT V h d fs (3 * (y * V + x) + c + 1) = stepF V h d fs x y c (stT V h d fs (3 * (y * V + x) + c)) := by
  have h1 : (3 * (y * V + x) + c) / 3 = y * V + x := by omega
  have h2 : (3 * (y * V + x) + c) % 3 = c := by omega
  have h3 : (y * V + x) % V = x := by rw [Nat.add_comm, Nat.add_mul_mod_self_right]; exact Nat.mod_eq_of_lt hx
  have h4 : (y * V + x) / V = y := by rw [Nat.add_comm, Nat.add_mul_div_right _ _ (by omega), Nat.div_eq_of_lt hx]; omega
  show stepF V h d fs ((3 * (y * V + x) + c) / 3 % V) ((3 * (y * V + x) + c) / 3 / V) ((3 * (y * V + x) + c) % 3) _ = _
  rw [h1, h2, h3, h4]
theorem dfZ_3 (V h : Nat) (d : Int) (fs : Nat → Nat) (p : Nat) : dfZ V h d fs (4 * p + 3) = levelOf (fs (4 * p + 3)) 0 d := by
  unfold dfZ; rw [if_pos (by omega)]
theorem dfZ_c (V h : Nat) (d : Int) (fs : Nat → Nat) (p c : Nat) (hc : c < 3) : dfZ V h d fs (4 * p + c) = levelOf (sumF fs (stT V h d fs (3 * p + c)) (4 * p + c)) 0 d := by
  unfold dfZ; rw [if_neg (by omega), show (4 * p + c) / 4 = p by omega, show (4 * p + c) % 4 = c by omega]
/-- A row of singles that holds t, up to what is no number. -/
def FRow (w : World) (g n : Nat) (t : Nat → Nat) : Prop := ∃ es : Nat → Nat, w.rowIs g 46 n (fun j => .float .f32 (es j)) ∧ ∀ j, FR .f32 (es j) (t j)
end Go.Proofs.Ythphcnchbogheaa
