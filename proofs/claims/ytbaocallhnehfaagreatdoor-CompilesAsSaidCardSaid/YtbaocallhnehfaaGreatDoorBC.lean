/- What the checks of regions and of numbers within bounds give (frame.CheckRegion, dyeref2.RegionError, In, When, First; finish.deep). No condition. (with: ErrB, LevA, Near, NearB, LevB, LevC) -/
import Derived.Test.YtbaocallhnehfaaGreatDoorBA
import Derived.Test.YtbaocallhnehfaaGreatDoorBB
import Derived.Deep.OwnRows
import Derived.Outline
import Derived.Deep.DeepCutAuto
namespace Go.Proofs.YtbaocallhnehfaaGreatDoor
open Go.RowKit

/-- The error of a region (P20). -/
def regErr (x y w h : Int) : Int :=
  if w < 1 ∨ 256 < w ∨ h < 1 ∨ 256 < h then 3 else if 16384 < w * h then 4
  else if x < -1048576 ∨ 1048576 - w < x ∨ y < -1048576 ∨ 1048576 - h < y then 5 else 0
def whenE (b : Bool) (e : Int) : Int := if b then e else 0
def firstE (a b : Int) : Int := if a = 0 then b else a
def inB (n lo hi : Int) : Bool := decide (lo ≤ n) && decide (n ≤ hi)

@[go_sem] theorem whenE_true (e : Int) : whenE true e = e := rfl
@[go_sem] theorem whenE_false (e : Int) : whenE false e = 0 := rfl
@[go_sem] theorem firstE_0 (b : Int) : firstE 0 b = b := rfl
@[go_sem] theorem firstE_1 (b : Int) : firstE 1 b = 1 := rfl
@[go_sem] theorem firstE_2 (b : Int) : firstE 2 b = 2 := rfl
@[go_sem] theorem firstE_3 (b : Int) : firstE 3 b = 3 := rfl
@[go_sem] theorem firstE_4 (b : Int) : firstE 4 b = 4 := rfl
@[go_sem] theorem firstE_5 (b : Int) : firstE 5 b = 5 := rfl
@[go_sem] theorem firstE_8 (b : Int) : firstE 8 b = 8 := rfl
theorem firstE_of {a : Int} (b : Int) (h : a ≠ 0) : firstE a b = a := by unfold firstE; rw [if_neg h]
theorem inB_t {n lo hi : Int} (h : lo ≤ n ∧ n ≤ hi) : inB n lo hi = true := by unfold inB; rw [decide_eq_true h.1, decide_eq_true h.2]; rfl
theorem inB_f {n lo hi : Int} (h : n < lo ∨ hi < n) : inB n lo hi = false := by
  unfold inB; rcases h with h | h
  · rw [decide_eq_false (by omega)]; rfl
  · rw [decide_eq_false (show ¬ n ≤ hi by omega), Bool.and_false]
theorem inB_iff {n lo hi : Int} : inB n lo hi = true ↔ lo ≤ n ∧ n ≤ hi := by unfold inB; simp
theorem ret_i {k : IntKind} {a b : Int} (h : a = b) : Ending.returned (.int k a) = .returned (.int k b) := by rw [h]
theorem ret_b {a b : Bool} (h : a = b) : Ending.returned (.bool a) = .returned (.bool b) := by rw [h]

set_option maxHeartbeats 400000 in
theorem In_any (n lo hi : Int) (w : World) : Calls Tryz.prog 38 #[.int .i64 n, .int .i64 lo, .int .i64 hi] w fun e w' => e = .returned (.bool (inB n lo hi)) ∧ w = w' := by
  go_enter Tryz.func38, Tryz.ntmps38
  go_wp2
  all_goals (go_ret; refine ⟨ret_b ?_, rfl⟩; unfold inB; rw [Bool.eq_iff_iff]; simp; try omega)
set_option maxHeartbeats 400000 in
theorem When_any (b : Bool) (n : Int) (w : World) : Calls Tryz.prog 18 #[.bool b, .int .i64 n] w fun e w' => e = .returned (.int .i64 (whenE b n)) ∧ w = w' := by
  cases b <;> (go_enter Tryz.func18, Tryz.ntmps18; go_wp2; go_ret; exact ⟨rfl, rfl⟩)
set_option maxHeartbeats 400000 in
theorem out_any (x v : Int) (w : World) (hv : 1 ≤ v ∧ v ≤ 256) : Calls Tryz.prog 146 #[.int .i64 x, .int .i64 v] w fun e w' => e = .returned (.bool (!inB x (-1048576) (1048576 - v))) ∧ w = w' := by
  obtain ⟨h1, h2⟩ := hv
  go_enter Tryz.func146, Tryz.ntmps146
  go_wp2
  all_goals (go_ret; refine ⟨ret_b ?_, rfl⟩; unfold inB; rw [Bool.eq_iff_iff]; simp; try omega)
set_option maxHeartbeats 400000 in
theorem CheckRegion_any (x y v h : Int) (w : World) : Calls Tryz.prog 117 #[.agg #[.int .i64 x, .int .i64 y, .int .i64 v, .int .i64 h]] w fun e w' => e = .returned (.int .i64 (regErr x y v h)) ∧ Below w.heap.size w w' := by
  by_cases hv : 1 ≤ v ∧ v ≤ 256 ∧ 1 ≤ h ∧ h ≤ 256
  · obtain ⟨h1, h2, h3, h4⟩ := hv
    have hp : 0 ≤ v * h := Int.mul_nonneg (by omega) (by omega)
    have hp2 : v * h ≤ 256 * 256 := Int.mul_le_mul h2 h4 (by omega) (by omega)
    go_enter Tryz.func117, Tryz.ntmps117
    go_wp2_with (first | (go_at_call 146; refine (out_any _ _ _ ⟨by omega, by omega⟩).mono ?_; rintro e w' ⟨rfl, rfl⟩))
    all_goals
      go_ret
      simp only [Bool.not_eq_true', inB_iff, Bool.eq_false_iff, ne_eq] at *
      refine ⟨ret_i ?_, (Below.refl _ _).alloc (Nat.le_refl _) _⟩
      unfold regErr; rw [if_neg (by omega)]; (repeat' split) <;> omega
  · by_cases h1 : v < 1
    · go_enter Tryz.func117, Tryz.ntmps117
      go_wp2_with fail
      go_ret
      exact ⟨ret_i (by unfold regErr; rw [if_pos (by omega)]), (Below.refl _ _).alloc (Nat.le_refl _) _⟩
    · by_cases h2 : 256 < v
      · go_enter Tryz.func117, Tryz.ntmps117
        go_wp2_with fail
        go_ret
        exact ⟨ret_i (by unfold regErr; rw [if_pos (by omega)]), (Below.refl _ _).alloc (Nat.le_refl _) _⟩
      · by_cases h3 : h < 1
        · go_enter Tryz.func117, Tryz.ntmps117
          go_wp2_with fail
          go_ret
          exact ⟨ret_i (by unfold regErr; rw [if_pos (by omega)]), (Below.refl _ _).alloc (Nat.le_refl _) _⟩
        · have h4 : 256 < h := by omega
          go_enter Tryz.func117, Tryz.ntmps117
          go_wp2_with fail
          go_ret
          exact ⟨ret_i (by unfold regErr; rw [if_pos (by omega)]), (Below.refl _ _).alloc (Nat.le_refl _) _⟩

end Go.Proofs.YtbaocallhnehfaaGreatDoor

namespace Go.Proofs.YtbaocallhnehfaaGreatDoor
open Go.RowKit

set_option maxHeartbeats 400000 in
/-- Two errors in new memory. -/
theorem First2_any (a b : Int) (g : Nat) (w : World) (h0 : w.cell? ⟨g, 0, none⟩ = some (.int .i64 a)) (h1 : w.cell? ⟨g, 1, none⟩ = some (.int .i64 b)) :
    Calls Tryz.prog 17 #[.slice (some ⟨g, 0, none⟩) 2 2] w fun e w' => e = .returned (.int .i64 (firstE a b)) ∧ w = w' := by
  by_cases ha : a = 0
  · subst ha
    go_enter Tryz.func17, Tryz.ntmps17
    go_wp2
    refine wp_loop_rounds 3 ?_
    go_wp2_with (simp only [rounds_succ])
    all_goals (go_ret; refine ⟨ret_i ?_, rfl⟩; unfold firstE; rw [if_pos rfl]; try simp_all)
  · have ha' : (a != 0) = true := by simpa using ha
    have ha2 := Lib.hid ha; clear ha
    go_enter Tryz.func17, Tryz.ntmps17
    go_wp2
    refine wp_loop_rounds 3 ?_
    go_wp2_with (simp only [rounds_succ])
    all_goals (go_ret; refine ⟨ret_i ?_, rfl⟩; unfold firstE; rw [if_neg ha2.out])
theorem heap_new (w : World) (o : Obj) (g : Nat) (hg : g = w.heap.size) : (w.alloc o).heap[g]? = some o := by subst hg; exact heap_alloc_new w o
/-- .. in a block that has just been laid. -/
theorem First2_new (a b : Int) (g : Nat) (t : TypeId) (w : World) (h : w.heap[g]? = some (.cells #[.int .i64 a, .int .i64 b] t)) :
    Calls Tryz.prog 17 #[.slice (some ⟨g, 0, none⟩) 2 2] w fun e w' => e = .returned (.int .i64 (firstE a b)) ∧ w = w' :=
  First2_any a b g w (by simp [World.cell?, h]) (by simp [World.cell?, h])
end Go.Proofs.YtbaocallhnehfaaGreatDoor

namespace Go.Proofs.YtbaocallhnehfaaGreatDoor
open Go.RowKit

theorem FR.exact {k : FloatKind} {r s : Nat} (h : FR k r s) (hs : isN k s = false) : r = s := by
  have h1 := h.eq
  by_cases hr : isN k r = true
  · rw [cn_of_nan hr] at h1; rw [← h1, isN_nanOf] at hs; cases hs
  · rw [cn_of_not (by simpa using hr)] at h1; exact h1
/-- The value of a level. -/
def valueF (n d : Int) : Nat := fop .quo .f32 (floatOfInt .f32 n) (floatOfInt .f32 (2 ^ d.toNat - 1))
/-- No frame: a region of zeros and no values. -/
def noneB (x y v h : Int) (l : Nat) : Bool := decide (x = 0 ∧ y = 0 ∧ v = 0 ∧ h = 0 ∧ l = 0)
@[go_sem] theorem noneB_zero : noneB 0 0 0 0 0 = true := rfl
end Go.Proofs.YtbaocallhnehfaaGreatDoor

namespace Go.Proofs.YtbaocallhnehfaaGreatDoor
open Go.RowKit

/-- The order of numbers' bits is that of the numbers. -/
theorem val_lt_key {k : FloatKind} {x y : Nat} : val k x < val k y ↔ key k.format x < key k.format y := by
  have p := vq_lt_iff k.format (r := rung k.format x) (s := rung k.format y)
  have q := vq_lt_iff k.format (r := rung k.format y) (s := rung k.format x)
  have a := vq_nonneg k.format (rung k.format x)
  have b := vq_nonneg k.format (rung k.format y)
  have c := vq_inj k.format (r := rung k.format x) (s := 0)
  have d := vq_inj k.format (r := rung k.format y) (s := 0)
  rw [vq_zero] at c d
  have c' : vq k.format (rung k.format x) = 0 ↔ rung k.format x = 0 := ⟨c, fun h => by rw [h, vq_zero]⟩
  have d' : vq k.format (rung k.format y) = 0 ↔ rung k.format y = 0 := ⟨d, fun h => by rw [h, vq_zero]⟩
  clear c d
  unfold val key
  generalize vq k.format (rung k.format x) = X at *
  generalize vq k.format (rung k.format y) = Y at *
  generalize rung k.format x = r at *
  generalize rung k.format y = s at *
  cases sgn k.format x <;> cases sgn k.format y <;> simp only [if_true, if_false, Bool.false_eq_true]
  · constructor
    · intro h; have := p.1 h; omega
    · intro h; exact p.2 (by omega)
  · constructor
    · intro h; exfalso; grind
    · intro h; omega
  · constructor
    · intro h
      have : ¬ (r = 0 ∧ s = 0) := fun ⟨h1, h2⟩ => by have := c'.2 h1; have := d'.2 h2; grind
      omega
    · intro h
      have : ¬ (X = 0 ∧ Y = 0) := fun ⟨h1, h2⟩ => by have := c'.1 h1; have := d'.1 h2; omega
      grind
  · constructor
    · intro h; have := q.1 (by grind); omega
    · intro h; have := q.2 (by omega); grind
theorem val_le_key {k : FloatKind} {x y : Nat} : val k x ≤ val k y ↔ key k.format x ≤ key k.format y := by
  have := val_lt_key (k := k) (x := y) (y := x)
  constructor
  · intro h; by_cases h' : key k.format y < key k.format x
    · have := this.2 h'; grind
    · omega
  · intro h; have h2 : ¬ val k y < val k x := fun h' => by have := this.1 h'; omega
    grind

/-- The nearest integer within bounds (P3). -/
def nearOf (v : Nat) (lo hi : Int) : Int × Bool :=
  if isN .f32 v then (lo, false)
  else
    let x := fwhole .even (fcv .f32 .f64 v)
    if ford .f64 x (floatOfInt .f64 lo) == some .lt then (lo, false)
    else if ford .f64 x (floatOfInt .f64 hi) == some .gt then (hi, false)
    else ((floatToIntVal .f64 x .i64).getD 0, true)
end Go.Proofs.YtbaocallhnehfaaGreatDoor

namespace Go.Proofs.YtbaocallhnehfaaGreatDoor
open Go.RowKit

end Go.Proofs.YtbaocallhnehfaaGreatDoor

namespace Go.Proofs.YtbaocallhnehfaaGreatDoor
open Go.RowKit

/-- The level of a value. -/
def levelOf (v o : Nat) (d : Int) : Int := (nearOf (fop .add .f32 (fop .mul .f32 v (floatOfInt .f32 (2 ^ d.toNat - 1))) o) 0 (2 ^ d.toNat - 1)).1
end Go.Proofs.YtbaocallhnehfaaGreatDoor

namespace Go.Proofs.YtbaocallhnehfaaGreatDoor
open Go.RowKit

theorem bcell {W w1 : World} (hb : Below W.heap.size W w1) : (∀ b o, b < W.heap.size → w1.cell? ⟨b, o, none⟩ = W.cell? ⟨b, o, none⟩) ∧ (∀ b o, b < W.heap.size → w1.frozen? ⟨b, o, none⟩ = W.frozen? ⟨b, o, none⟩) ∧ W.heap.size ≤ w1.heap.size :=
  ⟨fun b o h => hb.cell (p := ⟨b, o, none⟩) h, fun b o h => hb.frozen (p := ⟨b, o, none⟩) h, hb.size⟩
theorem regErr_ok {x y v h : Int} (he : regErr x y v h = 0) : 1 ≤ v ∧ v ≤ 256 ∧ 1 ≤ h ∧ h ≤ 256 ∧ v * h ≤ 16384 ∧ 1 ≤ v * h ∧ -1048576 ≤ x ∧ x ≤ 1048576 - v ∧ -1048576 ≤ y ∧ y ≤ 1048576 - h := by
  unfold regErr at he
  by_cases h1 : v < 1 ∨ 256 < v ∨ h < 1 ∨ 256 < h
  · rw [if_pos h1] at he; cases he
  · rw [if_neg h1] at he
    by_cases h2 : 16384 < v * h
    · rw [if_pos h2] at he; cases he
    · rw [if_neg h2] at he
      by_cases h3 : x < -1048576 ∨ 1048576 - v < x ∨ y < -1048576 ∨ 1048576 - h < y
      · rw [if_pos h3] at he; cases he
      · have hp : 1 * 1 ≤ v * h := Int.mul_le_mul (by omega) (by omega) (by decide) (by omega)
        exact ⟨by omega, by omega, by omega, by omega, by omega, by omega, by omega, by omega, by omega, by omega⟩
theorem cell_lt {w : World} {a : Addr} {v : Value} (h : w.cell? a = some v) : a.block < w.heap.size := by
  rcases Nat.lt_or_ge a.block w.heap.size with h' | h'
  · exact h'
  · simp [World.cell?, Array.getElem?_eq_none h'] at h
/-- A frame's variable at block n: the region, the row of values at block g. -/
structure FrameAt (w : World) (n : Nat) (x y v h : Int) (g len : Nat) : Prop where
  c0 : w.cell? ⟨n, 0, none⟩ = some (.int .i64 x)
  c1 : w.cell? ⟨n, 1, none⟩ = some (.int .i64 y)
  c2 : w.cell? ⟨n, 2, none⟩ = some (.int .i64 v)
  c3 : w.cell? ⟨n, 3, none⟩ = some (.int .i64 h)
  c4 : w.cell? ⟨n, 4, none⟩ = some (.slice (some ⟨g, 0, none⟩) len len)
/-- What Frame leaves: the frame, or, where level N is none, an error. -/
def FramePost (w : World) (x y v h d : Int) (zs : List Int) (N len : Nat) (e : Ending) (w' : World) : Prop :=
  (N = len ∧ ∃ g, e = .returned (.tuple #[.agg #[.int .i64 x, .int .i64 y, .int .i64 v, .int .i64 h, .slice (some ⟨g, 0, none⟩) len len], .int .i64 0]) ∧ w.heap.size ≤ g ∧ (∀ i, i < len → w'.cell? ⟨g, i, none⟩ = some (.float .f32 (valueF (zs.getD i 0) d))) ∧ Below w.heap.size w w') ∨
  (N < len ∧ e = .returned (.tuple #[.agg #[.int .i64 0, .int .i64 0, .int .i64 0, .int .i64 0, .slice none 0 0], .int .i64 3]) ∧ Below w.heap.size w w')
end Go.Proofs.YtbaocallhnehfaaGreatDoor
