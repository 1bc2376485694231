/- Programs of steps as plain data, what is wrong with one, and programs in memory. No program but that of the memory. No condition. -/
import Derived.Test.YtbaocallhnehfaaGreatDoorPrM
import Derived.Test.YtbaocallhnehfaaGreatDoorPrR
import Derived.Test.YtbaocallhnehfaaGreatDoorQF
import Derived.Test.YtbaocallhnehfaaGreatDoorQD
set_option linter.unusedVariables false
namespace Go.Proofs.YtbaocallhnehfaaGreatDoor
open Go Go.RowKit
/-- A step: its name, its operation, the names that go in, its numbers; where these lie. -/
structure StepD where
  nm : ByteArray
  op : ByteArray
  ins : List ByteArray
  ints : List Int
  reals : List Nat
  ia : Option Addr
  ic : Nat
  na : Option Addr
  nc : Nat
  ra : Option Addr
  rc : Nat
instance : Inhabited StepD := ⟨⟨⟨#[]⟩, ⟨#[]⟩, [], [], [], none, 0, none, 0, none, 0⟩⟩
def stL (s : StepD) : List Value := [.string s.nm, .string s.op, .slice s.ia s.ins.length s.ic, .slice s.na s.ints.length s.nc, .slice s.ra s.reals.length s.rc]
def stV (s : StepD) : Value := .agg #[.string s.nm, .string s.op, .slice s.ia s.ins.length s.ic, .slice s.na s.ints.length s.nc, .slice s.ra s.reals.length s.rc]
/-- A row of strings that came in. -/
def NamesAt (w : World) (a : Option Addr) (l : List ByteArray) : Prop :=
  l = [] ∨ ∃ b off, a = some ⟨b, off, none⟩ ∧ b < w.heap.size ∧ ∀ i v, l[i]? = some v → w.cell? ⟨b, off + i, none⟩ = some (.string v)
theorem NamesAt.past {w w' : World} {a : Option Addr} {l : List ByteArray} (h : NamesAt w a l) (hb : Below w.heap.size w w') : NamesAt w' a l := by
  rcases h with h | ⟨b, off, h1, h2, h3⟩
  · exact .inl h
  · exact .inr ⟨b, off, h1, Nat.lt_of_lt_of_le h2 hb.size, fun i v hv => by rw [hb.cell (p := ⟨b, off + i, none⟩) h2]; exact h3 i v hv⟩
theorem NamesAt.get {w : World} {a : Option Addr} {l : List ByteArray} (h : NamesAt w a l) {i : Nat} {v : ByteArray} (hv : l[i]? = some v) : ∃ b off, a = some ⟨b, off, none⟩ ∧ w.cell? ⟨b, off + i, none⟩ = some (.string v) := by
  rcases h with h | ⟨b, off, h1, h2, h3⟩
  · subst h; simp at hv
  · exact ⟨b, off, h1, h3 i v hv⟩
structure StepAt (w : World) (s : StepD) : Prop where
  n : s.nm.size ≤ maxLen
  o : s.op.size ≤ maxLen
  i : NamesAt w s.ia s.ins
  iz : ∀ v ∈ s.ins, v.size ≤ maxLen
  k : IntsAt 0 w s.na s.ints
  r : RealsAt 0 w s.ra s.reals
  rb : ∀ v ∈ s.reals, v < 2 ^ 32
  kb : ∀ i ∈ s.ints, Int64 i
  bi : s.ins.length ≤ s.ic ∧ s.ic ≤ maxLen
  bk : s.ints.length ≤ s.nc ∧ s.nc ≤ maxLen
  br : s.reals.length ≤ s.rc ∧ s.rc ≤ maxLen
theorem StepAt.past {w w' : World} {s : StepD} (h : StepAt w s) (hb : Below w.heap.size w w') : StepAt w' s := ⟨h.n, h.o, h.i.past hb, h.iz, h.k.past hb, h.r.past hb, h.rb, h.kb, h.bi, h.bk, h.br⟩
/-- Steps in memory. -/
structure StepsAt (w : World) (a : Option Addr) (c n : Nat) (S : Nat → StepD) : Prop where
  r : RowP w a n c 5 (fun i => stL (S i))
  s : ∀ i, i < n → StepAt w (S i)
theorem StepsAt.past {w w' : World} {a : Option Addr} {c n : Nat} {S : Nat → StepD} (h : StepsAt w a c n S) (hb : Below w.heap.size w w') : StepsAt w' a c n S := ⟨h.r.past hb, fun i hi => (h.s i hi).past hb⟩
/-- What may stand in a name. -/
def loB (c : UInt8) : Bool := decide (97 ≤ c.toNat) && decide (c.toNat ≤ 122)
def dgB (c : UInt8) : Bool := decide (48 ≤ c.toNat) && decide (c.toNat ≤ 57)
def chB (i : Nat) (c : UInt8) : Bool := loB c || (decide (0 < i) && (dgB c || decide (c.toNat = 95)))
def allC (i : Nat) : List UInt8 → Bool
  | [] => true
  | c :: l => chB i c && allC (i + 1) l
def sOut : List UInt8 := [111, 117, 116]
def okN (l : List UInt8) : Bool := decide (l ≠ []) && decide (l.length ≤ 40) && decide (l ≠ sOut) && allC 0 l
/-- The first of the steps below i that bears a name. -/
def posS (S : Nat → StepD) : Nat → List UInt8 → Option Nat
  | 0, _ => none
  | i + 1, l => match posS S i l with
    | some j => some j
    | none => if l = (S i).nm.data.toList then some i else none
theorem posS_lt {S : Nat → StepD} {i j : Nat} {l : List UInt8} (h : posS S i l = some j) : j < i := by
  induction i with
  | zero => simp [posS] at h
  | succ i ih =>
    unfold posS at h
    split at h
    · rename_i k hk
      cases h
      have := ih hk; omega
    · split at h
      · cases h; omega
      · cases h
theorem posS_nm {S : Nat → StepD} {i j : Nat} {l : List UInt8} (h : posS S i l = some j) : l = (S j).nm.data.toList := by
  induction i with
  | zero => simp [posS] at h
  | succ i ih =>
    unfold posS at h
    split at h
    · rename_i k hk
      cases h
      exact ih hk
    · split at h
      · rename_i e; cases h; exact e
      · cases h
/-- What comes out of step j. -/
def kdS (S : Nat → StepD) (j : Nat) : Int := match opK (S j).op.data.toList with
  | none => 0
  | some k => (F k).out
def inS1 (S : Nat → StepD) (i : Nat) (x : List UInt8) (f : Int) : Int := match posS S i x with
  | none => 11
  | some j => if kdS S j = f then 0 else 12
/-- What is wrong with step i. -/
def stE (S : Nat → StepD) (i : Nat) : Int :=
  if okN (S i).nm.data.toList = false then 6 else if (posS S i (S i).nm.data.toList).isSome then 7 else match opK (S i).op.data.toList with
  | none => 1
  | some k => if (S i).ins.length = (F k).ins.length ∧ ((S i).ints.length : Int) = (F k).ints ∧ ((S i).reals.length : Int) = (F k).reals
      then fst2 (fstN (fun j => inS1 S i ((S i).ins.getD j ⟨#[]⟩).data.toList ((F k).ins.getD j 0)) (S i).ins.length) (paE k (S i).ints (S i).reals) else 2
/-- What is wrong with a program. -/
def pgE (n : Nat) (S : Nat → StepD) (out : List UInt8) : Int := if n = 0 then 10 else if 100 < n then 4 else
  fst2 (fstN (stE S) n) (match posS S n out with
    | none => 11
    | some j => if kdS S j = 2 then 12 else 0)
/-- What the maps say: of each name the kind, of each name the number. -/
def kfS (S : Nat → StepD) (i : Nat) : List UInt8 → Option Value := fun l => (posS S i l).map (fun j => Value.int .i64 (kdS S j))
def afS (S : Nat → StepD) (i : Nat) : List UInt8 → Option Value := fun l => (posS S i l).map (fun j => Value.int .i64 (j : Int))
theorem kfS_0 (S : Nat → StepD) : kfS S 0 = fun _ => none := rfl
theorem posS_succ {S : Nat → StepD} {i : Nat} (h : posS S i (S i).nm.data.toList = none) (l : List UInt8) : posS S (i + 1) l = if l = (S i).nm.data.toList then some i else posS S i l := by
  show (match posS S i l with | some j => some j | none => if l = (S i).nm.data.toList then some i else none) = _
  by_cases e : l = (S i).nm.data.toList
  · rw [if_pos e, e, h]; simp
  · rw [if_neg e, if_neg e]
    cases posS S i l <;> rfl
theorem kfS_put {S : Nat → StepD} {i : Nat} (h : posS S i (S i).nm.data.toList = none) : ∀ l, putS (kfS S i) (S i).nm.data.toList (.int .i64 (kdS S i)) l = kfS S (i + 1) l := fun l => by
  unfold putS kfS
  rw [posS_succ h]
  by_cases e : l = (S i).nm.data.toList
  · rw [if_pos e, if_pos e]; rfl
  · rw [if_neg e, if_neg e]
theorem afS_put {S : Nat → StepD} {i : Nat} (h : posS S i (S i).nm.data.toList = none) : ∀ l, putS (afS S i) (S i).nm.data.toList (.int .i64 (i : Int)) l = afS S (i + 1) l := fun l => by
  unfold putS afS
  rw [posS_succ h]
  by_cases e : l = (S i).nm.data.toList
  · rw [if_pos e, if_pos e]; rfl
  · rw [if_neg e, if_neg e]
/-- What a right step is. -/
theorem st_ok {S : Nat → StepD} {i : Nat} (h : stE S i = 0) : okN (S i).nm.data.toList = true ∧ posS S i (S i).nm.data.toList = none ∧ ∃ k, opK (S i).op.data.toList = some k ∧ kdS S i = (F k).out ∧ (S i).ins.length = (F k).ins.length ∧ ((S i).ints.length : Int) = (F k).ints ∧ ((S i).reals.length : Int) = (F k).reals ∧
    (∀ j, j < (S i).ins.length → ∃ m, posS S i ((S i).ins.getD j ⟨#[]⟩).data.toList = some m) ∧ paE k (S i).ints (S i).reals = 0 := by
  unfold stE at h
  split at h
  · exact absurd h (by decide)
  rename_i h1
  split at h
  · exact absurd h (by decide)
  rename_i h2
  split at h
  · exact absurd h (by decide)
  rename_i k hk
  split at h
  · rename_i h3
    refine ⟨by simpa using h1, by simpa using h2, k, hk, by unfold kdS; rw [hk], h3.1, h3.2.1, h3.2.2, ?_⟩
    by_cases e : fstN (fun j => inS1 S i ((S i).ins.getD j ⟨#[]⟩).data.toList ((F k).ins.getD j 0)) (S i).ins.length = 0
    · rw [e, fst2_0] at h
      refine ⟨fun j hj => ?_, h⟩
      have h4 := fstN_zero e j hj
      simp only [inS1] at h4
      cases hp : posS S i ((S i).ins.getD j ⟨#[]⟩).data.toList with
      | none => rw [hp] at h4; simp at h4
      | some m => exact ⟨m, rfl⟩
    · rw [fst2_n e] at h; exact absurd h e
  · exact absurd h (by decide)
theorem kdS_12 {S : Nat → StepD} {i j n : Nat} (hz : fstN (stE S) i = 0) (hj : j < i) : kdS S j = 1 ∨ kdS S j = 2 := by
  obtain ⟨-, -, k, hk, h1, -⟩ := st_ok (fstN_zero hz j hj)
  rw [h1]; exact F_out (opK_name hk).1
end Go.Proofs.YtbaocallhnehfaaGreatDoor
