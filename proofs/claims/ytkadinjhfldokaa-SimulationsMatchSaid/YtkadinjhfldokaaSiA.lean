/- Work on machines, in plain words: what stands at a time, and what is done next. Plain Lean. No condition. -/
import Derived.Test.YtkadinjhfldokaaMcA
namespace Go.Proofs.Ytkadinjhfldokaa
/-- What is given: works and machines, as far as they are read, and the tries. -/
structure SimD where
  nw : Nat
  W : Nat → Wk
  nm : Nat
  M : Nat → Mc
  tr : Int
/-- What stands: the time, each work's state (0 waiting, 1 running, 2 done, 3 lost) and how often it failed, each machine's run, the runs that ended. -/
structure SimS where
  now : Int
  st : Nat → Int
  fl : Nat → Int
  bz : Nat → Option RunV
  k : Nat
  q : Nat → RunV
def updF {α : Type} (f : Nat → α) (i : Nat) (x : α) : Nat → α := fun j => if j = i then x else f j
theorem updF_at {α : Type} (f : Nat → α) (i : Nat) (x : α) : updF f i x i = x := if_pos rfl
theorem updF_ne {α : Type} (f : Nat → α) {i j : Nat} (x : α) (h : j ≠ i) : updF f i x j = f j := if_neg h
/-- Whether one of the first is so. -/
def anyP (p : Nat → Bool) : Nat → Bool
  | 0 => false
  | n + 1 => anyP p n || p n
theorem anyP_false {p : Nat → Bool} {n : Nat} : anyP p n = false ↔ ∀ j, j < n → p j = false := by
  induction n with
  | zero => exact ⟨fun _ j hj => by omega, fun _ => rfl⟩
  | succ n ih =>
    show (anyP p n || p n) = false ↔ _
    rw [Bool.or_eq_false_iff, ih]
    refine ⟨fun h j hj => ?_, fun h => ⟨fun j hj => h j (by omega), h n (by omega)⟩⟩
    rcases Nat.lt_or_ge j n with h1 | h1
    · exact h.1 j h1
    · obtain rfl : j = n := by omega
      exact h.2
theorem anyP_true {p : Nat → Bool} {n j : Nat} (hj : j < n) (h : p j = true) : anyP p n = true := by
  cases e : anyP p n with
  | true => rfl
  | false => rw [anyP_false.1 e j hj] at h; cases h
/-- The first of some that is so, told by what it gives. -/
def firstS (c : Nat → Option Int) : Nat → Option Int
  | 0 => none
  | n + 1 => match firstS c n with
    | some x => some x
    | none => c n
theorem firstS_none {c : Nat → Option Int} {n : Nat} : firstS c n = none ↔ ∀ j, j < n → c j = none := by
  induction n with
  | zero => exact ⟨fun _ j hj => by omega, fun _ => rfl⟩
  | succ n ih =>
    unfold firstS
    cases e : firstS c n with
    | some x =>
      refine ⟨fun h => (by cases h), fun h => ?_⟩
      have := ih.2 (fun j hj => h j (by omega))
      rw [e] at this; cases this
    | none =>
      have h0 := ih.1 e
      refine ⟨fun h j hj => ?_, fun h => h n (by omega)⟩
      rcases Nat.lt_or_ge j n with h1 | h1
      · exact h0 j h1
      · obtain rfl : j = n := by omega
        exact h
theorem firstS_some {c : Nat → Option Int} {n i : Nat} {x : Int} (h0 : firstS c i = none) (hi : c i = some x) (h : i < n) : firstS c n = some x := by
  induction n with
  | zero => omega
  | succ n ih =>
    unfold firstS
    rcases Nat.lt_or_ge i n with h1 | h1
    · rw [ih h1]
    · obtain rfl : i = n := by omega
      rw [h0]; exact hi
theorem firstS_mem {c : Nat → Option Int} {n : Nat} {x : Int} (h : firstS c n = some x) : ∃ i, i < n ∧ c i = some x := by
  induction n with
  | zero => cases h
  | succ n ih =>
    unfold firstS at h
    cases e : firstS c n with
    | some y =>
      rw [e] at h
      obtain ⟨i, h1, h2⟩ := ih (by rw [e]; exact h)
      exact ⟨i, by omega, h2⟩
    | none => rw [e] at h; exact ⟨n, by omega, h⟩
/-- When a machine that is down comes up; the time: it is not down. -/
def upC (k : Mc) (t : Int) (j : Nat) : Option Int := if k.df j ≤ t ∧ t < k.dt j then some (k.dt j) else none
def upAt (k : Mc) (t : Int) : Int := (firstS (upC k t) k.dn).getD t
/-- Whether work i may begin. -/
def readyB (D : SimD) (st : Nat → Int) (i : Nat) : Bool := (st i == 0) && !anyP (fun j => st ((D.W i).az j).toNat != 2) (D.W i).an
/-- The best of the first i works that may begin; -1: none. -/
def bestW (D : SimD) (st : Nat → Int) : Nat → Int
  | 0 => -1
  | i + 1 => if readyB D st i = true ∧ (bestW D st i < 0 ∨ (D.W (bestW D st i).toNat).rank < (D.W i).rank) then (i : Int) else bestW D st i
def freeB (D : SimD) (S : SimS) (m : Nat) : Bool := (S.bz m).isNone && (upAt (D.M m) S.now == S.now)
def bestM (D : SimD) (S : SimS) : Nat → Int
  | 0 => -1
  | m + 1 => if freeB D S m = true ∧ (bestM D S m < 0 ∨ (D.M (bestM D S m).toNat).sp < (D.M m).sp) then (m : Int) else bestM D S m
def cutC (k : Mc) (now e : Int) (j : Nat) : Option Int := if now < k.df j ∧ k.df j ≤ e then some (k.df j) else none
/-- When work w on machine m would end. -/
def endT (D : SimD) (now : Int) (w m : Nat) : Int := now + ((D.W w).cost + (D.M m).sp - 1) / (D.M m).sp
/-- The run of work w on machine m that begins now. -/
def newRun (D : SimD) (now : Int) (w m : Nat) : RunV :=
  match firstS (cutC (D.M m) now (endT D now w m)) (D.M m).dn with
  | some x => ⟨w, m, now, x, true⟩
  | none => ⟨w, m, now, endT D now w m, false⟩
def beginS (D : SimD) (S : SimS) (w m : Nat) : SimS := { S with bz := updF S.bz m (some (newRun D S.now w m)), st := updF S.st w 1 }
/-- What ends on machine m. -/
def endS1 (tr : Int) (S : SimS) (m : Nat) : SimS :=
  match S.bz m with
  | none => S
  | some r => if r.to = S.now then { now := S.now, bz := updF S.bz m none, k := S.k + 1, q := updF S.q S.k r, st := updF S.st r.wk.toNat (if r.fl = true then (if tr ≤ S.fl r.wk.toNat + 1 then 3 else 0) else 2), fl := if r.fl = true then updF S.fl r.wk.toNat (S.fl r.wk.toNat + 1) else S.fl } else S
def endS (tr : Int) (S : SimS) : Nat → SimS
  | 0 => S
  | m + 1 => endS1 tr (endS tr S m) m
/-- When something happens on machine m. -/
def nextC (D : SimD) (S : SimS) (sm : Bool) (m : Nat) : Option Int :=
  match S.bz m with
  | some r => some r.to
  | none => if sm = true ∧ S.now < upAt (D.M m) S.now then some (upAt (D.M m) S.now) else none
def minO : Option Int → Option Int → Option Int
  | none, y => y
  | some x, none => some x
  | some x, some y => some (if y < x then y else x)
/-- The next time at which something happens on the first m machines. -/
def nextM (D : SimD) (S : SimS) (sm : Bool) : Nat → Option Int
  | 0 => none
  | m + 1 => minO (nextM D S sm m) (nextC D S sm m)
def someB (D : SimD) (S : SimS) : Bool := decide (0 ≤ bestW D S.st D.nw)
def nextT (D : SimD) (S : SimS) : Option Int := nextM D S (someB D S) D.nm
def startS : SimS := ⟨0, fun _ => 0, fun _ => 0, fun _ => none, 0, fun _ => ⟨0, 0, 0, 0, false⟩⟩
/-- What may stand: false: before what ends is ended; true: while work is given to machines. -/
inductive SimR (D : SimD) : Bool → SimS → Prop
  | start : SimR D false startS
  | ended {S : SimS} : SimR D false S → SimR D true (endS D.tr S D.nm)
  | given {S : SimS} {w m : Nat} : SimR D true S → bestW D S.st D.nw = (w : Int) → bestM D S D.nm = (m : Int) → SimR D true (beginS D S w m)
  | next {S : SimS} {t : Int} : SimR D true S → (bestW D S.st D.nw < 0 ∨ bestM D S D.nm < 0) → nextT D S = some t → SimR D false { S with now := t }
theorem bestW_in (D : SimD) (st : Nat → Int) (i : Nat) : bestW D st i = -1 ∨ ∃ w : Nat, bestW D st i = (w : Int) ∧ w < i ∧ readyB D st w = true := by
  induction i with
  | zero => exact .inl rfl
  | succ i ih =>
    unfold bestW
    split
    · rename_i h
      exact .inr ⟨i, rfl, by omega, h.1⟩
    · rcases ih with h | ⟨w, h1, h2, h3⟩
      · exact .inl h
      · exact .inr ⟨w, h1, by omega, h3⟩
theorem bestM_in (D : SimD) (S : SimS) (i : Nat) : bestM D S i = -1 ∨ ∃ w : Nat, bestM D S i = (w : Int) ∧ w < i ∧ freeB D S w = true := by
  induction i with
  | zero => exact .inl rfl
  | succ i ih =>
    unfold bestM
    split
    · rename_i h
      exact .inr ⟨i, rfl, by omega, h.1⟩
    · rcases ih with h | ⟨w, h1, h2, h3⟩
      · exact .inl h
      · exact .inr ⟨w, h1, by omega, h3⟩
/-- What is given is right. -/
structure GoodD (D : SimD) : Prop where
  w : wkErr D.nw D.W = 0
  m : mcErr D.nm D.M = 0
  t : 1 ≤ D.tr ∧ D.tr ≤ 10
theorem firstN_zero {f : Nat → Int} {n : Nat} (h : firstN f n = 0) : ∀ i, i < n → f i = 0 := by
  induction n with
  | zero => intro i hi; omega
  | succ n ih =>
    unfold firstN at h
    by_cases e : firstN f n = 0
    · rw [if_pos e] at h
      intro i hi
      rcases Nat.lt_or_ge i n with h1 | h1
      · exact ih e i h1
      · obtain rfl : i = n := by omega
        exact h
    · rw [if_neg e] at h; exact absurd h e
theorem GoodD.work {D : SimD} (g : GoodD D) : D.nw ≤ 2000 ∧ ∀ i, i < D.nw → (1 ≤ (D.W i).cost ∧ (D.W i).cost ≤ 1000000) ∧ (0 ≤ (D.W i).rank ∧ (D.W i).rank ≤ 100) ∧ (D.W i).an ≤ 20 ∧ ∀ j, j < (D.W i).an → 0 ≤ (D.W i).az j ∧ (D.W i).az j < i := by
  have h := g.w
  unfold wkErr at h
  by_cases h1 : 2000 < D.nw
  · rw [if_pos h1] at h; cases h
  · rw [if_neg h1] at h
    refine ⟨by omega, fun i hi => ?_⟩
    have h2 := firstN_zero h i hi
    unfold wkE at h2
    by_cases c1 : (D.W i).cost < 1 ∨ 1000000 < (D.W i).cost ∨ (D.W i).rank < 0 ∨ 100 < (D.W i).rank
    · rw [if_pos c1] at h2; cases h2
    · rw [if_neg c1] at h2
      by_cases c2 : 20 < (D.W i).an
      · rw [if_pos c2] at h2; cases h2
      · rw [if_neg c2] at h2
        refine ⟨by omega, by omega, by omega, fun j hj => ?_⟩
        have h3 := firstN_zero h2 j hj
        unfold afE at h3
        by_cases c3 : (D.W i).az j < 0 ∨ (i : Int) ≤ (D.W i).az j
        · rw [if_pos c3] at h3; cases h3
        · omega
theorem GoodD.mach {D : SimD} (g : GoodD D) : (0 < D.nm ∧ D.nm ≤ 64) ∧ ∀ m, m < D.nm → (1 ≤ (D.M m).sp ∧ (D.M m).sp ≤ 1000) ∧ (D.M m).dn ≤ 20 ∧ ∀ j, j < (D.M m).dn → (0 ≤ (D.M m).df j ∧ (D.M m).df j < (D.M m).dt j ∧ (D.M m).dt j ≤ 1000000000) ∧ (0 < j → (D.M m).dt (j - 1) ≤ (D.M m).df j) := by
  have h := g.m
  unfold mcErr at h
  by_cases h0 : D.nm = 0
  · rw [if_pos h0] at h; cases h
  · rw [if_neg h0] at h
    by_cases h1 : 64 < D.nm
    · rw [if_pos h1] at h; cases h
    · rw [if_neg h1] at h
      refine ⟨by omega, fun i hi => ?_⟩
      have h2 := firstN_zero h i hi
      unfold mcE at h2
      by_cases c1 : (D.M i).sp < 1 ∨ 1000 < (D.M i).sp
      · rw [if_pos c1] at h2; cases h2
      · rw [if_neg c1] at h2
        by_cases c2 : 20 < (D.M i).dn
        · rw [if_pos c2] at h2; cases h2
        · rw [if_neg c2] at h2
          refine ⟨by omega, by omega, fun j hj => ?_⟩
          have h3 := firstN_zero h2 j hj
          unfold dnE at h3
          by_cases c3 : (D.M i).df j < 0 ∨ 1000000000 < (D.M i).df j ∨ (D.M i).dt j < 0 ∨ 1000000000 < (D.M i).dt j
          · rw [if_pos c3] at h3; cases h3
          · rw [if_neg c3] at h3
            by_cases c4 : (D.M i).dt j ≤ (D.M i).df j ∨ (0 < j ∧ (D.M i).df j < (D.M i).dt (j - 1))
            · rw [if_pos c4] at h3; cases h3
            · omega
end Go.Proofs.Ytkadinjhfldokaa
