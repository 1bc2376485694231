/- Work on machines, the document's way, in plain words: it comes to the runs that the farm comes to. Plain Lean. Conditions: what is given is right. (with: SmB) -/
import Derived.Test.YtkadinjhfldokaaSiT
namespace Go.Proofs.Ytkadinjhfldokaa
/-- What stands in the document's simulation. -/
structure DocS where
  t : Int
  dn : Nat → Bool
  ov : Nat → Bool
  bs : Nat → Bool
  fl : Nat → Int
  rn : Nat → Int
  k : Nat
  q : Nat → RunV
def docEnd1 (tr : Int) (T : DocS) (m : Nat) : DocS :=
  if T.rn m < 0 ∨ (T.q (T.rn m).toNat).to ≠ T.t then T else
    { t := T.t, k := T.k, q := T.q, rn := updF T.rn m (-1), bs := updF T.bs (T.q (T.rn m).toNat).wk.toNat false,
      dn := if (T.q (T.rn m).toNat).fl = true then T.dn else updF T.dn (T.q (T.rn m).toNat).wk.toNat true,
      fl := if (T.q (T.rn m).toNat).fl = true then updF T.fl (T.q (T.rn m).toNat).wk.toNat (T.fl (T.q (T.rn m).toNat).wk.toNat + 1) else T.fl,
      ov := if (T.q (T.rn m).toNat).fl = true ∧ T.fl (T.q (T.rn m).toNat).wk.toNat + 1 = tr then updF T.ov (T.q (T.rn m).toNat).wk.toNat true else T.ov }
def docEnd (tr : Int) (T : DocS) : Nat → DocS
  | 0 => T
  | m + 1 => docEnd1 tr (docEnd tr T m) m
def docReady (D : SimD) (T : DocS) (i : Nat) : Bool := ((!T.dn i && !T.ov i) && !T.bs i) && !anyP (fun j => !T.dn ((D.W i).az j).toNat) (D.W i).an
def docW (D : SimD) (T : DocS) : Nat → Int
  | 0 => -1
  | i + 1 => if docReady D T i = true ∧ (docW D T i < 0 ∨ (D.W (docW D T i).toNat).rank < (D.W i).rank) then (i : Int) else docW D T i
def downB (k : Mc) (t : Int) : Bool := anyP (fun j => decide (k.df j ≤ t) && decide (t < k.dt j)) k.dn
def docFree (D : SimD) (T : DocS) (m : Nat) : Bool := decide (T.rn m < 0) && !downB (D.M m) T.t
def docM (D : SimD) (T : DocS) : Nat → Int
  | 0 => -1
  | m + 1 => if docFree D T m = true ∧ (docM D T m < 0 ∨ (D.M (docM D T m).toNat).sp < (D.M m).sp) then (m : Int) else docM D T m
def docBegin (D : SimD) (T : DocS) (w m : Nat) : DocS := { T with bs := updF T.bs w true, rn := updF T.rn m (T.k : Int), k := T.k + 1, q := updF T.q T.k (newRun D T.t w m) }
/-- A time ahead at which something may happen. -/
def Cand (D : SimD) (T : DocS) (c : Int) : Prop := T.t < c ∧ ((∃ m, m < D.nm ∧ 0 ≤ T.rn m ∧ (T.q (T.rn m).toNat).to = c) ∨ ∃ m j, m < D.nm ∧ j < (D.M m).dn ∧ (D.M m).dt j = c)
def docStart : DocS := ⟨0, fun _ => false, fun _ => false, fun _ => false, fun _ => 0, fun _ => -1, 0, fun _ => ⟨0, 0, 0, 0, false⟩⟩
inductive DocR (D : SimD) : Bool → DocS → Prop
  | start {T : DocS} : T.t = 0 → T.k = 0 → (∀ i, i < D.nw → T.dn i = false ∧ T.ov i = false ∧ T.bs i = false ∧ T.fl i = 0) → (∀ m, m < D.nm → T.rn m = -1) → DocR D false T
  | ended {T : DocS} : DocR D false T → DocR D true (docEnd D.tr T D.nm)
  | given {T : DocS} {w m : Nat} : DocR D true T → docW D T D.nw = (w : Int) → docM D T D.nm = (m : Int) → DocR D true (docBegin D T w m)
  | next {T : DocS} {t : Int} : DocR D true T → (docW D T D.nw < 0 ∨ docM D T D.nm < 0) → Cand D T t → (∀ c, Cand D T c → t ≤ c) → DocR D false { T with t := t }
/-- How many runs that go on are so. -/
def cntB (P : RunV → Bool) (S : SimS) (n : Nat) : Int := bsum S (fun r => ((P r).toNat : Int)) n
structure Mat (D : SimD) (S : SimS) (T : DocS) : Prop where
  w : ∀ i, i < D.nw → T.dn i = decide (S.st i = 2) ∧ T.ov i = decide (S.st i = 3) ∧ T.bs i = decide (S.st i = 1) ∧ T.fl i = S.fl i
  m : ∀ m, m < D.nm → (S.bz m = none ∧ T.rn m = -1) ∨ ∃ r, S.bz m = some r ∧ ∃ j : Nat, j < T.k ∧ T.rn m = (j : Int) ∧ T.q j = r
  c : ∀ P : RunV → Bool, (cn0 P T.q 0 T.k : Int) = (cn0 P S.q 0 S.k : Int) + cntB P S D.nm
theorem Mat.busy {D : SimD} {S : SimS} {T : DocS} (h : Mat D S T) {m : Nat} {r : RunV} (hm : m < D.nm) (hb : S.bz m = some r) : 0 ≤ T.rn m ∧ T.q (T.rn m).toNat = r := by
  rcases h.m m hm with ⟨h1, -⟩ | ⟨r', h1, j, h2, h3, h4⟩
  · rw [hb] at h1; cases h1
  · rw [hb] at h1
    injection h1 with h1
    rw [h3]
    exact ⟨by omega, by rw [show ((j : Int)).toNat = j by omega, h4, h1]⟩
theorem Mat.idle {D : SimD} {S : SimS} {T : DocS} (h : Mat D S T) {m : Nat} (hm : m < D.nm) (hb : S.bz m = none) : T.rn m = -1 := by
  rcases h.m m hm with ⟨-, h1⟩ | ⟨r', h1, -⟩
  · exact h1
  · rw [hb] at h1; cases h1
theorem cn0_appI {P : RunV → Bool} {q : Nat → RunV} {k : Nat} {r : RunV} : cn0 P (updF q k r) 0 (k + 1) = cn0 P q 0 k + (P r).toNat := by
  show cn0 P (updF q k r) 0 k + (P (updF q k r (0 + k))).toNat = _
  rw [Nat.zero_add, updF_at, cn0_congr (q := updF q k r) (q' := q) (a := 0) (a' := 0) (fun i hi => updF_ne _ _ (by omega))]
theorem Mat.end1 {D : SimD} {S : SimS} {T : DocS} {m : Nat} (h : Mat D S T) (v : InvS D S m) (ht : S.now = T.t) (hm : m < D.nm) : Mat D (endS1 D.tr S m) (docEnd1 D.tr T m) := by
  unfold endS1 docEnd1
  cases hb : S.bz m with
  | none =>
    rw [if_pos (.inl (by rw [h.idle hm hb]; omega))]
    exact h
  | some r =>
    obtain ⟨b1, b2⟩ := h.busy hm hb
    dsimp only
    rw [b2]
    by_cases hto : r.to = S.now
    · rw [if_pos hto, if_neg (show ¬ (T.rn m < 0 ∨ r.to ≠ T.t) by rw [← ht]; omega)]
      obtain ⟨a1, ⟨wn, a2, a2', a2''⟩, -⟩ := v.busy m r hm hb
      have hw : r.wk.toNat = wn := by omega
      rw [hw]
      have hst := v.st wn a2'
      have hmw := h.w wn a2'
      refine ⟨fun i hi => ?_, fun j hj => ?_, fun P => ?_⟩
      · have hi' := h.w i hi
        show (if r.fl = true then T.dn else updF T.dn wn true) i = decide (updF S.st wn _ i = 2) ∧ (if r.fl = true ∧ T.fl wn + 1 = D.tr then updF T.ov wn true else T.ov) i = decide (updF S.st wn _ i = 3) ∧ updF T.bs wn false i = decide (updF S.st wn _ i = 1) ∧ (if r.fl = true then updF T.fl wn (T.fl wn + 1) else T.fl) i = (if r.fl = true then updF S.fl wn (S.fl wn + 1) else S.fl) i
        by_cases e : i = wn
        · subst e
          rw [updF_at, updF_at]
          cases r.fl with
          | false => simp [updF_at, hi'.2.1, a2'', hi'.2.2.2]
          | true =>
            simp only [if_true, updF_at, true_and]
            rw [hi'.1, hi'.2.2.2, a2'']
            have hl := hst.2.2 (.inr a2'')
            by_cases hc : D.tr ≤ S.fl i + 1
            · rw [if_pos hc, if_pos (show S.fl i + 1 = D.tr by omega), updF_at]; simp
            · rw [if_neg hc, if_neg (show ¬ S.fl i + 1 = D.tr by omega), hi'.2.1, a2'']; simp
        · rw [updF_ne _ _ e, updF_ne _ _ e]
          cases r.fl with
          | false => simp [updF_ne _ _ e, hi']
          | true =>
            simp only [if_true, updF_ne _ _ e, true_and]
            refine ⟨hi'.1, ?_, hi'.2.2.1, hi'.2.2.2⟩
            split
            · rw [updF_ne _ _ e]; exact hi'.2.1
            · exact hi'.2.1
      · show (updF S.bz m none j = none ∧ updF T.rn m (-1) j = -1) ∨ ∃ r', updF S.bz m none j = some r' ∧ ∃ x : Nat, x < T.k ∧ updF T.rn m (-1) j = (x : Int) ∧ T.q x = r'
        by_cases e : j = m
        · subst e; rw [updF_at, updF_at]; exact .inl ⟨rfl, rfl⟩
        · rw [updF_ne _ _ e, updF_ne _ _ e]; exact h.m j hj
      · show (cn0 P T.q 0 T.k : Int) = (cn0 P (updF S.q S.k r) 0 (S.k + 1) : Int) + sumI (fun j => match updF S.bz m none j with | some r => ((P r).toNat : Int) | none => 0) D.nm
        have hcP : (cn0 P T.q 0 T.k : Int) = (cn0 P S.q 0 S.k : Int) + sumI (fun j => match S.bz j with | some r => ((P r).toNat : Int) | none => 0) D.nm := h.c P
        rw [cn0_appI, hcP]
        rw [sumI_upd (f := fun j => match S.bz j with | some r => ((P r).toNat : Int) | none => 0) (g := fun j => match updF S.bz m none j with | some r => ((P r).toNat : Int) | none => 0) (i := m) hm (fun j hj => by rw [updF_ne _ _ hj])]
        rw [updF_at, hb]
        show _ = ((cn0 P S.q 0 S.k + (P r).toNat : Nat) : Int) + (_ - ((P r).toNat : Int) + 0)
        omega
    · rw [if_neg hto, if_pos (.inr (by rw [← ht]; exact hto))]
      exact h
theorem endS1_now (tr : Int) (S : SimS) (m : Nat) : (endS1 tr S m).now = S.now := by
  unfold endS1
  cases S.bz m with
  | none => rfl
  | some r => dsimp only; split <;> rfl
theorem endS_now (tr : Int) (S : SimS) (m : Nat) : (endS tr S m).now = S.now := by
  induction m with
  | zero => rfl
  | succ m ih => show (endS1 tr (endS tr S m) m).now = _; rw [endS1_now, ih]
theorem docEnd1_t (tr : Int) (T : DocS) (m : Nat) : (docEnd1 tr T m).t = T.t := by unfold docEnd1; split <;> rfl
theorem docEnd_t (tr : Int) (T : DocS) (m : Nat) : (docEnd tr T m).t = T.t := by
  induction m with
  | zero => rfl
  | succ m ih => show (docEnd1 tr (docEnd tr T m) m).t = _; rw [docEnd1_t, ih]
theorem Mat.ends {D : SimD} {S : SimS} {T : DocS} (h : Mat D S T) (v : InvS D S 0) (ht : S.now = T.t) : ∀ m, m ≤ D.nm → Mat D (endS D.tr S m) (docEnd D.tr T m)
  | 0, _ => h
  | m + 1, hm => (Mat.ends h v ht m (by omega)).end1 (v.ends m (by omega)) (by rw [(endS_now D.tr S m), docEnd_t, ht]) (by omega)
theorem Mat.ready {D : SimD} {S : SimS} {T : DocS} (g : GoodD D) (h : Mat D S T) (hs : ∀ i, i < D.nw → S.st i = 0 ∨ S.st i = 1 ∨ S.st i = 2 ∨ S.st i = 3) {i : Nat} (hi : i < D.nw) : docReady D T i = readyB D S.st i := by
  have hz := (g.work.2 i hi).2.2.2
  have hany : anyP (fun j => !T.dn ((D.W i).az j).toNat) (D.W i).an = anyP (fun j => S.st ((D.W i).az j).toNat != 2) (D.W i).an := by
    have key : ∀ n, n ≤ (D.W i).an → anyP (fun j => !T.dn ((D.W i).az j).toNat) n = anyP (fun j => S.st ((D.W i).az j).toNat != 2) n := fun n => by
      induction n with
      | zero => intro _; rfl
      | succ n ih =>
        intro hn
        show (anyP _ n || !T.dn ((D.W i).az n).toNat) = (anyP _ n || (S.st ((D.W i).az n).toNat != 2))
        have := hz n (by omega)
        rw [ih (by omega), (h.w ((D.W i).az n).toNat (by omega)).1]
        by_cases e : S.st ((D.W i).az n).toNat = 2 <;> simp [e]
    exact key _ (Nat.le_refl _)
  unfold docReady readyB
  obtain ⟨h1, h2, h3, -⟩ := h.w i hi
  rw [hany, h1, h2, h3]
  congr 1
  by_cases e0 : S.st i = 0
  · simp [e0]
  · by_cases e1 : S.st i = 1
    · simp [e1]
    · by_cases e2 : S.st i = 2
      · simp [e2]
      · by_cases e3 : S.st i = 3
        · simp [e3]
        · have := hs i hi; omega
theorem Mat.bestW {D : SimD} {S : SimS} {T : DocS} (g : GoodD D) (h : Mat D S T) (hs : ∀ i, i < D.nw → S.st i = 0 ∨ S.st i = 1 ∨ S.st i = 2 ∨ S.st i = 3) : ∀ i, i ≤ D.nw → docW D T i = bestW D S.st i
  | 0, _ => rfl
  | i + 1, hi => by
    unfold docW Go.Proofs.Ytkadinjhfldokaa.bestW
    rw [Mat.bestW g h hs i (by omega), h.ready g hs (by omega)]
theorem downB_up {k : Mc} {t : Int} : downB k t = false ↔ upAt k t = t ∧ ∀ j, j < k.dn → ¬ (k.df j ≤ t ∧ t < k.dt j) := by
  unfold downB
  rw [anyP_false]
  constructor
  · intro h
    have h' : ∀ j, j < k.dn → ¬ (k.df j ≤ t ∧ t < k.dt j) := fun j hj hc => by
      have := h j hj
      simp [hc.1, hc.2] at this
    rcases upAt_cases k t with ⟨h1, -⟩ | ⟨j, h1, -, h3⟩
    · exact ⟨h1, h'⟩
    · exact absurd h3 (h' j h1)
  · rintro ⟨-, h⟩ j hj
    have := h j hj
    by_cases c1 : k.df j ≤ t
    · have : ¬ t < k.dt j := fun h2 => this ⟨c1, h2⟩
      simp [c1, this]
    · simp [c1]
theorem Mat.free {D : SimD} {S : SimS} {T : DocS} (h : Mat D S T) (ht : S.now = T.t) {m : Nat} (hm : m < D.nm) : docFree D T m = freeB D S m := by
  unfold docFree freeB
  have e1 : decide (T.rn m < 0) = (S.bz m).isNone := by
    cases hb : S.bz m with
    | none => rw [h.idle hm hb]; rfl
    | some r => have := (h.busy hm hb).1; simp; omega
  have e2 : (!downB (D.M m) T.t) = (upAt (D.M m) S.now == S.now) := by
    rw [← ht]
    cases hd : downB (D.M m) S.now with
    | false => have := (downB_up.1 hd).1; simp [this]
    | true =>
      rcases upAt_cases (D.M m) S.now with ⟨h1, h2⟩ | ⟨j, h1, h2, h3⟩
      · rw [downB_up.2 ⟨h1, h2⟩] at hd; cases hd
      · simp; omega
  rw [e1, e2]
theorem Mat.bestM {D : SimD} {S : SimS} {T : DocS} (h : Mat D S T) (ht : S.now = T.t) : ∀ i, i ≤ D.nm → docM D T i = bestM D S i
  | 0, _ => rfl
  | i + 1, hi => by
    unfold docM Go.Proofs.Ytkadinjhfldokaa.bestM
    rw [Mat.bestM h ht i (by omega), h.free ht (by omega)]
theorem Mat.begin {D : SimD} {S : SimS} {T : DocS} {w m : Nat} (h : Mat D S T) (ht : S.now = T.t) (hst : S.st w = 0) (hm : m < D.nm) (hb : S.bz m = none) : Mat D (beginS D S w m) (docBegin D T w m) := by
  refine ⟨fun i hi => ?_, fun j hj => ?_, fun P => ?_⟩
  · obtain ⟨h1, h2, h3, h4⟩ := h.w i hi
    show T.dn i = decide (updF S.st w 1 i = 2) ∧ T.ov i = decide (updF S.st w 1 i = 3) ∧ updF T.bs w true i = decide (updF S.st w 1 i = 1) ∧ T.fl i = S.fl i
    by_cases e : i = w
    · subst e
      rw [updF_at, updF_at, h1, h2, hst]
      exact ⟨rfl, rfl, rfl, h4⟩
    · rw [updF_ne _ _ e, updF_ne _ _ e]; exact ⟨h1, h2, h3, h4⟩
  · show (updF S.bz m (some (newRun D S.now w m)) j = none ∧ updF T.rn m (T.k : Int) j = -1) ∨ ∃ r, updF S.bz m (some (newRun D S.now w m)) j = some r ∧ ∃ x : Nat, x < T.k + 1 ∧ updF T.rn m (T.k : Int) j = (x : Int) ∧ updF T.q T.k (newRun D T.t w m) x = r
    by_cases e : j = m
    · subst e
      rw [updF_at, updF_at]
      exact .inr ⟨_, rfl, T.k, by omega, rfl, by rw [updF_at, ht]⟩
    · rw [updF_ne _ _ e, updF_ne _ _ e]
      rcases h.m j hj with h1 | ⟨r, h1, x, h2, h3, h4⟩
      · exact .inl h1
      · exact .inr ⟨r, h1, x, by omega, h3, by rw [updF_ne _ _ (by omega)]; exact h4⟩
  · show (cn0 P (updF T.q T.k (newRun D T.t w m)) 0 (T.k + 1) : Int) = (cn0 P S.q 0 S.k : Int) + sumI (fun j => match updF S.bz m (some (newRun D S.now w m)) j with | some r => ((P r).toNat : Int) | none => 0) D.nm
    rw [cn0_appI, sumI_upd (f := fun j => match S.bz j with | some r => ((P r).toNat : Int) | none => 0) (g := fun j => match updF S.bz m (some (newRun D S.now w m)) j with | some r => ((P r).toNat : Int) | none => 0) (i := m) hm (fun j hj => by rw [updF_ne _ _ hj])]
    rw [updF_at, hb, ht]
    have this : (cn0 P T.q 0 T.k : Int) = (cn0 P S.q 0 S.k : Int) + sumI (fun j => match S.bz j with | some r => ((P r).toNat : Int) | none => 0) D.nm := h.c P
    show ((cn0 P T.q 0 T.k + (P (newRun D T.t w m)).toNat : Nat) : Int) = _ + (_ - 0 + ((P (newRun D T.t w m)).toNat : Int))
    omega
theorem Mat.start {D : SimD} {T : DocS} (hk : T.k = 0) (h : ∀ i, i < D.nw → T.dn i = false ∧ T.ov i = false ∧ T.bs i = false ∧ T.fl i = 0) (hr : ∀ m, m < D.nm → T.rn m = -1) : Mat D startS T := by
  refine ⟨fun i hi => ?_, fun m hm => .inl ⟨rfl, hr m hm⟩, fun P => ?_⟩
  · obtain ⟨h1, h2, h3, h4⟩ := h i hi
    exact ⟨h1, h2, h3, h4⟩
  · rw [hk]
    show (0 : Int) = 0 + sumI (fun _ => 0) D.nm
    rw [sumI_zero]; rfl
/-- Where the farm stands still, the document does nothing till the farm's next time. -/
structure Lag (D : SimD) (S : SimS) (T : DocS) : Prop where
  r : SimR D true S
  st : bestW D S.st D.nw < 0 ∨ bestM D S D.nm < 0
  lt : S.now < T.t
  nx : ∀ u, nextT D S = some u → T.t < u
/-- .. or they stand at one time. -/
def Bis (D : SimD) (p : Bool) (S : SimS) (T : DocS) : Prop := Mat D S T ∧ ((SimR D p S ∧ S.now = T.t) ∨ Lag D S T)
theorem nextT_le {D : SimD} {S : SimS} {m : Nat} {c : Int} (hm : m < D.nm) (hc : nextC D S (someB D S) m = some c) : ∃ u, nextT D S = some u ∧ u ≤ c := by
  cases h : nextT D S with
  | none => rw [nextM_none h m hm] at hc; cases hc
  | some u => exact ⟨u, rfl, (nextM_some h).2 m c hm hc⟩
theorem Lag.ends {D : SimD} {S : SimS} {T : DocS} (h : Lag D S T) (hm : Mat D S T) : ∀ m, m ≤ D.nm → docEnd D.tr T m = T
  | 0, _ => rfl
  | m + 1, hn => by
    show docEnd1 D.tr (docEnd D.tr T m) m = T
    rw [Lag.ends h hm m (by omega)]
    unfold docEnd1
    refine if_pos ?_
    cases hb : S.bz m with
    | none => exact .inl (by rw [hm.idle (by omega) hb]; omega)
    | some r =>
      obtain ⟨u, h1, h2⟩ := nextT_le (D := D) (S := S) (m := m) (c := r.to) (by omega) (by unfold nextC; rw [hb])
      have := h.nx u h1
      rw [(hm.busy (by omega) hb).2]
      exact .inr (by omega)
theorem docW_in (D : SimD) (T : DocS) (i : Nat) : docW D T i = -1 ∨ ∃ w : Nat, docW D T i = (w : Int) ∧ w < i ∧ docReady D T w = true := by
  induction i with
  | zero => exact .inl rfl
  | succ i ih =>
    unfold docW
    split
    · rename_i h
      exact .inr ⟨i, rfl, by omega, h.1⟩
    · rcases ih with h | ⟨w, h1, h2, h3⟩
      · exact .inl h
      · exact .inr ⟨w, h1, by omega, h3⟩
theorem docM_in (D : SimD) (T : DocS) (i : Nat) : docM D T i = -1 ∨ ∃ w : Nat, docM D T i = (w : Int) ∧ w < i ∧ docFree D T w = true := by
  induction i with
  | zero => exact .inl rfl
  | succ i ih =>
    unfold docM
    split
    · rename_i h
      exact .inr ⟨i, rfl, by omega, h.1⟩
    · rcases ih with h | ⟨w, h1, h2, h3⟩
      · exact .inl h
      · exact .inr ⟨w, h1, by omega, h3⟩
theorem Lag.nothing {D : SimD} {S : SimS} {T : DocS} (g : GoodD D) (h : Lag D S T) (hm : Mat D S T) {w m : Nat} (hw : docW D T D.nw = (w : Int)) (hM : docM D T D.nm = (m : Int)) : False := by
  have hv : InvS D S D.nm := h.r.inv g
  have hs := fun i hi => (hv.st i hi).1
  rw [hm.bestW g hs D.nw (Nat.le_refl _)] at hw
  have hW : 0 ≤ bestW D S.st D.nw := by omega
  rcases docM_in D T D.nm with e | ⟨m', e1, e2, e3⟩
  · omega
  · have hsome : someB D S = true := decide_eq_true hW
    unfold docFree at e3
    rw [Bool.and_eq_true] at e3
    obtain ⟨f1, f2⟩ := e3
    have hrn : T.rn m' < 0 := by simpa using f1
    have hb : S.bz m' = none := by
      cases hb : S.bz m' with
      | none => rfl
      | some r => have := (hm.busy e2 hb).1; omega
    have hnd : downB (D.M m') T.t = false := by simpa using f2
    have hnd2 := (downB_up.1 hnd).2
    rcases upAt_cases (D.M m') S.now with ⟨h1, -⟩ | ⟨j, h1, h2, h3⟩
    · have : freeB D S m' = true := by unfold freeB; rw [hb, h1]; simp
      have := bestM_some e2 this
      have := h.st
      omega
    · obtain ⟨u, k1, k2⟩ := nextT_le (D := D) (S := S) (m := m') (c := (D.M m').dt j) e2 (by
        unfold nextC
        rw [hb]
        dsimp only
        rw [if_pos ⟨hsome, by omega⟩, h2])
      have := h.nx u k1
      have := h.lt
      exact hnd2 j h1 ⟨by omega, by omega⟩
/-- The farm's next time is one of the document's. -/
theorem cand_next {D : SimD} {S : SimS} {T : DocS} (hm : Mat D S T) {u : Int} (hu : nextT D S = some u) (hlt : T.t < u) : Cand D T u := by
  refine ⟨hlt, ?_⟩
  obtain ⟨⟨j, h1, h2⟩, -⟩ := nextM_some hu
  unfold nextC at h2
  cases hb : S.bz j with
  | some r =>
    rw [hb] at h2
    injection h2 with h2
    obtain ⟨b1, b2⟩ := hm.busy h1 hb
    exact .inl ⟨j, h1, b1, by rw [b2]; exact h2⟩
  | none =>
    rw [hb] at h2
    dsimp only at h2
    split at h2
    · rename_i hc
      injection h2 with h2
      rcases upAt_cases (D.M j) S.now with ⟨k1, -⟩ | ⟨x, k1, k2, -⟩
      · omega
      · exact .inr ⟨j, x, h1, k1, by omega⟩
    · cases h2
theorem Mat.time {D : SimD} {S : SimS} {T : DocS} (h : Mat D S T) (a b : Int) : Mat D { S with now := a } { T with t := b } := ⟨h.w, h.m, h.c⟩
/-- Whatever the document comes to, the farm comes to its like. -/
theorem DocR.bis {D : SimD} (g : GoodD D) {p : Bool} {T : DocS} (h : DocR D p T) : ∃ S, Bis D p S T := by
  induction h with
  | start ht hk hw hr => exact ⟨startS, Mat.start hk hw hr, .inl ⟨SimR.start, ht.symm⟩⟩
  | @ended T _ ih =>
    obtain ⟨S, hm, ⟨h1, h2⟩ | hl⟩ := ih
    · exact ⟨endS D.tr S D.nm, hm.ends (h1.inv g) h2 D.nm (Nat.le_refl _), .inl ⟨SimR.ended h1, by rw [endS_now, docEnd_t, h2]⟩⟩
    · rw [hl.ends hm D.nm (Nat.le_refl _)]
      exact ⟨S, hm, .inr hl⟩
  | @given T w m _ h1 h2 ih =>
    obtain ⟨S, hm, ⟨k1, k2⟩ | hl⟩ := ih
    · have hv : InvS D S D.nm := k1.inv g
      have e1 := hm.bestW g (fun i hi => (hv.st i hi).1) D.nw (Nat.le_refl _)
      have e2 := hm.bestM k2 D.nm (Nat.le_refl _)
      rw [e1] at h1
      rw [e2] at h2
      rcases bestW_in D S.st D.nw with f | ⟨w', f1, f2, f3⟩
      · omega
      · rcases bestM_in D S D.nm with f | ⟨m', f4, f5, f6⟩
        · omega
        · have : w' = w := by omega
          subst this
          have : m' = m := by omega
          subst this
          exact ⟨beginS D S w' m', hm.begin k2 (readyB_st f3).1 f5 (freeB_is f6).1, .inl ⟨SimR.given k1 h1 h2, k2⟩⟩
    · exact (hl.nothing g hm h1 h2).elim
  | @next T t _ h1 h2 h3 ih =>
    obtain ⟨S, hm, ⟨k1, k2⟩ | hl⟩ := ih
    · have hv : InvS D S D.nm := k1.inv g
      have e1 := hm.bestW g (fun i hi => (hv.st i hi).1) D.nw (Nat.le_refl _)
      have e2 := hm.bestM k2 D.nm (Nat.le_refl _)
      rw [e1, e2] at h1
      cases hn : nextT D S with
      | none => exact ⟨S, hm.time S.now t, .inr ⟨k1, h1, by show S.now < t; have := h2.1; omega, fun u hu => by rw [hn] at hu; cases hu⟩⟩
      | some u =>
        have hu := (InvS.next g hv hn).1
        have hle := h3 u (cand_next hm hn (by omega))
        rcases Int.lt_or_eq_of_le hle with h4 | h4
        · exact ⟨S, hm.time S.now t, .inr ⟨k1, h1, by show S.now < t; have := h2.1; omega, fun u' hu' => by rw [hn] at hu'; injection hu' with hu'; show t < u'; omega⟩⟩
        · subst h4
          exact ⟨{ S with now := t }, hm.time t t, .inl ⟨SimR.next k1 h1 hn, rfl⟩⟩
    · cases hn : nextT D S with
      | none => exact ⟨S, hm.time S.now t, .inr ⟨hl.r, hl.st, by show S.now < t; have := h2.1; have := hl.lt; omega, fun u hu => by rw [hn] at hu; cases hu⟩⟩
      | some u =>
        have hle := h3 u (cand_next hm hn (hl.nx u hn))
        rcases Int.lt_or_eq_of_le hle with h4 | h4
        · exact ⟨S, hm.time S.now t, .inr ⟨hl.r, hl.st, by show S.now < t; have := h2.1; have := hl.lt; omega, fun u' hu' => by rw [hn] at hu'; injection hu' with hu'; show t < u'; omega⟩⟩
        · subst h4
          exact ⟨{ S with now := t }, hm.time t t, .inl ⟨SimR.next hl.r hl.st hn, rfl⟩⟩
/-- At the document's end the farm is at its end, with the same runs. -/
theorem DocR.final {D : SimD} (g : GoodD D) {T : DocS} (h : DocR D true T) (hst : docW D T D.nw < 0 ∨ docM D T D.nm < 0) (hn : ∀ c, ¬ Cand D T c) : ∃ S, SimR D true S ∧ (bestW D S.st D.nw < 0 ∨ bestM D S D.nm < 0) ∧ nextT D S = none ∧ T.k = S.k ∧ ∀ P : RunV → Bool, cn0 P T.q 0 T.k = cn0 P S.q 0 S.k := by
  obtain ⟨S, hm, hb⟩ := h.bis g
  have key : SimR D true S ∧ (Go.Proofs.Ytkadinjhfldokaa.bestW D S.st D.nw < 0 ∨ Go.Proofs.Ytkadinjhfldokaa.bestM D S D.nm < 0) ∧ nextT D S = none := by
    rcases hb with ⟨k1, k2⟩ | hl
    · have hv : InvS D S D.nm := k1.inv g
      rw [hm.bestW g (fun i hi => (hv.st i hi).1) D.nw (Nat.le_refl _), hm.bestM k2 D.nm (Nat.le_refl _)] at hst
      refine ⟨k1, hst, ?_⟩
      cases hnx : nextT D S with
      | none => rfl
      | some u => exact absurd (cand_next hm hnx (by have := (InvS.next g hv hnx).1; omega)) (hn u)
    · refine ⟨hl.r, hl.st, ?_⟩
      cases hnx : nextT D S with
      | none => rfl
      | some u => exact absurd (cand_next hm hnx (hl.nx u hnx)) (hn u)
  obtain ⟨h1, h2, h3⟩ := key
  have hno : ∀ m, m < D.nm → S.bz m = none := fun m hm' => by
    have := nextM_none h3 m hm'
    unfold nextC at this
    cases hbm : S.bz m with
    | none => rfl
    | some r => rw [hbm] at this; cases this
  have hz : ∀ P : RunV → Bool, cntB P S D.nm = 0 := fun P => by
    unfold cntB bsum
    rw [sumI_congr (f := fun _ => 0) (fun j hj => by rw [hno j hj])]
    exact sumI_zero _
  have hc : ∀ P : RunV → Bool, cn0 P T.q 0 T.k = cn0 P S.q 0 S.k := fun P => by
    have := hm.c P
    rw [hz P] at this
    omega
  refine ⟨S, h1, h2, h3, ?_, hc⟩
  have := hc (fun _ => true)
  rw [cn0_all.2 (fun _ _ => rfl), cn0_all.2 (fun _ _ => rfl)] at this
  exact this
end Go.Proofs.Ytkadinjhfldokaa

namespace Go.Proofs.Ytkadinjhfldokaa
theorem cn0_below {K : RunV → Int} {q : Nat → RunV} {n j : Nat} {c : Int} (hs : SoR K 0 n q) (hj : j < n) (h : K (q j) ≤ c) : j < cn0 (fun x => decide (K x ≤ c)) q 0 n := by
  have h1 : cn0 (fun x => decide (K x ≤ c)) q 0 (j + 1) = j + 1 := cn0_all.2 (fun i hi => by
    have := hs i j (Nat.zero_le _) (by omega) hj
    rw [Nat.zero_add]
    exact decide_eq_true (by omega))
  have h2 := cn0_split (fun x => decide (K x ≤ c)) q 0 (j + 1) (n - (j + 1))
  rw [show j + 1 + (n - (j + 1)) = n by omega, h1] at h2
  omega
theorem cn0_above {K : RunV → Int} {q : Nat → RunV} {n j : Nat} {c : Int} (hs : SoR K 0 n q) (hj : j < n) (h : c < K (q j)) : cn0 (fun x => decide (K x ≤ c)) q 0 n ≤ j := by
  have h2 := cn0_split (fun x => decide (K x ≤ c)) q 0 j (n - j)
  rw [show j + (n - j) = n by omega] at h2
  have h3 : cn0 (fun x => decide (K x ≤ c)) q (0 + j) (n - j) = 0 := by
    have key : ∀ m, m ≤ n - j → cn0 (fun x => decide (K x ≤ c)) q (0 + j) m = 0 := fun m => by
      induction m with
      | zero => intro _; rfl
      | succ m ih =>
        intro hm
        show cn0 _ q (0 + j) m + (decide (K (q (0 + j + m)) ≤ c)).toNat = 0
        have := hs j (0 + j + m) (Nat.zero_le _) (by omega) (by omega)
        rw [ih (by omega), decide_eq_false (by omega)]; rfl
    exact key _ (Nat.le_refl _)
  have h4 := cn0_le (fun x => decide (K x ≤ c)) q 0 j
  omega
/-- Two rows in order, of the same runs with keys that differ. -/
theorem rows_eq {K : RunV → Int} {q q' : Nat → RunV} {n : Nat} (hs : SoR K 0 n q) (hs' : SoR K 0 n q') (hc : ∀ P : RunV → Bool, cn0 P q' 0 n = cn0 P q 0 n) (hd : ∀ i j, i < n → j < n → K (q i) = K (q j) → i = j) : ∀ j, j < n → q' j = q j := by
  classical
  have hk : ∀ j, j < n → K (q' j) = K (q j) := fun j hj => by
    rcases Int.lt_trichotomy (K (q' j)) (K (q j)) with h | h | h
    · have h1 := cn0_below hs' hj (Int.le_refl (K (q' j)))
      have h2 := cn0_above hs hj h
      rw [hc] at h1
      omega
    · exact h
    · have h1 := cn0_below hs hj (Int.le_refl (K (q j)))
      have h2 := cn0_above hs' hj h
      rw [hc] at h2
      omega
  intro j hj
  have h1 : 0 < cn0 (fun z => decide (z = q' j)) q' 0 n := cn0_pos.2 ⟨j, hj, by simp⟩
  rw [hc] at h1
  obtain ⟨i, h2, h3⟩ := cn0_pos.1 h1
  have h4 : q i = q' j := by simpa using h3
  have h5 := hd i j h2 hj (by rw [h4, hk j hj])
  subst h5
  exact h4.symm
/-- Runs that the farm comes to have keys that differ. -/
theorem keys_differ {D : SimD} (g : GoodD D) {S : SimS} (h : SimR D true S) {i j : Nat} (hi : i < S.k) (hj : j < S.k) (he : keyR (S.q i) = keyR (S.q j)) : i = j := by
  have hv : InvS D S D.nm := h.inv g
  have hnl := hv.nowle g
  have pr : ∀ a, a < S.k → PrR (S.q a) := fun a ha => by
    obtain ⟨⟨n, n1, n2⟩, -, h3, h4, h5⟩ := hv.done a ha
    have := g.mach.1.2
    exact ⟨⟨by omega, by omega⟩, ⟨by omega, by omega⟩, by omega, by omega⟩
  obtain ⟨e1, e2, e3⟩ := keyR_inj (pr i hi) (pr j hj) he
  have d1 := (hv.done i hi).2.2.2.1
  have d2 := (hv.done j hj).2.2.2.1
  rcases Nat.lt_trichotomy i j with hlt | heq | hgt
  · have := hv.ord i j hlt hj e3; omega
  · exact heq
  · have := hv.ord j i hgt hi e3.symm; omega
end Go.Proofs.Ytkadinjhfldokaa
