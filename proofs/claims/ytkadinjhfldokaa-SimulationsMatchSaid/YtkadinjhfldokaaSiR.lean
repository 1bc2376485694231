/- Work on machines, in plain words: each work is done once, behind what it comes after, and while its machine is up. Plain Lean. Conditions: what is given is right. -/
import Derived.Test.YtkadinjhfldokaaSiQ
namespace Go.Proofs.Ytkadinjhfldokaa
/-- A run keeps clear of the times at which its machine is down. -/
def ClearR (k : Mc) (r : RunV) : Prop := ∀ j, j < k.dn → ¬ (r.fr < k.dt j ∧ k.df j < r.to)
/-- The runs that ended tell of all that work w comes after. -/
def BehR (D : SimD) (S : SimS) (r : RunV) : Prop := ∀ j, j < (D.W r.wk.toNat).an → ∃ i, i < S.k ∧ (S.q i).wk = (D.W r.wk.toNat).az j ∧ (S.q i).fl = false ∧ (S.q i).to ≤ r.fr
structure InvD (D : SimD) (S : SimS) : Prop where
  dn1 : ∀ i, i < S.k → (S.q i).fl = false → S.st (S.q i).wk.toNat = 2
  dn2 : ∀ i j, i < S.k → j < S.k → (S.q i).fl = false → (S.q j).fl = false → (S.q i).wk = (S.q j).wk → i = j
  dn3 : ∀ n, n < D.nw → S.st n = 2 → ∃ i, i < S.k ∧ (S.q i).wk = (n : Int) ∧ (S.q i).fl = false
  clq : ∀ i, i < S.k → ClearR (D.M (S.q i).mc.toNat) (S.q i)
  clb : ∀ m r, m < D.nm → S.bz m = some r → ClearR (D.M m) r
  beq : ∀ i, i < S.k → BehR D S (S.q i)
  beb : ∀ m r, m < D.nm → S.bz m = some r → BehR D S r
theorem BehR.more {D : SimD} {S S' : SimS} {r : RunV} (h : BehR D S r) (hk : S.k ≤ S'.k) (hq : ∀ i, i < S.k → S'.q i = S.q i) : BehR D S' r := fun j hj => by
  obtain ⟨i, h1, h2, h3, h4⟩ := h j hj
  exact ⟨i, by omega, by rw [hq i h1]; exact h2, by rw [hq i h1]; exact h3, by rw [hq i h1]; exact h4⟩
theorem InvD.start {D : SimD} : InvD D startS := ⟨fun i h => (by cases h), fun i j h => (by cases h), fun n _ h => (by cases h), fun i h => (by cases h), fun m r _ h => (by cases h), fun i h => (by cases h), fun m r _ h => (by cases h)⟩
theorem InvD.end1 {D : SimD} {T : SimS} {m : Nat} (h : InvD D T) (v : InvS D T m) (hm : m < D.nm) : InvD D (endS1 D.tr T m) := by
  unfold endS1
  cases hb : T.bz m with
  | none => exact h
  | some r =>
    dsimp only
    by_cases ht : r.to = T.now
    · rw [if_pos ht]
      obtain ⟨a1, ⟨wn, a2, a2', a2''⟩, a3, -⟩ := v.busy m r hm hb
      have hw : r.wk.toNat = wn := by omega
      rw [hw]
      have hmc : r.mc.toNat = m := by omega
      have hq : ∀ i, i < T.k → updF T.q T.k r i = T.q i := fun i hi => updF_ne _ _ (by omega)
      have hnot : ∀ i, i < T.k → (T.q i).fl = false → (T.q i).wk ≠ r.wk := fun i hi hf he => by
        have := h.dn1 i hi hf
        rw [he, hw] at this
        omega
      have hbz : ∀ j r', j < D.nm → updF T.bz m none j = some r' → T.bz j = some r' := fun j r' hj hr' => by
        by_cases e : j = m
        · subst e; rw [updF_at] at hr'; cases hr'
        · rw [updF_ne _ _ e] at hr'; exact hr'
      have hmore : ∀ r', BehR D T r' → BehR D { now := T.now, bz := updF T.bz m none, k := T.k + 1, q := updF T.q T.k r, st := updF T.st wn (if r.fl = true then (if D.tr ≤ T.fl wn + 1 then 3 else 0) else 2), fl := if r.fl = true then updF T.fl wn (T.fl wn + 1) else T.fl } r' := fun r' hr' => hr'.more (Nat.le_succ _) hq
      refine ⟨fun i hi hf => ?_, fun i j hi hj hf hf' he => ?_, fun n hn hs => ?_, fun i hi => ?_, fun j r' hj hr' => h.clb j r' hj (hbz j r' hj hr'), fun i hi => ?_, fun j r' hj hr' => hmore _ (h.beb j r' hj (hbz j r' hj hr'))⟩
      · have hi' : i < T.k + 1 := hi
        have hf0 : (updF T.q T.k r i).fl = false := hf
        show updF T.st wn _ (updF T.q T.k r i).wk.toNat = 2
        by_cases e : i = T.k
        · rw [e, updF_at] at hf0 ⊢
          rw [hw, updF_at, hf0]; rfl
        · rw [updF_ne _ _ e] at hf0 ⊢
          have h1 := h.dn1 i (by omega) hf0
          by_cases e2 : (T.q i).wk.toNat = wn
          · rw [e2] at h1; omega
          · rw [updF_ne _ _ e2]; exact h1
      · have hi' : i < T.k + 1 := hi
        have hj' : j < T.k + 1 := hj
        have g1 : (updF T.q T.k r i).fl = false := hf
        have g2 : (updF T.q T.k r j).fl = false := hf'
        have g3 : (updF T.q T.k r i).wk = (updF T.q T.k r j).wk := he
        by_cases e : i = T.k
        · by_cases e' : j = T.k
          · omega
          · rw [updF_ne _ _ e'] at g2 g3
            rw [e, updF_at] at g3
            exact absurd g3.symm (hnot j (by omega) g2)
        · rw [updF_ne _ _ e] at g1 g3
          by_cases e' : j = T.k
          · rw [e', updF_at] at g3
            exact absurd g3 (hnot i (by omega) g1)
          · rw [updF_ne _ _ e'] at g2 g3
            exact h.dn2 i j (by omega) (by omega) g1 g2 g3
      · have hs' : updF T.st wn (if r.fl = true then (if D.tr ≤ T.fl wn + 1 then 3 else 0) else 2) n = 2 := hs
        by_cases e : n = wn
        · subst e
          refine ⟨T.k, Nat.lt_succ_self _, ?_, ?_⟩
          · show (updF T.q T.k r T.k).wk = _
            rw [updF_at]; exact a2
          · show (updF T.q T.k r T.k).fl = _
            rw [updF_at]
            rw [updF_at] at hs'
            cases hfl : r.fl with
            | false => rfl
            | true =>
              rw [hfl, if_pos rfl] at hs'
              split at hs' <;> omega
        · rw [updF_ne _ _ e] at hs'
          obtain ⟨i, h1, h2, h3⟩ := h.dn3 n hn hs'
          exact ⟨i, Nat.lt_succ_of_lt h1, by show (updF T.q T.k r i).wk = _; rw [hq i h1]; exact h2, by show (updF T.q T.k r i).fl = _; rw [hq i h1]; exact h3⟩
      · show ClearR (D.M (updF T.q T.k r i).mc.toNat) (updF T.q T.k r i)
        have hi' : i < T.k + 1 := hi
        by_cases e : i = T.k
        · rw [e, updF_at, hmc]; exact h.clb m r hm hb
        · rw [updF_ne _ _ e]; exact h.clq i (by omega)
      · show BehR D _ (updF T.q T.k r i)
        have hi' : i < T.k + 1 := hi
        by_cases e : i = T.k
        · rw [e, updF_at]; exact hmore _ (h.beb m r hm hb)
        · rw [updF_ne _ _ e]; exact hmore _ (h.beq i (by omega))
    · rw [if_neg ht]; exact h
theorem InvD.ends {D : SimD} {S : SimS} (h : InvD D S) (v : InvS D S 0) : ∀ m, m ≤ D.nm → InvD D (endS D.tr S m)
  | 0, _ => h
  | m + 1, hm => (InvD.ends h v m (by omega)).end1 (v.ends m (by omega)) (by omega)
theorem newRun_clear {D : SimD} (g : GoodD D) {now : Int} {w m : Nat} (hm : m < D.nm) (hu : upAt (D.M m) now = now) : ClearR (D.M m) (newRun D now w m) := by
  have hdn := (g.mach.2 m hm).2.2
  have hup : ∀ j, j < (D.M m).dn → ¬ ((D.M m).df j ≤ now ∧ now < (D.M m).dt j) := by
    rcases upAt_cases (D.M m) now with ⟨-, h⟩ | ⟨j, h1, h2, h3⟩
    · exact h
    · omega
  have hord : ∀ d i, i + d < (D.M m).dn → 0 < d → (D.M m).dt i ≤ (D.M m).df (i + d) := fun d => by
    induction d with
    | zero => intro i _ h; omega
    | succ d ih =>
      intro i hi _
      have h1 := (hdn (i + (d + 1)) hi).2 (by omega)
      rw [show i + (d + 1) - 1 = i + d by omega] at h1
      rcases Nat.eq_zero_or_pos d with h0 | h0
      · subst h0; exact h1
      · have h2 := ih i (by omega) h0
        have h3 := (hdn (i + d) (by omega)).1
        omega
  intro j hj hc
  have hj1 := hup j hj
  have hj2 := (hdn j hj).1
  unfold newRun at hc
  cases h : firstS (cutC (D.M m) now (endT D now w m)) (D.M m).dn with
  | none =>
    rw [h] at hc
    have h1 := firstS_none.1 h j hj
    unfold cutC at h1
    by_cases hcc : now < (D.M m).df j ∧ (D.M m).df j ≤ endT D now w m
    · rw [if_pos hcc] at h1; cases h1
    · have hc1 : now < (D.M m).dt j := hc.1
      have hc2 : (D.M m).df j < endT D now w m := hc.2
      omega
  | some x =>
    rw [h] at hc
    have hc1 : now < (D.M m).dt j := hc.1
    have hc2 : (D.M m).df j < x := hc.2
    obtain ⟨i, h1, h2⟩ := firstS_mem h
    unfold cutC at h2
    by_cases hcc : now < (D.M m).df i ∧ (D.M m).df i ≤ endT D now w m
    · rw [if_pos hcc] at h2
      injection h2 with h2
      rcases Nat.lt_trichotomy i j with hlt | heq | hgt
      · have := hord (j - i) i (by omega) (by omega)
        rw [show i + (j - i) = j by omega] at this
        have := (hdn i h1).1
        omega
      · subst heq; omega
      · -- j comes first: it would have been taken
        have : now < (D.M m).df j := by omega
        have hcj : cutC (D.M m) now (endT D now w m) j = some ((D.M m).df j) := by unfold cutC; rw [if_pos ⟨this, by omega⟩]
        have hall : ∀ n, n ≤ (D.M m).dn → j < n → ∃ i', i' ≤ j ∧ firstS (cutC (D.M m) now (endT D now w m)) n = cutC (D.M m) now (endT D now w m) i' := fun n => by
          induction n with
          | zero => intro _ h; omega
          | succ n ih =>
            intro hn hjn
            unfold firstS
            rcases Nat.lt_or_ge j n with h4 | h4
            · obtain ⟨i', k1, k2⟩ := ih (by omega) h4
              cases h5 : firstS (cutC (D.M m) now (endT D now w m)) n with
              | some y => exact ⟨i', k1, by rw [← k2, h5]⟩
              | none =>
                have := firstS_none.1 h5 j h4
                rw [hcj] at this; cases this
            · obtain rfl : j = n := by omega
              cases h5 : firstS (cutC (D.M m) now (endT D now w m)) j with
              | none => exact ⟨j, Nat.le_refl _, rfl⟩
              | some y =>
                obtain ⟨i', k1, k2⟩ := firstS_mem h5
                exact ⟨i', by omega, k2.symm⟩
        obtain ⟨i', k1, k2⟩ := hall _ (Nat.le_refl _) hj
        rw [h] at k2
        unfold cutC at k2
        by_cases hci : now < (D.M m).df i' ∧ (D.M m).df i' ≤ endT D now w m
        · rw [if_pos hci] at k2
          injection k2 with k2
          rcases Nat.lt_or_ge i' j with h6 | h6
          · have := hord (j - i') i' (by omega) (by omega)
            rw [show i' + (j - i') = j by omega] at this
            have := (hdn i' (by omega)).1
            omega
          · obtain rfl : i' = j := by omega
            omega
        · rw [if_neg hci] at k2; cases k2
    · rw [if_neg hcc] at h2; cases h2
theorem InvD.begin {D : SimD} {S : SimS} {w m : Nat} (g : GoodD D) (h : InvD D S) (v : InvS D S D.nm) (hw : w < D.nw) (hr : readyB D S.st w = true) (hm : m < D.nm) (hf : freeB D S m = true) : InvD D (beginS D S w m) := by
  obtain ⟨r1, r2, r3, r4, r5⟩ := newRun_is g (now := S.now) hw hm
  have hst := readyB_st hr
  have hfr := freeB_is hf
  have hb : ∀ j r, j < D.nm → updF S.bz m (some (newRun D S.now w m)) j = some r → (j = m ∧ r = newRun D S.now w m) ∨ (j ≠ m ∧ S.bz j = some r) := fun j r _ hr => by
    by_cases e : j = m
    · subst e; rw [updF_at] at hr; injection hr with hr; exact .inl ⟨rfl, hr.symm⟩
    · rw [updF_ne _ _ e] at hr; exact .inr ⟨e, hr⟩
  refine ⟨fun i hi hf => ?_, h.dn2, fun n hn hs => ?_, h.clq, fun j r hj hr => ?_, h.beq, fun j r hj hr => ?_⟩
  · show updF S.st w 1 (S.q i).wk.toNat = 2
    have h1 := h.dn1 i hi hf
    by_cases e : (S.q i).wk.toNat = w
    · rw [e] at h1; omega
    · rw [updF_ne _ _ e]; exact h1
  · have hs' : updF S.st w 1 n = 2 := hs
    by_cases e : n = w
    · subst e; rw [updF_at] at hs'; omega
    · rw [updF_ne _ _ e] at hs'; exact h.dn3 n hn hs'
  · rcases hb j r hj hr with ⟨e1, e2⟩ | ⟨e1, e2⟩
    · subst e1; rw [e2]; exact newRun_clear g hj hfr.2
    · exact h.clb j r hj e2
  · rcases hb j r hj hr with ⟨e1, e2⟩ | ⟨e1, e2⟩
    · rw [e2]
      intro i hi
      have hwn : (newRun D S.now w m).wk.toNat = w := by omega
      rw [hwn] at hi ⊢
      have hz := (g.work.2 w hw).2.2.2 i hi
      obtain ⟨i', k1, k2, k3⟩ := h.dn3 ((D.W w).az i).toNat (by omega) (hst.2 i hi)
      exact ⟨i', k1, by show (S.q i').wk = _; omega, k3, by rw [r3]; exact (v.done i' k1).2.2.2.2⟩
    · exact h.beb j r hj e2
theorem SimR.invD {D : SimD} (g : GoodD D) {p : Bool} {S : SimS} (h : SimR D p S) : InvD D S := by
  induction h with
  | start => exact InvD.start
  | ended hr ih => exact ih.ends (hr.inv g) D.nm (Nat.le_refl _)
  | @given S w m hr h1 h2 ih =>
    rcases bestW_in D S.st D.nw with e | ⟨w', e1, e2, e3⟩
    · omega
    · rcases bestM_in D S D.nm with f | ⟨m', f1, f2, f3⟩
      · omega
      · have : w' = w := by omega
        subst this
        have : m' = m := by omega
        subst this
        exact ih.begin g (hr.inv g) e2 e3 f2 f3
  | next _ _ _ ih => exact ⟨ih.dn1, ih.dn2, ih.dn3, ih.clq, ih.clb, ih.beq, ih.beb⟩
end Go.Proofs.Ytkadinjhfldokaa
