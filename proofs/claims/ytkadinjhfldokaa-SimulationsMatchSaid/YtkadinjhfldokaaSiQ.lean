/- Work on machines, in plain words: what holds of whatever may stand, from time to time. Plain Lean. Conditions: what is given is right. -/
import Derived.Test.YtkadinjhfldokaaSiP
namespace Go.Proofs.Ytkadinjhfldokaa
theorem nextM_none {D : SimD} {S : SimS} {sm : Bool} {m : Nat} : nextM D S sm m = none → ∀ j, j < m → nextC D S sm j = none := by
  induction m with
  | zero => intro _ j hj; omega
  | succ m ih =>
    intro h j hj
    unfold nextM at h
    cases h1 : nextM D S sm m with
    | some x =>
      rw [h1] at h
      cases h2 : nextC D S sm m <;> rw [h2] at h <;> cases h
    | none =>
      rw [h1] at h
      rcases Nat.lt_or_ge j m with h3 | h3
      · exact ih h1 j h3
      · obtain rfl : j = m := by omega
        exact h
theorem nextM_some {D : SimD} {S : SimS} {sm : Bool} {m : Nat} : ∀ {t : Int}, nextM D S sm m = some t → (∃ j, j < m ∧ nextC D S sm j = some t) ∧ ∀ j u, j < m → nextC D S sm j = some u → t ≤ u := by
  induction m with
  | zero => intro t h; cases h
  | succ m ih =>
    intro t h
    unfold nextM at h
    cases h1 : nextM D S sm m with
    | none =>
      rw [h1] at h
      refine ⟨⟨m, by omega, h⟩, fun j u hj hu => ?_⟩
      rcases Nat.lt_or_ge j m with h3 | h3
      · rw [nextM_none h1 j h3] at hu; cases hu
      · obtain rfl : j = m := by omega
        have h' : nextC D S sm j = some t := h
        rw [hu] at h'; injection h' with h'; omega
    | some x =>
      obtain ⟨⟨j0, k1, k2⟩, k3⟩ := ih h1
      rw [h1] at h
      cases h2 : nextC D S sm m with
      | none =>
        rw [h2] at h
        injection h with h
        subst h
        refine ⟨⟨j0, by omega, k2⟩, fun j u hj hu => ?_⟩
        rcases Nat.lt_or_ge j m with h3 | h3
        · exact k3 j u h3 hu
        · obtain rfl : j = m := by omega
          rw [h2] at hu; cases hu
      | some y =>
        rw [h2] at h
        have h' : some (if y < x then y else x) = some t := h
        injection h' with h'
        by_cases hc : y < x
        · rw [if_pos hc] at h'
          subst h'
          refine ⟨⟨m, by omega, h2⟩, fun j u hj hu => ?_⟩
          rcases Nat.lt_or_ge j m with h3 | h3
          · have := k3 j u h3 hu; omega
          · obtain rfl : j = m := by omega
            rw [h2] at hu; injection hu with hu; omega
        · rw [if_neg hc] at h'
          subst h'
          refine ⟨⟨j0, by omega, k2⟩, fun j u hj hu => ?_⟩
          rcases Nat.lt_or_ge j m with h3 | h3
          · exact k3 j u h3 hu
          · obtain rfl : j = m := by omega
            rw [h2] at hu; injection hu with hu; omega
/-- When a machine comes up: at a told time, or it is not down. -/
theorem upAt_cases (k : Mc) (t : Int) : (upAt k t = t ∧ ∀ j, j < k.dn → ¬ (k.df j ≤ t ∧ t < k.dt j)) ∨ ∃ j, j < k.dn ∧ upAt k t = k.dt j ∧ k.df j ≤ t ∧ t < k.dt j := by
  unfold upAt
  cases h : firstS (upC k t) k.dn with
  | none =>
    refine .inl ⟨rfl, fun j hj hc => ?_⟩
    have := firstS_none.1 h j hj
    unfold upC at this
    rw [if_pos hc] at this
    cases this
  | some x =>
    obtain ⟨j, h1, h2⟩ := firstS_mem h
    unfold upC at h2
    by_cases hc : k.df j ≤ t ∧ t < k.dt j
    · rw [if_pos hc] at h2
      injection h2 with h2
      exact .inr ⟨j, h1, h2.symm, hc⟩
    · rw [if_neg hc] at h2; cases h2
theorem endT_bd {D : SimD} (g : GoodD D) {now : Int} {w m : Nat} (hw : w < D.nw) (hm : m < D.nm) : now < endT D now w m ∧ endT D now w m ≤ now + 1000000 := by
  have h1 := (g.work.2 w hw).1
  have h2 := (g.mach.2 m hm).1
  unfold endT
  generalize (D.W w).cost = c at *
  generalize (D.M m).sp = s at *
  have a : 1 ≤ (c + s - 1) / s := Int.le_ediv_of_mul_le (by omega) (by omega)
  have b : (c + s - 1) / s < c + 1 := by
    refine Int.ediv_lt_of_lt_mul (by omega) ?_
    have : c * 1 ≤ c * s := Int.mul_le_mul_of_nonneg_left (by omega) (by omega)
    rw [Int.add_mul]
    omega
  omega
theorem newRun_is {D : SimD} (g : GoodD D) {now : Int} {w m : Nat} (hw : w < D.nw) (hm : m < D.nm) : (newRun D now w m).wk = (w : Int) ∧ (newRun D now w m).mc = (m : Int) ∧ (newRun D now w m).fr = now ∧ now < (newRun D now w m).to ∧ (newRun D now w m).to ≤ now + 1000000 := by
  obtain ⟨a, b⟩ := endT_bd g (now := now) hw hm
  unfold newRun
  cases h : firstS (cutC (D.M m) now (endT D now w m)) (D.M m).dn with
  | none => exact ⟨rfl, rfl, rfl, a, b⟩
  | some x =>
    obtain ⟨j, h1, h2⟩ := firstS_mem h
    unfold cutC at h2
    by_cases hc : now < (D.M m).df j ∧ (D.M m).df j ≤ endT D now w m
    · rw [if_pos hc] at h2
      injection h2 with h2
      exact ⟨rfl, rfl, rfl, by show now < x; omega, by show x ≤ _; omega⟩
    · rw [if_neg hc] at h2; cases h2
theorem readyB_st {D : SimD} {st : Nat → Int} {w : Nat} (h : readyB D st w = true) : st w = 0 ∧ ∀ j, j < (D.W w).an → st ((D.W w).az j).toNat = 2 := by
  unfold readyB at h
  rw [Bool.and_eq_true] at h
  refine ⟨by simpa using h.1, fun j hj => ?_⟩
  have h2 := h.2
  rw [Bool.not_eq_true', anyP_false] at h2
  have := h2 j hj
  simpa using this
theorem freeB_is {D : SimD} {S : SimS} {m : Nat} (h : freeB D S m = true) : S.bz m = none ∧ upAt (D.M m) S.now = S.now := by
  unfold freeB at h
  rw [Bool.and_eq_true] at h
  exact ⟨by simpa using h.1, by simpa using h.2⟩
theorem InvS.begin {D : SimD} {S : SimS} {w m : Nat} (g : GoodD D) (h : InvS D S D.nm) (hw : w < D.nw) (hr : readyB D S.st w = true) (hm : m < D.nm) (hf : freeB D S m = true) : InvS D (beginS D S w m) D.nm := by
  obtain ⟨r1, r2, r3, r4, r5⟩ := newRun_is g (now := S.now) hw hm
  have hst := (readyB_st hr).1
  have hbz := (freeB_is hf).1
  have htb : S.now ≤ 1000000000 + 1000000 * (S.k : Int) := by
    rcases h.tb with h1 | ⟨j, r, h1, h2, -⟩
    · exact h1
    · omega
  have hb : ∀ j r, j < D.nm → updF S.bz m (some (newRun D S.now w m)) j = some r → (j = m ∧ r = newRun D S.now w m) ∨ (j ≠ m ∧ S.bz j = some r) := fun j r _ hr => by
    by_cases e : j = m
    · subst e; rw [updF_at] at hr; injection hr with hr; exact .inl ⟨rfl, hr.symm⟩
    · rw [updF_ne _ _ e] at hr; exact .inr ⟨e, hr⟩
  have hwk : ∀ j r, j < D.nm → S.bz j = some r → r.wk ≠ (w : Int) := fun j r hj hr hw' => by
    obtain ⟨-, ⟨n, n1, n2, n3⟩, -⟩ := h.busy j r hj hr
    have : n = w := by omega
    subst this
    omega
  refine ⟨h.now0, fun j r hj hr => ?_, fun j j' r r' hj hj' h1 h2 he => ?_, fun i hi => ?_, ?_, h.done, h.ord, fun i j r hi hj hr => ?_, .inl htb⟩
  · rcases hb j r hj hr with ⟨rfl, rfl⟩ | ⟨e, hr⟩
    · refine ⟨r2, ⟨w, r1, hw, updF_at _ _ _⟩, ⟨by rw [r3]; exact h.now0, by rw [r3]; exact Int.le_refl _, by rw [r3]; exact r4⟩, ?_, Int.le_of_lt r4, fun _ => r4⟩
      show (newRun D S.now w j).to ≤ 1000000000 + 1000000 * ((S.k : Int) + 1)
      omega
    · obtain ⟨a1, ⟨n, n1, n2, n3⟩, a3⟩ := h.busy j r hj hr
      refine ⟨a1, ⟨n, n1, n2, ?_⟩, a3⟩
      show updF S.st w 1 n = 1
      have := hwk j r hj hr
      rw [updF_ne _ _ (by omega)]; exact n3
  · rcases hb j r hj h1 with ⟨e1, e2⟩ | ⟨e1, e2⟩
    · rcases hb j' r' hj' h2 with ⟨e3, e4⟩ | ⟨e3, e4⟩
      · rw [e1, e3]
      · rw [e2] at he
        exact absurd (he.symm.trans r1) (hwk j' r' hj' e4)
    · rcases hb j' r' hj' h2 with ⟨e3, e4⟩ | ⟨e3, e4⟩
      · rw [e4] at he
        exact absurd (he.trans r1) (hwk j r hj e2)
      · exact h.dist j j' r r' hj hj' e2 e4 he
  · show (updF S.st w 1 i = 0 ∨ updF S.st w 1 i = 1 ∨ updF S.st w 1 i = 2 ∨ updF S.st w 1 i = 3) ∧ (0 ≤ S.fl i ∧ S.fl i ≤ D.tr) ∧ (updF S.st w 1 i = 0 ∨ updF S.st w 1 i = 1 → S.fl i < D.tr)
    have hi' := h.st i hi
    by_cases e : i = w
    · subst e; rw [updF_at]; exact ⟨.inr (.inl rfl), hi'.2.1, fun _ => hi'.2.2 (.inl hst)⟩
    · rw [updF_ne _ _ e]; exact hi'
  · show (S.k : Int) = sumI (fun i => S.fl i + if updF S.st w 1 i = 2 then 1 else 0) D.nw
    rw [h.sum]
    refine (sumI_congr (fun j _ => ?_)).symm
    by_cases e : j = w
    · subst e; rw [updF_at, hst]; rfl
    · rw [updF_ne _ _ e]
  · rcases hb j r hj hr with ⟨rfl, rfl⟩ | ⟨e, hr⟩
    · intro _
      rw [r3]
      exact (h.done i hi).2.2.2.2
    · exact h.ordb i j r hi hj hr
theorem InvS.next {D : SimD} {S : SimS} {t : Int} (g : GoodD D) (h : InvS D S D.nm) (hn : nextT D S = some t) : S.now < t ∧ InvS D { S with now := t } 0 := by
  obtain ⟨⟨j0, k1, k2⟩, k3⟩ := nextM_some hn
  have hc : S.now < t ∧ (t ≤ 1000000000 ∨ ∃ r, S.bz j0 = some r ∧ r.to = t) := by
    unfold nextC at k2
    cases hb : S.bz j0 with
    | some r =>
      rw [hb] at k2
      injection k2 with k2
      have := (h.busy j0 r k1 hb).2.2.2.2.2 k1
      exact ⟨by omega, .inr ⟨r, rfl, k2⟩⟩
    | none =>
      rw [hb] at k2
      dsimp only at k2
      split at k2
      · rename_i hu
        injection k2 with k2
        rcases upAt_cases (D.M j0) S.now with ⟨e, -⟩ | ⟨j, h1, h2, -⟩
        · omega
        · have := (g.mach.2 j0 k1).2.2 j h1
          exact ⟨by omega, .inl (by omega)⟩
      · cases k2
  refine ⟨hc.1, ⟨by show (0 : Int) ≤ t; have := h.now0; omega, fun m r hm hr => ?_, h.dist, h.st, h.sum, fun i hi => ?_, h.ord, h.ordb, ?_⟩⟩
  · obtain ⟨a1, a2, a3, a4, a5, a6⟩ := h.busy m r hm hr
    have hle : t ≤ r.to := k3 m r.to hm (by unfold nextC; rw [show S.bz m = some r from hr])
    exact ⟨a1, a2, ⟨a3.1, by show r.fr ≤ t; omega, a3.2.2⟩, a4, hle, fun h => by omega⟩
  · obtain ⟨a1, a2, a3, a4, a5⟩ := h.done i hi
    exact ⟨a1, a2, a3, a4, by show (S.q i).to ≤ t; omega⟩
  · rcases hc.2 with h1 | ⟨r, h1, h2⟩
    · exact .inl (by show t ≤ 1000000000 + 1000000 * (S.k : Int); omega)
    · exact .inr ⟨j0, r, Nat.zero_le _, k1, h1, h2⟩
/-- What holds of whatever may stand. -/
theorem SimR.inv {D : SimD} (g : GoodD D) {p : Bool} {S : SimS} (h : SimR D p S) : InvS D S (if p = true then D.nm else 0) := by
  induction h with
  | start => exact InvS.start g
  | ended _ ih => exact InvS.ends ih D.nm (Nat.le_refl _)
  | @given S w m _ h1 h2 ih =>
    have ih' : InvS D S D.nm := ih
    rcases bestW_in D S.st D.nw with e | ⟨w', e1, e2, e3⟩
    · omega
    · rcases bestM_in D S D.nm with f | ⟨m', f1, f2, f3⟩
      · omega
      · have : w' = w := by omega
        subst this
        have : m' = m := by omega
        subst this
        exact ih'.begin g e2 e3 f2 f3
  | next _ _ h2 ih => exact (InvS.next g ih h2).2
end Go.Proofs.Ytkadinjhfldokaa
