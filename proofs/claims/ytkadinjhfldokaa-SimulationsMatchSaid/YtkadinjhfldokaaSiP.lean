/- Work on machines, in plain words: what holds of whatever may stand. Plain Lean. Conditions: what is given is right. -/
import Derived.Test.YtkadinjhfldokaaSiA
namespace Go.Proofs.Ytkadinjhfldokaa
def sumI (f : Nat → Int) : Nat → Int
  | 0 => 0
  | n + 1 => sumI f n + f n
theorem sumI_congr {f g : Nat → Int} {n : Nat} (h : ∀ j, j < n → g j = f j) : sumI g n = sumI f n := by
  induction n with
  | zero => rfl
  | succ n ih => unfold sumI; rw [ih (fun j hj => h j (by omega)), h n (by omega)]
theorem sumI_upd {f g : Nat → Int} {n i : Nat} (hi : i < n) (h : ∀ j, j ≠ i → g j = f j) : sumI g n = sumI f n - f i + g i := by
  induction n with
  | zero => omega
  | succ n ih =>
    unfold sumI
    rcases Nat.lt_or_ge i n with h1 | h1
    · rw [ih h1, h n (by omega)]; omega
    · obtain rfl : i = n := by omega
      rw [sumI_congr (f := f) (g := g) (fun j hj => h j (by omega))]; omega
theorem sumI_le {f : Nat → Int} {n : Nat} {c : Int} (h : ∀ j, j < n → f j ≤ c) : sumI f n ≤ c * n := by
  induction n with
  | zero => show (0 : Int) ≤ c * 0; omega
  | succ n ih =>
    unfold sumI
    have h1 := ih (fun j hj => h j (by omega))
    have h2 := h n (by omega)
    have e : c * ((n + 1 : Nat) : Int) = c * (n : Int) + c := by rw [Int.natCast_add, Int.mul_add]; simp
    omega
/-- What holds while what ends is ended, up to machine mm. -/
structure InvS (D : SimD) (S : SimS) (mm : Nat) : Prop where
  now0 : 0 ≤ S.now
  busy : ∀ m r, m < D.nm → S.bz m = some r → r.mc = (m : Int) ∧ (∃ n : Nat, r.wk = (n : Int) ∧ n < D.nw ∧ S.st n = 1) ∧ (0 ≤ r.fr ∧ r.fr ≤ S.now ∧ r.fr < r.to) ∧ r.to ≤ 1000000000 + 1000000 * ((S.k : Int) + 1) ∧ S.now ≤ r.to ∧ (m < mm → S.now < r.to)
  dist : ∀ m m' r r', m < D.nm → m' < D.nm → S.bz m = some r → S.bz m' = some r' → r.wk = r'.wk → m = m'
  st : ∀ i, i < D.nw → (S.st i = 0 ∨ S.st i = 1 ∨ S.st i = 2 ∨ S.st i = 3) ∧ (0 ≤ S.fl i ∧ S.fl i ≤ D.tr) ∧ (S.st i = 0 ∨ S.st i = 1 → S.fl i < D.tr)
  sum : (S.k : Int) = sumI (fun i => S.fl i + if S.st i = 2 then 1 else 0) D.nw
  done : ∀ i, i < S.k → (∃ n : Nat, (S.q i).mc = (n : Int) ∧ n < D.nm) ∧ (∃ n : Nat, (S.q i).wk = (n : Int) ∧ n < D.nw) ∧ 0 ≤ (S.q i).fr ∧ (S.q i).fr < (S.q i).to ∧ (S.q i).to ≤ S.now
  ord : ∀ i j, i < j → j < S.k → (S.q i).mc = (S.q j).mc → (S.q i).to ≤ (S.q j).fr
  ordb : ∀ i m r, i < S.k → m < D.nm → S.bz m = some r → (S.q i).mc = (m : Int) → (S.q i).to ≤ r.fr
  tb : S.now ≤ 1000000000 + 1000000 * (S.k : Int) ∨ ∃ m r, mm ≤ m ∧ m < D.nm ∧ S.bz m = some r ∧ r.to = S.now
theorem InvS.kle {D : SimD} {S : SimS} {mm : Nat} (g : GoodD D) (h : InvS D S mm) : S.k ≤ 22000 := by
  have h1 := sumI_le (f := fun i => S.fl i + if S.st i = 2 then 1 else 0) (n := D.nw) (c := 11) (fun j hj => by
    have := (h.st j hj).2.1
    have := g.t
    show S.fl j + (if S.st j = 2 then 1 else 0) ≤ 11
    split <;> omega)
  rw [← h.sum] at h1
  have := g.work.1
  omega
theorem InvS.nowle {D : SimD} {S : SimS} {mm : Nat} (g : GoodD D) (h : InvS D S mm) : 0 ≤ S.now ∧ S.now ≤ 23001000000 := by
  have hk := h.kle g
  refine ⟨h.now0, ?_⟩
  rcases h.tb with h1 | ⟨m, r, -, h2, h3, h4⟩
  · omega
  · have := (h.busy m r h2 h3).2.2.2.1; omega
theorem InvS.start {D : SimD} (g : GoodD D) : InvS D startS 0 := by
  refine ⟨Int.le_refl _, fun m r _ h => (by cases h), fun m m' r r' _ _ h => (by cases h), fun i _ => ⟨.inl rfl, ⟨Int.le_refl _, by have := g.t; show (0 : Int) ≤ D.tr; omega⟩, fun _ => by have := g.t; show (0 : Int) < D.tr; omega⟩, ?_, fun i h => (by cases h), fun i j _ h => (by cases h), fun i m r h => (by cases h), .inl (by decide)⟩
  show (0 : Int) = sumI (fun i => (0 : Int) + if (0 : Int) = 2 then 1 else 0) D.nw
  have : ∀ n, sumI (fun _ => (0 : Int) + if (0 : Int) = 2 then 1 else 0) n = 0 := fun n => by
    induction n with
    | zero => rfl
    | succ n ih => unfold sumI; rw [ih]; rfl
  exact (this _).symm
theorem InvS.end1 {D : SimD} {T : SimS} {m : Nat} (h : InvS D T m) (hm : m < D.nm) : InvS D (endS1 D.tr T m) (m + 1) := by
  have keep : (∀ r, T.bz m = some r → r.to ≠ T.now) → InvS D T (m + 1) := fun hne => by
    refine ⟨h.now0, fun j r hj hr => ?_, h.dist, h.st, h.sum, h.done, h.ord, h.ordb, ?_⟩
    · obtain ⟨a1, a2, a3, a4, a5, a6⟩ := h.busy j r hj hr
      refine ⟨a1, a2, a3, a4, a5, fun hjm => ?_⟩
      rcases Nat.lt_or_ge j m with h1 | h1
      · exact a6 h1
      · obtain rfl : j = m := by omega
        have := hne r hr
        omega
    · rcases h.tb with h1 | ⟨j, r, h1, h2, h3, h4⟩
      · exact .inl h1
      · refine .inr ⟨j, r, ?_, h2, h3, h4⟩
        rcases Nat.lt_or_ge m j with h5 | h5
        · exact h5
        · obtain rfl : j = m := by omega
          exact absurd h4 (hne r h3)
  unfold endS1
  cases hb : T.bz m with
  | none => exact keep (fun r hr => by rw [hb] at hr; cases hr)
  | some r =>
    dsimp only
    by_cases ht : r.to = T.now
    · rw [if_pos ht]
      obtain ⟨a1, ⟨wn, a2, a2', a2''⟩, a3, a4, a5, a6⟩ := h.busy m r hm hb
      have hw : r.wk.toNat = wn := by omega
      rw [hw]
      have hst := h.st wn a2'
      have hother : ∀ j r', j < D.nm → updF T.bz m none j = some r' → j ≠ m ∧ T.bz j = some r' ∧ r'.wk ≠ r.wk := fun j r' hj hr' => by
        by_cases e : j = m
        · subst e; rw [updF_at] at hr'; cases hr'
        · rw [updF_ne _ _ e] at hr'
          exact ⟨e, hr', fun hw' => e (h.dist j m r' r hj hm hr' hb hw')⟩
      refine ⟨h.now0, fun j r' hj hr' => ?_, fun j j' r1 r2 hj hj' h1 h2 => ?_, fun i hi => ?_, ?_, fun i hi => ?_, fun i j hij hj => ?_, fun i j r' hi hj hr' => ?_, ?_⟩
      · obtain ⟨e1, e2, e3⟩ := hother j r' hj hr'
        obtain ⟨b1, ⟨n, b2, b2', b2''⟩, b3, b4, b5, b6⟩ := h.busy j r' hj e2
        refine ⟨b1, ⟨n, b2, b2', ?_⟩, b3, ?_, b5, fun hjm => b6 (by omega)⟩
        · show updF T.st wn _ n = 1
          rw [updF_ne _ _ (by omega)]; exact b2''
        · show r'.to ≤ 1000000000 + 1000000 * (((T.k + 1 : Nat) : Int) + 1)
          omega
      · exact h.dist j j' r1 r2 hj hj' (hother j r1 hj h1).2.1 (hother j' r2 hj' h2).2.1
      · show (updF T.st wn _ i = 0 ∨ updF T.st wn _ i = 1 ∨ updF T.st wn _ i = 2 ∨ updF T.st wn _ i = 3) ∧ (0 ≤ (if r.fl = true then updF T.fl wn (T.fl wn + 1) else T.fl) i ∧ (if r.fl = true then updF T.fl wn (T.fl wn + 1) else T.fl) i ≤ D.tr) ∧ (updF T.st wn _ i = 0 ∨ updF T.st wn _ i = 1 → (if r.fl = true then updF T.fl wn (T.fl wn + 1) else T.fl) i < D.tr)
        by_cases e : i = wn
        · subst e
          rw [updF_at]
          have hl := hst.2.2 (.inr a2'')
          have hl0 := hst.2.1
          cases r.fl with
          | false =>
            simp only [Bool.false_eq_true, if_false]
            refine ⟨.inr (.inr (.inl trivial)), by omega, fun h => ?_⟩
            rcases h with h | h <;> first | omega | (simp at h; done)
          | true =>
            simp only [if_true, updF_at]
            by_cases hc : D.tr ≤ T.fl i + 1
            · rw [if_pos hc]; exact ⟨by omega, by omega, fun h => by omega⟩
            · rw [if_neg hc]; exact ⟨by omega, by omega, fun h => by omega⟩
        · rw [updF_ne _ _ e]
          have hi' := h.st i hi
          cases r.fl with
          | false => exact hi'
          | true =>
            simp only [if_true]
            rw [updF_ne _ _ e]; exact hi'
      · show ((T.k + 1 : Nat) : Int) = sumI (fun i => (if r.fl = true then updF T.fl wn (T.fl wn + 1) else T.fl) i + if updF T.st wn _ i = 2 then 1 else 0) D.nw
        rw [sumI_upd (f := fun i => T.fl i + if T.st i = 2 then 1 else 0) (i := wn) a2' (fun j hj => by
          rw [updF_ne _ _ hj]
          cases r.fl with
          | false => rfl
          | true => simp only [if_true]; rw [updF_ne _ _ hj])]
        rw [← h.sum, a2'', updF_at]
        cases r.fl with
        | false => simp; omega
        | true =>
          simp only [if_true, updF_at]
          by_cases hc : D.tr ≤ T.fl wn + 1
          · rw [if_pos hc]; simp; omega
          · rw [if_neg hc]; simp; omega
      · show (∃ n : Nat, (updF T.q T.k r i).mc = (n : Int) ∧ n < D.nm) ∧ (∃ n : Nat, (updF T.q T.k r i).wk = (n : Int) ∧ n < D.nw) ∧ 0 ≤ (updF T.q T.k r i).fr ∧ (updF T.q T.k r i).fr < (updF T.q T.k r i).to ∧ (updF T.q T.k r i).to ≤ T.now
        have hi' : i < T.k + 1 := hi
        by_cases e : i = T.k
        · rw [e, updF_at]; exact ⟨⟨m, a1, hm⟩, ⟨wn, a2, a2'⟩, a3.1, a3.2.2, by omega⟩
        · rw [updF_ne _ _ e]; exact h.done i (by omega)
      · show (updF T.q T.k r i).mc = (updF T.q T.k r j).mc → (updF T.q T.k r i).to ≤ (updF T.q T.k r j).fr
        have hj' : j < T.k + 1 := hj
        rw [updF_ne _ _ (show i ≠ T.k by omega)]
        by_cases e : j = T.k
        · rw [e, updF_at]
          intro he
          exact h.ordb i m r (by omega) hm hb (by omega)
        · rw [updF_ne _ _ e]; exact h.ord i j hij (by omega)
      · obtain ⟨e1, e2, e3⟩ := hother j r' hj hr'
        show (updF T.q T.k r i).mc = (j : Int) → (updF T.q T.k r i).to ≤ r'.fr
        have hi' : i < T.k + 1 := hi
        by_cases e : i = T.k
        · rw [e, updF_at]; intro he; exact absurd (show m = j by omega) (Ne.symm e1)
        · rw [updF_ne _ _ e]; exact h.ordb i j r' (by omega) hj e2
      · refine .inl ?_
        show T.now ≤ 1000000000 + 1000000 * ((T.k + 1 : Nat) : Int)
        omega
    · rw [if_neg ht]
      exact keep (fun r' hr => by rw [hb] at hr; injection hr with hr; rw [← hr]; exact ht)
theorem InvS.ends {D : SimD} {S : SimS} (h : InvS D S 0) : ∀ m, m ≤ D.nm → InvS D (endS D.tr S m) m
  | 0, _ => h
  | m + 1, hm => (InvS.ends h m (by omega)).end1 (by omega)
end Go.Proofs.Ytkadinjhfldokaa
