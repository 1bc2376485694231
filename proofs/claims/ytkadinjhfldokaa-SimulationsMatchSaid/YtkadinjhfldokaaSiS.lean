/- Work on machines, in plain words: machines of speed 1 that are never down, works that come after none: done in time. Plain Lean. Conditions: those named. -/
import Derived.Test.YtkadinjhfldokaaSiR
namespace Go.Proofs.Ytkadinjhfldokaa
structure SimpleD (D : SimD) : Prop where
  m : ∀ m, m < D.nm → (D.M m).sp = 1 ∧ (D.M m).dn = 0
  w : ∀ w, w < D.nw → (D.W w).an = 0
/-- A number of each run that goes on, summed. -/
def bsum (S : SimS) (f : RunV → Int) (n : Nat) : Int := sumI (fun m => match S.bz m with | some r => f r | none => 0) n
structure InvB (D : SimD) (S : SimS) : Prop where
  nf : ∀ i, i < S.k → (S.q i).fl = false
  nb : ∀ m r, m < D.nm → S.bz m = some r → r.fl = false
  n3 : ∀ n, n < D.nw → S.st n ≠ 3
  fz : ∀ n, n < D.nw → S.fl n = 0
  one : ∀ n, n < D.nw → S.st n = 1 → ∃ m r, m < D.nm ∧ S.bz m = some r ∧ r.wk = (n : Int)
  lq : ∀ i, i < S.k → (S.q i).to = (S.q i).fr + (D.W (S.q i).wk.toNat).cost
  lb : ∀ m r, m < D.nm → S.bz m = some r → r.to = r.fr + (D.W r.wk.toNat).cost
  v : sumI (fun i => (S.q i).to - (S.q i).fr) S.k + bsum S (fun r => r.to - r.fr) D.nm = sumI (fun w => if S.st w = 0 then 0 else (D.W w).cost) D.nw
  u : (∃ n, n < D.nw ∧ S.st n = 0) → sumI (fun i => (S.q i).to - (S.q i).fr) S.k + bsum S (fun r => S.now - r.fr) D.nm = D.nm * S.now
  f : ∀ i, i < S.k → (S.q i).fr * D.nm ≤ sumI (fun w => (D.W w).cost) D.nw
  g : ∀ m r, m < D.nm → S.bz m = some r → r.fr * D.nm ≤ sumI (fun w => (D.W w).cost) D.nw
theorem sumI_zero (n : Nat) : sumI (fun _ => 0) n = 0 := by
  induction n with
  | zero => rfl
  | succ n ih => unfold sumI; rw [ih]; rfl
theorem sumI_mono {f g : Nat → Int} {n : Nat} (h : ∀ j, j < n → f j ≤ g j) : sumI f n ≤ sumI g n := by
  induction n with
  | zero => exact Int.le_refl _
  | succ n ih => unfold sumI; have := ih (fun j hj => h j (by omega)); have := h n (by omega); omega
theorem InvB.start {D : SimD} : InvB D startS := by
  refine ⟨fun i h => (by cases h), fun m r _ h => (by cases h), fun n _ => (by show (0 : Int) ≠ 3; decide), fun n _ => rfl, fun n _ h => (by cases h), fun i h => (by cases h), fun m r _ h => (by cases h), ?_, fun _ => ?_, fun i h => (by cases h), fun m r _ h => (by cases h)⟩
  · show (0 : Int) + sumI (fun _ => 0) D.nm = sumI (fun w => if (0 : Int) = 0 then 0 else (D.W w).cost) D.nw
    simp only [if_true]
    rw [sumI_zero, sumI_zero]; rfl
  · show (0 : Int) + sumI (fun _ => 0) D.nm = D.nm * 0
    rw [sumI_zero]; simp
theorem sumI_app {q : Nat → RunV} {k : Nat} {r : RunV} : sumI (fun i => (updF q k r i).to - (updF q k r i).fr) (k + 1) = sumI (fun i => (q i).to - (q i).fr) k + (r.to - r.fr) := by
  show sumI (fun i => (updF q k r i).to - (updF q k r i).fr) k + ((updF q k r k).to - (updF q k r k).fr) = _
  rw [updF_at, sumI_congr (fun j hj => by rw [updF_ne _ _ (show j ≠ k by omega)])]
theorem InvB.end1 {D : SimD} {T : SimS} {m : Nat} (h : InvB D T) (v : InvS D T m) (hm : m < D.nm) : InvB D (endS1 D.tr T m) := by
  unfold endS1
  cases hb : T.bz m with
  | none => exact h
  | some r =>
    dsimp only
    by_cases ht : r.to = T.now
    · rw [if_pos ht]
      obtain ⟨a1, ⟨wn, a2, a2', a2''⟩, a3, -⟩ := v.busy m r hm hb
      have hw : r.wk.toNat = wn := by omega
      rw [hw]
      have hfl := h.nb m r hm hb
      simp only [hfl, Bool.false_eq_true, if_false]
      have hbz : ∀ j r', j < D.nm → updF T.bz m none j = some r' → j ≠ m ∧ T.bz j = some r' := fun j r' hj hr' => by
        by_cases e : j = m
        · subst e; rw [updF_at] at hr'; cases hr'
        · rw [updF_ne _ _ e] at hr'; exact ⟨e, hr'⟩
      have hbs : ∀ f : RunV → Int, sumI (fun j => match updF T.bz m none j with | some r => f r | none => 0) D.nm = bsum T f D.nm - f r := fun f => by
        unfold bsum
        rw [sumI_upd (f := fun j => match T.bz j with | some r => f r | none => 0) (i := m) hm (fun j hj => by rw [updF_ne _ _ hj])]
        rw [updF_at, hb]
        show _ - f r + 0 = _
        omega
      refine ⟨fun i hi => ?_, fun j r' hj hr' => h.nb j r' hj (hbz j r' hj hr').2, fun n hn => ?_, h.fz, fun n hn hs => ?_, fun i hi => ?_, fun j r' hj hr' => h.lb j r' hj (hbz j r' hj hr').2, ?_, fun hex => ?_, fun i hi => ?_, fun j r' hj hr' => h.g j r' hj (hbz j r' hj hr').2⟩
      · show (updF T.q T.k r i).fl = false
        have hi' : i < T.k + 1 := hi
        by_cases e : i = T.k
        · rw [e, updF_at]; exact hfl
        · rw [updF_ne _ _ e]; exact h.nf i (by omega)
      · show updF T.st wn 2 n ≠ 3
        by_cases e : n = wn
        · subst e; rw [updF_at]; decide
        · rw [updF_ne _ _ e]; exact h.n3 n hn
      · have hs' : updF T.st wn 2 n = 1 := hs
        by_cases e : n = wn
        · subst e; rw [updF_at] at hs'; cases hs'
        · rw [updF_ne _ _ e] at hs'
          obtain ⟨j, r', k1, k2, k3⟩ := h.one n hn hs'
          refine ⟨j, r', k1, ?_, k3⟩
          show updF T.bz m none j = _
          rw [updF_ne _ _ (fun e2 => by subst e2; rw [hb] at k2; injection k2 with k2; subst k2; omega)]
          exact k2
      · show (updF T.q T.k r i).to = (updF T.q T.k r i).fr + (D.W (updF T.q T.k r i).wk.toNat).cost
        have hi' : i < T.k + 1 := hi
        by_cases e : i = T.k
        · rw [e, updF_at]; exact h.lb m r hm hb
        · rw [updF_ne _ _ e]; exact h.lq i (by omega)
      · show sumI (fun i => (updF T.q T.k r i).to - (updF T.q T.k r i).fr) (T.k + 1) + sumI (fun j => match updF T.bz m none j with | some r => r.to - r.fr | none => 0) D.nm = sumI (fun w => if updF T.st wn 2 w = 0 then 0 else (D.W w).cost) D.nw
        rw [sumI_app, hbs (fun r => r.to - r.fr), sumI_congr (f := fun w => if T.st w = 0 then 0 else (D.W w).cost) (g := fun w => if updF T.st wn 2 w = 0 then 0 else (D.W w).cost) (fun j _ => by
          by_cases e : j = wn
          · subst e; rw [updF_at, a2'']; rfl
          · rw [updF_ne _ _ e])]
        have := h.v
        omega
      · show sumI (fun i => (updF T.q T.k r i).to - (updF T.q T.k r i).fr) (T.k + 1) + sumI (fun j => match updF T.bz m none j with | some r => T.now - r.fr | none => 0) D.nm = D.nm * T.now
        rw [sumI_app, hbs (fun r => T.now - r.fr)]
        have := h.u (by
          obtain ⟨n, n1, n2⟩ := hex
          have n2' : updF T.st wn 2 n = 0 := n2
          by_cases e : n = wn
          · subst e; rw [updF_at] at n2'; cases n2'
          · rw [updF_ne _ _ e] at n2'; exact ⟨n, n1, n2'⟩)
        omega
      · show (updF T.q T.k r i).fr * D.nm ≤ _
        have hi' : i < T.k + 1 := hi
        by_cases e : i = T.k
        · rw [e, updF_at]; exact h.g m r hm hb
        · rw [updF_ne _ _ e]; exact h.f i (by omega)
    · rw [if_neg ht]; exact h
theorem InvB.ends {D : SimD} {S : SimS} (h : InvB D S) (v : InvS D S 0) : ∀ m, m ≤ D.nm → InvB D (endS D.tr S m)
  | 0, _ => h
  | m + 1, hm => (InvB.ends h v m (by omega)).end1 (v.ends m (by omega)) (by omega)
theorem newRun_simple {D : SimD} {now : Int} {w m : Nat} (s : SimpleD D) (hm : m < D.nm) : newRun D now w m = ⟨w, m, now, now + (D.W w).cost, false⟩ := by
  obtain ⟨h1, h2⟩ := s.m m hm
  unfold newRun
  rw [h2]
  show (⟨(w : Int), (m : Int), now, endT D now w m, false⟩ : RunV) = _
  unfold endT
  rw [h1]
  simp
theorem InvB.begin {D : SimD} {S : SimS} {w m : Nat} (g : GoodD D) (s : SimpleD D) (h : InvB D S) (v : InvS D S D.nm) (hw : w < D.nw) (hr : readyB D S.st w = true) (hm : m < D.nm) (hf : freeB D S m = true) : InvB D (beginS D S w m) := by
  have hst := (readyB_st hr).1
  have hbn := (freeB_is hf).1
  have hn := newRun_simple (now := S.now) (w := w) s hm
  have hwn : ((w : Int)).toNat = w := by omega
  have hb : ∀ j r, j < D.nm → updF S.bz m (some (newRun D S.now w m)) j = some r → (j = m ∧ r = newRun D S.now w m) ∨ (j ≠ m ∧ S.bz j = some r) := fun j r _ hr => by
    by_cases e : j = m
    · subst e; rw [updF_at] at hr; injection hr with hr; exact .inl ⟨rfl, hr.symm⟩
    · rw [updF_ne _ _ e] at hr; exact .inr ⟨e, hr⟩
  have hbs : ∀ f : RunV → Int, sumI (fun j => match updF S.bz m (some (newRun D S.now w m)) j with | some r => f r | none => 0) D.nm = bsum S f D.nm + f (newRun D S.now w m) := fun f => by
    unfold bsum
    rw [sumI_upd (f := fun j => match S.bz j with | some r => f r | none => 0) (i := m) hm (fun j hj => by rw [updF_ne _ _ hj])]
    rw [updF_at, hbn]
    show _ - 0 + f _ = _
    omega
  have hus : bsum S (fun r => S.now - r.fr) D.nm ≤ bsum S (fun r => r.to - r.fr) D.nm := by
    unfold bsum
    refine sumI_mono (fun j hj => ?_)
    cases hbj : S.bz j with
    | none => exact Int.le_refl _
    | some r => have := (v.busy j r hj hbj).2.2.2.2.1; show S.now - r.fr ≤ r.to - r.fr; omega
  have hcs : sumI (fun w => if S.st w = 0 then 0 else (D.W w).cost) D.nw ≤ sumI (fun w => (D.W w).cost) D.nw := sumI_mono (fun j hj => by
    have := (g.work.2 j hj).1
    show (if S.st j = 0 then 0 else (D.W j).cost) ≤ _
    split <;> omega)
  have hnew : S.now * D.nm ≤ sumI (fun w => (D.W w).cost) D.nw := by
    have h1 := h.u ⟨w, hw, hst⟩
    have h2 := h.v
    rw [Int.mul_comm]
    omega
  refine ⟨h.nf, fun j r hj hr => ?_, fun n hn3 => ?_, h.fz, fun n hn1 hs => ?_, h.lq, fun j r hj hr => ?_, ?_, fun hex => ?_, h.f, fun j r hj hr => ?_⟩
  · rcases hb j r hj hr with ⟨e1, e2⟩ | ⟨e1, e2⟩
    · rw [e2, hn]
    · exact h.nb j r hj e2
  · show updF S.st w 1 n ≠ 3
    by_cases e : n = w
    · subst e; rw [updF_at]; decide
    · rw [updF_ne _ _ e]; exact h.n3 n hn3
  · have hs' : updF S.st w 1 n = 1 := hs
    by_cases e : n = w
    · subst e; exact ⟨m, newRun D S.now n m, hm, updF_at _ _ _, by rw [hn]⟩
    · rw [updF_ne _ _ e] at hs'
      obtain ⟨j, r', k1, k2, k3⟩ := h.one n hn1 hs'
      refine ⟨j, r', k1, ?_, k3⟩
      show updF S.bz m _ j = _
      rw [updF_ne _ _ (fun e2 => by subst e2; rw [hbn] at k2; cases k2)]
      exact k2
  · rcases hb j r hj hr with ⟨e1, e2⟩ | ⟨e1, e2⟩
    · rw [e2, hn, hwn]
    · exact h.lb j r hj e2
  · show sumI (fun i => (S.q i).to - (S.q i).fr) S.k + sumI (fun j => match updF S.bz m (some (newRun D S.now w m)) j with | some r => r.to - r.fr | none => 0) D.nm = sumI (fun x => if updF S.st w 1 x = 0 then 0 else (D.W x).cost) D.nw
    rw [hbs (fun r => r.to - r.fr), hn, sumI_upd (f := fun x => if S.st x = 0 then 0 else (D.W x).cost) (g := fun x => if updF S.st w 1 x = 0 then 0 else (D.W x).cost) (i := w) hw (fun j hj => by rw [updF_ne _ _ hj])]
    rw [updF_at, if_pos hst, if_neg (by decide)]
    have := h.v
    show _ + (_ + (S.now + (D.W w).cost - S.now)) = _
    omega
  · show sumI (fun i => (S.q i).to - (S.q i).fr) S.k + sumI (fun j => match updF S.bz m (some (newRun D S.now w m)) j with | some r => S.now - r.fr | none => 0) D.nm = D.nm * S.now
    rw [hbs (fun r => S.now - r.fr), hn]
    have := h.u ⟨w, hw, hst⟩
    show _ + (_ + (S.now - S.now)) = _
    omega
  · rcases hb j r hj hr with ⟨e1, e2⟩ | ⟨e1, e2⟩
    · rw [e2, hn]; exact hnew
    · exact h.g j r hj e2
theorem bestW_some {D : SimD} {st : Nat → Int} {i n : Nat} (hn : n < i) (h : readyB D st n = true) : 0 ≤ bestW D st i := by
  induction i with
  | zero => omega
  | succ i ih =>
    unfold bestW
    by_cases hc : readyB D st i = true ∧ (bestW D st i < 0 ∨ (D.W (bestW D st i).toNat).rank < (D.W i).rank)
    · rw [if_pos hc]; omega
    · rw [if_neg hc]
      rcases Nat.lt_or_ge n i with h1 | h1
      · exact ih h1
      · obtain rfl : n = i := by omega
        rcases Int.lt_or_le (bestW D st n) 0 with h2 | h2
        · exact absurd ⟨h, .inl h2⟩ hc
        · exact h2
theorem bestM_some {D : SimD} {S : SimS} {i n : Nat} (hn : n < i) (h : freeB D S n = true) : 0 ≤ bestM D S i := by
  induction i with
  | zero => omega
  | succ i ih =>
    unfold bestM
    by_cases hc : freeB D S i = true ∧ (bestM D S i < 0 ∨ (D.M (bestM D S i).toNat).sp < (D.M i).sp)
    · rw [if_pos hc]; omega
    · rw [if_neg hc]
      rcases Nat.lt_or_ge n i with h1 | h1
      · exact ih h1
      · obtain rfl : n = i := by omega
        rcases Int.lt_or_le (bestM D S n) 0 with h2 | h2
        · exact absurd ⟨h, .inl h2⟩ hc
        · exact h2
/-- Where something waits, every machine works. -/
theorem all_busy {D : SimD} {S : SimS} (s : SimpleD D) (hst : bestW D S.st D.nw < 0 ∨ bestM D S D.nm < 0) (hex : ∃ n, n < D.nw ∧ S.st n = 0) : ∀ m, m < D.nm → ∃ r, S.bz m = some r := by
  obtain ⟨n, n1, n2⟩ := hex
  have hr : readyB D S.st n = true := by
    unfold readyB
    rw [s.w n n1, n2]; rfl
  have hW := bestW_some n1 hr
  intro m hm
  cases hb : S.bz m with
  | some r => exact ⟨r, rfl⟩
  | none =>
    have : freeB D S m = true := by
      unfold freeB
      have : upAt (D.M m) S.now = S.now := by unfold upAt; rw [(s.m m hm).2]; rfl
      rw [hb, this]; simp
    have := bestM_some hm this
    omega
theorem InvB.next {D : SimD} {S : SimS} {t : Int} (s : SimpleD D) (h : InvB D S) (hst : bestW D S.st D.nw < 0 ∨ bestM D S D.nm < 0) : InvB D { S with now := t } := by
  refine ⟨h.nf, h.nb, h.n3, h.fz, h.one, h.lq, h.lb, h.v, fun hex => ?_, h.f, h.g⟩
  have hall := all_busy s hst hex
  have hu : sumI (fun i => (S.q i).to - (S.q i).fr) S.k + sumI (fun m => match S.bz m with | some r => S.now - r.fr | none => 0) D.nm = D.nm * S.now := h.u hex
  have key : ∀ n, n ≤ D.nm → sumI (fun m => match S.bz m with | some r => t - r.fr | none => 0) n = sumI (fun m => match S.bz m with | some r => S.now - r.fr | none => 0) n + n * (t - S.now) := fun n => by
    induction n with
    | zero => intro _; simp [sumI]
    | succ n ih =>
      intro hn
      unfold sumI
      rw [ih (by omega)]
      obtain ⟨r, hr⟩ := hall n (by omega)
      rw [hr]
      have e : ((n + 1 : Nat) : Int) * (t - S.now) = (n : Int) * (t - S.now) + (t - S.now) := by rw [Int.natCast_add, Int.add_mul]; simp
      rw [e]
      show _ + (t - r.fr) = _ + (S.now - r.fr) + _
      omega
  show sumI (fun i => (S.q i).to - (S.q i).fr) S.k + sumI (fun m => match S.bz m with | some r => t - r.fr | none => 0) D.nm = D.nm * t
  rw [key D.nm (Nat.le_refl _)]
  have e : (D.nm : Int) * (t - S.now) = D.nm * t - D.nm * S.now := Int.mul_sub _ _ _
  rw [e]
  omega
theorem SimR.invB {D : SimD} (g : GoodD D) (s : SimpleD D) {p : Bool} {S : SimS} (h : SimR D p S) : InvB D S := by
  induction h with
  | start => exact InvB.start
  | ended hr ih => exact ih.ends (hr.inv g) D.nm (Nat.le_refl _)
  | @given S w m hr h1 h2 ih =>
    rcases bestW_in D S.st D.nw with e | ⟨w', e1, e2, e3⟩
    · omega
    · rcases bestM_in D S D.nm with f | ⟨m', f1, f2, f3⟩
      · omega
      · have : w' = w := by omega
        subst this
        have : m' = m := by omega
        subst this
        exact ih.begin g s (hr.inv g) e2 e3 f2 f3
  | next _ h1 _ ih => exact ih.next s h1
/-- At the end every work is done, in time. -/
theorem SimR.simple {D : SimD} (g : GoodD D) (s : SimpleD D) {S : SimS} (h : SimR D true S) (hst : bestW D S.st D.nw < 0 ∨ bestM D S D.nm < 0) (hn : nextT D S = none) :
    S.k = D.nw ∧ (∀ i, i < S.k → (S.q i).fl = false) ∧ ∀ most : Int, (∀ n, n < D.nw → (D.W n).cost ≤ most) → ∀ i, i < S.k → (S.q i).to * D.nm ≤ sumI (fun w => (D.W w).cost) D.nw + most * D.nm := by
  have hb := h.invB g s
  have hv : InvS D S D.nm := h.inv g
  have hno : ∀ m, m < D.nm → S.bz m = none := fun m hm => by
    have := nextM_none hn m hm
    unfold nextC at this
    cases hbm : S.bz m with
    | none => rfl
    | some r => rw [hbm] at this; cases this
  have hpos := g.mach.1.1
  have hall : ∀ n, n < D.nw → S.st n = 2 := fun n hn' => by
    rcases (hv.st n hn').1 with h0 | h1 | h2 | h3
    · obtain ⟨r, hr⟩ := all_busy s hst ⟨n, hn', h0⟩ 0 hpos
      rw [hno 0 hpos] at hr; cases hr
    · obtain ⟨m, r, k1, k2, -⟩ := hb.one n hn' h1
      rw [hno m k1] at k2; cases k2
    · exact h2
    · exact absurd h3 (hb.n3 n hn')
  refine ⟨?_, hb.nf, fun most hmost i hi => ?_⟩
  · have h1 := hv.sum
    rw [sumI_congr (f := fun _ => 1) (fun j hj => by rw [hall j hj, hb.fz j hj]; rfl)] at h1
    have h2 : ∀ n : Nat, sumI (fun _ => 1) n = n := fun n => by
      induction n with
      | zero => rfl
      | succ n ih => unfold sumI; rw [ih]; simp
    rw [h2] at h1
    omega
  · obtain ⟨-, ⟨n, n1, n2⟩, -⟩ := hv.done i hi
    have h1 := hb.f i hi
    have h2 := hb.lq i hi
    rw [n1, show ((n : Int)).toNat = n by omega] at h2
    rw [h2, Int.add_mul]
    have h3 : (D.W n).cost * (D.nm : Int) ≤ most * D.nm := Int.mul_le_mul_of_nonneg_right (hmost n n2) (by omega)
    omega
end Go.Proofs.Ytkadinjhfldokaa
