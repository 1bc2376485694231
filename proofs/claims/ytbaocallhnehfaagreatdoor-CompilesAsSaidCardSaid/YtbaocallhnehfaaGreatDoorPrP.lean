/- The graph of a program of steps, in plain words. No program. No condition. -/
import Derived.Test.YtbaocallhnehfaaGreatDoorPrA
import Derived.Test.YtbaocallhnehfaaGreatDoorQD
set_option linter.unusedVariables false
namespace Go.Proofs.YtbaocallhnehfaaGreatDoor
open Go Go.RowKit
/-- A node, as plain data. -/
structure PN where
  op : ByteArray
  ins : List Int
  ints : List Int
  reals : List Nat
def keyT (p : PN) : List UInt8 := p.op.data.toList ++ wordT p.ins p.ints p.reals
/-- The first node with a text. -/
def idxT (l : List UInt8) : List PN → Option Nat
  | [] => none
  | p :: G => if keyT p = l then some 0 else (idxT l G).map (· + 1)
theorem idxT_lt {l : List UInt8} : ∀ {G : List PN} {i : Nat}, idxT l G = some i → i < G.length
  | [], i, h => by simp [idxT] at h
  | p :: G, i, h => by
    unfold idxT at h
    split at h
    · cases h; simp
    · obtain ⟨k, hk, rfl⟩ := Option.map_eq_some_iff.1 h
      have := idxT_lt hk
      simp; omega
theorem idxT_cons (l : List UInt8) (q : PN) (G : List PN) : idxT l (q :: G) = if keyT q = l then some 0 else (idxT l G).map (· + 1) := rfl
theorem idxT_app (l : List UInt8) (p : PN) : ∀ G : List PN, idxT l (G ++ [p]) = match idxT l G with
    | some i => some i
    | none => if keyT p = l then some G.length else none
  | [] => by simp [idxT]
  | q :: G => by
    rw [List.cons_append, idxT_cons, idxT_cons, idxT_app l p G]
    by_cases e : keyT q = l
    · rw [if_pos e, if_pos e]
    · rw [if_neg e, if_neg e]
      cases idxT l G with
      | some i => rfl
      | none =>
        simp only [Option.map_none]
        by_cases e2 : keyT p = l
        · rw [if_pos e2, if_pos e2]; simp
        · rw [if_neg e2, if_neg e2]; rfl
/-- What the map of texts says. -/
def knS (G : List PN) : List UInt8 → Option Value := fun l => (idxT l G).map (fun i => Value.int .i64 (i : Int))
theorem knS_put {G : List PN} {p : PN} (h : idxT (keyT p) G = none) : ∀ l, putS (knS G) (keyT p) (.int .i64 (G.length : Int)) l = knS (G ++ [p]) l := fun l => by
  unfold putS knS
  rw [idxT_app]
  by_cases e : l = keyT p
  · subst e; rw [if_pos rfl, h]; simp
  · rw [if_neg e, if_neg (fun h2 => e h2.symm)]
    cases idxT l G <;> rfl
def eqF (v c : Nat) : Bool := FloatKind.f32.format.order v c == some .eq
/-- Which of what goes into a step stands in its place. -/
def idS (s : StepD) : Option Nat := match opK s.op.data.toList with
  | none => none
  | some k => if k = 14 then (if eqF (s.reals.getD 0 0) 0 then some 0 else if eqF (s.reals.getD 0 0) 1065353216 then some 1 else none)
    else if k = 8 then (if eqF (s.reals.getD 0 0) 0 then some 0 else none)
    else if k = 13 ∨ k = 24 ∨ k = 25 ∨ k = 26 then (if s.ints.getD 0 0 = 0 then some 0 else none) else none
/-- How far a compiler is: the nodes, and which one each step is. -/
structure PS where
  G : List PN
  M : Nat → Option Nat
def upM (M : Nat → Option Nat) (j r : Nat) : Nat → Option Nat := fun i => if i = j then some r else M i
def needT (g : PS → Nat → PS × Nat) (ps : List Nat) : Nat → PS → PS × List Int
  | 0, s => (s, [])
  | t + 1, s => ((g (needT g ps t s).1 (ps.getD t 0)).1, (needT g ps t s).2 ++ [((g (needT g ps t s).1 (ps.getD t 0)).2 : Int)])
def putP (s : PS) (j : Nat) (p : PN) : PS × Nat := match idxT (keyT p) s.G with
  | some i => (⟨s.G, upM s.M j i⟩, i)
  | none => (⟨s.G ++ [p], upM s.M j s.G.length⟩, s.G.length)
def posL (S : Nat → StepD) (n j : Nat) : List Nat := (S j).ins.map (fun x => (posS S n x.data.toList).getD 0)
def nodeP (S : Nat → StepD) (j : Nat) (ks : List Int) : PN := ⟨(S j).op, ks, (S j).ints, (S j).reals⟩
def needP (S : Nat → StepD) (n : Nat) : Nat → PS → Nat → PS × Nat
  | 0, s, _ => (s, 0)
  | f + 1, s, j => match s.M j with
    | some r => (s, r)
    | none => match idS (S j) with
      | some q => (⟨(needP S n f s ((posL S n j).getD q 0)).1.G, upM (needP S n f s ((posL S n j).getD q 0)).1.M j (needP S n f s ((posL S n j).getD q 0)).2⟩, (needP S n f s ((posL S n j).getD q 0)).2)
      | none => putP (needT (needP S n f) (posL S n j) (posL S n j).length s).1 j (nodeP S j (needT (needP S n f) (posL S n j) (posL S n j).length s).2)
/-- How many steps are done. -/
def cntM (M : Nat → Option Nat) : Nat → Nat
  | 0 => 0
  | n + 1 => cntM M n + (if (M n).isSome then 1 else 0)
theorem cntM_le (M : Nat → Option Nat) : ∀ n, cntM M n ≤ n
  | 0 => Nat.le_refl _
  | n + 1 => by have := cntM_le M n; unfold cntM; split <;> omega
theorem cntM_up {M : Nat → Option Nat} {j r : Nat} (h : M j = none) : ∀ n, cntM (upM M j r) n = cntM M n + (if j < n then 1 else 0)
  | 0 => by simp [cntM]
  | n + 1 => by
    unfold cntM
    rw [cntM_up h n]
    unfold upM
    by_cases e : n = j
    · subst e; rw [if_pos rfl, h]; simp
    · rw [if_neg e]
      by_cases e2 : j < n
      · have e3 : j < n + 1 := by omega
        simp only [e2, e3, if_true]; omega
      · have e3 : ¬ j < n + 1 := by omega
        simp only [e2, e3, if_false]; omega
/-- What holds of a node. -/
def PnOk (p : PN) : Prop := ∃ k, k < 27 ∧ p.op = bs (F k).nm ∧ p.ins.length = (F k).ins.length ∧ (p.ints.length : Int) = (F k).ints ∧ (p.reals.length : Int) = (F k).reals ∧ (∀ i ∈ p.ins, Int64 i) ∧ ∀ i ∈ p.ints, Int64 i
structure OkP (n : Nat) (s : PS) : Prop where
  m : ∀ j r, s.M j = some r → r < s.G.length
  g : ∀ p ∈ s.G, PnOk p
  c : s.G.length ≤ cntM s.M n
theorem OkP.len {n : Nat} {s : PS} (h : OkP n s) : s.G.length ≤ n := Nat.le_trans h.c (cntM_le _ _)
/-- What a program must be. -/
structure GoodS (S : Nat → StepD) (n : Nat) : Prop where
  le : n ≤ 100
  z : fstN (stE S) n = 0
  i64 : ∀ j, j < n → ∀ i ∈ (S j).ints, Int64 i
theorem GoodS.uniq {S : Nat → StepD} {n : Nat} (h : GoodS S n) : ∀ {i j : Nat}, i ≤ n → j < i → posS S i (S j).nm.data.toList = some j
  | 0, j, _, hj => absurd hj (Nat.not_lt_zero _)
  | i + 1, j, hi, hj => by
    obtain ⟨-, h2, -⟩ := st_ok (fstN_zero h.z i (by omega))
    rw [posS_succ h2]
    by_cases e : j = i
    · subst e; rw [if_pos rfl]
    · have ih := h.uniq (i := i) (j := j) (by omega) (by omega)
      rw [if_neg (fun e2 => by rw [e2] at ih; rw [h2] at ih; cases ih)]
      exact ih
theorem posS_mono {S : Nat → StepD} {i m : Nat} {l : List UInt8} (h : posS S i l = some m) : ∀ d, posS S (i + d) l = some m
  | 0 => h
  | d + 1 => by show (match posS S (i + d) l with | some j => some j | none => _) = _; rw [posS_mono h d]
theorem GoodS.ins {S : Nat → StepD} {n : Nat} (h : GoodS S n) {j t : Nat} (hj : j < n) {x : ByteArray} (hx : (S j).ins[t]? = some x) : ∃ m, m < j ∧ posS S n x.data.toList = some m ∧ (posL S n j).getD t 0 = m ∧ x.data.toList = (S m).nm.data.toList := by
  obtain ⟨-, -, k, -, -, -, -, -, h8, -⟩ := st_ok (fstN_zero h.z j hj)
  have ht : t < (S j).ins.length := (List.getElem?_eq_some_iff.1 hx).1
  obtain ⟨m, hm⟩ := h8 t ht
  have e : (S j).ins.getD t ⟨#[]⟩ = x := by rw [List.getD_eq_getElem?_getD, hx]; rfl
  rw [e] at hm
  have h3 := posS_mono hm (n - j)
  rw [show j + (n - j) = n by omega] at h3
  refine ⟨m, posS_lt hm, h3, ?_, posS_nm hm⟩
  unfold posL
  rw [List.getD_eq_getElem?_getD, List.getElem?_map, hx]
  simp [h3]
/-- What a need leaves. -/
structure NdR (n j : Nat) (s s' : PS) (r : Nat) : Prop where
  ok : OkP n s'
  r : r < s'.G.length
  far : ∀ i, j < i → s'.M i = s.M i
  ext : ∃ e, s'.G = s.G ++ e
  keep : ∀ i q, s.M i = some q → s'.M i = some q
theorem idS_lt {S : Nat → StepD} {n j q : Nat} (h : GoodS S n) (hj : j < n) (hq : idS (S j) = some q) : q < (S j).ins.length := by
  obtain ⟨-, -, k, hk, -, h5, -⟩ := st_ok (fstN_zero h.z j hj)
  unfold idS at hq
  rw [hk] at hq
  simp only at hq
  rw [h5]
  split at hq
  · rename_i e; subst e
    split at hq
    · cases hq; decide
    · split at hq
      · cases hq; decide
      · cases hq
  · split at hq
    · rename_i e; subst e
      split at hq
      · cases hq; decide
      · cases hq
    · split at hq
      · rename_i e
        split at hq
        · cases hq
          rcases e with rfl | rfl | rfl | rfl <;> decide
        · cases hq
      · cases hq
theorem needP_ok {S : Nat → StepD} {n : Nat} (h : GoodS S n) : ∀ (f j : Nat) (s : PS), j < f → j < n → OkP n s → NdR n j s (needP S n f s j).1 (needP S n f s j).2
  | 0, j, s, hf, _, _ => absurd hf (Nat.not_lt_zero _)
  | f + 1, j, s, hf, hj, hs => by
    unfold needP
    cases hM : s.M j with
    | some r => exact ⟨hs, hs.m j r hM, fun _ _ => rfl, ⟨[], by simp⟩, fun _ _ h => h⟩
    | none =>
      simp only
      cases hi : idS (S j) with
      | some q =>
        simp only
        obtain ⟨x, hx⟩ : ∃ x, (S j).ins[q]? = some x := ⟨_, List.getElem?_eq_getElem (idS_lt h hj hi)⟩
        obtain ⟨m, hmj, -, hm, -⟩ := h.ins hj hx
        rw [hm]
        obtain ⟨⟨o1, o2, o3⟩, r1, f1, e1, k1⟩ := needP_ok h f m s (by omega) (by omega) hs
        have hn : (needP S n f s m).1.M j = none := by rw [f1 j hmj]; exact hM
        refine ⟨⟨fun i r hr => ?_, o2, ?_⟩, r1, fun i hij => ?_, e1, fun i r hr => ?_⟩
        · unfold upM at hr
          simp only at hr
          split at hr
          · cases hr; exact r1
          · exact o1 i r hr
        · show _ ≤ cntM (upM _ j _) n
          rw [cntM_up hn]; exact Nat.le_trans o3 (Nat.le_add_right _ _)
        · show upM _ j _ i = _
          unfold upM; rw [if_neg (by omega)]; exact f1 i (by omega)
        · show upM _ j _ i = _
          unfold upM
          by_cases e : i = j
          · subst e; rw [hM] at hr; cases hr
          · rw [if_neg e]; exact k1 i r hr
      | none =>
        simp only
        have ht : ∀ t, t ≤ (S j).ins.length → OkP n (needT (needP S n f) (posL S n j) t s).1 ∧ (∀ i, j ≤ i → (needT (needP S n f) (posL S n j) t s).1.M i = s.M i) ∧ (∃ e, (needT (needP S n f) (posL S n j) t s).1.G = s.G ++ e) ∧ (∀ i q, s.M i = some q → (needT (needP S n f) (posL S n j) t s).1.M i = some q) ∧ (needT (needP S n f) (posL S n j) t s).2.length = t ∧ ∀ u ∈ (needT (needP S n f) (posL S n j) t s).2, 0 ≤ u ∧ u < 100 := by
          intro t
          induction t with
          | zero => intro _; exact ⟨hs, fun _ _ => rfl, ⟨[], by simp [needT]⟩, fun _ _ h => h, rfl, fun u hu => by simp [needT] at hu⟩
          | succ t ih =>
            intro htl
            obtain ⟨a1, a2, ⟨e0, a3⟩, a4, a5, a6⟩ := ih (by omega)
            obtain ⟨x, hx⟩ : ∃ x, (S j).ins[t]? = some x := ⟨_, List.getElem?_eq_getElem (by omega)⟩
            obtain ⟨m, hmj, -, hm, -⟩ := h.ins hj hx
            unfold needT
            simp only [hm]
            obtain ⟨o1, r1, f1, ⟨e1, b1⟩, k1⟩ := needP_ok h f m _ (by omega) (by omega) a1
            refine ⟨o1, fun i hij => by rw [f1 i (by omega)]; exact a2 i hij, ⟨e0 ++ e1, by rw [b1, a3, List.append_assoc]⟩, fun i q hq => k1 i q (a4 i q hq), by rw [List.length_append, a5]; rfl, fun u hu => ?_⟩
            rcases List.mem_append.1 hu with hu | hu
            · exact a6 u hu
            · simp at hu
              have := o1.len
              have := h.le
              omega
        have hpl : (posL S n j).length = (S j).ins.length := by unfold posL; simp
        obtain ⟨a1, a2, ⟨e0, a3⟩, a4, a5, a6⟩ := ht _ (Nat.le_of_eq hpl)
        obtain ⟨T, hT⟩ : ∃ T, T = needT (needP S n f) (posL S n j) (posL S n j).length s := ⟨_, rfl⟩
        rw [← hT] at a1 a2 a3 a4 a5 a6 ⊢
        have hn : T.1.M j = none := by rw [a2 j (Nat.le_refl _)]; exact hM
        have hp : PnOk (nodeP S j T.2) := by
          obtain ⟨-, -, k, hk, -, h5, h6, h7, -⟩ := st_ok (fstN_zero h.z j hj)
          obtain ⟨hk27, hop⟩ := opK_name hk
          exact ⟨k, hk27, hop, by show T.2.length = _; rw [a5, hpl]; exact h5, h6, h7, fun i hi => by have := a6 i hi; unfold Int64; omega, h.i64 j hj⟩
        unfold putP
        cases hx : idxT (keyT (nodeP S j T.2)) T.1.G with
        | some i0 =>
          simp only
          have hl := idxT_lt hx
          refine ⟨⟨fun i r hr => ?_, a1.g, ?_⟩, hl, fun i hij => ?_, ⟨e0, a3⟩, fun i r hr => ?_⟩
          · unfold upM at hr
            simp only at hr
            split at hr
            · cases hr; exact hl
            · exact a1.m i r hr
          · show _ ≤ cntM (upM _ j _) n
            rw [cntM_up hn]; exact Nat.le_trans a1.c (Nat.le_add_right _ _)
          · show upM _ j _ i = _
            unfold upM; rw [if_neg (by omega)]; exact a2 i (by omega)
          · show upM _ j _ i = _
            unfold upM
            by_cases e : i = j
            · subst e; rw [hM] at hr; cases hr
            · rw [if_neg e]; exact a4 i r hr
        | none =>
          simp only
          refine ⟨⟨fun i r hr => ?_, fun p hp' => ?_, ?_⟩, by simp, fun i hij => ?_, ⟨e0 ++ [nodeP S j T.2], by rw [a3, List.append_assoc]⟩, fun i r hr => ?_⟩
          · unfold upM at hr
            simp only at hr
            split at hr
            · cases hr; simp
            · have := a1.m i r hr; simp; omega
          · rcases List.mem_append.1 hp' with h' | h'
            · exact a1.g p h'
            · simp at h'; subst h'; exact hp
          · show (T.1.G ++ [_]).length ≤ cntM (upM _ j _) n
            rw [cntM_up hn, if_pos hj, List.length_append]
            have := a1.c
            simp; omega
          · show upM _ j _ i = _
            unfold upM; rw [if_neg (by omega)]; exact a2 i (by omega)
          · show upM _ j _ i = _
            unfold upM
            by_cases e : i = j
            · subst e; rw [hM] at hr; cases hr
            · rw [if_neg e]; exact a4 i r hr
end Go.Proofs.YtbaocallhnehfaaGreatDoor
