/- The journal of runs cut anywhere: its whole lines (plain). Conditions: those named. -/
import Derived.Test.YtcdcfkgdgimmcaaGreatDoorRnC
import Derived.Lib.LastIndexByte
namespace Go.Proofs.YtcdcfkgdgimmcaaGreatDoor
open Go Go.Lib
theorem itoa_inj {a b : Int} (h : itoa a = itoa b) : a = b := by
  have h1 := atoi_itoa a
  rw [h, atoi_itoa b] at h1
  exact (Option.some.inj h1).symm
theorem end_inj {a b : Bool} (h : endT a = endT b) : a = b := by
  cases a <;> cases b <;> first | rfl | exact absurd h (by decide)
theorem runT_inj {r r' : Ru} {X Y : List UInt8} (h : runT r ++ X = runT r' ++ Y) : r = r' ∧ X = Y := by
  have c := good_cut (r := r) (rest := X)
  rw [h, good_cut] at c
  simp only [Prod.mk.injEq] at c
  obtain ⟨h1, h2, -⟩ := c
  have s := line_sp r
  rw [← h1, line_sp] at s
  simp only [List.cons.injEq] at s
  obtain ⟨a1, a2, a3, a4, a5, -⟩ := s
  obtain ⟨x1, x2, x3, x4, x5⟩ := r
  obtain ⟨y1, y2, y3, y4, y5⟩ := r'
  simp only at a1 a2 a3 a4 a5
  rw [itoa_inj a1, itoa_inj a2, itoa_inj a3, itoa_inj a4, end_inj a5]
  exact ⟨rfl, h2.symm⟩
theorem runT_ne (r : Ru) (X : List UInt8) : runT r ++ X ≠ [] := by unfold runT; simp
theorem runs_inj : ∀ l m : List Ru, runsT l = runsT m → l = m
  | [], [], _ => rfl
  | [], r :: m, h => absurd h.symm (runT_ne r _)
  | r :: l, [], h => absurd h (runT_ne r _)
  | r :: l, r' :: m, h => by
    obtain ⟨h1, h2⟩ := runT_inj (show runT r ++ runsT l = runT r' ++ runsT m from h)
    rw [h1, runs_inj l m h2]
theorem rE_dig {r : Ru} (h : rE r = 0) : dig13 r := by
  have b := rE_bd h
  exact ⟨by omega, by omega, by omega, by omega⟩
/-- Nothing but runs stands in a text of runs. -/
theorem runs_all : ∀ (rs m : List Ru) (t : List UInt8), rsE m = 0 → runsT m = runsT rs ++ t → t ≠ [] → ¬ goodL t → False
  | [], [], t, _, h, ht, _ => ht h.symm
  | [], r :: m, t, hz, h, _, hg => hg ⟨r, runsT m, rE_dig (rsE_get hz 0 (by simp)), h.symm⟩
  | r :: rs, [], t, _, h, _, _ => by
    have h' : [] = runT r ++ runsT rs ++ t := h
    rw [List.append_assoc] at h'
    exact runT_ne r _ h'.symm
  | r :: rs, r' :: m, t, hz, h, ht, hg => by
    have h' : runT r' ++ runsT m = runT r ++ runsT rs ++ t := h
    rw [List.append_assoc] at h'
    have h2 : rsE m = 0 := by
      unfold rsE at hz
      by_cases h0 : rE r' = 0
      · rwa [if_pos h0] at hz
      · rw [if_neg h0] at hz; exact absurd hz h0
    exact runs_all rs m t h2 (runT_inj h').2 ht hg
/-- A text of runs, cut: whole runs and what is left of one. -/
theorem runs_cut : ∀ (l : List Ru) (c : Nat), c ≤ (runsT l).length → ∃ k rest, k ≤ l.length ∧ (runsT l).take c = runsT (l.take k) ++ rest ∧ (10 : UInt8) ∉ rest
  | [], c, _ => ⟨0, [], Nat.le_refl _, by simp [runsT], by simp⟩
  | r :: l, c, hc => by
    have e : runsT (r :: l) = runT r ++ runsT l := rfl
    rw [e] at hc ⊢
    rw [List.length_append] at hc
    rcases Nat.lt_or_ge c (runT r).length with h | h
    · refine ⟨0, (lineT r).take c, Nat.zero_le _, ?_, fun hm => line_no10 r (List.mem_of_mem_take hm)⟩
      unfold runT at h ⊢
      rw [List.length_append] at h
      simp only [List.length_cons, List.length_nil] at h
      rw [List.append_assoc, List.take_append_of_le_length (by omega)]
      rfl
    · obtain ⟨k, rest, hk, h1, h2⟩ := runs_cut l (c - (runT r).length) (by omega)
      refine ⟨k + 1, rest, by simpa using hk, ?_, h2⟩
      rw [List.take_append, List.take_of_length_le h, h1, List.take_succ_cons, ← List.append_assoc]
      rfl
theorem runs_end : ∀ l : List Ru, runsT l = [] ∨ ∃ q, runsT l = q ++ [10]
  | [] => .inl rfl
  | r :: l => by
    refine .inr ?_
    have e : runsT (r :: l) = runT r ++ runsT l := rfl
    rw [e]
    rcases runs_end l with h | ⟨q, h⟩
    · exact ⟨lineT r, by rw [h, List.append_nil]; rfl⟩
    · exact ⟨runT r ++ q, by rw [h, List.append_assoc]⟩
theorem at_bang (S : List UInt8) (j : Nat) (hj : j < S.length) : ((⟨S.toArray⟩ : ByteArray).data[j]!) = S[j] := by
  simp [hj]
/-- Where the last newline stands. -/
theorem last_nl (P rest : List UInt8) (h : (10 : UInt8) ∉ rest) (hp : P = [] ∨ ∃ q, P = q ++ [10]) : Lib.lastIndexByte ⟨(P ++ rest).toArray⟩ 10 = (P.length : Int) - 1 := by
  have hsz : (⟨(P ++ rest).toArray⟩ : ByteArray).size = (P ++ rest).length := rfl
  have hq : ∀ q, P = q ++ [10] → ((⟨(P ++ rest).toArray⟩ : ByteArray).data[q.length]!) = 10 := fun q e => by
    rw [at_bang _ _ (by rw [e]; simp)]
    simp [e]
  rcases Lib.lastIndexByte_spec ⟨(P ++ rest).toArray⟩ 10 with ⟨h1, h2⟩ | ⟨i, hi, h1, h2, h3⟩
  · rw [h1]
    rcases hp with rfl | ⟨q, e⟩
    · rfl
    · have := h2 q.length (by rw [hsz, e]; simp)
      rw [hq q e] at this
      exact absurd rfl this
  · rw [h1]
    rw [hsz] at hi
    rw [at_bang _ _ hi] at h2
    have h10 : (P ++ rest)[i] = 10 := UInt8.toNat_inj.1 (by have : ((P ++ rest)[i]).toNat = 10 := by omega
                                                            rw [this]; rfl)
    have hiP : i < P.length := by
      rcases Nat.lt_or_ge i P.length with h' | h'
      · exact h'
      · exfalso
        rw [List.getElem_append_right h'] at h10
        exact h (h10 ▸ List.getElem_mem _)
    rcases hp with rfl | ⟨q, e⟩
    · simp at hiP
    · have hl : P.length = q.length + 1 := by rw [e]; simp
      rcases Nat.lt_or_ge i q.length with h' | h'
      · have := h3 q.length h' (by rw [hsz, List.length_append]; omega)
        rw [hq q e] at this
        exact absurd rfl this
      · omega
end Go.Proofs.YtcdcfkgdgimmcaaGreatDoor
