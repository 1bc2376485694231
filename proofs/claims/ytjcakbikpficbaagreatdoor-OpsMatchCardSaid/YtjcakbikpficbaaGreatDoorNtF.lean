/- The text of runs, line by line. Conditions: those named (plain). -/
import Derived.Test.YtjcakbikpficbaaGreatDoorNtC
import Derived.Lib.Split
namespace Go.Proofs.YtjcakbikpficbaaGreatDoor
open Go Go.Lib
/-- A text cut at its spaces. -/
def spP : List UInt8 → List (List UInt8)
  | [] => [[]]
  | b :: l => if b = 32 then [] :: spP l else match spP l with
    | [] => [[b]]
    | h :: t => (b :: h) :: t
theorem spP_ne : ∀ l, spP l ≠ []
  | [] => by simp [spP]
  | b :: l => by
    unfold spP
    split
    · simp
    · split <;> simp
theorem spP_none : ∀ l : List UInt8, (32 : UInt8) ∉ l → spP l = [l]
  | [], _ => rfl
  | b :: l, h => by
    have hb : b ≠ 32 := fun e => h (by rw [e]; simp)
    unfold spP
    rw [if_neg hb, spP_none l (fun hm => h (by simp [hm]))]
theorem spP_cut : ∀ (a l : List UInt8), (32 : UInt8) ∉ a → spP (a ++ 32 :: l) = a :: spP l
  | [], l, _ => by simp [spP]
  | b :: a, l, h => by
    have hb : b ≠ 32 := fun e => h (by rw [e]; simp)
    have ih := spP_cut a l (fun hm => h (by simp [hm]))
    show spP (b :: (a ++ 32 :: l)) = _
    rw [spP, if_neg hb, ih]
theorem splitK_sp : ∀ (n : Nat) (l : List UInt8), l.length < n → splitK [32] 0 (count l [32]) l = spP l
  | 0, l, h => by omega
  | n + 1, l, h => by
    rcases idx_one 32 l with ⟨h1, h2⟩ | ⟨a, b, h1, h2, h3⟩
    · rw [count_miss h1, spP_none l h2]; rfl
    · have hd : l.drop (a.length + [(32 : UInt8)].length) = b := by rw [h1]; simp
      rw [count_hit (by simp) h3, hd, Nat.add_comm 1]
      have hm : ¬ (index l [32] == -1) = true := fun e => by have := beq_iff_eq.1 e; omega
      unfold splitK
      rw [if_neg hm, h3, Int.toNat_natCast, hd, Nat.add_zero, splitK_sp n b (by rw [h1] at h; simp at h; omega), h1, take_len, spP_cut a b h2]
/-- A run. -/
structure Ru where
  a : Int
  b : Int
  c : Int
  d : Int
  f : Bool
def okT : List UInt8 := [111, 107]
def faT : List UInt8 := [102, 97, 105, 108, 101, 100]
def endT (f : Bool) : List UInt8 := if f then faT else okT
/-- The line of a run, without its end. -/
def lineT (r : Ru) : List UInt8 := itoa r.a ++ 32 :: (itoa r.b ++ 32 :: (itoa r.c ++ 32 :: (itoa r.d ++ 32 :: endT r.f)))
def runT (r : Ru) : List UInt8 := lineT r ++ [10]
def runsT : List Ru → List UInt8
  | [] => []
  | r :: l => runT r ++ runsT l
theorem runsT_app : ∀ l m : List Ru, runsT (l ++ m) = runsT l ++ runsT m
  | [], m => rfl
  | r :: l, m => by
    show runT r ++ runsT (l ++ m) = runT r ++ runsT l ++ runsT m
    rw [runsT_app l m, List.append_assoc]
theorem end_no10 (f : Bool) : (10 : UInt8) ∉ endT f := by cases f <;> decide
theorem end_no32 (f : Bool) : (32 : UInt8) ∉ endT f := by cases f <;> decide
theorem line_no10 (r : Ru) : (10 : UInt8) ∉ lineT r := by
  unfold lineT
  intro h
  simp only [List.mem_append, List.mem_cons] at h
  rcases h with h | h | h | h | h | h | h | h | h
  · exact itoa_no10 _ h
  · exact absurd h (by decide)
  · exact itoa_no10 _ h
  · exact absurd h (by decide)
  · exact itoa_no10 _ h
  · exact absurd h (by decide)
  · exact itoa_no10 _ h
  · exact absurd h (by decide)
  · exact end_no10 _ h
theorem itoa_no32' (v : Int) : (32 : UInt8) ∉ itoa v := by
  have d : ∀ u, (32 : UInt8) ∉ decDigits u := fun u h => by
    have hc := canB_dec u
    unfold canB at hc
    simp only [Bool.and_eq_true, List.all_eq_true] at hc
    exact absurd (hc.2.1 32 h) (by decide)
  unfold itoa
  split
  · intro h
    rcases List.mem_cons.1 h with h | h
    · exact absurd h (by decide)
    · exact d _ h
  · exact d _
theorem line_sp (r : Ru) : spP (lineT r) = [itoa r.a, itoa r.b, itoa r.c, itoa r.d, endT r.f] := by
  unfold lineT
  rw [spP_cut _ _ (itoa_no32' _), spP_cut _ _ (itoa_no32' _), spP_cut _ _ (itoa_no32' _), spP_cut _ _ (itoa_no32' _), spP_none _ (end_no32 _)]
/-- The numbers of a run have at most 13 digits. -/
def dig13 (r : Ru) : Prop := r.a.natAbs < 10 ^ 13 ∧ r.b.natAbs < 10 ^ 13 ∧ r.c.natAbs < 10 ^ 13 ∧ r.d.natAbs < 10 ^ 13
/-- The text begins with the line of a run. -/
def goodL (t : List UInt8) : Prop := ∃ r rest, dig13 r ∧ t = runT r ++ rest
theorem spP_join : ∀ (l : List UInt8) (p q : List UInt8) (m : List (List UInt8)), spP l = p :: q :: m → ∃ l', l = p ++ 32 :: l' ∧ spP l' = q :: m
  | [], p, q, m, h => by simp [spP] at h
  | b :: l, p, q, m, h => by
    unfold spP at h
    by_cases hb : b = 32
    · rw [if_pos hb] at h
      obtain ⟨rfl, h2⟩ := List.cons.inj h
      exact ⟨l, by rw [hb]; rfl, h2⟩
    · rw [if_neg hb] at h
      cases hs : spP l with
      | nil => exact absurd hs (spP_ne l)
      | cons x y =>
        rw [hs] at h
        simp only at h
        obtain ⟨rfl, h2⟩ := List.cons.inj h
        obtain ⟨l', e1, e2⟩ := spP_join l x q m (by rw [hs, h2])
        exact ⟨l', by rw [e1]; rfl, e2⟩
theorem spP_one : ∀ (l p : List UInt8), spP l = [p] → l = p
  | [], p, h => by simp [spP] at h; exact h.symm
  | b :: l, p, h => by
    unfold spP at h
    by_cases hb : b = 32
    · rw [if_pos hb] at h
      have := (List.cons.inj h).2
      exact absurd this (spP_ne l)
    · rw [if_neg hb] at h
      cases hs : spP l with
      | nil => exact absurd hs (spP_ne l)
      | cons x y =>
        rw [hs] at h
        simp only at h
        obtain ⟨rfl, h2⟩ := List.cons.inj h
        rw [spP_one l x (by rw [hs, h2])]
/-- What is read of a line is its run. -/
theorem line_read {l p0 p1 p2 p3 p4 : List UInt8} (h : spP l = [p0, p1, p2, p3, p4]) (h4 : p4 = okT ∨ p4 = faT) (i0 : intB p0 13 = true) (i1 : intB p1 13 = true) (i2 : intB p2 13 = true) (i3 : intB p3 13 = true) :
    l = lineT ⟨intV p0, intV p1, intV p2, intV p3, decide (p4 = faT)⟩ := by
  obtain ⟨l1, e1, s1⟩ := spP_join _ _ _ _ h
  obtain ⟨l2, e2, s2⟩ := spP_join _ _ _ _ s1
  obtain ⟨l3, e3, s3⟩ := spP_join _ _ _ _ s2
  obtain ⟨l4, e4, s4⟩ := spP_join _ _ _ _ s3
  have e5 := spP_one _ _ s4
  have e6 : endT (decide (p4 = faT)) = p4 := by
    rcases h4 with rfl | rfl
    · rfl
    · rfl
  unfold lineT
  simp only
  rw [(int_read i0).2, (int_read i1).2, (int_read i2).2, (int_read i3).2, e6, e1, e2, e3, e4, e5]
theorem good_cut {r : Ru} {rest : List UInt8} : cut (runT r ++ rest) [10] = (lineT r, rest, true) := by
  have e : runT r ++ rest = lineT r ++ ([10] ++ rest) := by unfold runT; rw [List.append_assoc]
  refine cut_hit e ?_
  rw [e]
  exact idx_at 10 [] rest _ (line_no10 r)
/-- A text that begins with the line of a run is read so. -/
theorem good_read {t l rest : List UInt8} {e : Bool} (hg : goodL t) (hc : cut t [10] = (l, rest, e)) : e = true ∧ ∃ p0 p1 p2 p3 p4, spP l = [p0, p1, p2, p3, p4] ∧ (p4 = okT ∨ p4 = faT) ∧ intB p0 13 = true ∧ intB p1 13 = true ∧ intB p2 13 = true ∧ intB p3 13 = true := by
  obtain ⟨r, rest', ⟨d0, d1, d2, d3⟩, rfl⟩ := hg
  rw [good_cut] at hc
  simp only [Prod.mk.injEq] at hc
  obtain ⟨rfl, rfl, rfl⟩ := hc
  refine ⟨rfl, _, _, _, _, _, line_sp r, ?_, (int_write d0 (by omega)).1, (int_write d1 (by omega)).1, (int_write d2 (by omega)).1, (int_write d3 (by omega)).1⟩
  unfold endT
  cases r.f
  · exact .inl rfl
  · exact .inr rfl
theorem cut_text {t l rest : List UInt8} (hc : cut t [10] = (l, rest, true)) : t = l ++ 10 :: rest := by
  rcases cut_one 10 t with ⟨h1, -⟩ | ⟨a, b, h1, -, h3⟩
  · rw [hc] at h1; cases h1
  · rw [hc] at h3
    simp only [Prod.mk.injEq] at h3
    obtain ⟨rfl, rfl, -⟩ := h3
    exact h1
/-- So many newlines. -/
theorem runs_count : ∀ rs : List Ru, (runsT rs).count 10 = rs.length
  | [] => rfl
  | r :: l => by
    show (runT r ++ runsT l).count 10 = l.length + 1
    unfold runT
    rw [List.count_append, List.count_append, runs_count l, List.count_eq_zero_of_not_mem (line_no10 r)]
    simp; omega
theorem itoa_ne (v : Int) : 1 ≤ (itoa v).length := by
  unfold itoa
  split
  · simp
  · exact List.length_pos_iff.2 (decDigits_ne _)
theorem runs_len : ∀ rs : List Ru, 11 * rs.length ≤ (runsT rs).length
  | [] => by simp [runsT]
  | r :: l => by
    have ih := runs_len l
    show 11 * (l.length + 1) ≤ (runT r ++ runsT l).length
    unfold runT lineT
    have := itoa_ne r.a; have := itoa_ne r.b; have := itoa_ne r.c; have := itoa_ne r.d
    have : 2 ≤ (endT r.f).length := by cases r.f <;> decide
    simp only [List.length_append, List.length_cons, List.length_nil]
    omega
/-- What is wrong with a run. -/
def rE (r : Ru) : Int := if r.a < 0 ∨ 1999 < r.a ∨ r.b < 0 ∨ 63 < r.b ∨ r.c < 0 ∨ 1099511627776 < r.c ∨ r.d < 0 ∨ 1099511627776 < r.d then 3 else if r.d < r.c then 8 else 0
def rsE : List Ru → Int
  | [] => 0
  | r :: l => if rE r = 0 then rsE l else rE r
theorem rsE_app : ∀ (l m : List Ru), rsE l = 0 → rsE (l ++ m) = rsE m
  | [], m, _ => rfl
  | r :: l, m, h => by
    unfold rsE at h
    show (if rE r = 0 then rsE (l ++ m) else rE r) = _
    by_cases h0 : rE r = 0
    · rw [if_pos h0] at h ⊢; exact rsE_app l m h
    · rw [if_neg h0] at h; exact absurd h h0
theorem rE_vals (r : Ru) : rE r = 0 ∨ rE r = 3 ∨ rE r = 8 := by
  unfold rE
  split
  · exact .inr (.inl rfl)
  · split
    · exact .inr (.inr rfl)
    · exact .inl rfl
theorem rsE_vals : ∀ l, rsE l = 0 ∨ rsE l = 3 ∨ rsE l = 8
  | [] => .inl rfl
  | r :: l => by
    unfold rsE
    split
    · exact rsE_vals l
    · exact rE_vals r
/-- The error of runs. -/
def runsE (l : List Ru) : Int := if 200000 < l.length then 4 else rsE l
/-- How the first wrong one tells. -/
theorem rsE_at {l : List Ru} {k : Nat} (hk : k < l.length) (h0 : rsE (l.take k) = 0) : (rE l[k] = 0 → rsE (l.take (k + 1)) = 0) ∧ (rE l[k] ≠ 0 → rsE l = rE l[k]) := by
  have e1 : l.take (k + 1) = l.take k ++ [l[k]] := by rw [List.take_succ_eq_append_getElem hk]
  have e2 : l = l.take k ++ l[k] :: l.drop (k + 1) := by rw [← List.drop_eq_getElem_cons hk, List.take_append_drop]
  refine ⟨fun h => ?_, fun h => ?_⟩
  · rw [e1, rsE_app _ _ h0]
    unfold rsE
    rw [if_pos h]; rfl
  · conv => lhs; rw [e2]
    rw [rsE_app _ _ h0]
    unfold rsE
    rw [if_neg h]
end Go.Proofs.YtjcakbikpficbaaGreatDoor
