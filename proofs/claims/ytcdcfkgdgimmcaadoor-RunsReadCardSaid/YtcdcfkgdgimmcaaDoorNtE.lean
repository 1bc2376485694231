/- The text of a picture, and what is read of it. Conditions: those named (plain). -/
import Derived.Test.YtcdcfkgdgimmcaaDoorNtC
namespace Go.Proofs.YtcdcfkgdgimmcaaDoor
open Go Go.Lib
/-- The head of a picture of so many rows and columns. -/
def headT (W H : Int) : List UInt8 := p6 ++ (itoa W ++ (32 :: (itoa H ++ (10 :: m255))))
/-- The bytes of the first values. -/
def picBy (f : Nat → UInt8) : Nat → List UInt8
  | 0 => []
  | k + 1 => if k % 4 < 3 then picBy f k ++ [f k] else picBy f k
theorem picBy_len (f : Nat → UInt8) : ∀ k, (picBy f k).length = k / 4 * 3 + k % 4
  | 0 => rfl
  | k + 1 => by
    have ih := picBy_len f k
    unfold picBy
    by_cases h : k % 4 < 3
    · rw [if_pos h, List.length_append, ih, List.length_singleton]; omega
    · rw [if_neg h, ih]; omega
theorem picBy_at (f : Nat → UInt8) : ∀ k i, i < k → i % 4 < 3 → (picBy f k).getD (i / 4 * 3 + i % 4) 0 = f i
  | 0, i, h, _ => by omega
  | k + 1, i, h, hi => by
    have hl := picBy_len f k
    unfold picBy
    by_cases hk : k % 4 < 3
    · rw [if_pos hk]
      by_cases e : i = k
      · subst e
        rw [List.getD_eq_getElem?_getD, List.getElem?_append_right (by omega), hl, Nat.sub_self]; rfl
      · rw [List.getD_eq_getElem?_getD, List.getElem?_append_left (by rw [hl]; omega), ← List.getD_eq_getElem?_getD]
        exact picBy_at f k i (by omega) hi
    · rw [if_neg hk]
      exact picBy_at f k i (by
        rcases Nat.lt_or_ge i k with h' | h'
        · exact h'
        · exfalso
          have e : i = k := by omega
          rw [e] at hi
          exact hk hi) hi
theorem dec_no32 (u : Nat) : (32 : UInt8) ∉ decDigits u := fun h => by
  have hc := canB_dec u
  unfold canB at hc
  simp only [Bool.and_eq_true, List.all_eq_true] at hc
  exact absurd (hc.2.1 32 h) (by decide)
theorem itoa_no32 (v : Int) : (32 : UInt8) ∉ itoa v := by
  unfold itoa
  split
  · intro h
    rcases List.mem_cons.1 h with h | h
    · exact absurd h (by decide)
    · exact dec_no32 _ h
  · exact dec_no32 _
/-- What is read of a picture's text. -/
theorem pic_of {W H : Int} (hW : 1 ≤ W ∧ W ≤ 256) (hH : 1 ≤ H ∧ H ≤ 256) (r : List UInt8) (hr : (r.length : Int) = 3 * W * H) :
    picB (headT W H ++ r) = true ∧ picR (headT W H ++ r) = r ∧ intV (picD (headT W H ++ r)).1 = W ∧ intV (picD (headT W H ++ r)).2.1 = H := by
  have e0 : headT W H ++ r = p6 ++ (itoa W ++ (32 :: (itoa H ++ (10 :: (m255 ++ r))))) := by simp [headT]
  have e1 : hasPrefix (headT W H ++ r) p6 = true := (prefix_iff _ _).2 ⟨_, e0.symm⟩
  have e2 : picH (headT W H ++ r) = (itoa W ++ 32 :: itoa H) ++ 10 :: (m255 ++ r) := by
    unfold picH trimPrefix
    rw [if_pos e1, e0]
    simp [p6]
  have hno : (10 : UInt8) ∉ itoa W ++ 32 :: itoa H := fun h => by
    rcases List.mem_append.1 h with h | h
    · exact itoa_no10 _ h
    · rcases List.mem_cons.1 h with h | h
      · exact absurd h (by decide)
      · exact itoa_no10 _ h
  have e3 : picC (headT W H ++ r) = (itoa W ++ 32 :: itoa H, m255 ++ r, true) := by
    unfold picC
    refine cut_hit (by rw [e2]; rfl) ?_
    rw [e2]
    exact idx_at 10 [] (m255 ++ r) _ hno
  have e4 : hasPrefix (m255 ++ r) m255 = true := (prefix_iff _ _).2 ⟨r, rfl⟩
  have e5 : picR (headT W H ++ r) = r := by
    unfold picR
    rw [e3]
    unfold trimPrefix
    rw [if_pos e4]
    simp [m255]
  have e6 : picD (headT W H ++ r) = (itoa W, itoa H, true) := by
    unfold picD
    rw [e3]
    refine cut_hit rfl ?_
    exact idx_at 32 [] (itoa H) _ (itoa_no32 W)
  obtain ⟨w1, w2⟩ := int_write (v := W) (k := 9) (by omega) (by omega)
  obtain ⟨h1, h2⟩ := int_write (v := H) (k := 9) (by omega) (by omega)
  refine ⟨?_, e5, by rw [e6]; exact w2, by rw [e6]; exact h2⟩
  unfold picB
  rw [e1, e5, e6, e3]
  simp only
  rw [e4, w1, h1, w2, h2, sideB_iff.2 hW, sideB_iff.2 hH, decide_eq_true hr]
  rfl
theorem headT_len {W H : Int} (hW : 1 ≤ W ∧ W ≤ 256) (hH : 1 ≤ H ∧ H ≤ 256) : (headT W H).length ≤ 40 := by
  have d : ∀ v : Int, 1 ≤ v ∧ v ≤ 256 → (itoa v).length ≤ 3 := fun v h => by
    obtain ⟨u, rfl⟩ := Int.eq_ofNat_of_zero_le (show 0 ≤ v by omega)
    rw [itoa_nonneg]
    exact dec_len _ u 3 (Nat.lt_succ_self _) (by omega) (by omega)
  have a := d W hW
  have b := d H hH
  unfold headT
  simp only [List.length_append, List.length_cons]
  have : p6.length = 3 := rfl
  have : m255.length = 4 := rfl
  omega
end Go.Proofs.YtcdcfkgdgimmcaaDoor
