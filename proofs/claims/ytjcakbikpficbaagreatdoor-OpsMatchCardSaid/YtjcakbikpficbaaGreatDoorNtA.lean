/- Decimal numerals without superfluous zeros: reading and writing lead back. Conditions: none (plain). -/
import Derived.Lib.AtoiTie
import Derived.Lib.AtoiAllCases
import Derived.Lib.ItoaMem
import Derived.Lib.ItoaNum
import Derived.Lib.AtoiErr
namespace Go.Proofs.YtjcakbikpficbaaGreatDoor
open Go Go.Lib
/-- A decimal digit. -/
def digB (b : UInt8) : Bool := decide (48 ≤ b.toNat ∧ b.toNat ≤ 57)
theorem digitVal_digB (b : UInt8) : digitVal b = if digB b then some (b.toNat - 48) else none := by
  unfold digitVal digB
  by_cases h : 48 ≤ b.toNat ∧ b.toNat ≤ 57
  · rw [if_pos h, decide_eq_true h]; rfl
  · rw [if_neg h, decide_eq_false h]; rfl
theorem decFrom_snoc : ∀ (l : List UInt8) (acc : Nat) (b : UInt8), decFrom acc (l ++ [b]) = match decFrom acc l, digitVal b with
    | some n, some d => some (n * 10 + d)
    | _, _ => none
  | [], acc, b => by
    show decFrom acc [b] = _
    unfold decFrom
    cases h : digitVal b with
    | none => simp
    | some d => simp [decFrom]
  | a :: t, acc, b => by
    show decFrom acc (a :: (t ++ [b])) = _
    unfold decFrom
    cases h : digitVal a with
    | none => simp
    | some d => simp only; exact decFrom_snoc t _ b
theorem decFrom_digits : ∀ (l : List UInt8) (acc : Nat), (decFrom acc l).isSome = l.all digB
  | [], acc => rfl
  | a :: t, acc => by
    unfold decFrom
    rw [digitVal_digB, List.all_cons]
    cases digB a with
    | false => rfl
    | true => rw [Bool.true_and]; exact decFrom_digits t _
theorem byte_of {b : UInt8} (h : digB b = true) : UInt8.ofNat (48 + (b.toNat - 48)) = b := by
  unfold digB at h
  have h := of_decide_eq_true h
  rw [show 48 + (b.toNat - 48) = b.toNat by omega, UInt8.ofNat_toNat]
/-- What is written of a number leads back. -/
theorem decFrom_decDigits : ∀ (n u : Nat), u < n → decFrom 0 (decDigits u) = some u
  | 0, u, h => by omega
  | n + 1, u, h => by
    rw [decDigits]
    by_cases h1 : u < 10
    · rw [dif_pos h1]
      have e : digitVal (UInt8.ofNat (48 + u)) = some u := by
        have : (UInt8.ofNat (48 + u)).toNat = 48 + u := by simp [UInt8.toNat_ofNat']; omega
        unfold digitVal
        rw [this, if_pos (by omega)]; congr 1; omega
      unfold decFrom
      rw [e]; simp [decFrom]
    · rw [dif_neg h1, decFrom_snoc, decFrom_decDigits n (u / 10) (by omega)]
      have e : digitVal (UInt8.ofNat (48 + u % 10)) = some (u % 10) := by
        have : (UInt8.ofNat (48 + u % 10)).toNat = 48 + u % 10 := by simp [UInt8.toNat_ofNat']; omega
        unfold digitVal
        rw [this, if_pos (by omega)]; congr 1; omega
      rw [e]
      show some (u / 10 * 10 + u % 10) = some u
      congr 1; omega
theorem decDigits_ne (u : Nat) : decDigits u ≠ [] := by
  rw [decDigits]
  split <;> simp
theorem head_app {α : Type} (l m : List α) (h : l ≠ []) : (l ++ m).head? = l.head? := by
  cases l with
  | nil => exact absurd rfl h
  | cons a t => rfl
theorem decDigits_head : ∀ (n u : Nat), u < n → 10 ≤ u → (decDigits u).head? ≠ some 48
  | 0, u, h, _ => by omega
  | n + 1, u, h, h1 => by
    rw [decDigits, dif_neg (by omega)]
    rw [head_app _ _ (decDigits_ne _)]
    by_cases h2 : u / 10 < 10
    · rw [decDigits, dif_pos h2]
      intro e
      simp only [List.head?_cons, Option.some.injEq] at e
      have : (UInt8.ofNat (48 + u / 10)).toNat = 48 + u / 10 := by simp [UInt8.toNat_ofNat']; omega
      rw [e] at this
      have : (48 : UInt8).toNat = 48 + u / 10 := this
      have h48 : (48 : UInt8).toNat = 48 := rfl
      omega
    · exact decDigits_head n _ (by omega) (by omega)
/-- A row of digits without superfluous zeros. -/
def canB (l : List UInt8) : Bool := !l.isEmpty && (l.all digB && !(decide (1 < l.length) && decide (l.head? = some 48)))
theorem snoc_of {α : Type} (l : List α) (h : l ≠ []) : ∃ t b, l = t ++ [b] := ⟨l.dropLast, l.getLast h, (List.dropLast_concat_getLast h).symm⟩
/-- What is read of such a row leads back. -/
theorem decDigits_can : ∀ (n : Nat) (l : List UInt8) (u : Nat), l.length < n → canB l = true → decFrom 0 l = some u → decDigits u = l ∧ (l.head? ≠ some 48 → 1 ≤ u)
  | 0, l, u, h, _, _ => by omega
  | n + 1, l, u, h, hc, hu => by
    unfold canB at hc
    simp only [Bool.and_eq_true, Bool.not_eq_true', Bool.and_eq_false_iff, decide_eq_false_iff_not] at hc
    obtain ⟨h1, h2, h3⟩ := hc
    have hne : l ≠ [] := fun e => by rw [e] at h1; cases h1
    obtain ⟨t, b, rfl⟩ := snoc_of l hne
    rw [List.all_append, Bool.and_eq_true] at h2
    obtain ⟨h4, h5⟩ := h2
    have h5 : digB b = true := by simpa using h5
    rw [decFrom_snoc] at hu
    have hs := decFrom_digits t 0
    rw [h4] at hs
    obtain ⟨m, hm⟩ := Option.isSome_iff_exists.1 hs
    rw [hm, digitVal_digB, h5] at hu
    simp only [if_true, Option.some.injEq] at hu
    have hb : 48 ≤ b.toNat ∧ b.toNat ≤ 57 := of_decide_eq_true h5
    by_cases ht : t = []
    · subst ht
      have hm0 : m = 0 := by simp [decFrom] at hm; omega
      subst hm0
      have hu' : u = b.toNat - 48 := by omega
      refine ⟨?_, ?_⟩
      · rw [decDigits, dif_pos (by omega), hu', byte_of h5]; rfl
      · intro hh
        have : b ≠ 48 := fun e => hh (by rw [e]; rfl)
        have hn : b.toNat ≠ 48 := fun e => this (UInt8.toNat_inj.1 e)
        omega
    · have hl : 1 < (t ++ [b]).length := by
        have : 0 < t.length := List.length_pos_iff.2 ht
        simp; omega
      have hh : (t ++ [b]).head? ≠ some 48 := by
        rcases h3 with h3 | h3
        · exact absurd hl h3
        · exact h3
      rw [head_app _ _ ht] at hh
      have hct : canB t = true := by
        unfold canB
        rw [h4]
        have : t.isEmpty = false := by cases t with | nil => exact absurd rfl ht | cons _ _ => rfl
        rw [this, decide_eq_false hh, Bool.and_false]; rfl
      obtain ⟨e1, e2⟩ := decDigits_can n t m (by simp at h; omega) hct hm
      have hm1 := e2 hh
      refine ⟨?_, fun _ => by omega⟩
      rw [decDigits, dif_neg (by omega), show u / 10 = m by omega, show u % 10 = b.toNat - 48 by omega, byte_of h5, e1]
/-- A '-' ahead is left out. -/
def unMinus (l : List UInt8) : List UInt8 := if l.head? = some 45 then l.tail else l
/-- A number without superfluous zeros, of at most so many digits. -/
def intB (l : List UInt8) (most : Nat) : Bool := canB (unMinus l) && (decide ((unMinus l).length ≤ most) && decide (l ≠ [45, 48]))
def intV (l : List UInt8) : Int := (atoi l).getD 0
theorem dec_can {l : List UInt8} (h : canB l = true) : ∃ u, decFrom 0 l = some u ∧ decDigits u = l ∧ l ≠ [] := by
  have h' := h
  unfold canB at h'
  simp only [Bool.and_eq_true, Bool.not_eq_true'] at h'
  have hs := decFrom_digits l 0
  rw [h'.2.1] at hs
  obtain ⟨u, hu⟩ := Option.isSome_iff_exists.1 hs
  exact ⟨u, hu, (decDigits_can _ l u (Nat.lt_succ_self _) h hu).1, fun e => by rw [e] at h'; cases h'.1⟩
theorem decNat_of {l : List UInt8} {u : Nat} (h : l ≠ []) (hu : decFrom 0 l = some u) : decNat l = some u := by
  unfold decNat
  cases l with
  | nil => exact absurd rfl h
  | cons a t => exact hu
theorem int_read {l : List UInt8} {most : Nat} (h : intB l most = true) : atoi l = some (intV l) ∧ itoa (intV l) = l := by
  unfold intB at h
  simp only [Bool.and_eq_true, decide_eq_true_eq] at h
  obtain ⟨hc, -, hz⟩ := h
  obtain ⟨u, hu, hd, hne⟩ := dec_can hc
  by_cases h45 : l.head? = some 45
  · obtain ⟨r, rfl⟩ : ∃ r, l = 45 :: r := by
      cases l with
      | nil => cases h45
      | cons a t => simp at h45; exact ⟨t, by rw [h45]⟩
    have e : unMinus (45 :: r) = r := by unfold unMinus; simp
    rw [e] at hu hd hne
    have ha : atoi (45 :: r) = some (-(u : Int)) := by
      unfold atoi
      simp only [beq_self_eq_true, if_true]
      rw [decNat_of hne hu]; rfl
    refine ⟨by unfold intV; rw [ha]; rfl, ?_⟩
    unfold intV
    rw [ha]
    show itoa (-(u : Int)) = _
    have hu1 : 1 ≤ u := by
      rcases Nat.eq_zero_or_pos u with h0 | h0
      · subst h0
        have : decDigits 0 = [48] := by rw [decDigits, dif_pos (by omega)]; rfl
        rw [this] at hd
        exact absurd (by rw [← hd]) hz
      · exact h0
    rw [itoa_neg u hu1, hd]
  · have e : unMinus l = l := by unfold unMinus; rw [if_neg h45]
    rw [e] at hu hd hne hc
    obtain ⟨b, r, rfl⟩ : ∃ b r, l = b :: r := by
      cases l with
      | nil => exact absurd rfl hne
      | cons a t => exact ⟨a, t, rfl⟩
    have n45 : (b == 45) = false := by
      simp at h45; simpa using h45
    have hb : digB b = true := by
      unfold canB at hc
      simp only [Bool.and_eq_true, List.all_cons] at hc
      exact hc.2.1.1
    have n43 : (b == 43) = false := by
      by_cases h43 : b = 43
      · subst h43; exact absurd hb (by decide)
      · simpa using h43
    have ha : atoi (b :: r) = some (u : Int) := by
      unfold atoi
      simp only [n45, n43, decNat_of hne hu]; rfl
    refine ⟨by unfold intV; rw [ha]; rfl, ?_⟩
    unfold intV
    rw [ha]
    show itoa (u : Int) = _
    rw [itoa_nonneg, hd]
theorem canB_dec (u : Nat) : canB (decDigits u) = true := by
  have h := decFrom_digits (decDigits u) 0
  rw [decFrom_decDigits _ u (Nat.lt_succ_self _)] at h
  unfold canB
  rw [← h]
  have : (decDigits u).isEmpty = false := by
    cases hd : decDigits u with
    | nil => exact absurd hd (decDigits_ne u)
    | cons _ _ => rfl
  rw [this]
  by_cases h1 : u < 10
  · have : (decDigits u).length = 1 := by rw [decDigits, dif_pos h1]; rfl
    rw [this]; rfl
  · rw [decide_eq_false (decDigits_head _ u (Nat.lt_succ_self _) (by omega)), Bool.and_false]; rfl
theorem dec_no45 (u : Nat) : (decDigits u).head? ≠ some 45 := by
  intro e
  have h := canB_dec u
  unfold canB at h
  simp only [Bool.and_eq_true] at h
  have h := h.2.1
  cases hd : decDigits u with
  | nil => exact absurd hd (decDigits_ne u)
  | cons a t =>
    rw [hd] at e h
    simp at e
    rw [List.all_cons, e] at h
    exact absurd h (by simp [digB])
theorem dec_atoi (u : Nat) : atoi (decDigits u) = some (u : Int) := by
  have h45 := dec_no45 u
  have hu := decFrom_decDigits _ u (Nat.lt_succ_self _)
  have hc := canB_dec u
  have hne := decDigits_ne u
  generalize decDigits u = l at *
  obtain ⟨b, r, rfl⟩ : ∃ b r, l = b :: r := by
    cases l with
    | nil => exact absurd rfl hne
    | cons a t => exact ⟨a, t, rfl⟩
  have n45 : (b == 45) = false := by simp at h45; simpa using h45
  have hb : digB b = true := by
    unfold canB at hc
    simp only [Bool.and_eq_true, List.all_cons] at hc
    exact hc.2.1.1
  have n43 : (b == 43) = false := by
    by_cases h43 : b = 43
    · subst h43; exact absurd hb (by decide)
    · simpa using h43
  unfold atoi
  simp only [n45, n43, decNat_of hne hu]; rfl
theorem atoi_itoa (v : Int) : atoi (itoa v) = some v := by
  by_cases h0 : 0 ≤ v
  · obtain ⟨u, rfl⟩ := Int.eq_ofNat_of_zero_le h0
    rw [itoa_nonneg, dec_atoi]
  · obtain ⟨u, hu⟩ : ∃ u : Nat, v = -(u : Int) := ⟨v.natAbs, by omega⟩
    subst hu
    have hu1 : 1 ≤ u := by omega
    rw [itoa_neg u hu1]
    unfold atoi
    simp only [beq_self_eq_true, if_true]
    rw [decNat_of (decDigits_ne u) (decFrom_decDigits _ u (Nat.lt_succ_self _))]; rfl
theorem dec_len : ∀ (n u k : Nat), u < n → u < 10 ^ k → 1 ≤ k → (decDigits u).length ≤ k
  | 0, u, k, h, _, _ => by omega
  | n + 1, u, k, h, hk, h1 => by
    rw [decDigits]
    by_cases h2 : u < 10
    · rw [dif_pos h2]; simpa using h1
    · rw [dif_neg h2, List.length_append]
      obtain ⟨j, rfl⟩ : ∃ j, k = j + 1 := ⟨k - 1, by omega⟩
      rw [Nat.pow_succ] at hk
      have hj : 1 ≤ j := by
        rcases Nat.eq_zero_or_pos j with h0 | h0
        · subst h0; simp at hk; omega
        · exact h0
      have := dec_len n (u / 10) j (by omega) (by omega) hj
      simp; omega
theorem itoa_head (v : Int) : (itoa v).head? = some 45 ↔ v < 0 := by
  by_cases h0 : 0 ≤ v
  · obtain ⟨u, rfl⟩ := Int.eq_ofNat_of_zero_le h0
    rw [itoa_nonneg]
    exact ⟨fun e => absurd e (dec_no45 u), fun e => by omega⟩
  · obtain ⟨u, hu⟩ : ∃ u : Nat, v = -(u : Int) := ⟨v.natAbs, by omega⟩
    subst hu
    rw [itoa_neg u (by omega)]
    exact ⟨fun _ => by omega, fun _ => rfl⟩
/-- What is written of a number of at most k digits is read so. -/
theorem int_write {v : Int} {k : Nat} (hk : v.natAbs < 10 ^ k) (h1 : 1 ≤ k) : intB (itoa v) k = true ∧ intV (itoa v) = v := by
  refine ⟨?_, by unfold intV; rw [atoi_itoa]; rfl⟩
  by_cases h0 : 0 ≤ v
  · obtain ⟨u, rfl⟩ := Int.eq_ofNat_of_zero_le h0
    have e : unMinus (decDigits u) = decDigits u := by unfold unMinus; rw [if_neg (dec_no45 u)]
    rw [itoa_nonneg]
    unfold intB
    rw [e, canB_dec, decide_eq_true (dec_len _ u k (Nat.lt_succ_self _) (by simpa using hk) h1)]
    have : decDigits u ≠ [45, 48] := fun h => dec_no45 u (by rw [h]; rfl)
    rw [decide_eq_true this]; rfl
  · obtain ⟨u, hu⟩ : ∃ u : Nat, v = -(u : Int) := ⟨v.natAbs, by omega⟩
    subst hu
    have hu1 : 1 ≤ u := by omega
    rw [itoa_neg u hu1]
    have e : unMinus (45 :: decDigits u) = decDigits u := by unfold unMinus; simp
    unfold intB
    rw [e, canB_dec, decide_eq_true (dec_len _ u k (Nat.lt_succ_self _) (by simpa using hk) h1)]
    have : (45 : UInt8) :: decDigits u ≠ [45, 48] := fun h => by
      have h := (List.cons.inj h).2
      have := decFrom_decDigits _ u (Nat.lt_succ_self _)
      rw [h] at this
      have e0 : decFrom 0 [48] = some 0 := by decide
      rw [e0] at this
      have := Option.some.inj this
      omega
    rw [decide_eq_true this]; rfl
theorem intV_bd {l : List UInt8} {most : Nat} (h : intB l most = true) : (intV l).natAbs < 10 ^ most := by
  have h' := h
  obtain ⟨ha, hi⟩ := int_read h
  unfold intB at h
  simp only [Bool.and_eq_true, decide_eq_true_eq] at h
  obtain ⟨hc, hl, -⟩ := h
  obtain ⟨u, hu, hd, hne⟩ := dec_can hc
  have hlt := decFrom_lt _ _ _ hu
  have hp : 10 ^ (unMinus l).length ≤ 10 ^ most := Nat.pow_le_pow_right (by omega) hl
  have hn : (intV l).natAbs = u := by
    by_cases h45 : l.head? = some 45
    · obtain ⟨r, rfl⟩ : ∃ r, l = 45 :: r := by
        cases l with
        | nil => cases h45
        | cons a t => simp at h45; exact ⟨t, by rw [h45]⟩
      have e : unMinus (45 :: r) = r := by unfold unMinus; simp
      rw [e] at hu hne
      unfold intV atoi
      simp only [beq_self_eq_true, if_true]
      rw [decNat_of hne hu]; simp
    · have e : unMinus l = l := by unfold unMinus; rw [if_neg h45]
      rw [e] at hd
      unfold intV
      rw [← hd, dec_atoi]; simp
  rw [hn]; omega
end Go.Proofs.YtjcakbikpficbaaGreatDoor
