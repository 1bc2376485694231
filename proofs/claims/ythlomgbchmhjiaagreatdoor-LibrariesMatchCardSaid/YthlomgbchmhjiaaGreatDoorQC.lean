/- Decimal numerals without superfluous zeros: reading and writing lead back. Conditions: none (plain). (with: NtB, NtC, Door, NtD) -/
import Derived.Lib.AtoiTie
import Derived.Lib.AtoiAllCases
import Derived.Lib.ItoaMem
import Derived.Lib.ItoaNum
import Derived.Lib.AtoiErr
import Derived.Lib.CutLaws
import Derived.Lib.Strings
import Derived.Test.YthlomgbchmhjiaaGreatDoorShelf
import Derived.Test.YthlomgbchmhjiaaGreatDoorBG
import Derived.Stop.LaidErr
import Derived.HandedShaped
import Derived.Shelf.Vars
import Derived.WalkSmall
import Derived.Lib.AtoiErrMem
import Derived.Shelf.Small.Wraps
import Derived.Shelf.Strings.SlTrimAscii
namespace Go.Proofs.YthlomgbchmhjiaaGreatDoor
open Go Go.Lib
/-- A decimal digit. -/
def digB (b : UInt8) : Bool := decide (48 ≤ b.toNat ∧ b.toNat ≤ 57)
theorem digitVal_digB (b : UInt8) : digitVal b = if digB b then some (b.toNat - 48) else none := by
  unfold digitVal digB
  by_cases h : 48 ≤ b.toNat ∧ b.toNat ≤ 57
  · rw [if_pos h, decide_eq_true h]; rfl
  · rw [if_neg h, decide_eq_false h]; rfl
theorem decFrom_snoc : ∀ (l : List UInt8) (acc : Nat) (b : UInt8), decFrom acc (l ++ [b]) = match decFrom acc l, digitVal b with
    | some n, some d => some (n * 10 + d)
    | _, _ => none
  | [], acc, b => by
    show decFrom acc [b] = _
    unfold decFrom
    cases h : digitVal b with
    | none => simp
    | some d => simp [decFrom]
  | a :: t, acc, b => by
    show decFrom acc (a :: (t ++ [b])) = _
    unfold decFrom
    cases h : digitVal a with
    | none => simp
    | some d => simp only; exact decFrom_snoc t _ b
theorem decFrom_digits : ∀ (l : List UInt8) (acc : Nat), (decFrom acc l).isSome = l.all digB
  | [], acc => rfl
  | a :: t, acc => by
    unfold decFrom
    rw [digitVal_digB, List.all_cons]
    cases digB a with
    | false => rfl
    | true => rw [Bool.true_and]; exact decFrom_digits t _
theorem byte_of {b : UInt8} (h : digB b = true) : UInt8.ofNat (48 + (b.toNat - 48)) = b := by
  unfold digB at h
  have h := of_decide_eq_true h
  rw [show 48 + (b.toNat - 48) = b.toNat by omega, UInt8.ofNat_toNat]
/-- What is written of a number leads back. -/
theorem decFrom_decDigits : ∀ (n u : Nat), u < n → decFrom 0 (decDigits u) = some u
  | 0, u, h => by omega
  | n + 1, u, h => by
    rw [decDigits]
    by_cases h1 : u < 10
    · rw [dif_pos h1]
      have e : digitVal (UInt8.ofNat (48 + u)) = some u := by
        have : (UInt8.ofNat (48 + u)).toNat = 48 + u := by simp [UInt8.toNat_ofNat']; omega
        unfold digitVal
        rw [this, if_pos (by omega)]; congr 1; omega
      unfold decFrom
      rw [e]; simp [decFrom]
    · rw [dif_neg h1, decFrom_snoc, decFrom_decDigits n (u / 10) (by omega)]
      have e : digitVal (UInt8.ofNat (48 + u % 10)) = some (u % 10) := by
        have : (UInt8.ofNat (48 + u % 10)).toNat = 48 + u % 10 := by simp [UInt8.toNat_ofNat']; omega
        unfold digitVal
        rw [this, if_pos (by omega)]; congr 1; omega
      rw [e]
      show some (u / 10 * 10 + u % 10) = some u
      congr 1; omega
theorem decDigits_ne (u : Nat) : decDigits u ≠ [] := by
  rw [decDigits]
  split <;> simp
theorem head_app {α : Type} (l m : List α) (h : l ≠ []) : (l ++ m).head? = l.head? := by
  cases l with
  | nil => exact absurd rfl h
  | cons a t => rfl
theorem decDigits_head : ∀ (n u : Nat), u < n → 10 ≤ u → (decDigits u).head? ≠ some 48
  | 0, u, h, _ => by omega
  | n + 1, u, h, h1 => by
    rw [decDigits, dif_neg (by omega)]
    rw [head_app _ _ (decDigits_ne _)]
    by_cases h2 : u / 10 < 10
    · rw [decDigits, dif_pos h2]
      intro e
      simp only [List.head?_cons, Option.some.injEq] at e
      have : (UInt8.ofNat (48 + u / 10)).toNat = 48 + u / 10 := by simp [UInt8.toNat_ofNat']; omega
      rw [e] at this
      have : (48 : UInt8).toNat = 48 + u / 10 := this
      have h48 : (48 : UInt8).toNat = 48 := rfl
      omega
    · exact decDigits_head n _ (by omega) (by omega)
/-- A row of digits without superfluous zeros. -/
def canB (l : List UInt8) : Bool := !l.isEmpty && (l.all digB && !(decide (1 < l.length) && decide (l.head? = some 48)))
theorem snoc_of {α : Type} (l : List α) (h : l ≠ []) : ∃ t b, l = t ++ [b] := ⟨l.dropLast, l.getLast h, (List.dropLast_concat_getLast h).symm⟩
/-- What is read of such a row leads back. -/
theorem decDigits_can : ∀ (n : Nat) (l : List UInt8) (u : Nat), l.length < n → canB l = true → decFrom 0 l = some u → decDigits u = l ∧ (l.head? ≠ some 48 → 1 ≤ u)
  | 0, l, u, h, _, _ => by omega
  | n + 1, l, u, h, hc, hu => by
    unfold canB at hc
    simp only [Bool.and_eq_true, Bool.not_eq_true', Bool.and_eq_false_iff, decide_eq_false_iff_not] at hc
    obtain ⟨h1, h2, h3⟩ := hc
    have hne : l ≠ [] := fun e => by rw [e] at h1; cases h1
    obtain ⟨t, b, rfl⟩ := snoc_of l hne
    rw [List.all_append, Bool.and_eq_true] at h2
    obtain ⟨h4, h5⟩ := h2
    have h5 : digB b = true := by simpa using h5
    rw [decFrom_snoc] at hu
    have hs := decFrom_digits t 0
    rw [h4] at hs
    obtain ⟨m, hm⟩ := Option.isSome_iff_exists.1 hs
    rw [hm, digitVal_digB, h5] at hu
    simp only [if_true, Option.some.injEq] at hu
    have hb : 48 ≤ b.toNat ∧ b.toNat ≤ 57 := of_decide_eq_true h5
    by_cases ht : t = []
    · subst ht
      have hm0 : m = 0 := by simp [decFrom] at hm; omega
      subst hm0
      have hu' : u = b.toNat - 48 := by omega
      refine ⟨?_, ?_⟩
      · rw [decDigits, dif_pos (by omega), hu', byte_of h5]; rfl
      · intro hh
        have : b ≠ 48 := fun e => hh (by rw [e]; rfl)
        have hn : b.toNat ≠ 48 := fun e => this (UInt8.toNat_inj.1 e)
        omega
    · have hl : 1 < (t ++ [b]).length := by
        have : 0 < t.length := List.length_pos_iff.2 ht
        simp; omega
      have hh : (t ++ [b]).head? ≠ some 48 := by
        rcases h3 with h3 | h3
        · exact absurd hl h3
        · exact h3
      rw [head_app _ _ ht] at hh
      have hct : canB t = true := by
        unfold canB
        rw [h4]
        have : t.isEmpty = false := by cases t with | nil => exact absurd rfl ht | cons _ _ => rfl
        rw [this, decide_eq_false hh, Bool.and_false]; rfl
      obtain ⟨e1, e2⟩ := decDigits_can n t m (by simp at h; omega) hct hm
      have hm1 := e2 hh
      refine ⟨?_, fun _ => by omega⟩
      rw [decDigits, dif_neg (by omega), show u / 10 = m by omega, show u % 10 = b.toNat - 48 by omega, byte_of h5, e1]
/-- A '-' ahead is left out. -/
def unMinus (l : List UInt8) : List UInt8 := if l.head? = some 45 then l.tail else l
/-- A number without superfluous zeros, of at most so many digits. -/
def intB (l : List UInt8) (most : Nat) : Bool := canB (unMinus l) && (decide ((unMinus l).length ≤ most) && decide (l ≠ [45, 48]))
def intV (l : List UInt8) : Int := (atoi l).getD 0
theorem dec_can {l : List UInt8} (h : canB l = true) : ∃ u, decFrom 0 l = some u ∧ decDigits u = l ∧ l ≠ [] := by
  have h' := h
  unfold canB at h'
  simp only [Bool.and_eq_true, Bool.not_eq_true'] at h'
  have hs := decFrom_digits l 0
  rw [h'.2.1] at hs
  obtain ⟨u, hu⟩ := Option.isSome_iff_exists.1 hs
  exact ⟨u, hu, (decDigits_can _ l u (Nat.lt_succ_self _) h hu).1, fun e => by rw [e] at h'; cases h'.1⟩
theorem decNat_of {l : List UInt8} {u : Nat} (h : l ≠ []) (hu : decFrom 0 l = some u) : decNat l = some u := by
  unfold decNat
  cases l with
  | nil => exact absurd rfl h
  | cons a t => exact hu
theorem int_read {l : List UInt8} {most : Nat} (h : intB l most = true) : atoi l = some (intV l) ∧ itoa (intV l) = l := by
  unfold intB at h
  simp only [Bool.and_eq_true, decide_eq_true_eq] at h
  obtain ⟨hc, -, hz⟩ := h
  obtain ⟨u, hu, hd, hne⟩ := dec_can hc
  by_cases h45 : l.head? = some 45
  · obtain ⟨r, rfl⟩ : ∃ r, l = 45 :: r := by
      cases l with
      | nil => cases h45
      | cons a t => simp at h45; exact ⟨t, by rw [h45]⟩
    have e : unMinus (45 :: r) = r := by unfold unMinus; simp
    rw [e] at hu hd hne
    have ha : atoi (45 :: r) = some (-(u : Int)) := by
      unfold atoi
      simp only [beq_self_eq_true, if_true]
      rw [decNat_of hne hu]; rfl
    refine ⟨by unfold intV; rw [ha]; rfl, ?_⟩
    unfold intV
    rw [ha]
    show itoa (-(u : Int)) = _
    have hu1 : 1 ≤ u := by
      rcases Nat.eq_zero_or_pos u with h0 | h0
      · subst h0
        have : decDigits 0 = [48] := by rw [decDigits, dif_pos (by omega)]; rfl
        rw [this] at hd
        exact absurd (by rw [← hd]) hz
      · exact h0
    rw [itoa_neg u hu1, hd]
  · have e : unMinus l = l := by unfold unMinus; rw [if_neg h45]
    rw [e] at hu hd hne hc
    obtain ⟨b, r, rfl⟩ : ∃ b r, l = b :: r := by
      cases l with
      | nil => exact absurd rfl hne
      | cons a t => exact ⟨a, t, rfl⟩
    have n45 : (b == 45) = false := by
      simp at h45; simpa using h45
    have hb : digB b = true := by
      unfold canB at hc
      simp only [Bool.and_eq_true, List.all_cons] at hc
      exact hc.2.1.1
    have n43 : (b == 43) = false := by
      by_cases h43 : b = 43
      · subst h43; exact absurd hb (by decide)
      · simpa using h43
    have ha : atoi (b :: r) = some (u : Int) := by
      unfold atoi
      simp only [n45, n43, decNat_of hne hu]; rfl
    refine ⟨by unfold intV; rw [ha]; rfl, ?_⟩
    unfold intV
    rw [ha]
    show itoa (u : Int) = _
    rw [itoa_nonneg, hd]
theorem canB_dec (u : Nat) : canB (decDigits u) = true := by
  have h := decFrom_digits (decDigits u) 0
  rw [decFrom_decDigits _ u (Nat.lt_succ_self _)] at h
  unfold canB
  rw [← h]
  have : (decDigits u).isEmpty = false := by
    cases hd : decDigits u with
    | nil => exact absurd hd (decDigits_ne u)
    | cons _ _ => rfl
  rw [this]
  by_cases h1 : u < 10
  · have : (decDigits u).length = 1 := by rw [decDigits, dif_pos h1]; rfl
    rw [this]; rfl
  · rw [decide_eq_false (decDigits_head _ u (Nat.lt_succ_self _) (by omega)), Bool.and_false]; rfl
theorem dec_no45 (u : Nat) : (decDigits u).head? ≠ some 45 := by
  intro e
  have h := canB_dec u
  unfold canB at h
  simp only [Bool.and_eq_true] at h
  have h := h.2.1
  cases hd : decDigits u with
  | nil => exact absurd hd (decDigits_ne u)
  | cons a t =>
    rw [hd] at e h
    simp at e
    rw [List.all_cons, e] at h
    exact absurd h (by simp [digB])
theorem dec_atoi (u : Nat) : atoi (decDigits u) = some (u : Int) := by
  have h45 := dec_no45 u
  have hu := decFrom_decDigits _ u (Nat.lt_succ_self _)
  have hc := canB_dec u
  have hne := decDigits_ne u
  generalize decDigits u = l at *
  obtain ⟨b, r, rfl⟩ : ∃ b r, l = b :: r := by
    cases l with
    | nil => exact absurd rfl hne
    | cons a t => exact ⟨a, t, rfl⟩
  have n45 : (b == 45) = false := by simp at h45; simpa using h45
  have hb : digB b = true := by
    unfold canB at hc
    simp only [Bool.and_eq_true, List.all_cons] at hc
    exact hc.2.1.1
  have n43 : (b == 43) = false := by
    by_cases h43 : b = 43
    · subst h43; exact absurd hb (by decide)
    · simpa using h43
  unfold atoi
  simp only [n45, n43, decNat_of hne hu]; rfl
theorem atoi_itoa (v : Int) : atoi (itoa v) = some v := by
  by_cases h0 : 0 ≤ v
  · obtain ⟨u, rfl⟩ := Int.eq_ofNat_of_zero_le h0
    rw [itoa_nonneg, dec_atoi]
  · obtain ⟨u, hu⟩ : ∃ u : Nat, v = -(u : Int) := ⟨v.natAbs, by omega⟩
    subst hu
    have hu1 : 1 ≤ u := by omega
    rw [itoa_neg u hu1]
    unfold atoi
    simp only [beq_self_eq_true, if_true]
    rw [decNat_of (decDigits_ne u) (decFrom_decDigits _ u (Nat.lt_succ_self _))]; rfl
theorem dec_len : ∀ (n u k : Nat), u < n → u < 10 ^ k → 1 ≤ k → (decDigits u).length ≤ k
  | 0, u, k, h, _, _ => by omega
  | n + 1, u, k, h, hk, h1 => by
    rw [decDigits]
    by_cases h2 : u < 10
    · rw [dif_pos h2]; simpa using h1
    · rw [dif_neg h2, List.length_append]
      obtain ⟨j, rfl⟩ : ∃ j, k = j + 1 := ⟨k - 1, by omega⟩
      rw [Nat.pow_succ] at hk
      have hj : 1 ≤ j := by
        rcases Nat.eq_zero_or_pos j with h0 | h0
        · subst h0; simp at hk; omega
        · exact h0
      have := dec_len n (u / 10) j (by omega) (by omega) hj
      simp; omega
theorem itoa_head (v : Int) : (itoa v).head? = some 45 ↔ v < 0 := by
  by_cases h0 : 0 ≤ v
  · obtain ⟨u, rfl⟩ := Int.eq_ofNat_of_zero_le h0
    rw [itoa_nonneg]
    exact ⟨fun e => absurd e (dec_no45 u), fun e => by omega⟩
  · obtain ⟨u, hu⟩ : ∃ u : Nat, v = -(u : Int) := ⟨v.natAbs, by omega⟩
    subst hu
    rw [itoa_neg u (by omega)]
    exact ⟨fun _ => by omega, fun _ => rfl⟩
/-- What is written of a number of at most k digits is read so. -/
theorem int_write {v : Int} {k : Nat} (hk : v.natAbs < 10 ^ k) (h1 : 1 ≤ k) : intB (itoa v) k = true ∧ intV (itoa v) = v := by
  refine ⟨?_, by unfold intV; rw [atoi_itoa]; rfl⟩
  by_cases h0 : 0 ≤ v
  · obtain ⟨u, rfl⟩ := Int.eq_ofNat_of_zero_le h0
    have e : unMinus (decDigits u) = decDigits u := by unfold unMinus; rw [if_neg (dec_no45 u)]
    rw [itoa_nonneg]
    unfold intB
    rw [e, canB_dec, decide_eq_true (dec_len _ u k (Nat.lt_succ_self _) (by simpa using hk) h1)]
    have : decDigits u ≠ [45, 48] := fun h => dec_no45 u (by rw [h]; rfl)
    rw [decide_eq_true this]; rfl
  · obtain ⟨u, hu⟩ : ∃ u : Nat, v = -(u : Int) := ⟨v.natAbs, by omega⟩
    subst hu
    have hu1 : 1 ≤ u := by omega
    rw [itoa_neg u hu1]
    have e : unMinus (45 :: decDigits u) = decDigits u := by unfold unMinus; simp
    unfold intB
    rw [e, canB_dec, decide_eq_true (dec_len _ u k (Nat.lt_succ_self _) (by simpa using hk) h1)]
    have : (45 : UInt8) :: decDigits u ≠ [45, 48] := fun h => by
      have h := (List.cons.inj h).2
      have := decFrom_decDigits _ u (Nat.lt_succ_self _)
      rw [h] at this
      have e0 : decFrom 0 [48] = some 0 := by decide
      rw [e0] at this
      have := Option.some.inj this
      omega
    rw [decide_eq_true this]; rfl
theorem intV_bd {l : List UInt8} {most : Nat} (h : intB l most = true) : (intV l).natAbs < 10 ^ most := by
  have h' := h
  obtain ⟨ha, hi⟩ := int_read h
  unfold intB at h
  simp only [Bool.and_eq_true, decide_eq_true_eq] at h
  obtain ⟨hc, hl, -⟩ := h
  obtain ⟨u, hu, hd, hne⟩ := dec_can hc
  have hlt := decFrom_lt _ _ _ hu
  have hp : 10 ^ (unMinus l).length ≤ 10 ^ most := Nat.pow_le_pow_right (by omega) hl
  have hn : (intV l).natAbs = u := by
    by_cases h45 : l.head? = some 45
    · obtain ⟨r, rfl⟩ : ∃ r, l = 45 :: r := by
        cases l with
        | nil => cases h45
        | cons a t => simp at h45; exact ⟨t, by rw [h45]⟩
      have e : unMinus (45 :: r) = r := by unfold unMinus; simp
      rw [e] at hu hne
      unfold intV atoi
      simp only [beq_self_eq_true, if_true]
      rw [decNat_of hne hu]; simp
    · have e : unMinus l = l := by unfold unMinus; rw [if_neg h45]
      rw [e] at hd
      unfold intV
      rw [← hd, dec_atoi]; simp
  rw [hn]; omega
end Go.Proofs.YthlomgbchmhjiaaGreatDoor

namespace Go.Proofs.YthlomgbchmhjiaaGreatDoor
open Go Go.Lib
theorem idx_one (c : UInt8) : ∀ l : List UInt8, (index l [c] = -1 ∧ c ∉ l) ∨ ∃ a b, l = a ++ c :: b ∧ c ∉ a ∧ index l [c] = (a.length : Int)
  | [] => .inl ⟨rfl, by simp⟩
  | x :: l => by
    unfold index
    by_cases h : c = x
    · subst h
      exact .inr ⟨[], l, rfl, by simp, by simp [List.isPrefixOf]⟩
    · have e : List.isPrefixOf [c] (x :: l) = false := by simp [List.isPrefixOf, h]
      rw [e]
      rcases idx_one c l with ⟨h1, h2⟩ | ⟨a, b, h1, h2, h3⟩
      · exact .inl ⟨by rw [h1]; rfl, by simp [h, h2]⟩
      · refine .inr ⟨x :: a, b, by rw [h1]; rfl, by simp [h, h2], ?_⟩
        have : ¬ index l [c] = -1 := by rw [h3]; omega
        simp only [Bool.false_eq_true, if_false, beq_iff_eq, if_neg this]
        rw [h3]; simp
theorem idx_at (c : UInt8) (t r : List UInt8) : ∀ a : List UInt8, c ∉ a → index (a ++ (c :: t ++ r)) (c :: t) = (a.length : Int)
  | [], _ => by
    show index (c :: (t ++ r)) (c :: t) = _
    unfold index
    have e : List.isPrefixOf (c :: t) (c :: (t ++ r)) = true := by rw [List.isPrefixOf_iff_prefix]; exact ⟨r, rfl⟩
    rw [e]; rfl
  | x :: a, h => by
    show index (x :: (a ++ (c :: t ++ r))) (c :: t) = _
    unfold index
    have hx : c ≠ x := fun e => h (by rw [e]; simp)
    have e : List.isPrefixOf (c :: t) (x :: (a ++ (c :: t ++ r))) = false := by simp [List.isPrefixOf, hx]
    have ih := idx_at c t r a (fun hm => h (by simp [hm]))
    rw [e]
    have : ¬ index (a ++ (c :: t ++ r)) (c :: t) = -1 := by rw [ih]; omega
    simp only [Bool.false_eq_true, if_false, beq_iff_eq, if_neg this]
    rw [ih]; simp
theorem idx_cases (sub : List UInt8) (hs : sub ≠ []) : ∀ l : List UInt8, index l sub = -1 ∨ ∃ a b, l = a ++ (sub ++ b) ∧ index l sub = (a.length : Int)
  | [] => by
    refine .inl ?_
    unfold index
    cases sub with
    | nil => exact absurd rfl hs
    | cons _ _ => rfl
  | x :: l => by
    unfold index
    cases hp : List.isPrefixOf sub (x :: l) with
    | true =>
      rw [List.isPrefixOf_iff_prefix] at hp
      obtain ⟨b, hb⟩ := hp
      exact .inr ⟨[], b, by rw [List.nil_append, hb], by simp⟩
    | false =>
      rcases idx_cases sub hs l with h1 | ⟨a, b, h1, h2⟩
      · exact .inl (by rw [h1]; rfl)
      · refine .inr ⟨x :: a, b, by rw [h1]; rfl, ?_⟩
        have : ¬ index l sub = -1 := by rw [h2]; omega
        simp only [Bool.false_eq_true, if_false, beq_iff_eq, if_neg this]
        rw [h2]; simp
/-- The first place of a byte is one. -/
theorem first_eq (c : UInt8) : ∀ (a a' b b' : List UInt8), a ++ c :: b = a' ++ c :: b' → c ∉ a → c ∉ a' → a = a' ∧ b = b'
  | [], [], b, b', h, _, _ => ⟨rfl, by simpa using h⟩
  | [], x :: a', b, b', h, _, h2 => by
    have := (List.cons.inj h).1
    exact absurd (by rw [this]; simp) h2
  | x :: a, [], b, b', h, h1, _ => by
    have := (List.cons.inj h).1
    exact absurd (by rw [this]; simp) h1
  | x :: a, y :: a', b, b', h, h1, h2 => by
    obtain ⟨e1, e2⟩ := List.cons.inj h
    obtain ⟨e3, e4⟩ := first_eq c a a' b b' e2 (fun hm => h1 (by simp [hm])) (fun hm => h2 (by simp [hm]))
    exact ⟨by rw [e1, e3], e4⟩
theorem take_len {α : Type} (a b : List α) : (a ++ b).take a.length = a := by simp
theorem cut_hit {s sep a b : List UInt8} (h : s = a ++ (sep ++ b)) (hi : index s sep = (a.length : Int)) : cut s sep = (a, b, true) := by
  unfold cut
  rw [hi, if_pos (by omega), Int.toNat_natCast, h, take_len, ← List.append_assoc, List.drop_append, List.drop_eq_nil_of_le (by simp)]
  simp
theorem cut_miss {s sep : List UInt8} (hi : index s sep = -1) : cut s sep = (s, [], false) := by
  unfold cut
  rw [hi, if_neg (by omega)]
/-- Cut at one byte. -/
theorem cut_one (c : UInt8) (l : List UInt8) : (cut l [c] = (l, [], false) ∧ c ∉ l) ∨ ∃ a b, l = a ++ c :: b ∧ c ∉ a ∧ cut l [c] = (a, b, true) := by
  rcases idx_one c l with ⟨h1, h2⟩ | ⟨a, b, h1, h2, h3⟩
  · exact .inl ⟨cut_miss h1, h2⟩
  · exact .inr ⟨a, b, h1, h2, cut_hit h1 h3⟩
/-- Cut at a row of bytes, its first byte told. -/
theorem cut_row (c : UInt8) (t l : List UInt8) : (cut l (c :: t) = (l, [], false) ∧ ∀ a b, l = a ++ c :: b → c ∉ a → ¬ t <+: b) ∨ (∃ a b, l = a ++ (c :: t ++ b) ∧ c ∉ a ∧ cut l (c :: t) = (a, b, true)) ∨
    ∃ a b, c ∈ a ∧ cut l (c :: t) = (a, b, true) ∧ ∀ a b, l = a ++ c :: b → c ∉ a → ¬ t <+: b := by
  rcases idx_cases (c :: t) (by simp) l with h1 | ⟨a, b, h1, h2⟩
  · refine .inl ⟨cut_miss h1, ?_⟩
    rintro a b rfl hc ⟨r, hr⟩
    have := idx_at c t r a hc
    rw [← hr] at h1
    have e : a ++ c :: (t ++ r) = a ++ (c :: t ++ r) := rfl
    rw [e, this] at h1
    omega
  · by_cases hc : c ∈ a
    · refine .inr (.inr ⟨a, b, hc, cut_hit h1 h2, ?_⟩)
      rintro a' b' hl hc' ⟨r, hr⟩
      have := idx_at c t r a' hc'
      have e : l = a' ++ (c :: t ++ r) := by rw [hl, ← hr]; rfl
      rw [← e, h2] at this
      have hlen : a.length = a'.length := by omega
      have h3 : a ++ (c :: t ++ b) = a' ++ (c :: t ++ r) := by rw [← h1, ← e]
      have := List.append_inj_left h3 hlen
      rw [this] at hc
      exact hc' hc
    · exact .inr (.inl ⟨a, b, h1, hc, cut_hit h1 h2⟩)
theorem mem_cut {c d : UInt8} (h : c ≠ d) {l a b : List UInt8} (hl : cut l [d] = (a, b, true)) (hc : c ∈ l) : c ∈ a ∨ c ∈ b := by
  rcases cut_one d l with ⟨h1, -⟩ | ⟨x, y, h1, -, h3⟩
  · rw [hl] at h1; cases h1
  · rw [hl] at h3
    simp only [Prod.mk.injEq] at h3
    obtain ⟨rfl, rfl, -⟩ := h3
    rw [h1] at hc
    simp only [List.mem_append, List.mem_cons] at hc
    rcases hc with hc | hc | hc
    · exact .inl hc
    · exact absurd hc h
    · exact .inr hc
end Go.Proofs.YthlomgbchmhjiaaGreatDoor

namespace Go.Proofs.YthlomgbchmhjiaaGreatDoor
open Go Go.Lib
def p6 : List UInt8 := [80, 54, 10]
def m255 : List UInt8 := [50, 53, 53, 10]
def picH (l : List UInt8) : List UInt8 := trimPrefix l p6
def picC (l : List UInt8) : List UInt8 × List UInt8 × Bool := cut (picH l) [10]
def picR (l : List UInt8) : List UInt8 := trimPrefix (picC l).2.1 m255
def picD (l : List UInt8) : List UInt8 × List UInt8 × Bool := cut (picC l).1 [32]
/-- A side of a picture. -/
def sideB (v : Int) : Bool := decide (1 ≤ v ∧ v ≤ 256)
def picB (l : List UInt8) : Bool := hasPrefix l p6 && ((picC l).2.2 && (hasPrefix (picC l).2.1 m255 && ((picD l).2.2 && (intB (picD l).1 9 && (intB (picD l).2.1 9 && (sideB (intV (picD l).1) && (sideB (intV (picD l).2.1) && decide (((picR l).length : Int) = 3 * intV (picD l).1 * intV (picD l).2.1))))))))
def lawC (l : List UInt8) : List UInt8 × List UInt8 × Bool := cut (picH l) (10 :: m255)
def lawD (l : List UInt8) : List UInt8 × List UInt8 × Bool := cut (lawC l).1 [32]
def atOK (l : List UInt8) : Bool := match atoiAll l with | .ok _ => true | _ => false
def atV (l : List UInt8) : Int := match atoiAll l with | .ok v => v | .range => atoiSat l | _ => 0
/-- What the law asks of a side's text. -/
def sayB (l : List UInt8) : Bool := atOK l && (decide (itoa (atV l) = l) && sideB (atV l))
def lawB (l : List UInt8) : Bool := hasPrefix l p6 && ((lawC l).2.2 && ((lawD l).2.2 && (sayB (lawD l).1 && (sayB (lawD l).2.1 && decide (((lawC l).2.1.length : Int) = 3 * atV (lawD l).1 * atV (lawD l).2.1)))))
theorem sideB_iff {v : Int} : sideB v = true ↔ 1 ≤ v ∧ v ≤ 256 := by unfold sideB; exact decide_eq_true_iff
theorem unMinus_len (l : List UInt8) : l.length ≤ (unMinus l).length + 1 := by
  unfold unMinus
  split
  · rw [List.length_tail]; omega
  · omega
theorem int_at {l : List UInt8} {most : Nat} (hm : most ≤ 17) (h : intB l most = true) : atoiAll l = .ok (intV l) := by
  have h' := h
  unfold intB at h'
  simp only [Bool.and_eq_true, decide_eq_true_eq] at h'
  have := unMinus_len l
  rw [atoiAll_short l (by omega), (int_read h).1]; rfl
theorem side_same (l : List UInt8) : sayB l = (intB l 9 && sideB (intV l)) ∧ (sayB l = true → atV l = intV l) := by
  by_cases h : intB l 9 = true
  · have e := int_at (by omega) h
    have e1 : atOK l = true := by unfold atOK; rw [e]
    have e2 : atV l = intV l := by unfold atV; rw [e]
    refine ⟨?_, fun _ => e2⟩
    unfold sayB
    rw [e1, e2, h, (int_read h).2, decide_eq_true rfl, Bool.true_and, Bool.true_and]
  · have h0 : intB l 9 = false := by simpa using h
    have e : sayB l = false := by
      cases hs : sayB l with
      | false => rfl
      | true =>
        unfold sayB at hs
        simp only [Bool.and_eq_true, decide_eq_true_eq, sideB_iff] at hs
        obtain ⟨-, h2, h3, h4⟩ := hs
        have := (int_write (v := atV l) (k := 9) (by omega) (by omega)).1
        rw [h2] at this
        exact absurd this h
    exact ⟨by rw [e, h0]; rfl, fun h => by rw [e] at h; cases h⟩
theorem dec_no10 (u : Nat) : (10 : UInt8) ∉ decDigits u := fun h => by
  have hc := canB_dec u
  unfold canB at hc
  simp only [Bool.and_eq_true, List.all_eq_true] at hc
  exact absurd (hc.2.1 10 h) (by decide)
theorem itoa_no10 (v : Int) : (10 : UInt8) ∉ itoa v := by
  unfold itoa
  split
  · intro h
    rcases List.mem_cons.1 h with h | h
    · exact absurd h (by decide)
    · exact dec_no10 _ h
  · exact dec_no10 _
theorem say_no10 {l : List UInt8} (h : sayB l = true) : (10 : UInt8) ∉ l := by
  unfold sayB at h
  simp only [Bool.and_eq_true, decide_eq_true_eq] at h
  rw [← h.2.1]; exact itoa_no10 _
theorem prefix_iff (s p : List UInt8) : hasPrefix s p = true ↔ p <+: s := by unfold hasPrefix; exact List.isPrefixOf_iff_prefix
/-- What the law says is what the program reads. -/
theorem law_pic (l : List UInt8) : lawB l = picB l ∧ (picB l = true → lawC l = ((picC l).1, picR l, true) ∧ lawD l = picD l) := by
  have tail : lawC l = ((picC l).1, picR l, true) → (picC l).2.2 = true → hasPrefix (picC l).2.1 m255 = true → lawB l = picB l ∧ (picB l = true → lawC l = ((picC l).1, picR l, true) ∧ lawD l = picD l) := fun h1 h2 h3 => by
    have e : lawD l = picD l := by unfold lawD picD; rw [h1]
    refine ⟨?_, fun _ => ⟨h1, e⟩⟩
    unfold lawB picB
    rw [e, h1, h2, h3]
    obtain ⟨a1, a2⟩ := side_same (picD l).1
    obtain ⟨b1, b2⟩ := side_same (picD l).2.1
    simp only [Bool.true_and]
    by_cases ha : sayB (picD l).1 = true
    · by_cases hb : sayB (picD l).2.1 = true
      · rw [a2 ha, b2 hb, ha, hb]
        rw [ha] at a1
        rw [hb] at b1
        have a1 := a1.symm
        have b1 := b1.symm
        simp only [Bool.and_eq_true] at a1 b1
        rw [a1.1, a1.2, b1.1, b1.2]
        simp only [Bool.true_and]
      · have hb : sayB (picD l).2.1 = false := by simpa using hb
        rw [hb]
        rw [hb] at b1
        have b1 := b1.symm
        simp only [Bool.and_eq_false_iff] at b1
        rcases b1 with b1 | b1 <;> rw [b1] <;> simp
    · have ha : sayB (picD l).1 = false := by simpa using ha
      rw [ha]
      rw [ha] at a1
      have a1 := a1.symm
      simp only [Bool.and_eq_false_iff] at a1
      rcases a1 with a1 | a1 <;> rw [a1] <;> simp
  have no : lawB l = false → picB l = false → lawB l = picB l ∧ (picB l = true → lawC l = ((picC l).1, picR l, true) ∧ lawD l = picD l) := fun h1 h2 => ⟨by rw [h1, h2], fun h => by rw [h2] at h; cases h⟩
  rcases cut_one 10 (picH l) with ⟨h1, h2⟩ | ⟨a, b, h1, h2, h3⟩
  · have e1 : picC l = (picH l, [], false) := h1
    refine no ?_ (by unfold picB; rw [e1]; simp)
    rcases cut_row 10 m255 (picH l) with ⟨h3, -⟩ | ⟨a, b, h3, -, -⟩ | ⟨a, b, h3, h4, -⟩
    · have e2 : lawC l = (picH l, [], false) := h3
      unfold lawB; rw [e2]; simp
    · exact absurd (by rw [h3]; simp) h2
    · rcases idx_cases (10 :: m255) (by simp) (picH l) with h5 | ⟨x, y, h5, -⟩
      · rw [cut_miss h5] at h4; cases h4
      · exact absurd (by rw [h5]; simp) h2
  · have e1 : picC l = (a, b, true) := h3
    by_cases hp : hasPrefix b m255 = true
    · obtain ⟨r, hr⟩ := (prefix_iff _ _).1 hp
      have e3 : picR l = r := by unfold picR; rw [e1]; unfold trimPrefix; rw [if_pos hp, ← hr]; simp [m255]
      refine tail ?_ (by rw [e1]) (by rw [e1]; exact hp)
      rw [e3, e1]
      have hl : picH l = a ++ (10 :: m255 ++ r) := by rw [h1, ← hr]; rfl
      exact cut_hit hl (by rw [hl]; exact idx_at 10 m255 r a h2)
    · have hp0 : hasPrefix b m255 = false := by simpa using hp
      refine no ?_ (by unfold picB; rw [e1]; simp [hp0])
      rcases cut_row 10 m255 (picH l) with ⟨h4, -⟩ | ⟨a', b', h4, h5, -⟩ | ⟨a', b', h4, h5, -⟩
      · have e2 : lawC l = (picH l, [], false) := h4
        unfold lawB; rw [e2]; simp
      · have : a = a' ∧ b = m255 ++ b' := first_eq 10 a a' b (m255 ++ b') (by rw [← h1, h4]; rfl) h2 h5
        exact absurd ((prefix_iff _ _).2 ⟨b', this.2.symm⟩) hp
      · have e2 : lawC l = (a', b', true) := h5
        cases hD : (lawD l).2.2 with
        | false => unfold lawB; rw [hD]; simp
        | true =>
          have hm := mem_cut (c := 10) (d := 32) (by decide) (l := a') (a := (lawD l).1) (b := (lawD l).2.1) (by rw [← hD]; unfold lawD; rw [e2]) h4
          unfold lawB
          rcases hm with hm | hm
          · have : sayB (lawD l).1 = false := by
              cases hs : sayB (lawD l).1 with
              | false => rfl
              | true => exact absurd hm (say_no10 hs)
            rw [this]; simp
          · have : sayB (lawD l).2.1 = false := by
              cases hs : sayB (lawD l).2.1 with
              | false => rfl
              | true => exact absurd hm (say_no10 hs)
            rw [this]; simp
end Go.Proofs.YthlomgbchmhjiaaGreatDoor

namespace Go.Proofs.YthlomgbchmhjiaaGreatDoor
open Go Go.RowKit Go.Lib Go.Sort
theorem var_lt {P : Program} {w : World} {n : String} {g : Nat} {cs : Array Value} (hg : P.globalNamed n = some g) (h : w.var? P n = some cs) : g < w.heap.size := by
  unfold World.var? at h
  simp only [hg, Option.bind_some] at h
  rcases Nat.lt_or_ge g w.heap.size with h' | h'
  · exact h'
  · rw [Array.getElem?_eq_none h'] at h; cases h
/-- What the library's variables hold in a world. -/
structure LibW (w : World) : Prop where
  len : ∃ m, w.cell? ⟨0, 0, none⟩ = some (.int .i64 m)
  tab : Lib.TabIs Tryz.prog w "internal/strconv.uint64pow10" .u64 Lib.pow10Tab
  syn : ∃ tp p, w.var? Tryz.prog "strconv.ErrSyntax" = some #[.iface tp p]
  rng : ∃ tp p, w.var? Tryz.prog "strconv.ErrRange" = some #[.iface tp p]
theorem gTab : Tryz.prog.globalNamed "internal/strconv.uint64pow10" = some 6 := by kernel_rfl
theorem gSyn : Tryz.prog.globalNamed "strconv.ErrSyntax" = some 4 := by kernel_rfl
theorem gRng : Tryz.prog.globalNamed "strconv.ErrRange" = some 5 := by kernel_rfl
theorem LibW.past {w w' : World} (h : LibW w) (hb : Below w.heap.size w w') : LibW w' := by
  obtain ⟨⟨m, h1⟩, h2, ⟨t3, p3, h3⟩, ⟨t4, p4, h4⟩⟩ := h
  refine ⟨⟨m, ?_⟩, ?_, ⟨t3, p3, ?_⟩, ⟨t4, p4, ?_⟩⟩
  · rw [hb.cell (p := ⟨0, 0, none⟩) (cell_lt h1)]; exact h1
  · exact var?_below hb gTab (var_lt gTab h2) h2
  · exact var?_below hb gSyn (var_lt gSyn h3) h3
  · exact var?_below hb gRng (var_lt gRng h4) h4
theorem below_grow (w : World) (k : Nat) (os : Array Obj) : Below w.heap.size w (grow (w.drewN k) os) :=
  ⟨rfl, rfl, rfl, by show w.heap.size ≤ (w.heap ++ os).size; simp, fun j hj => by show (w.heap ++ os)[j]? = _; rw [Array.getElem?_append_left hj]⟩
theorem below_bytes (w : World) (e : TypeId) (s : ByteArray) : Below w.heap.size w (Lib.bytesWorld w e s) :=
  Lib.bytesWorld_below w e s
theorem Cut_any (s sep : ByteArray) (w : World) (h : LibW w) (hs : s.size < 4294967281) : Calls Tryz.prog 17 #[.string s, .string sep] w fun e w' => e = .returned (.tuple #[.string ⟨(Lib.cut s.data.toList sep.data.toList).1.toArray⟩, .string ⟨(Lib.cut s.data.toList sep.data.toList).2.1.toArray⟩, .bool (Lib.cut s.data.toList sep.data.toList).2.2]) ∧ Below w.heap.size w w' := by
  obtain ⟨m, hm⟩ := h.len
  refine (Tryz.strings_Cut s sep m w hs hm).mono ?_
  rintro e w' ⟨rfl, n, rfl⟩
  exact ⟨rfl, below_drewN (Below.refl _ _) n⟩
theorem Itoa_any (n : Int) (w : World) (h : LibW w) (h0 : -9223372036854775808 ≤ n) (h1 : n ≤ 9223372036854775807) : Calls Tryz.prog 41 #[.int .i64 n] w fun e w' => e = .returned (.string ⟨(Lib.itoa n).toArray⟩) ∧ Below w.heap.size w w' := by
  refine (Tryz.strconv_Itoa n h0 h1 w h.tab).mono ?_
  rintro e w' ⟨rfl, k, os, rfl⟩
  exact ⟨rfl, below_grow w k os⟩
/-- The error of a text that is no number. -/
def errV : NumEnd Int → Nat → Value
  | .ok _, _ => .nilIface
  | _, N => .iface 208 (.pointer (some ⟨N, 0, none⟩))
theorem Atoi_any (s : ByteArray) (w : World) (h : LibW w) (hs : s.size ≤ 281474976710656) : Calls Tryz.prog 56 #[.string s] w fun e w' => (∃ N, e = .returned (.tuple #[.int .i64 (atV s.data.toList), errV (Lib.atoiAll s.data.toList) N])) ∧ Below w.heap.size w w' := by
  unfold atV
  cases ha : Lib.atoiAll s.data.toList with
  | ok v =>
    refine (Tryz.strconv_Atoi_ok s (by omega) v ha w).mono ?_
    rintro e w' ⟨rfl, hw⟩
    refine ⟨⟨0, rfl⟩, ?_⟩
    rcases hw with rfl | ⟨t, rfl⟩
    · exact Below.refl _ _
    · exact below_bytes _ _ _
  | range =>
    obtain ⟨tp, p, hv⟩ := h.rng
    refine (Tryz.strconv_Atoi_range_var s hs ha tp p w hv).mono ?_
    rintro e w' ⟨N, rfl, -, -, hb⟩
    exact ⟨⟨N, rfl⟩, hb⟩
  | _ =>
    obtain ⟨tp, p, hv⟩ := h.syn
    refine (Tryz.strconv_Atoi_syntax_var s hs ha tp p w hv).mono ?_
    rintro e w' ⟨N, rfl, -, -, hb⟩
    exact ⟨⟨N, rfl⟩, hb⟩
end Go.Proofs.YthlomgbchmhjiaaGreatDoor

namespace Go.Proofs.YthlomgbchmhjiaaGreatDoor
open Go Go.RowKit
def setD : ByteArray := ⟨#[48, 49, 50, 51, 52, 53, 54, 55, 56, 57]⟩
theorem trimD_any (s : ByteArray) (w : World) (hs : s.size ≤ 9223372036854775807) : Calls Tryz.prog 55 #[.string s, .string setD] w fun e w' => e = .returned (.string ⟨(Lib.trimS s.data.toList setD.data.toList).toArray⟩) ∧ Below w.heap.size w w' :=
  Any.strings_Trim_laid Tryz.lays160 (by kernel_rfl) s setD w hs (by decide) (ascii_of_all (by decide))
theorem dig_has : ∀ n, n < 256 → setD.data.toList.contains (UInt8.ofNat n) = digB (UInt8.ofNat n) := by decide +kernel
theorem dig_of (b : UInt8) : setD.data.toList.contains b = digB b := by
  have h := dig_has b.toNat b.toNat_lt
  rwa [UInt8.ofNat_toNat] at h
theorem drop_nil {α : Type} (p : α → Bool) : ∀ l : List α, (l.dropWhile p).isEmpty = l.all p
  | [] => rfl
  | x :: l => by
    rw [List.dropWhile_cons, List.all_cons]
    cases p x with
    | true => simp only [if_true, Bool.true_and]; exact drop_nil p l
    | false => rfl
theorem drop_head {α : Type} (p : α → Bool) : ∀ l : List α, ∀ x r, l.dropWhile p = x :: r → p x = false
  | [], x, r, h => by cases h
  | y :: l, x, r, h => by
    rw [List.dropWhile_cons] at h
    cases hy : p y with
    | true => rw [hy] at h; exact drop_head p l x r h
    | false => rw [hy] at h; cases h; exact hy
theorem trim_empty (l cs : List UInt8) : (Lib.trimS l cs).isEmpty = l.all (cs.contains ·) := by
  unfold Lib.trimS Lib.trimLeftS Lib.trimRightS
  rw [drop_nil, List.all_reverse]
  cases h : (l.reverse.dropWhile fun x => cs.contains x) with
  | nil =>
    have := drop_nil (fun x => cs.contains x) l.reverse
    rw [h, List.all_reverse] at this
    rw [← this]; rfl
  | cons x r =>
    have h1 := drop_head _ _ _ _ h
    have h2 := drop_nil (fun x => cs.contains x) l.reverse
    rw [h, List.all_reverse] at h2
    rw [← h2, List.all_cons, h1]; rfl
theorem trim_digits (l : List UInt8) : (Lib.trimS l setD.data.toList).isEmpty = l.all digB := by
  rw [trim_empty]; congr 1; funext b; exact dig_of b
theorem trim_minus (l : List UInt8) : Lib.trimPrefix l [45] = unMinus l := by
  unfold Lib.trimPrefix Lib.hasPrefix unMinus
  cases l with
  | nil => rfl
  | cons a t =>
    by_cases h : a = 45
    · subst h; simp [List.isPrefixOf]
    · have h' : ¬ 45 = a := fun e => h e.symm
      simp [List.isPrefixOf, h, h']
/-- What num.Integer hands back. -/
def intR (l : List UInt8) (most : Nat) : Int := if intB l most then intV l else 0
def IntRes (l : List UInt8) (most : Nat) (w : World) (e : Ending) (w' : World) : Prop := e = .returned (.tuple #[.int .i64 (intR l most), .bool (intB l most)]) ∧ Below w.heap.size w w'
theorem intRes_no {l : List UInt8} {most : Nat} {w w' : World} {e : Ending} (h : intB l most = false) (he : e = .returned (.tuple #[.int .i64 0, .bool false])) (hb : Below w.heap.size w w') : IntRes l most w e w' := by
  unfold IntRes intR
  rw [h]; exact ⟨he, hb⟩
theorem str_nil {d : ByteArray} : d.toList = [] ↔ d.data.toList = [] := by rw [ByteArray.toList_eq]
theorem str_size {d : ByteArray} : d.size = d.data.toList.length := Lib.size_eq d
theorem not_can {l : List UInt8} {most : Nat} (h : unMinus l = [] ∨ most < (unMinus l).length ∨ (unMinus l).all digB = false ∨ (1 < (unMinus l).length ∧ (unMinus l).head? = some 48) ∨ l = [45, 48]) : intB l most = false := by
  unfold intB canB
  rcases h with h | h | h | ⟨h, h2⟩ | h
  · rw [h]; rfl
  · rw [decide_eq_false (show ¬ (unMinus l).length ≤ most by omega)]; simp
  · rw [h]; simp
  · rw [decide_eq_true h, decide_eq_true h2]; simp
  · rw [decide_eq_false (show ¬ l ≠ [45, 48] by simp [h])]; simp
theorem is_can {l : List UInt8} {most : Nat} (h1 : unMinus l ≠ []) (h2 : ¬ most < (unMinus l).length) (h3 : (unMinus l).all digB = true) (h4 : ¬ (1 < (unMinus l).length ∧ (unMinus l).head? = some 48)) (h5 : l ≠ [45, 48]) : intB l most = true := by
  unfold intB canB
  have e : (unMinus l).isEmpty = false := by
    cases h : unMinus l with
    | nil => exact absurd h h1
    | cons _ _ => rfl
  have e4 : (decide (1 < (unMinus l).length) && decide ((unMinus l).head? = some 48)) = false := by
    rw [Bool.and_eq_false_iff, decide_eq_false_iff_not, decide_eq_false_iff_not]
    by_cases h : 1 < (unMinus l).length
    · exact .inr fun h' => h4 ⟨h, h'⟩
    · exact .inl h
  rw [e, h3, e4, decide_eq_true (show (unMinus l).length ≤ most by omega), decide_eq_true h5]; rfl
theorem head_at {d : ByteArray} (h : 0 < d.size) : d.data.toList.head? = some d[0] := by
  have hl : 0 < d.data.toList.length := by rw [← str_size]; exact h
  cases hd : d.data.toList with
  | nil => rw [hd] at hl; simp at hl
  | cons a t =>
    have e : d[0] = d.data.toList[0] := rfl
    rw [e]
    simp only [hd, List.head?_cons, List.getElem_cons_zero]
theorem byte_48 (b : UInt8) : ((b.toNat : Int) == 48) = decide (b = 48) := by
  by_cases h : b = 48
  · subst h; rfl
  · have : ¬ (b.toNat : Int) = 48 := fun e => h (UInt8.toNat_inj.1 (by show b.toNat = 48; omega))
    rw [decide_eq_false h]; simpa using this
theorem str_eq {a : ByteArray} {l : List UInt8} : (a.toList == l) = decide (a.data.toList = l) := by
  rw [ByteArray.toList_eq]
  by_cases h : a.data.toList = l
  · rw [decide_eq_true h, h]; simp
  · rw [decide_eq_false h]; simpa using h
set_option maxRecDepth 100000 in
set_option maxHeartbeats 3200000 in
theorem Integer_any (s : ByteArray) (most : Nat) (w : World) (hL : LibW w) (hs : s.size ≤ 281474976710656) (hm : most ≤ 17) : Calls Tryz.prog 36 #[.string s, .int .i64 most] w (IntRes s.data.toList most w) := by
  obtain ⟨d, hd⟩ : ∃ d : ByteArray, d = ⟨(Lib.trimPrefix s.data.toList [45]).toArray⟩ := ⟨_, rfl⟩
  have HD : Hid (d.data.toList = unMinus s.data.toList) := Lib.hid (by rw [hd, ← trim_minus])
  have HP : Hid (∀ w', Calls Tryz.prog 54 #[.string s, .string ⟨#[45]⟩] w' fun e w'' => e = .returned (.string d) ∧ w'' = w') := Lib.hid (fun w' => by rw [hd]; exact Tryz.strings_TrimPrefix s ⟨#[45]⟩ w')
  clear hd
  have hml : (most : Int) ≤ 17 := by omega
  by_cases c1 : d.toList = []
  · have c2 : d.toList.isEmpty = true := by rw [c1]; rfl
    have HN := Lib.hid (intRes_no (w := w) (e := .returned (.tuple #[.int .i64 0, .bool false])) (most := most) (not_can (.inl (by rw [← HD.out]; exact str_nil.1 c1))) rfl (Below.refl _ _))
    go_enter Tryz.func36, Tryz.ntmps36
    go_wp2_with (go_at_call 54; refine (HP.out _).mono ?_; rintro e w1 ⟨rfl, rfl⟩)
    go_ret2
    exact HN.out
  · have c2 : d.toList.isEmpty = false := by simpa using c1
    have C1 : Hid (d.data.toList ≠ []) := Lib.hid (fun h => c1 (str_nil.2 h))
    by_cases c3 : most < d.size
    · have c3' : decide (most < d.size) = true := by simpa using c3
      have HN := Lib.hid (intRes_no (w := w) (e := .returned (.tuple #[.int .i64 0, .bool false])) (most := most) (not_can (.inr (.inl (by rw [← HD.out, ← str_size]; exact c3)))) rfl (Below.refl _ _))
      go_enter Tryz.func36, Tryz.ntmps36
      go_wp2_with (go_at_call 54; refine (HP.out _).mono ?_; rintro e w1 ⟨rfl, rfl⟩)
      go_ret2
      exact HN.out
    · have c3' : decide (most < d.size) = false := by simpa using c3
      obtain ⟨t, ht⟩ : ∃ t : ByteArray, t = ⟨(Lib.trimS d.data.toList setD.data.toList).toArray⟩ := ⟨_, rfl⟩
      have HT : Hid (∀ w', Calls Tryz.prog 55 #[.string d, .string setD] w' fun e w'' => e = .returned (.string t) ∧ Below w'.heap.size w' w'') := Lib.hid (fun w' => by rw [ht]; exact trimD_any d w' (by omega))
      have HE : Hid (t.data.toList.isEmpty = (unMinus s.data.toList).all digB) := Lib.hid (by rw [ht, ← HD.out]; exact trim_digits _)
      clear ht
      by_cases c5 : t.toList = []
      · have c6 : t.toList.isEmpty = true := by rw [c5]; rfl
        have h0 : 0 < d.size := by
          rw [str_size]; exact List.length_pos_iff.2 C1.out
        have H0 := Lib.hid (head_at h0)
        have HA : Hid ((unMinus s.data.toList).all digB = true) := Lib.hid (by rw [← HE.out, str_nil.1 c5]; rfl)
        have go1 : ∀ (c7 : decide ((1 : Int) < (d.size : Int)) = true) (c8 : ((d[0].toNat : Int) == 48) = true), Calls Tryz.prog 36 #[.string s, .int .i64 most] w (IntRes s.data.toList most w) := fun c7 c8 => by
          have HN : Hid (∀ w', Below w.heap.size w w' → IntRes s.data.toList most w (.returned (.tuple #[.int .i64 0, .bool false])) w') := Lib.hid (fun w' hb => intRes_no (not_can (.inr (.inr (.inr (.inl ⟨by rw [← HD.out, ← str_size]; have := of_decide_eq_true c7; omega, by rw [← HD.out, H0.out]; rw [byte_48] at c8; rw [of_decide_eq_true c8]⟩))))) rfl hb)
          clear hL HE HA H0 C1 HD
          go_enter Tryz.func36, Tryz.ntmps36
          go_wp2_with (first | (go_at_call 54; refine (HP.out _).mono ?_; rintro e w1 ⟨rfl, rfl⟩) | (go_at_call 55; refine (HT.out _).mono ?_; rintro e w2 ⟨rfl, hb2⟩))
          go_ret2
          exact HN.out _ hb2
        have go2 : ∀ (c9 : (s.toList == [45, 48]) = true), (decide ((1 : Int) < (d.size : Int)) = false ∨ decide ((1 : Int) < (d.size : Int)) = true ∧ ((d[0].toNat : Int) == 48) = false) → Calls Tryz.prog 36 #[.string s, .int .i64 most] w (IntRes s.data.toList most w) := fun c9 c10 => by
          have HN : Hid (∀ w', Below w.heap.size w w' → IntRes s.data.toList most w (.returned (.tuple #[.int .i64 0, .bool false])) w') := Lib.hid (fun w' hb => intRes_no (not_can (.inr (.inr (.inr (.inr (by rw [str_eq] at c9; exact of_decide_eq_true c9)))))) rfl hb)
          clear hL HE HA H0 C1 HD
          rcases c10 with c10 | ⟨c10, c11⟩
          · go_enter Tryz.func36, Tryz.ntmps36
            go_wp2_with (first | (go_at_call 54; refine (HP.out _).mono ?_; rintro e w1 ⟨rfl, rfl⟩) | (go_at_call 55; refine (HT.out _).mono ?_; rintro e w2 ⟨rfl, hb2⟩))
            go_ret2
            exact HN.out _ hb2
          · go_enter Tryz.func36, Tryz.ntmps36
            go_wp2_with (first | (go_at_call 54; refine (HP.out _).mono ?_; rintro e w1 ⟨rfl, rfl⟩) | (go_at_call 55; refine (HT.out _).mono ?_; rintro e w2 ⟨rfl, hb2⟩))
            go_ret2
            exact HN.out _ hb2
        have go3 : ∀ (c9 : (s.toList == [45, 48]) = false), (decide ((1 : Int) < (d.size : Int)) = false ∨ decide ((1 : Int) < (d.size : Int)) = true ∧ ((d[0].toNat : Int) == 48) = false) → Calls Tryz.prog 36 #[.string s, .int .i64 most] w (IntRes s.data.toList most w) := fun c9 c10 => by
          have hB : intB s.data.toList most = true := is_can (by rw [← HD.out]; exact C1.out) (by rw [← HD.out, ← str_size]; exact c3) HA.out (by
            rintro ⟨h1, h2⟩
            rw [← HD.out, ← str_size] at h1
            rw [← HD.out, H0.out] at h2
            rcases c10 with c10 | ⟨-, c11⟩
            · have := of_decide_eq_false c10; omega
            · rw [byte_48] at c11; exact of_decide_eq_false c11 (Option.some.inj h2)) (by rw [str_eq] at c9; exact of_decide_eq_false c9)
          have HN : Hid (∀ w', Below w.heap.size w w' → IntRes s.data.toList most w (.returned (.tuple #[.int .i64 (intV s.data.toList), .bool true])) w') := Lib.hid (fun w' hb => by unfold IntRes intR; rw [hB]; exact ⟨rfl, hb⟩)
          have HI : Hid (∀ w', LibW w' → Calls Tryz.prog 56 #[.string s] w' fun e w'' => e = .returned (.tuple #[.int .i64 (intV s.data.toList), .nilIface]) ∧ Below w'.heap.size w' w'') := Lib.hid (fun w' h' => by
            refine (Atoi_any s w' h' hs).mono ?_
            rintro e w'' ⟨⟨N, rfl⟩, hb⟩
            have e1 := int_at hm hB
            refine ⟨?_, hb⟩
            unfold atV
            rw [e1]; rfl)
          have HL := Lib.hid hL
          clear hL HE HA H0 C1 HD hB
          rcases c10 with c10 | ⟨c10, c11⟩
          · go_enter Tryz.func36, Tryz.ntmps36
            go_wp2_with (first | (go_at_call 54; refine (HP.out _).mono ?_; rintro e w1 ⟨rfl, rfl⟩) | (go_at_call 55; refine (HT.out _).mono ?_; rintro e w2 ⟨rfl, hb2⟩) | (go_at_call 56; refine (HI.out _ (HL.out.past hb2)).mono ?_; rintro e w3 ⟨rfl, hb3⟩))
            go_quiet (fail)
            go_wp2_with fail
            go_ret2
            exact HN.out _ (by (repeat (first | exact Below.refl _ _ | assumption | (refine Below.setCell ?_ (by first | (simp; done) | (simp; omega) | omega) _) | (refine Below.drew ?_) | (refine below_drewN ?_ _) | (refine Below.alloc ?_ (by first | (simp; done) | (simp; omega) | omega) _) | (refine Below.trans ?_ (Below.mono (by assumption) (by first | (simp; done) | (simp; omega) | omega))))); exact hb2.trans (hb3.mono hb2.size))
          · go_enter Tryz.func36, Tryz.ntmps36
            go_wp2_with (first | (go_at_call 54; refine (HP.out _).mono ?_; rintro e w1 ⟨rfl, rfl⟩) | (go_at_call 55; refine (HT.out _).mono ?_; rintro e w2 ⟨rfl, hb2⟩) | (go_at_call 56; refine (HI.out _ (HL.out.past hb2)).mono ?_; rintro e w3 ⟨rfl, hb3⟩))
            go_quiet (fail)
            go_wp2_with fail
            go_ret2
            exact HN.out _ (by (repeat (first | exact Below.refl _ _ | assumption | (refine Below.setCell ?_ (by first | (simp; done) | (simp; omega) | omega) _) | (refine Below.drew ?_) | (refine below_drewN ?_ _) | (refine Below.alloc ?_ (by first | (simp; done) | (simp; omega) | omega) _) | (refine Below.trans ?_ (Below.mono (by assumption) (by first | (simp; done) | (simp; omega) | omega))))); exact hb2.trans (hb3.mono hb2.size))
        cases c7 : decide ((1 : Int) < (d.size : Int))
        · cases c9 : (s.toList == [45, 48])
          · exact go3 c9 (.inl c7)
          · exact go2 c9 (.inl c7)
        · cases c8 : ((d[0].toNat : Int) == 48)
          · cases c9 : (s.toList == [45, 48])
            · exact go3 c9 (.inr ⟨c7, c8⟩)
            · exact go2 c9 (.inr ⟨c7, c8⟩)
          · exact go1 c7 c8
      · have c6 : t.toList.isEmpty = false := by simpa using c5
        have HN : Hid (∀ w', Below w.heap.size w w' → IntRes s.data.toList most w (.returned (.tuple #[.int .i64 0, .bool false])) w') := Lib.hid (fun w' hb => intRes_no (not_can (.inr (.inr (.inl (by
          rw [← HE.out]
          cases h : t.data.toList with
          | nil => exact absurd (str_nil.2 h) c5
          | cons _ _ => rfl))))) rfl hb)
        clear hL HE C1 HD
        go_enter Tryz.func36, Tryz.ntmps36
        go_wp2_with (first | (go_at_call 54; refine (HP.out _).mono ?_; rintro e w1 ⟨rfl, rfl⟩) | (go_at_call 55; refine (HT.out _).mono ?_; rintro e w2 ⟨rfl, hb2⟩))
        go_ret2
        exact HN.out _ hb2
end Go.Proofs.YthlomgbchmhjiaaGreatDoor
