/- Texts cut at a first place: the plain laws of strings.Index and strings.Cut that the laws of pictures and journals want. Conditions: those named (plain). -/
import Derived.Lib.CutLaws
import Derived.Lib.Strings
namespace Go.Proofs.YtjcakbikpficbaaGreatDoor
open Go Go.Lib
theorem idx_one (c : UInt8) : ∀ l : List UInt8, (index l [c] = -1 ∧ c ∉ l) ∨ ∃ a b, l = a ++ c :: b ∧ c ∉ a ∧ index l [c] = (a.length : Int)
  | [] => .inl ⟨rfl, by simp⟩
  | x :: l => by
    unfold index
    by_cases h : c = x
    · subst h
      exact .inr ⟨[], l, rfl, by simp, by simp [List.isPrefixOf]⟩
    · have e : List.isPrefixOf [c] (x :: l) = false := by simp [List.isPrefixOf, h]
      rw [e]
      rcases idx_one c l with ⟨h1, h2⟩ | ⟨a, b, h1, h2, h3⟩
      · exact .inl ⟨by rw [h1]; rfl, by simp [h, h2]⟩
      · refine .inr ⟨x :: a, b, by rw [h1]; rfl, by simp [h, h2], ?_⟩
        have : ¬ index l [c] = -1 := by rw [h3]; omega
        simp only [Bool.false_eq_true, if_false, beq_iff_eq, if_neg this]
        rw [h3]; simp
theorem idx_at (c : UInt8) (t r : List UInt8) : ∀ a : List UInt8, c ∉ a → index (a ++ (c :: t ++ r)) (c :: t) = (a.length : Int)
  | [], _ => by
    show index (c :: (t ++ r)) (c :: t) = _
    unfold index
    have e : List.isPrefixOf (c :: t) (c :: (t ++ r)) = true := by rw [List.isPrefixOf_iff_prefix]; exact ⟨r, rfl⟩
    rw [e]; rfl
  | x :: a, h => by
    show index (x :: (a ++ (c :: t ++ r))) (c :: t) = _
    unfold index
    have hx : c ≠ x := fun e => h (by rw [e]; simp)
    have e : List.isPrefixOf (c :: t) (x :: (a ++ (c :: t ++ r))) = false := by simp [List.isPrefixOf, hx]
    have ih := idx_at c t r a (fun hm => h (by simp [hm]))
    rw [e]
    have : ¬ index (a ++ (c :: t ++ r)) (c :: t) = -1 := by rw [ih]; omega
    simp only [Bool.false_eq_true, if_false, beq_iff_eq, if_neg this]
    rw [ih]; simp
theorem idx_cases (sub : List UInt8) (hs : sub ≠ []) : ∀ l : List UInt8, index l sub = -1 ∨ ∃ a b, l = a ++ (sub ++ b) ∧ index l sub = (a.length : Int)
  | [] => by
    refine .inl ?_
    unfold index
    cases sub with
    | nil => exact absurd rfl hs
    | cons _ _ => rfl
  | x :: l => by
    unfold index
    cases hp : List.isPrefixOf sub (x :: l) with
    | true =>
      rw [List.isPrefixOf_iff_prefix] at hp
      obtain ⟨b, hb⟩ := hp
      exact .inr ⟨[], b, by rw [List.nil_append, hb], by simp⟩
    | false =>
      rcases idx_cases sub hs l with h1 | ⟨a, b, h1, h2⟩
      · exact .inl (by rw [h1]; rfl)
      · refine .inr ⟨x :: a, b, by rw [h1]; rfl, ?_⟩
        have : ¬ index l sub = -1 := by rw [h2]; omega
        simp only [Bool.false_eq_true, if_false, beq_iff_eq, if_neg this]
        rw [h2]; simp
/-- The first place of a byte is one. -/
theorem first_eq (c : UInt8) : ∀ (a a' b b' : List UInt8), a ++ c :: b = a' ++ c :: b' → c ∉ a → c ∉ a' → a = a' ∧ b = b'
  | [], [], b, b', h, _, _ => ⟨rfl, by simpa using h⟩
  | [], x :: a', b, b', h, _, h2 => by
    have := (List.cons.inj h).1
    exact absurd (by rw [this]; simp) h2
  | x :: a, [], b, b', h, h1, _ => by
    have := (List.cons.inj h).1
    exact absurd (by rw [this]; simp) h1
  | x :: a, y :: a', b, b', h, h1, h2 => by
    obtain ⟨e1, e2⟩ := List.cons.inj h
    obtain ⟨e3, e4⟩ := first_eq c a a' b b' e2 (fun hm => h1 (by simp [hm])) (fun hm => h2 (by simp [hm]))
    exact ⟨by rw [e1, e3], e4⟩
theorem take_len {α : Type} (a b : List α) : (a ++ b).take a.length = a := by simp
theorem cut_hit {s sep a b : List UInt8} (h : s = a ++ (sep ++ b)) (hi : index s sep = (a.length : Int)) : cut s sep = (a, b, true) := by
  unfold cut
  rw [hi, if_pos (by omega), Int.toNat_natCast, h, take_len, ← List.append_assoc, List.drop_append, List.drop_eq_nil_of_le (by simp)]
  simp
theorem cut_miss {s sep : List UInt8} (hi : index s sep = -1) : cut s sep = (s, [], false) := by
  unfold cut
  rw [hi, if_neg (by omega)]
/-- Cut at one byte. -/
theorem cut_one (c : UInt8) (l : List UInt8) : (cut l [c] = (l, [], false) ∧ c ∉ l) ∨ ∃ a b, l = a ++ c :: b ∧ c ∉ a ∧ cut l [c] = (a, b, true) := by
  rcases idx_one c l with ⟨h1, h2⟩ | ⟨a, b, h1, h2, h3⟩
  · exact .inl ⟨cut_miss h1, h2⟩
  · exact .inr ⟨a, b, h1, h2, cut_hit h1 h3⟩
/-- Cut at a row of bytes, its first byte told. -/
theorem cut_row (c : UInt8) (t l : List UInt8) : (cut l (c :: t) = (l, [], false) ∧ ∀ a b, l = a ++ c :: b → c ∉ a → ¬ t <+: b) ∨ (∃ a b, l = a ++ (c :: t ++ b) ∧ c ∉ a ∧ cut l (c :: t) = (a, b, true)) ∨
    ∃ a b, c ∈ a ∧ cut l (c :: t) = (a, b, true) ∧ ∀ a b, l = a ++ c :: b → c ∉ a → ¬ t <+: b := by
  rcases idx_cases (c :: t) (by simp) l with h1 | ⟨a, b, h1, h2⟩
  · refine .inl ⟨cut_miss h1, ?_⟩
    rintro a b rfl hc ⟨r, hr⟩
    have := idx_at c t r a hc
    rw [← hr] at h1
    have e : a ++ c :: (t ++ r) = a ++ (c :: t ++ r) := rfl
    rw [e, this] at h1
    omega
  · by_cases hc : c ∈ a
    · refine .inr (.inr ⟨a, b, hc, cut_hit h1 h2, ?_⟩)
      rintro a' b' hl hc' ⟨r, hr⟩
      have := idx_at c t r a' hc'
      have e : l = a' ++ (c :: t ++ r) := by rw [hl, ← hr]; rfl
      rw [← e, h2] at this
      have hlen : a.length = a'.length := by omega
      have h3 : a ++ (c :: t ++ b) = a' ++ (c :: t ++ r) := by rw [← h1, ← e]
      have := List.append_inj_left h3 hlen
      rw [this] at hc
      exact hc' hc
    · exact .inr (.inl ⟨a, b, h1, hc, cut_hit h1 h2⟩)
theorem mem_cut {c d : UInt8} (h : c ≠ d) {l a b : List UInt8} (hl : cut l [d] = (a, b, true)) (hc : c ∈ l) : c ∈ a ∨ c ∈ b := by
  rcases cut_one d l with ⟨h1, -⟩ | ⟨x, y, h1, -, h3⟩
  · rw [hl] at h1; cases h1
  · rw [hl] at h3
    simp only [Prod.mk.injEq] at h3
    obtain ⟨rfl, rfl, -⟩ := h3
    rw [h1] at hc
    simp only [List.mem_append, List.mem_cons] at hc
    rcases hc with hc | hc | hc
    · exact .inl hc
    · exact absurd hc h
    · exact .inr hc
end Go.Proofs.YtjcakbikpficbaaGreatDoor
