/- Texts of nodes tell the nodes apart. No program. No condition. -/
import Derived.Test.YtbaocallhnehfaaGreatDoorPrP
import Derived.Lib.ItoaNum
set_option linter.unusedVariables false
namespace Go.Proofs.YtbaocallhnehfaaGreatDoor
open Go Go.RowKit
def valD (l : List UInt8) : Nat := l.foldl (fun a d => a * 10 + (d.toNat - 48)) 0
theorem valD_app (l : List UInt8) (d : UInt8) : valD (l ++ [d]) = valD l * 10 + (d.toNat - 48) := by unfold valD; rw [List.foldl_append]; rfl
theorem dec_digit {u : Nat} (h : u < 10) : (UInt8.ofNat (48 + u)).toNat = 48 + u := by
  have : ∀ u, u < 10 → (UInt8.ofNat (48 + u)).toNat = 48 + u := by decide
  exact this u h
theorem dec_val (u : Nat) : valD (Lib.decDigits u) = u := by
  induction u using Nat.strongRecOn with
  | _ u ih =>
    rw [Lib.decDigits]
    by_cases h : u < 10
    · rw [dif_pos h]
      show 0 * 10 + ((UInt8.ofNat (48 + u)).toNat - 48) = u
      rw [dec_digit h]; omega
    · rw [dif_neg h, valD_app, ih (u / 10) (by omega), dec_digit (Nat.mod_lt _ (by decide))]; omega
theorem dec_mem (u : Nat) : ∀ d ∈ Lib.decDigits u, 48 ≤ d.toNat ∧ d.toNat ≤ 57 := by
  induction u using Nat.strongRecOn with
  | _ u ih =>
    intro d hd
    rw [Lib.decDigits] at hd
    by_cases h : u < 10
    · rw [dif_pos h] at hd
      rw [List.mem_singleton.1 hd, dec_digit h]; omega
    · rw [dif_neg h] at hd
      rcases List.mem_append.1 hd with h1 | h1
      · exact ih (u / 10) (by omega) d h1
      · have := Nat.mod_lt u (show 10 > 0 by decide)
        rw [List.mem_singleton.1 h1, dec_digit this]; omega
theorem dec_inj {u v : Nat} (h : Lib.decDigits u = Lib.decDigits v) : u = v := by rw [← dec_val u, h, dec_val]
theorem itoa_inj {i j : Int} (h : Lib.itoa i = Lib.itoa j) : i = j := by
  unfold Lib.itoa at h
  by_cases hi : i < 0
  · by_cases hj : j < 0
    · rw [if_pos hi, if_pos hj] at h
      have := dec_inj (List.cons.inj h).2; omega
    · rw [if_pos hi, if_neg hj] at h
      have h1 := dec_mem j.toNat 45 (by rw [← h]; simp)
      exact absurd h1.1 (by decide)
  · by_cases hj : j < 0
    · rw [if_neg hi, if_pos hj] at h
      have h1 := dec_mem i.toNat 45 (by rw [h]; simp)
      exact absurd h1.1 (by decide)
    · rw [if_neg hi, if_neg hj] at h
      have := dec_inj h; omega
theorem itoa_mem (i : Int) : ∀ d ∈ Lib.itoa i, d ≠ 32 := by
  intro d hd e
  subst e
  unfold Lib.itoa at hd
  split at hd
  · rcases List.mem_cons.1 hd with h | h
    · exact absurd h (by decide)
    · exact absurd (dec_mem _ _ h).1 (by decide)
  · exact absurd (dec_mem _ _ hd).1 (by decide)
/-- What begins with a space, or is nothing. -/
def Sp (l : List UInt8) : Prop := l = [] ∨ ∃ t, l = 32 :: t
theorem sp_cut {a b x y : List UInt8} (ha : ∀ d ∈ a, d ≠ 32) (hb : ∀ d ∈ b, d ≠ 32) (hx : Sp x) (hy : Sp y) (h : a ++ x = b ++ y) : a = b ∧ x = y := by
  have key : ∀ (c z : List UInt8), (∀ d ∈ c, d ≠ 32) → Sp z → (c ++ z).takeWhile (· != 32) = c := by
    intro c z hc hz
    induction c with
    | nil =>
      rcases hz with rfl | ⟨t, rfl⟩
      · rfl
      · rfl
    | cons d c ih =>
      have h1 : (d != 32) = true := bne_iff_ne.2 (hc d (by simp))
      simp only [List.cons_append, List.takeWhile_cons, h1, if_true]
      rw [ih (fun e he => hc e (by simp [he]))]
  have h1 : a = b := by rw [← key a x ha hx, ← key b y hb hy, h]
  subst h1
  exact ⟨rfl, List.append_cancel_left h⟩
theorem intW_sp (l : List Int) (r : List UInt8) (hr : Sp r) : Sp (l.flatMap intW ++ r) := by
  cases l with
  | nil => simpa using hr
  | cons i l => exact .inr ⟨_, rfl⟩
theorem ints_inj : ∀ (l m : List Int) (x y : List UInt8), l.length = m.length → Sp x → Sp y → l.flatMap intW ++ x = m.flatMap intW ++ y → l = m ∧ x = y
  | [], [], x, y, _, _, _, h => ⟨rfl, by simpa using h⟩
  | [], _ :: _, _, _, hl, _, _, _ => by simp at hl
  | _ :: _, [], _, _, hl, _, _, _ => by simp at hl
  | i :: l, j :: m, x, y, hl, hx, hy, h => by
    have h1 : Lib.itoa i ++ (l.flatMap intW ++ x) = Lib.itoa j ++ (m.flatMap intW ++ y) := by
      simp only [List.flatMap_cons, intW, List.cons_append, List.append_assoc] at h
      exact (List.cons.inj h).2
    obtain ⟨h2, h3⟩ := sp_cut (itoa_mem i) (itoa_mem j) (intW_sp l x hx) (intW_sp m y hy) h1
    obtain ⟨h4, h5⟩ := ints_inj l m x y (by simpa using hl) hx hy h3
    exact ⟨by rw [itoa_inj h2, h4], h5⟩
theorem hexD_inj {a b : Nat} (ha : a < 16) (hb : b < 16) (h : hexD a = hexD b) : a = b := by
  have : ∀ a, a < 16 → ∀ b, b < 16 → hexD a = hexD b → a = b := by decide
  exact this a ha b hb h
theorem hexL_inj {a b : Nat} (ha : a < 2 ^ 32) (hb : b < 2 ^ 32) (h : hexL a = hexL b) : a = b := by
  have g : ∀ i, i < 8 → a / 2 ^ (28 - 4 * i) % 16 = b / 2 ^ (28 - 4 * i) % 16 := fun i hi => by
    have h1 : (hexL a)[i]? = (hexL b)[i]? := by rw [h]
    unfold hexL at h1
    rw [List.getElem?_map, List.getElem?_map, List.getElem?_range hi] at h1
    simp only [Option.map_some, Option.some.injEq] at h1
    exact hexD_inj (Nat.mod_lt _ (by decide)) (Nat.mod_lt _ (by decide)) h1
  have g0 := g 0 (by decide); have g1 := g 1 (by decide); have g2 := g 2 (by decide); have g3 := g 3 (by decide)
  have g4 := g 4 (by decide); have g5 := g 5 (by decide); have g6 := g 6 (by decide); have g7 := g 7 (by decide)
  simp only [Nat.reduceMul, Nat.reduceSub, Nat.reducePow] at g0 g1 g2 g3 g4 g5 g6 g7 ha hb
  omega
theorem reals_inj : ∀ (l m : List Nat), l.length = m.length → (∀ v ∈ l, v < 2 ^ 32) → (∀ v ∈ m, v < 2 ^ 32) → l.flatMap reaW = m.flatMap reaW → l.map (cn .f32) = m.map (cn .f32)
  | [], [], _, _, _, _ => rfl
  | [], _ :: _, hl, _, _, _ => by simp at hl
  | _ :: _, [], hl, _, _, _ => by simp at hl
  | u :: l, v :: m, hl, h1, h2, h => by
    simp only [List.flatMap_cons] at h
    obtain ⟨h3, h4⟩ := List.append_inj h (by rw [reaW_len, reaW_len])
    have h5 : hexL (cn .f32 u) = hexL (cn .f32 v) := (List.cons.inj h3).2
    have h6 := hexL_inj (cn_lt (k := .f32) (h1 u (by simp))) (cn_lt (k := .f32) (h2 v (by simp))) h5
    rw [List.map_cons, List.map_cons, h6, reals_inj l m (by simpa using hl) (fun w hw => h1 w (by simp [hw])) (fun w hw => h2 w (by simp [hw])) h4]
def sameN (p q : PN) : Prop := p.op = q.op ∧ p.ins = q.ins ∧ p.ints = q.ints ∧ p.reals.map (cn .f32) = q.reals.map (cn .f32)
theorem nm_sp {k : Nat} (hk : k < 27) : ∀ d ∈ (F k).nm, d ≠ 32 := by
  have : ∀ k, k < 27 → ((F k).nm.all (· != 32)) = true := by decide +kernel
  intro d hd
  have h := List.all_eq_true.1 (this k hk) d hd
  simpa using h
theorem rea_sp (l : List Nat) : Sp (l.flatMap reaW) := by
  cases l with
  | nil => exact .inl rfl
  | cons v l => exact .inr ⟨_, rfl⟩
theorem keyT_inj {p q : PN} (hp : PnOk p) (hq : PnOk q) (h1 : ∀ v ∈ p.reals, v < 2 ^ 32) (h2 : ∀ v ∈ q.reals, v < 2 ^ 32) (h : keyT p = keyT q) : sameN p q := by
  obtain ⟨k, hk, e1, e2, e3, e4, -, -⟩ := hp
  obtain ⟨m, hm, f1, f2, f3, f4, -, -⟩ := hq
  unfold keyT wordT numT at h
  rw [e1, f1, bs_data, bs_data] at h
  obtain ⟨g1, g2⟩ := sp_cut (nm_sp hk) (nm_sp hm) (intW_sp _ _ (intW_sp _ _ (rea_sp _))) (intW_sp _ _ (intW_sp _ _ (rea_sp _))) h
  have g3 := F_inj hk hm g1
  subst g3
  obtain ⟨g4, g5⟩ := ints_inj _ _ _ _ (by rw [e2, f2]) (intW_sp _ _ (rea_sp _)) (intW_sp _ _ (rea_sp _)) g2
  obtain ⟨g6, g7⟩ := ints_inj _ _ _ _ (by have := e3.trans f3.symm; omega) (rea_sp _) (rea_sp _) g5
  exact ⟨by rw [e1, f1], g4, g6, reals_inj _ _ (by have := e4.trans f4.symm; omega) h1 h2 g7⟩
theorem flat_cn : ∀ (l m : List Nat), l.map (cn .f32) = m.map (cn .f32) → l.flatMap reaW = m.flatMap reaW
  | [], [], _ => rfl
  | [], _ :: _, h => by simp at h
  | _ :: _, [], h => by simp at h
  | u :: l, v :: m, h => by
    simp only [List.map_cons, List.cons.injEq] at h
    simp only [List.flatMap_cons]
    rw [flat_cn l m h.2]
    unfold reaW; rw [h.1]
theorem keyT_same {p q : PN} (h : sameN p q) : keyT p = keyT q := by
  obtain ⟨h1, h2, h3, h4⟩ := h
  unfold keyT wordT numT
  rw [h1, h2, h3, flat_cn _ _ h4]
end Go.Proofs.YtbaocallhnehfaaGreatDoor
