/- The search for the place of a merge, the merge's two halves, and rows in order block by block. Plain Lean. No condition but what each theorem names. -/
import Derived.Test.YtkadinjhfldokaaSoP
namespace Go.Proofs.Ytkadinjhfldokaa
/-- A search by halves: below lo it is not so, from hi on it is. -/
structure BsI (B : Nat → Prop) (l r lo hi : Nat) : Prop where
  h : l ≤ lo ∧ lo ≤ hi ∧ hi ≤ r
  no : ∀ c, l ≤ c → c < lo → ¬ B c
  yes : ∀ c, hi ≤ c → c < r → B c
theorem BsI.start (B : Nat → Prop) {l r : Nat} (h : l ≤ r) : BsI B l r l r := ⟨⟨Nat.le_refl _, h, Nat.le_refl _⟩, fun c h1 h2 => by omega, fun c h1 h2 => by omega⟩
theorem BsI.up {B : Nat → Prop} {l r lo hi c : Nat} (k : BsI B l r lo hi) (mono : ∀ x y, l ≤ x → x ≤ y → y < r → B x → B y) (h1 : lo ≤ c) (h2 : c < hi) (hb : ¬ B c) : BsI B l r (c + 1) hi := by
  obtain ⟨a, b, d⟩ := k.h
  refine ⟨⟨by omega, by omega, d⟩, fun x h3 h4 => ?_, k.yes⟩
  exact fun hx => hb (mono x c h3 (by omega) (by omega) hx)
theorem BsI.down {B : Nat → Prop} {l r lo hi c : Nat} (k : BsI B l r lo hi) (mono : ∀ x y, l ≤ x → x ≤ y → y < r → B x → B y) (h1 : lo ≤ c) (h2 : c < hi) (hb : B c) : BsI B l r lo c := by
  obtain ⟨a, b, d⟩ := k.h
  refine ⟨⟨a, h1, by omega⟩, k.no, fun x h3 h4 => ?_⟩
  exact mono c x (by omega) h3 h4 hb
section
variable {α : Type}
def mg1 (K : α → Int) (q : Nat → α) (a : Nat) (h : Nat) : Prop := ¬ K (q h) < K (q a)
def mg2 (K : α → Int) (q : Nat → α) (m : Nat) (h : Nat) : Prop := K (q m) < K (q h)
def mg3 (K : α → Int) (q : Nat → α) (p : Nat) (c : Nat) : Prop := K (q (p - c)) < K (q c)
theorem mg1_mono {K : α → Int} {q : Nat → α} {a l r : Nat} (h : SoR K l r q) : ∀ x y, l ≤ x → x ≤ y → y < r → mg1 K q a x → mg1 K q a y := fun x y h1 h2 h3 hx => by
  have := h x y h1 h2 h3
  unfold mg1 at *; omega
theorem mg2_mono {K : α → Int} {q : Nat → α} {m l r : Nat} (h : SoR K l r q) : ∀ x y, l ≤ x → x ≤ y → y < r → mg2 K q m x → mg2 K q m y := fun x y h1 h2 h3 hx => by
  have := h x y h1 h2 h3
  unfold mg2 at *; omega
/-- Where the search of the two halves begins and ends. -/
def mgL (a m b : Nat) : Nat := if (a + b) / 2 < m then (a + b) / 2 + m - b else a
def mgR (a m b : Nat) : Nat := if (a + b) / 2 < m then (a + b) / 2 else m
theorem mg_bd {a m b : Nat} (h1 : a < m) (h2 : m < b) : a ≤ mgL a m b ∧ mgL a m b ≤ mgR a m b ∧ mgR a m b ≤ m ∧ mgR a m b ≤ (a + b) / 2 ∧ (a + b) / 2 + m - mgL a m b ≤ b ∧ m ≤ (a + b) / 2 + m - mgR a m b ∧ mgR a m b < b := by
  unfold mgL mgR; split <;> omega
theorem mg3_mono {K : α → Int} {q : Nat → α} {a m b : Nat} (h1 : a < m) (h2 : m < b) (s1 : SoR K a m q) (s2 : SoR K m b q) : ∀ x y, mgL a m b ≤ x → x ≤ y → y < mgR a m b → mg3 K q ((a + b) / 2 + m - 1) x → mg3 K q ((a + b) / 2 + m - 1) y := fun x y k1 k2 k3 hx => by
  obtain ⟨b1, b2, b3, b4, b5, b6, b7⟩ := mg_bd h1 h2
  have e1 := s1 x y (by omega) k2 (by omega)
  have e2 := s2 ((a + b) / 2 + m - 1 - y) ((a + b) / 2 + m - 1 - x) (by omega) (by omega) (by omega)
  unfold mg3 at *; omega
theorem rot_none (q : Nat → α) {s m e : Nat} (h : s = m ∨ m = e) : rot q s m e = q := by
  funext x; unfold rot; (repeat' split) <;> first | rfl | (exfalso; omega) | (congr 1; omega)
/-- Behind the turn: four rows in order, and none of the first half above one of the second. -/
theorem mg_split {K : α → Int} {q : Nat → α} {a m b s e : Nat} (h1 : a < m) (h2 : m < b) (s1 : SoR K a m q) (s2 : SoR K m b q) (hb : BsI (mg3 K q ((a + b) / 2 + m - 1)) (mgL a m b) (mgR a m b) s s) (he : e = (a + b) / 2 + m - s) :
    (a ≤ s ∧ s ≤ m ∧ s ≤ (a + b) / 2 ∧ m ≤ e ∧ e ≤ b ∧ (a + b) / 2 ≤ e) ∧ SoR K a s (rot q s m e) ∧ SoR K s ((a + b) / 2) (rot q s m e) ∧ SoR K ((a + b) / 2) e (rot q s m e) ∧ SoR K e b (rot q s m e) ∧
    ∀ x y, a ≤ x → x < (a + b) / 2 → (a + b) / 2 ≤ y → y < b → K (rot q s m e x) ≤ K (rot q s m e y) := by
  obtain ⟨b1, b2, b3, b4, b5, b6, b7⟩ := mg_bd h1 h2
  obtain ⟨⟨c1, -, c2⟩, no, yes⟩ := hb
  have hL : mgL a m b = a ∨ (mgL a m b = (a + b) / 2 + m - b ∧ (a + b) / 2 < m) := by unfold mgL; split; exact .inr ⟨rfl, by assumption⟩; exact .inl rfl
  have hR : mgR a m b = m ∨ (mgR a m b = (a + b) / 2 ∧ (a + b) / 2 < m) := by unfold mgR; split; exact .inr ⟨rfl, by assumption⟩; exact .inl rfl
  obtain ⟨d, hd⟩ : ∃ d, d = (a + b) / 2 := ⟨_, rfl⟩
  rw [← hd] at no yes hL hR b4 b5 b6 he ⊢
  have hd2 : a < d ∧ d < b := by omega
  have bd : a ≤ s ∧ s ≤ m ∧ s ≤ d ∧ m ≤ e ∧ e ≤ b ∧ d ≤ e := by omega
  obtain ⟨g1, g2, g3, g4, g5, g6⟩ := bd
  have hem : s + (e - m) = d := by omega
  have r1 : ∀ x, x < s → rot q s m e x = q x := fun x hx => by unfold rot; rw [if_neg (by omega), if_neg (by omega)]
  have r2 : ∀ x, s ≤ x → x < d → rot q s m e x = q (x - s + m) := fun x hx hx2 => by unfold rot; rw [if_pos (by omega)]
  have r3 : ∀ x, d ≤ x → x < e → rot q s m e x = q (x - (e - m)) := fun x hx hx2 => by unfold rot; rw [if_neg (by omega), if_pos (by omega)]
  have r4 : ∀ x, e ≤ x → rot q s m e x = q x := fun x hx => by unfold rot; rw [if_neg (by omega), if_neg (by omega)]
  refine ⟨⟨g1, g2, g3, g4, g5, g6⟩, ?_, ?_, ?_, ?_, ?_⟩
  · intro x y k1 k2 k3; rw [r1 x (by omega), r1 y k3]; exact s1 x y k1 k2 (by omega)
  · intro x y k1 k2 k3; rw [r2 x k1 (by omega), r2 y (by omega) k3]; exact s2 _ _ (by omega) (by omega) (by omega)
  · intro x y k1 k2 k3; rw [r3 x k1 (by omega), r3 y (by omega) k3]; exact s1 _ _ (by omega) (by omega) (by omega)
  · intro x y k1 k2 k3; rw [r4 x k1, r4 y (by omega)]; exact s2 _ _ (by omega) k2 k3
  · intro x y k1 k2 k3 k4
    by_cases hx : x < s
    · rw [r1 x hx]
      by_cases hy : y < e
      · rw [r3 y k3 hy]; exact s1 _ _ k1 (by omega) (by omega)
      · rw [r4 y (by omega)]
        have hsl : mgL a m b < s := by omega
        have hn := no (s - 1) (by omega) (by omega)
        unfold mg3 at hn
        rw [show d + m - 1 - (s - 1) = e by omega] at hn
        have f1 := s1 x (s - 1) k1 (by omega) (by omega)
        have f2 := s2 e y g4 (by omega) k4
        omega
    · rw [r2 x (by omega) k2]
      by_cases hy : y < e
      · rw [r3 y k3 hy]
        have hsr : s < mgR a m b := by omega
        have hn := yes s (Nat.le_refl _) hsr
        unfold mg3 at hn
        rw [show d + m - 1 - s = e - 1 by omega] at hn
        have f1 := s2 (x - s + m) (e - 1) (by omega) (by omega) (by omega)
        have f2 := s1 s (y - (e - m)) g1 (by omega) (by omega)
        omega
      · rw [r4 y (by omega)]; exact s2 _ _ (by omega) (by omega) k4
/-- The merge of both halves behind the turn. -/
theorem mg_join {K : α → Int} {q q1 q2 : Nat → α} {a d b : Nat} (h : ∀ x y, a ≤ x → x < d → d ≤ y → y < b → K (q x) ≤ K (q y)) (p1 : PmR a d q q1) (p2 : PmR d b q1 q2) (s1 : SoR K a d q1) (s2 : SoR K d b q2) : SoR K a b q2 := by
  have o1 : ∀ x, a ≤ x → x < d → q2 x = q1 x := fun x h1 h2 => p2.out x (by omega)
  refine SoR.join (c := d) (fun x y k1 k2 k3 => ?_) s2 ?_
  · rw [o1 x k1 (by omega), o1 y (by omega) k3]; exact s1 x y k1 k2 k3
  · -- by the counts: what holds of all of a row holds of it in another order
    intro x y k1 k2 k3 k4
    rw [o1 x k1 k2]
    have a1 : ∀ z, d ≤ z → z < b → decide (K (q1 x) ≤ K (q1 z)) = true := fun z z1 z2 => by
      rw [p1.out z (by omega)]
      have a2 := p1.all (P := fun v => decide (K v ≤ K (q z))) (fun j j1 j2 => by simpa using h j z j1 j2 z1 z2) x k1 k2
      simpa using a2
    have a3 := p2.all (P := fun v => decide (K (q1 x) ≤ K v)) a1 y k3 k4
    simpa using a3
/-- In order block by block. -/
def BlkS (K : α → Int) (s n : Nat) (q : Nat → α) : Prop := ∀ i j, i ≤ j → j < n → i / s = j / s → K (q i) ≤ K (q j)
theorem BlkS.so {K : α → Int} {s n : Nat} {q : Nat → α} (h : BlkS K s n q) (hn : n ≤ s) : SoR K 0 n q := fun i j _ h2 h3 => h i j h2 h3 (by rw [Nat.div_eq_of_lt (by omega), Nat.div_eq_of_lt (by omega)])
/-- Blocks of 2 s in order ahead of a (a multiple of 2 s), blocks of s behind it. -/
def MixS (K : α → Int) (s a n : Nat) (q : Nat → α) : Prop := ∀ i j, i ≤ j → j < n → (if i < a then i / (2 * s) = j / (2 * s) else i / s = j / s) → K (q i) ≤ K (q j)
theorem MixS.zero {K : α → Int} {s n : Nat} {q : Nat → α} (h : BlkS K s n q) : MixS K s 0 n q := fun i j h1 h2 h3 => h i j h1 h2 (by rwa [if_neg (by omega)] at h3)
theorem div_in {s t x : Nat} (hs : 0 < s) : x / s = t ↔ s * t ≤ x ∧ x < s * t + s := by
  constructor
  · intro h
    have h1 := Nat.div_add_mod x s
    have h2 := Nat.mod_lt x hs
    rw [h] at h1
    omega
  · rintro ⟨h1, h2⟩
    have e : x = s * t + (x - s * t) := by omega
    rw [e, Nat.mul_add_div hs, Nat.div_eq_of_lt (by omega), Nat.add_zero]
/-- The block from a to c (c at most a + 2 s) has been brought into order. -/
theorem MixS.step {K : α → Int} {s t a c n : Nat} {q q' : Nat → α} (hs : 0 < s) (ha : a = 2 * s * t) (hc : c ≤ a + 2 * s) (hfull : c = a + 2 * s ∨ c = n) (h : MixS K s a n q) (p : PmR a c q q') (so : SoR K a c q') : MixS K s (a + 2 * s) n q' := fun i j h1 h2 h3 => by
  have h2s : 0 < 2 * s := by omega
  by_cases hi : i < a
  · rw [if_pos (by omega)] at h3
    have hj : j < a := by
      have e := (div_in h2s).1 (rfl : i / (2 * s) = i / (2 * s))
      have e2 := (div_in h2s).1 h3.symm
      have : i / (2 * s) < t := (Nat.div_lt_iff_lt_mul h2s).2 (by rw [Nat.mul_comm]; omega)
      have : 2 * s * (i / (2 * s) + 1) ≤ 2 * s * t := Nat.mul_le_mul_left _ this
      rw [Nat.mul_add, Nat.mul_one] at this
      omega
    rw [p.out i (by omega), p.out j (by omega)]
    exact h i j h1 h2 (by rw [if_pos hi]; exact h3)
  · by_cases hi2 : i < a + 2 * s
    · rw [if_pos hi2] at h3
      have hj : j < a + 2 * s := by
        have e : i / (2 * s) = t := (div_in h2s).2 (by omega)
        have e2 := (div_in h2s).1 (h3.symm.trans e)
        omega
      exact so i j (by omega) h1 (by omega)
    · rw [if_neg hi2] at h3
      rw [p.out i (by omega), p.out j (by omega)]
      exact h i j h1 h2 (by rw [if_neg (by omega)]; exact h3)
theorem MixS.done {K : α → Int} {s a n : Nat} {q : Nat → α} (hs : 0 < s) (h : MixS K s a n q) (ha : ∃ t, a = 2 * s * t) (hn : n ≤ a + s) : BlkS K (2 * s) n q := fun i j h1 h2 h3 => by
  by_cases hi : i < a
  · exact h i j h1 h2 (by rw [if_pos hi]; exact h3)
  · obtain ⟨t, rfl⟩ := ha
    have e1 : i / s = 2 * t := (div_in hs).2 (by rw [← Nat.mul_assoc, Nat.mul_comm s 2]; omega)
    have e2 : j / s = 2 * t := (div_in hs).2 (by rw [← Nat.mul_assoc, Nat.mul_comm s 2]; omega)
    exact h i j h1 h2 (by rw [if_neg hi, e1, e2])
/-- A block behind a is in order; so are its two halves. -/
theorem MixS.so {K : α → Int} {s a n : Nat} {q : Nat → α} (hs : 0 < s) (h : MixS K s a n q) (ha : ∃ t, a = 2 * s * t) {u v : Nat} (hu : u = a ∨ u = a + s) (hv : v ≤ u + s) (hvn : v ≤ n) : SoR K u v q := fun i j h1 h2 h3 => by
  obtain ⟨t, rfl⟩ := ha
  refine h i j h2 (by omega) ?_
  rw [if_neg (by omega)]
  rcases hu with rfl | rfl
  · have e1 : i / s = 2 * t := (div_in hs).2 (by rw [← Nat.mul_assoc, Nat.mul_comm s 2]; omega)
    have e2 : j / s = 2 * t := (div_in hs).2 (by rw [← Nat.mul_assoc, Nat.mul_comm s 2]; omega)
    rw [e1, e2]
  · have e1 : i / s = 2 * t + 1 := (div_in hs).2 (by rw [Nat.mul_add, ← Nat.mul_assoc, Nat.mul_comm s 2]; omega)
    have e2 : j / s = 2 * t + 1 := (div_in hs).2 (by rw [Nat.mul_add, ← Nat.mul_assoc, Nat.mul_comm s 2]; omega)
    rw [e1, e2]
end
end Go.Proofs.Ytkadinjhfldokaa
