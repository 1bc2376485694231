/- The head of a picture: the program's reading of it and the law's. Conditions: none (plain). -/
import Derived.Test.YtjcakbikpficbaaGreatDoorNtA
import Derived.Test.YtjcakbikpficbaaGreatDoorNtB
namespace Go.Proofs.YtjcakbikpficbaaGreatDoor
open Go Go.Lib
def p6 : List UInt8 := [80, 54, 10]
def m255 : List UInt8 := [50, 53, 53, 10]
def picH (l : List UInt8) : List UInt8 := trimPrefix l p6
def picC (l : List UInt8) : List UInt8 × List UInt8 × Bool := cut (picH l) [10]
def picR (l : List UInt8) : List UInt8 := trimPrefix (picC l).2.1 m255
def picD (l : List UInt8) : List UInt8 × List UInt8 × Bool := cut (picC l).1 [32]
/-- A side of a picture. -/
def sideB (v : Int) : Bool := decide (1 ≤ v ∧ v ≤ 256)
def picB (l : List UInt8) : Bool := hasPrefix l p6 && ((picC l).2.2 && (hasPrefix (picC l).2.1 m255 && ((picD l).2.2 && (intB (picD l).1 9 && (intB (picD l).2.1 9 && (sideB (intV (picD l).1) && (sideB (intV (picD l).2.1) && decide (((picR l).length : Int) = 3 * intV (picD l).1 * intV (picD l).2.1))))))))
def lawC (l : List UInt8) : List UInt8 × List UInt8 × Bool := cut (picH l) (10 :: m255)
def lawD (l : List UInt8) : List UInt8 × List UInt8 × Bool := cut (lawC l).1 [32]
def atOK (l : List UInt8) : Bool := match atoiAll l with | .ok _ => true | _ => false
def atV (l : List UInt8) : Int := match atoiAll l with | .ok v => v | .range => atoiSat l | _ => 0
/-- What the law asks of a side's text. -/
def sayB (l : List UInt8) : Bool := atOK l && (decide (itoa (atV l) = l) && sideB (atV l))
def lawB (l : List UInt8) : Bool := hasPrefix l p6 && ((lawC l).2.2 && ((lawD l).2.2 && (sayB (lawD l).1 && (sayB (lawD l).2.1 && decide (((lawC l).2.1.length : Int) = 3 * atV (lawD l).1 * atV (lawD l).2.1)))))
theorem sideB_iff {v : Int} : sideB v = true ↔ 1 ≤ v ∧ v ≤ 256 := by unfold sideB; exact decide_eq_true_iff
theorem unMinus_len (l : List UInt8) : l.length ≤ (unMinus l).length + 1 := by
  unfold unMinus
  split
  · rw [List.length_tail]; omega
  · omega
theorem int_at {l : List UInt8} {most : Nat} (hm : most ≤ 17) (h : intB l most = true) : atoiAll l = .ok (intV l) := by
  have h' := h
  unfold intB at h'
  simp only [Bool.and_eq_true, decide_eq_true_eq] at h'
  have := unMinus_len l
  rw [atoiAll_short l (by omega), (int_read h).1]; rfl
theorem side_same (l : List UInt8) : sayB l = (intB l 9 && sideB (intV l)) ∧ (sayB l = true → atV l = intV l) := by
  by_cases h : intB l 9 = true
  · have e := int_at (by omega) h
    have e1 : atOK l = true := by unfold atOK; rw [e]
    have e2 : atV l = intV l := by unfold atV; rw [e]
    refine ⟨?_, fun _ => e2⟩
    unfold sayB
    rw [e1, e2, h, (int_read h).2, decide_eq_true rfl, Bool.true_and, Bool.true_and]
  · have h0 : intB l 9 = false := by simpa using h
    have e : sayB l = false := by
      cases hs : sayB l with
      | false => rfl
      | true =>
        unfold sayB at hs
        simp only [Bool.and_eq_true, decide_eq_true_eq, sideB_iff] at hs
        obtain ⟨-, h2, h3, h4⟩ := hs
        have := (int_write (v := atV l) (k := 9) (by omega) (by omega)).1
        rw [h2] at this
        exact absurd this h
    exact ⟨by rw [e, h0]; rfl, fun h => by rw [e] at h; cases h⟩
theorem dec_no10 (u : Nat) : (10 : UInt8) ∉ decDigits u := fun h => by
  have hc := canB_dec u
  unfold canB at hc
  simp only [Bool.and_eq_true, List.all_eq_true] at hc
  exact absurd (hc.2.1 10 h) (by decide)
theorem itoa_no10 (v : Int) : (10 : UInt8) ∉ itoa v := by
  unfold itoa
  split
  · intro h
    rcases List.mem_cons.1 h with h | h
    · exact absurd h (by decide)
    · exact dec_no10 _ h
  · exact dec_no10 _
theorem say_no10 {l : List UInt8} (h : sayB l = true) : (10 : UInt8) ∉ l := by
  unfold sayB at h
  simp only [Bool.and_eq_true, decide_eq_true_eq] at h
  rw [← h.2.1]; exact itoa_no10 _
theorem prefix_iff (s p : List UInt8) : hasPrefix s p = true ↔ p <+: s := by unfold hasPrefix; exact List.isPrefixOf_iff_prefix
/-- What the law says is what the program reads. -/
theorem law_pic (l : List UInt8) : lawB l = picB l ∧ (picB l = true → lawC l = ((picC l).1, picR l, true) ∧ lawD l = picD l) := by
  have tail : lawC l = ((picC l).1, picR l, true) → (picC l).2.2 = true → hasPrefix (picC l).2.1 m255 = true → lawB l = picB l ∧ (picB l = true → lawC l = ((picC l).1, picR l, true) ∧ lawD l = picD l) := fun h1 h2 h3 => by
    have e : lawD l = picD l := by unfold lawD picD; rw [h1]
    refine ⟨?_, fun _ => ⟨h1, e⟩⟩
    unfold lawB picB
    rw [e, h1, h2, h3]
    obtain ⟨a1, a2⟩ := side_same (picD l).1
    obtain ⟨b1, b2⟩ := side_same (picD l).2.1
    simp only [Bool.true_and]
    by_cases ha : sayB (picD l).1 = true
    · by_cases hb : sayB (picD l).2.1 = true
      · rw [a2 ha, b2 hb, ha, hb]
        rw [ha] at a1
        rw [hb] at b1
        have a1 := a1.symm
        have b1 := b1.symm
        simp only [Bool.and_eq_true] at a1 b1
        rw [a1.1, a1.2, b1.1, b1.2]
        simp only [Bool.true_and]
      · have hb : sayB (picD l).2.1 = false := by simpa using hb
        rw [hb]
        rw [hb] at b1
        have b1 := b1.symm
        simp only [Bool.and_eq_false_iff] at b1
        rcases b1 with b1 | b1 <;> rw [b1] <;> simp
    · have ha : sayB (picD l).1 = false := by simpa using ha
      rw [ha]
      rw [ha] at a1
      have a1 := a1.symm
      simp only [Bool.and_eq_false_iff] at a1
      rcases a1 with a1 | a1 <;> rw [a1] <;> simp
  have no : lawB l = false → picB l = false → lawB l = picB l ∧ (picB l = true → lawC l = ((picC l).1, picR l, true) ∧ lawD l = picD l) := fun h1 h2 => ⟨by rw [h1, h2], fun h => by rw [h2] at h; cases h⟩
  rcases cut_one 10 (picH l) with ⟨h1, h2⟩ | ⟨a, b, h1, h2, h3⟩
  · have e1 : picC l = (picH l, [], false) := h1
    refine no ?_ (by unfold picB; rw [e1]; simp)
    rcases cut_row 10 m255 (picH l) with ⟨h3, -⟩ | ⟨a, b, h3, -, -⟩ | ⟨a, b, h3, h4, -⟩
    · have e2 : lawC l = (picH l, [], false) := h3
      unfold lawB; rw [e2]; simp
    · exact absurd (by rw [h3]; simp) h2
    · rcases idx_cases (10 :: m255) (by simp) (picH l) with h5 | ⟨x, y, h5, -⟩
      · rw [cut_miss h5] at h4; cases h4
      · exact absurd (by rw [h5]; simp) h2
  · have e1 : picC l = (a, b, true) := h3
    by_cases hp : hasPrefix b m255 = true
    · obtain ⟨r, hr⟩ := (prefix_iff _ _).1 hp
      have e3 : picR l = r := by unfold picR; rw [e1]; unfold trimPrefix; rw [if_pos hp, ← hr]; simp [m255]
      refine tail ?_ (by rw [e1]) (by rw [e1]; exact hp)
      rw [e3, e1]
      have hl : picH l = a ++ (10 :: m255 ++ r) := by rw [h1, ← hr]; rfl
      exact cut_hit hl (by rw [hl]; exact idx_at 10 m255 r a h2)
    · have hp0 : hasPrefix b m255 = false := by simpa using hp
      refine no ?_ (by unfold picB; rw [e1]; simp [hp0])
      rcases cut_row 10 m255 (picH l) with ⟨h4, -⟩ | ⟨a', b', h4, h5, -⟩ | ⟨a', b', h4, h5, -⟩
      · have e2 : lawC l = (picH l, [], false) := h4
        unfold lawB; rw [e2]; simp
      · have : a = a' ∧ b = m255 ++ b' := first_eq 10 a a' b (m255 ++ b') (by rw [← h1, h4]; rfl) h2 h5
        exact absurd ((prefix_iff _ _).2 ⟨b', this.2.symm⟩) hp
      · have e2 : lawC l = (a', b', true) := h5
        cases hD : (lawD l).2.2 with
        | false => unfold lawB; rw [hD]; simp
        | true =>
          have hm := mem_cut (c := 10) (d := 32) (by decide) (l := a') (a := (lawD l).1) (b := (lawD l).2.1) (by rw [← hD]; unfold lawD; rw [e2]) h4
          unfold lawB
          rcases hm with hm | hm
          · have : sayB (lawD l).1 = false := by
              cases hs : sayB (lawD l).1 with
              | false => rfl
              | true => exact absurd hm (say_no10 hs)
            rw [this]; simp
          · have : sayB (lawD l).2.1 = false := by
              cases hs : sayB (lawD l).2.1 with
              | false => rfl
              | true => exact absurd hm (say_no10 hs)
            rw [this]; simp
end Go.Proofs.YtjcakbikpficbaaGreatDoor
