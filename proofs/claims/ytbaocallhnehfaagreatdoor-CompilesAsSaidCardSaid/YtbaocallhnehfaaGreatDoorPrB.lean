/- node.isName at any name. Condition: its size is a size. -/
import Derived.Test.YtbaocallhnehfaaGreatDoorPrA
set_option linter.unusedVariables false
namespace Go.Proofs.YtbaocallhnehfaaGreatDoor
open Go Go.RowKit
theorem set_iff (c : UInt8) : (nmSet.data.toList.contains c) = (loB c || (dgB c || decide (c.toNat = 95))) := by
  have h : ∀ n : Nat, n < 256 → (nmSet.data.toList.contains (UInt8.ofNat n)) = (loB (UInt8.ofNat n) || (dgB (UInt8.ofNat n) || decide ((UInt8.ofNat n).toNat = 95))) := by decide +kernel
  have h2 := h c.toNat (UInt8.toNat_lt c)
  simpa using h2
theorem dropWhile_nil {α : Type} (p : α → Bool) (l : List α) : l.dropWhile p = [] ↔ l.all p = true := by
  induction l with
  | nil => simp
  | cons a l ih =>
    simp only [List.dropWhile_cons, List.all_cons]
    cases h : p a <;> simp [ih]
theorem trimS_nil (l cs : List UInt8) : Lib.trimS l cs = [] ↔ l.all (cs.contains ·) = true := by
  unfold Lib.trimS Lib.trimLeftS Lib.trimRightS
  rw [dropWhile_nil]
  constructor
  · intro h
    have h1 : ∀ x ∈ l, cs.contains x = true := by
      intro x hx
      have hr : x ∈ l.reverse := List.mem_reverse.2 hx
      have hsp : l.reverse = l.reverse.takeWhile (cs.contains ·) ++ l.reverse.dropWhile (cs.contains ·) := (List.takeWhile_append_dropWhile).symm
      rw [hsp] at hr
      rcases List.mem_append.1 hr with h2 | h2
      · have := List.all_takeWhile (p := (cs.contains ·)) (l := l.reverse)
        exact List.all_eq_true.1 this x h2
      · exact List.all_eq_true.1 h x (List.mem_reverse.2 h2)
    exact List.all_eq_true.2 h1
  · intro h
    refine List.all_eq_true.2 (fun x hx => List.all_eq_true.1 h x ?_)
    have h2 := List.mem_reverse.1 hx
    exact List.mem_reverse.1 ((List.dropWhile_sublist _).subset h2)
theorem allC_pos {i : Nat} (hi : 0 < i) (l : List UInt8) : allC i l = l.all (fun c => loB c || (dgB c || decide (c.toNat = 95))) := by
  induction l generalizing i with
  | nil => rfl
  | cons c l ih =>
    unfold allC
    rw [ih (by omega), List.all_cons]
    unfold chB
    simp [hi]
theorem allC_0 (c : UInt8) (l : List UInt8) : allC 0 (c :: l) = (loB c && (c :: l).all (nmSet.data.toList.contains ·)) := by
  have h : (fun x => nmSet.data.toList.contains x) = (fun c => loB c || (dgB c || decide (c.toNat = 95))) := funext set_iff
  show (chB 0 c && allC 1 l) = _
  rw [allC_pos (by decide), h, List.all_cons]
  unfold chB
  cases loB c <;> simp
theorem trim_any (s : ByteArray) (hs : s.size ≤ maxLen) (w : World) : Calls Tryz.prog 52 #[.string s, .string nmSet] w fun e w' => e = .returned (.string ⟨(Lib.trimS s.data.toList nmSet.data.toList).toArray⟩) ∧ Below w.heap.size w w' :=
  Any.strings_Trim_laid Tryz.lays160 (by kernel_rfl) s nmSet w (by unfold maxLen at hs; omega) (by decide) (ascii_of_all (by decide))
theorem okN_long {l : List UInt8} (h : 40 < l.length) : okN l = false := by
  unfold okN; simp; intro _ h1; omega
theorem okN_out : okN sOut = false := by decide
theorem okN_at {c : UInt8} {l : List UInt8} (h1 : (c :: l).length ≤ 40) (h2 : c :: l ≠ sOut) : okN (c :: l) = (loB c && (Lib.trimS (c :: l) nmSet.data.toList).isEmpty) := by
  unfold okN
  rw [allC_0]
  have h3 : (Lib.trimS (c :: l) nmSet.data.toList).isEmpty = (c :: l).all (nmSet.data.toList.contains ·) := by
    rw [Bool.eq_iff_iff, List.isEmpty_iff, trimS_nil]
  rw [h3, decide_eq_true (show c :: l ≠ [] by simp), decide_eq_true h1, decide_eq_true h2, Bool.true_and, Bool.true_and, Bool.true_and]
set_option maxRecDepth 100000 in
set_option maxHeartbeats 1600000 in
theorem isName_any (s : ByteArray) (hs : s.size ≤ maxLen) (w : World) : Calls Tryz.prog 28 #[.string s] w fun e w' => e = .returned (.bool (okN s.data.toList)) ∧ Below w.heap.size w w' := by
  have HT := Lib.hid (trim_any s hs w)
  have hz : s.size = s.data.toList.length := Lib.size_eq s
  have hl : s.toList = s.data.toList := ByteArray.toList_eq s
  by_cases h0 : s.data.toList = []
  · have hE := Lib.hid (show okN s.data.toList = false by rw [h0]; rfl)
    have h0' : s.toList = [] := by rw [hl, h0]
    clear hl h0 hz hs HT
    go_enter Tryz.func28, Tryz.ntmps28
    go_wp2_with fail
    go_ret
    exact ⟨by rw [hE.out]; rfl, Below.refl _ _⟩
  have h0' : ¬ s.toList = [] := by rw [hl]; exact h0
  by_cases h1 : 40 < s.size
  · have hE := Lib.hid (show okN s.data.toList = false by exact okN_long (by omega))
    have h1' : ¬ (s.size : Int) ≤ 40 := by omega
    clear hl h0 hz hs HT h1
    go_enter Tryz.func28, Tryz.ntmps28
    go_wp2_with fail
    go_ret
    exact ⟨by rw [hE.out]; rfl, Below.refl _ _⟩
  have h1' : (s.size : Int) ≤ 40 := by omega
  by_cases h2 : s.data.toList = sOut
  · have hE := Lib.hid (show okN s.data.toList = false by rw [h2]; exact okN_out)
    have h2' : s.toList = [111, 117, 116] := by rw [hl, h2]; rfl
    clear hl h0 hz hs HT h1 h2
    go_enter Tryz.func28, Tryz.ntmps28
    go_wp2_with fail
    go_ret
    exact ⟨by rw [hE.out]; rfl, Below.refl _ _⟩
  have h2' : ¬ s.toList = [111, 117, 116] := by rw [hl]; exact h2
  have h3 : 0 < s.size := by rw [hz]; exact List.length_pos_iff.2 h0
  have h3' : (0 : Int) < (s.size : Int) := by omega
  obtain ⟨c, hc⟩ : ∃ c, c = s[0]'h3 := ⟨_, rfl⟩
  have hE := Lib.hid (show okN s.data.toList = (loB c && (Lib.trimS s.data.toList nmSet.data.toList).isEmpty) by
    obtain ⟨l, hl2⟩ : ∃ l, s.data.toList = c :: l := by
      match hd : s.data.toList, h0 with
      | x :: l, _ =>
        refine ⟨l, ?_⟩
        have h4 : s.data.toList[0]? = some x := by rw [hd]; rfl
        have h5 : s.data[0]? = some x := by rw [← Array.getElem?_toList]; exact h4
        have h6 : c = x := by
          rw [hc]
          have h7 : s.data[0]? = some (s[0]'h3) := Array.getElem?_eq_getElem h3
          rw [h5] at h7; exact (Option.some.inj h7).symm
        rw [h6]
    rw [hl2]
    exact okN_at (by rw [← hl2, ← hz]; omega) (by rw [← hl2]; exact h2))
  obtain ⟨t, ht⟩ : ∃ t, t = Lib.trimS s.data.toList nmSet.data.toList := ⟨_, rfl⟩
  rw [← ht] at hE HT
  have hlo : loB c = (decide (97 ≤ c.toNat) && decide (c.toNat ≤ 122)) := rfl
  rw [hlo] at hE
  clear hl h0 hz hs h1 h2 ht hlo
  by_cases g1 : 97 ≤ c.toNat
  case neg =>
    have g1' : ¬ (97 : Int) ≤ ((s[0]'h3).toNat : Int) := by rw [← hc]; omega
    have hE2 := Lib.hid (show okN s.data.toList = false by rw [hE.out]; simp [g1])
    clear hc g1 hE HT
    go_enter Tryz.func28, Tryz.ntmps28
    go_wp2_with fail
    go_ret
    exact ⟨by rw [hE2.out]; rfl, Below.refl _ _⟩
  case pos =>
    have g1' : (97 : Int) ≤ ((s[0]'h3).toNat : Int) := by rw [← hc]; omega
    by_cases g2 : c.toNat ≤ 122
    case neg =>
      have g2' : ¬ ((s[0]'h3).toNat : Int) ≤ 122 := by rw [← hc]; omega
      have hE2 := Lib.hid (show okN s.data.toList = false by rw [hE.out]; simp [g2])
      clear hc g1 g2 hE HT
      go_enter Tryz.func28, Tryz.ntmps28
      go_wp2_with fail
      go_ret
      exact ⟨by rw [hE2.out]; rfl, Below.refl _ _⟩
    case pos =>
      have g2' : ((s[0]'h3).toNat : Int) ≤ 122 := by rw [← hc]; omega
      have hE2 := Lib.hid (show okN s.data.toList = t.isEmpty by rw [hE.out]; simp [g1, g2])
      clear hc g1 g2 hE
      go_enter Tryz.func28, Tryz.ntmps28
      go_wp2_with (go_at_call 52; refine (HT.out).mono ?_; rintro e w1 ⟨rfl, hb⟩)
      go_ret
      exact ⟨by rw [hE2.out]; simp [h0', h2'], hb⟩
end Go.Proofs.YtbaocallhnehfaaGreatDoor
