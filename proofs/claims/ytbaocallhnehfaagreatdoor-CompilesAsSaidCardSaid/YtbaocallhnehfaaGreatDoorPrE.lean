/- dyelaw2.stepName at any name. Condition: its size is a size. -/
import Derived.Test.YtbaocallhnehfaaGreatDoorPrB
set_option linter.unusedSimpArgs false
set_option linter.unusedVariables false
namespace Go.Proofs.YtbaocallhnehfaaGreatDoor
open Go Go.RowKit
theorem get_data (s : ByteArray) (i : Nat) (h : i < s.size) : s.data.toList[i]? = some (s[i]'h) := by
  have h7 : s.data[i]? = some (s[i]'h) := Array.getElem?_eq_getElem h
  rw [Array.getElem?_toList]; exact h7
theorem okN_eq (l : List UInt8) : okN l = (decide (l ≠ []) && decide (l.length ≤ 40) && decide (l ≠ sOut) && allC 0 l) := rfl
/-- The first characters are right. -/
def preC (l : List UInt8) (k : Nat) : Prop := allC 0 (l.take k) = true
theorem allC_app : ∀ (l m : List UInt8) (i : Nat), allC i (l ++ m) = (allC i l && allC (i + l.length) m)
  | [], m, i => by simp [allC]
  | c :: l, m, i => by
    show (chB i c && allC (i + 1) (l ++ m)) = (chB i c && allC (i + 1) l && _)
    rw [allC_app l m (i + 1), Bool.and_assoc, List.length_cons, show i + 1 + l.length = i + (l.length + 1) by omega]
theorem preC_succ {l : List UInt8} {k : Nat} {c : UInt8} (h : l[k]? = some c) (hp : preC l k) : preC l (k + 1) ↔ chB k c = true := by
  unfold preC at *
  have hk : k < l.length := (List.getElem?_eq_some_iff.1 h).1
  rw [List.take_add_one, h, allC_app, hp]
  simp [allC, Nat.min_eq_left (Nat.le_of_lt hk)]
theorem preC_bad {l : List UInt8} {k : Nat} {c : UInt8} (h : l[k]? = some c) (hp : preC l k) (hb : chB k c = false) : okN l = false := by
  have hk : k < l.length := (List.getElem?_eq_some_iff.1 h).1
  have e2 : l.drop k = c :: l.drop (k + 1) := by rw [List.drop_eq_getElem_cons hk, (List.getElem?_eq_some_iff.1 h).2]
  have e : l = l.take k ++ (c :: l.drop (k + 1)) := by rw [← e2, List.take_append_drop]
  have h1 : allC 0 l = false := by
    rw [e, allC_app]
    have : allC (0 + (l.take k).length) (c :: l.drop (k + 1)) = false := by
      show (chB (0 + (l.take k).length) c && _) = false
      rw [List.length_take, Nat.min_eq_left (Nat.le_of_lt hk), Nat.zero_add, hb]; rfl
    rw [this, Bool.and_false]
  rw [okN_eq, h1, Bool.and_false]
theorem preC_all {l : List UInt8} (hp : preC l l.length) : okN l = (decide (l ≠ []) && decide (l.length ≤ 40) && decide (l ≠ sOut)) := by
  unfold preC at hp
  rw [List.take_length] at hp
  rw [okN_eq, hp, Bool.and_true]
set_option maxRecDepth 100000 in
set_option maxHeartbeats 3200000 in
theorem stepName_any (s : ByteArray) (hs : s.size ≤ maxLen) (w : World) : Calls Tryz.prog 19 #[.string s] w fun e w' => e = .returned (.bool (okN s.data.toList)) ∧ w' = w := by
  have hz : s.size = s.data.toList.length := Lib.size_eq s
  have hl : s.toList = s.data.toList := ByteArray.toList_eq s
  have HZ := Lib.hid hz; have HL := Lib.hid hl
  have hs2 : s.size ≤ 9223372036854775807 := by unfold maxLen at hs; omega
  clear hz hl hs
  go_enter Tryz.func19, Tryz.ntmps19
  go_wp2_with fail
  go_loopw [7] (fun s7 wr => ∃ k : Nat, k ≤ s.size ∧ s7 = .int .i64 k ∧ preC s.data.toList k ∧ wr = w) (fun s7 _ => s.size - (intOf s7).toNat)
  case atStart => exact ⟨0, Nat.zero_le _, rfl, rfl, rfl⟩
  case round =>
    obtain ⟨k, hk, rfl, hp, rfl⟩ := hrel
    have HP := Lib.hid hp
    clear hp
    by_cases hkm : k < s.size
    · have hkmi : (k : Int) < (s.size : Int) := by omega
      have HG := Lib.hid (get_data s k hkm)
      obtain ⟨c, hc⟩ : ∃ c, c = s[k]'hkm := ⟨_, rfl⟩
      rw [← hc] at HG
      have HC := Lib.hid hc
      have HB := Lib.hid (fun h => preC_bad HG.out HP.out h : chB k c = false → okN s.data.toList = false)
      have HS := Lib.hid (fun h => (preC_succ HG.out HP.out).2 h : chB k c = true → preC s.data.toList (k + 1))
      have HCH := Lib.hid (show chB k c = ((decide (97 ≤ c.toNat) && decide (c.toNat ≤ 122)) || (decide (0 < k) && ((decide (48 ≤ c.toNat) && decide (c.toNat ≤ 57)) || decide (c.toNat = 95)))) from rfl)
      clear hc HP
      by_cases g1 : 97 ≤ c.toNat
      · have g1i : (97 : Int) ≤ ((s[k]'hkm).toNat : Int) := by rw [← HC.out]; omega
        by_cases g2 : c.toNat ≤ 122
        · have g2i : ((s[k]'hkm).toNat : Int) ≤ 122 := by rw [← HC.out]; omega
          have HV := Lib.hid (HS.out (by rw [HCH.out]; simp [g1, g2]))
          clear HB HS HCH
          go_wp2_with fail
          go_roundw
          case rel => exact ⟨k + 1, by omega, by go_num, HV.out, by first | rfl | trivial⟩
          case measure => simp [intOf] <;> omega
        have g2i : ¬ ((s[k]'hkm).toNat : Int) ≤ 122 := by rw [← HC.out]; omega
        by_cases k0 : k = 0
        · have HV := Lib.hid (HB.out (by rw [HCH.out]; simp [g2, k0]))
          subst k0
          clear HB HS HCH
          go_wp2_with fail
          go_ret
          rw [HV.out]
          exact ⟨rfl, rfl⟩
        have k0i : ¬ (k : Int) = 0 := by omega
        have k0b : ((k : Int) == 0) = false := beq_false_of_ne k0i
        have k0p : 0 < k := by omega
        by_cases d1 : 48 ≤ c.toNat
        · have d1i : (48 : Int) ≤ ((s[k]'hkm).toNat : Int) := by rw [← HC.out]; omega
          by_cases d2 : c.toNat ≤ 57
          · have d2i : ((s[k]'hkm).toNat : Int) ≤ 57 := by rw [← HC.out]; omega
            have HV := Lib.hid (HS.out (by rw [HCH.out]; simp [g2, k0p, d1, d2]))
            clear HB HS HCH
            go_wp2_with fail
            go_roundw
            case rel => exact ⟨k + 1, by omega, by go_num, HV.out, by first | rfl | trivial⟩
            case measure => simp [intOf] <;> omega
          have d2i : ¬ ((s[k]'hkm).toNat : Int) ≤ 57 := by rw [← HC.out]; omega
          by_cases u1 : c.toNat = 95
          · have u1i : (((s[k]'hkm).toNat : Int) != 95) = false := by rw [← HC.out, u1]; rfl
            have HV := Lib.hid (HS.out (by rw [HCH.out]; simp [g2, d2, k0p, u1]))
            clear HB HS HCH
            go_wp2_with fail
            go_roundw
            case rel => exact ⟨k + 1, by omega, by go_num, HV.out, by first | rfl | trivial⟩
            case measure => simp [intOf] <;> omega
          have u1i : (((s[k]'hkm).toNat : Int) != 95) = true := bne_iff_ne.2 (by rw [← HC.out]; omega)
          have HV := Lib.hid (HB.out (by rw [HCH.out]; simp [g2, d2, u1]))
          clear HB HS HCH
          go_wp2_with fail
          go_ret
          rw [HV.out]
          exact ⟨rfl, rfl⟩
        have d1i : ¬ (48 : Int) ≤ ((s[k]'hkm).toNat : Int) := by rw [← HC.out]; omega
        by_cases u1 : c.toNat = 95
        · have u1i : (((s[k]'hkm).toNat : Int) != 95) = false := by rw [← HC.out, u1]; rfl
          have HV := Lib.hid (HS.out (by rw [HCH.out]; simp [g2, d1, k0p, u1]))
          clear HB HS HCH
          go_wp2_with fail
          go_roundw
          case rel => exact ⟨k + 1, by omega, by go_num, HV.out, by first | rfl | trivial⟩
          case measure => simp [intOf] <;> omega
        have u1i : (((s[k]'hkm).toNat : Int) != 95) = true := bne_iff_ne.2 (by rw [← HC.out]; omega)
        have HV := Lib.hid (HB.out (by rw [HCH.out]; simp [g2, d1, u1]))
        clear HB HS HCH
        go_wp2_with fail
        go_ret
        rw [HV.out]
        exact ⟨rfl, rfl⟩
      have g1i : ¬ (97 : Int) ≤ ((s[k]'hkm).toNat : Int) := by rw [← HC.out]; omega
      by_cases k0 : k = 0
      · have HV := Lib.hid (HB.out (by rw [HCH.out]; simp [g1, k0]))
        subst k0
        clear HB HS HCH
        go_wp2_with fail
        go_ret
        rw [HV.out]
        exact ⟨rfl, rfl⟩
      have k0i : ¬ (k : Int) = 0 := by omega
      have k0b : ((k : Int) == 0) = false := beq_false_of_ne k0i
      have k0p : 0 < k := by omega
      by_cases d1 : 48 ≤ c.toNat
      · have d1i : (48 : Int) ≤ ((s[k]'hkm).toNat : Int) := by rw [← HC.out]; omega
        by_cases d2 : c.toNat ≤ 57
        · have d2i : ((s[k]'hkm).toNat : Int) ≤ 57 := by rw [← HC.out]; omega
          have HV := Lib.hid (HS.out (by rw [HCH.out]; simp [g1, k0p, d1, d2]))
          clear HB HS HCH
          go_wp2_with fail
          go_roundw
          case rel => exact ⟨k + 1, by omega, by go_num, HV.out, by first | rfl | trivial⟩
          case measure => simp [intOf] <;> omega
        have d2i : ¬ ((s[k]'hkm).toNat : Int) ≤ 57 := by rw [← HC.out]; omega
        by_cases u1 : c.toNat = 95
        · have u1i : (((s[k]'hkm).toNat : Int) != 95) = false := by rw [← HC.out, u1]; rfl
          have HV := Lib.hid (HS.out (by rw [HCH.out]; simp [g1, d2, k0p, u1]))
          clear HB HS HCH
          go_wp2_with fail
          go_roundw
          case rel => exact ⟨k + 1, by omega, by go_num, HV.out, by first | rfl | trivial⟩
          case measure => simp [intOf] <;> omega
        have u1i : (((s[k]'hkm).toNat : Int) != 95) = true := bne_iff_ne.2 (by rw [← HC.out]; omega)
        have HV := Lib.hid (HB.out (by rw [HCH.out]; simp [g1, d2, u1]))
        clear HB HS HCH
        go_wp2_with fail
        go_ret
        rw [HV.out]
        exact ⟨rfl, rfl⟩
      have d1i : ¬ (48 : Int) ≤ ((s[k]'hkm).toNat : Int) := by rw [← HC.out]; omega
      by_cases u1 : c.toNat = 95
      · have u1i : (((s[k]'hkm).toNat : Int) != 95) = false := by rw [← HC.out, u1]; rfl
        have HV := Lib.hid (HS.out (by rw [HCH.out]; simp [g1, d1, k0p, u1]))
        clear HB HS HCH
        go_wp2_with fail
        go_roundw
        case rel => exact ⟨k + 1, by omega, by go_num, HV.out, by first | rfl | trivial⟩
        case measure => simp [intOf] <;> omega
      have u1i : (((s[k]'hkm).toNat : Int) != 95) = true := bne_iff_ne.2 (by rw [← HC.out]; omega)
      have HV := Lib.hid (HB.out (by rw [HCH.out]; simp [g1, d1, u1]))
      clear HB HS HCH
      go_wp2_with fail
      go_ret
      rw [HV.out]
      exact ⟨rfl, rfl⟩
    · have hkmi : ¬ (k : Int) < (s.size : Int) := by omega
      obtain rfl : k = s.size := by omega
      have HE := Lib.hid (show okN s.data.toList = (decide (s.data.toList ≠ []) && decide (s.data.toList.length ≤ 40) && decide (s.data.toList ≠ sOut)) by have h := HP.out; rw [HZ.out] at h; exact preC_all h)
      clear HP
      by_cases h0 : s.data.toList = []
      · have hE := Lib.hid (show okN s.data.toList = false by rw [h0]; rfl)
        have h0' : s.toList = [] := by rw [HL.out, h0]
        clear h0 HE
        go_wp2_with fail
        go_ret
        exact ⟨by rw [hE.out]; rfl, rfl⟩
      have h0' : ¬ s.toList = [] := by rw [HL.out]; exact h0
      by_cases h1 : 40 < s.size
      · have hE := Lib.hid (show okN s.data.toList = false by rw [HE.out, ← HZ.out, decide_eq_false (show ¬ s.size ≤ 40 by omega)]; simp)
        have h1' : ¬ (s.size : Int) ≤ 40 := by omega
        clear h0 HE h1
        go_wp2_with fail
        go_ret
        exact ⟨by rw [hE.out]; rfl, rfl⟩
      have h1' : (s.size : Int) ≤ 40 := by omega
      by_cases h2 : s.data.toList = sOut
      · have hE := Lib.hid (show okN s.data.toList = false by rw [h2]; rfl)
        have h2' : s.toList = [111, 117, 116] := by rw [HL.out, h2]; rfl
        clear h0 HE h1 h2
        go_wp2_with fail
        go_ret
        exact ⟨by rw [hE.out]; rfl, rfl⟩
      have h2' : ¬ s.toList = [111, 117, 116] := by rw [HL.out]; exact h2
      have hE := Lib.hid (show okN s.data.toList = true by rw [HE.out, ← HZ.out, decide_eq_true h0, decide_eq_true h2, decide_eq_true (show s.size ≤ 40 by omega)]; rfl)
      clear h0 HE h1 h2
      go_wp2_with fail
      go_ret
      exact ⟨by rw [hE.out]; simp [h0', h2'], rfl⟩
end Go.Proofs.YtbaocallhnehfaaGreatDoor
