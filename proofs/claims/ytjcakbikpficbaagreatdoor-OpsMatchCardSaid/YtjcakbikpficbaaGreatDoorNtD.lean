/- num.Integer by the program. Conditions: the library's variables read as listed (LibW). -/
import Derived.Test.YtjcakbikpficbaaGreatDoorDoor
namespace Go.Proofs.YtjcakbikpficbaaGreatDoor
open Go Go.RowKit
def setD : ByteArray := ⟨#[48, 49, 50, 51, 52, 53, 54, 55, 56, 57]⟩
theorem trimD_any (s : ByteArray) (w : World) (hs : s.size ≤ 9223372036854775807) : Calls Tryz.prog 140 #[.string s, .string setD] w fun e w' => e = .returned (.string ⟨(Lib.trimS s.data.toList setD.data.toList).toArray⟩) ∧ Below w.heap.size w w' :=
  Any.strings_Trim_laid Tryz.lays160 (by kernel_rfl) s setD w hs (by decide) (ascii_of_all (by decide))
theorem dig_has : ∀ n, n < 256 → setD.data.toList.contains (UInt8.ofNat n) = digB (UInt8.ofNat n) := by decide +kernel
theorem dig_of (b : UInt8) : setD.data.toList.contains b = digB b := by
  have h := dig_has b.toNat b.toNat_lt
  rwa [UInt8.ofNat_toNat] at h
theorem drop_nil {α : Type} (p : α → Bool) : ∀ l : List α, (l.dropWhile p).isEmpty = l.all p
  | [] => rfl
  | x :: l => by
    rw [List.dropWhile_cons, List.all_cons]
    cases p x with
    | true => simp only [if_true, Bool.true_and]; exact drop_nil p l
    | false => rfl
theorem drop_head {α : Type} (p : α → Bool) : ∀ l : List α, ∀ x r, l.dropWhile p = x :: r → p x = false
  | [], x, r, h => by cases h
  | y :: l, x, r, h => by
    rw [List.dropWhile_cons] at h
    cases hy : p y with
    | true => rw [hy] at h; exact drop_head p l x r h
    | false => rw [hy] at h; cases h; exact hy
theorem trim_empty (l cs : List UInt8) : (Lib.trimS l cs).isEmpty = l.all (cs.contains ·) := by
  unfold Lib.trimS Lib.trimLeftS Lib.trimRightS
  rw [drop_nil, List.all_reverse]
  cases h : (l.reverse.dropWhile fun x => cs.contains x) with
  | nil =>
    have := drop_nil (fun x => cs.contains x) l.reverse
    rw [h, List.all_reverse] at this
    rw [← this]; rfl
  | cons x r =>
    have h1 := drop_head _ _ _ _ h
    have h2 := drop_nil (fun x => cs.contains x) l.reverse
    rw [h, List.all_reverse] at h2
    rw [← h2, List.all_cons, h1]; rfl
theorem trim_digits (l : List UInt8) : (Lib.trimS l setD.data.toList).isEmpty = l.all digB := by
  rw [trim_empty]; congr 1; funext b; exact dig_of b
theorem trim_minus (l : List UInt8) : Lib.trimPrefix l [45] = unMinus l := by
  unfold Lib.trimPrefix Lib.hasPrefix unMinus
  cases l with
  | nil => rfl
  | cons a t =>
    by_cases h : a = 45
    · subst h; simp [List.isPrefixOf]
    · have h' : ¬ 45 = a := fun e => h e.symm
      simp [List.isPrefixOf, h, h']
/-- What num.Integer hands back. -/
def intR (l : List UInt8) (most : Nat) : Int := if intB l most then intV l else 0
def IntRes (l : List UInt8) (most : Nat) (w : World) (e : Ending) (w' : World) : Prop := e = .returned (.tuple #[.int .i64 (intR l most), .bool (intB l most)]) ∧ Below w.heap.size w w'
theorem intRes_no {l : List UInt8} {most : Nat} {w w' : World} {e : Ending} (h : intB l most = false) (he : e = .returned (.tuple #[.int .i64 0, .bool false])) (hb : Below w.heap.size w w') : IntRes l most w e w' := by
  unfold IntRes intR
  rw [h]; exact ⟨he, hb⟩
theorem str_nil {d : ByteArray} : d.toList = [] ↔ d.data.toList = [] := by rw [ByteArray.toList_eq]
theorem str_size {d : ByteArray} : d.size = d.data.toList.length := Lib.size_eq d
theorem not_can {l : List UInt8} {most : Nat} (h : unMinus l = [] ∨ most < (unMinus l).length ∨ (unMinus l).all digB = false ∨ (1 < (unMinus l).length ∧ (unMinus l).head? = some 48) ∨ l = [45, 48]) : intB l most = false := by
  unfold intB canB
  rcases h with h | h | h | ⟨h, h2⟩ | h
  · rw [h]; rfl
  · rw [decide_eq_false (show ¬ (unMinus l).length ≤ most by omega)]; simp
  · rw [h]; simp
  · rw [decide_eq_true h, decide_eq_true h2]; simp
  · rw [decide_eq_false (show ¬ l ≠ [45, 48] by simp [h])]; simp
theorem is_can {l : List UInt8} {most : Nat} (h1 : unMinus l ≠ []) (h2 : ¬ most < (unMinus l).length) (h3 : (unMinus l).all digB = true) (h4 : ¬ (1 < (unMinus l).length ∧ (unMinus l).head? = some 48)) (h5 : l ≠ [45, 48]) : intB l most = true := by
  unfold intB canB
  have e : (unMinus l).isEmpty = false := by
    cases h : unMinus l with
    | nil => exact absurd h h1
    | cons _ _ => rfl
  have e4 : (decide (1 < (unMinus l).length) && decide ((unMinus l).head? = some 48)) = false := by
    rw [Bool.and_eq_false_iff, decide_eq_false_iff_not, decide_eq_false_iff_not]
    by_cases h : 1 < (unMinus l).length
    · exact .inr fun h' => h4 ⟨h, h'⟩
    · exact .inl h
  rw [e, h3, e4, decide_eq_true (show (unMinus l).length ≤ most by omega), decide_eq_true h5]; rfl
theorem head_at {d : ByteArray} (h : 0 < d.size) : d.data.toList.head? = some d[0] := by
  have hl : 0 < d.data.toList.length := by rw [← str_size]; exact h
  cases hd : d.data.toList with
  | nil => rw [hd] at hl; simp at hl
  | cons a t =>
    have e : d[0] = d.data.toList[0] := rfl
    rw [e]
    simp only [hd, List.head?_cons, List.getElem_cons_zero]
theorem byte_48 (b : UInt8) : ((b.toNat : Int) == 48) = decide (b = 48) := by
  by_cases h : b = 48
  · subst h; rfl
  · have : ¬ (b.toNat : Int) = 48 := fun e => h (UInt8.toNat_inj.1 (by show b.toNat = 48; omega))
    rw [decide_eq_false h]; simpa using this
theorem str_eq {a : ByteArray} {l : List UInt8} : (a.toList == l) = decide (a.data.toList = l) := by
  rw [ByteArray.toList_eq]
  by_cases h : a.data.toList = l
  · rw [decide_eq_true h, h]; simp
  · rw [decide_eq_false h]; simpa using h
set_option maxRecDepth 100000 in
set_option maxHeartbeats 3200000 in
theorem Integer_any (s : ByteArray) (most : Nat) (w : World) (hL : LibW w) (hs : s.size ≤ 281474976710656) (hm : most ≤ 17) : Calls Tryz.prog 138 #[.string s, .int .i64 most] w (IntRes s.data.toList most w) := by
  obtain ⟨d, hd⟩ : ∃ d : ByteArray, d = ⟨(Lib.trimPrefix s.data.toList [45]).toArray⟩ := ⟨_, rfl⟩
  have HD : Hid (d.data.toList = unMinus s.data.toList) := Lib.hid (by rw [hd, ← trim_minus])
  have HP : Hid (∀ w', Calls Tryz.prog 169 #[.string s, .string ⟨#[45]⟩] w' fun e w'' => e = .returned (.string d) ∧ w'' = w') := Lib.hid (fun w' => by rw [hd]; exact Tryz.strings_TrimPrefix s ⟨#[45]⟩ w')
  clear hd
  have hml : (most : Int) ≤ 17 := by omega
  by_cases c1 : d.toList = []
  · have c2 : d.toList.isEmpty = true := by rw [c1]; rfl
    have HN := Lib.hid (intRes_no (w := w) (e := .returned (.tuple #[.int .i64 0, .bool false])) (most := most) (not_can (.inl (by rw [← HD.out]; exact str_nil.1 c1))) rfl (Below.refl _ _))
    go_enter Tryz.func138, Tryz.ntmps138
    go_wp2_with (go_at_call 169; refine (HP.out _).mono ?_; rintro e w1 ⟨rfl, rfl⟩)
    go_ret2
    exact HN.out
  · have c2 : d.toList.isEmpty = false := by simpa using c1
    have C1 : Hid (d.data.toList ≠ []) := Lib.hid (fun h => c1 (str_nil.2 h))
    by_cases c3 : most < d.size
    · have c3' : decide (most < d.size) = true := by simpa using c3
      have HN := Lib.hid (intRes_no (w := w) (e := .returned (.tuple #[.int .i64 0, .bool false])) (most := most) (not_can (.inr (.inl (by rw [← HD.out, ← str_size]; exact c3)))) rfl (Below.refl _ _))
      go_enter Tryz.func138, Tryz.ntmps138
      go_wp2_with (go_at_call 169; refine (HP.out _).mono ?_; rintro e w1 ⟨rfl, rfl⟩)
      go_ret2
      exact HN.out
    · have c3' : decide (most < d.size) = false := by simpa using c3
      obtain ⟨t, ht⟩ : ∃ t : ByteArray, t = ⟨(Lib.trimS d.data.toList setD.data.toList).toArray⟩ := ⟨_, rfl⟩
      have HT : Hid (∀ w', Calls Tryz.prog 140 #[.string d, .string setD] w' fun e w'' => e = .returned (.string t) ∧ Below w'.heap.size w' w'') := Lib.hid (fun w' => by rw [ht]; exact trimD_any d w' (by omega))
      have HE : Hid (t.data.toList.isEmpty = (unMinus s.data.toList).all digB) := Lib.hid (by rw [ht, ← HD.out]; exact trim_digits _)
      clear ht
      by_cases c5 : t.toList = []
      · have c6 : t.toList.isEmpty = true := by rw [c5]; rfl
        have h0 : 0 < d.size := by
          rw [str_size]; exact List.length_pos_iff.2 C1.out
        have H0 := Lib.hid (head_at h0)
        have HA : Hid ((unMinus s.data.toList).all digB = true) := Lib.hid (by rw [← HE.out, str_nil.1 c5]; rfl)
        have go1 : ∀ (c7 : decide ((1 : Int) < (d.size : Int)) = true) (c8 : ((d[0].toNat : Int) == 48) = true), Calls Tryz.prog 138 #[.string s, .int .i64 most] w (IntRes s.data.toList most w) := fun c7 c8 => by
          have HN : Hid (∀ w', Below w.heap.size w w' → IntRes s.data.toList most w (.returned (.tuple #[.int .i64 0, .bool false])) w') := Lib.hid (fun w' hb => intRes_no (not_can (.inr (.inr (.inr (.inl ⟨by rw [← HD.out, ← str_size]; have := of_decide_eq_true c7; omega, by rw [← HD.out, H0.out]; rw [byte_48] at c8; rw [of_decide_eq_true c8]⟩))))) rfl hb)
          clear hL HE HA H0 C1 HD
          go_enter Tryz.func138, Tryz.ntmps138
          go_wp2_with (first | (go_at_call 169; refine (HP.out _).mono ?_; rintro e w1 ⟨rfl, rfl⟩) | (go_at_call 140; refine (HT.out _).mono ?_; rintro e w2 ⟨rfl, hb2⟩))
          go_ret2
          exact HN.out _ hb2
        have go2 : ∀ (c9 : (s.toList == [45, 48]) = true), (decide ((1 : Int) < (d.size : Int)) = false ∨ decide ((1 : Int) < (d.size : Int)) = true ∧ ((d[0].toNat : Int) == 48) = false) → Calls Tryz.prog 138 #[.string s, .int .i64 most] w (IntRes s.data.toList most w) := fun c9 c10 => by
          have HN : Hid (∀ w', Below w.heap.size w w' → IntRes s.data.toList most w (.returned (.tuple #[.int .i64 0, .bool false])) w') := Lib.hid (fun w' hb => intRes_no (not_can (.inr (.inr (.inr (.inr (by rw [str_eq] at c9; exact of_decide_eq_true c9)))))) rfl hb)
          clear hL HE HA H0 C1 HD
          rcases c10 with c10 | ⟨c10, c11⟩
          · go_enter Tryz.func138, Tryz.ntmps138
            go_wp2_with (first | (go_at_call 169; refine (HP.out _).mono ?_; rintro e w1 ⟨rfl, rfl⟩) | (go_at_call 140; refine (HT.out _).mono ?_; rintro e w2 ⟨rfl, hb2⟩))
            go_ret2
            exact HN.out _ hb2
          · go_enter Tryz.func138, Tryz.ntmps138
            go_wp2_with (first | (go_at_call 169; refine (HP.out _).mono ?_; rintro e w1 ⟨rfl, rfl⟩) | (go_at_call 140; refine (HT.out _).mono ?_; rintro e w2 ⟨rfl, hb2⟩))
            go_ret2
            exact HN.out _ hb2
        have go3 : ∀ (c9 : (s.toList == [45, 48]) = false), (decide ((1 : Int) < (d.size : Int)) = false ∨ decide ((1 : Int) < (d.size : Int)) = true ∧ ((d[0].toNat : Int) == 48) = false) → Calls Tryz.prog 138 #[.string s, .int .i64 most] w (IntRes s.data.toList most w) := fun c9 c10 => by
          have hB : intB s.data.toList most = true := is_can (by rw [← HD.out]; exact C1.out) (by rw [← HD.out, ← str_size]; exact c3) HA.out (by
            rintro ⟨h1, h2⟩
            rw [← HD.out, ← str_size] at h1
            rw [← HD.out, H0.out] at h2
            rcases c10 with c10 | ⟨-, c11⟩
            · have := of_decide_eq_false c10; omega
            · rw [byte_48] at c11; exact of_decide_eq_false c11 (Option.some.inj h2)) (by rw [str_eq] at c9; exact of_decide_eq_false c9)
          have HN : Hid (∀ w', Below w.heap.size w w' → IntRes s.data.toList most w (.returned (.tuple #[.int .i64 (intV s.data.toList), .bool true])) w') := Lib.hid (fun w' hb => by unfold IntRes intR; rw [hB]; exact ⟨rfl, hb⟩)
          have HI : Hid (∀ w', LibW w' → Calls Tryz.prog 51 #[.string s] w' fun e w'' => e = .returned (.tuple #[.int .i64 (intV s.data.toList), .nilIface]) ∧ Below w'.heap.size w' w'') := Lib.hid (fun w' h' => by
            refine (Atoi_any s w' h' hs).mono ?_
            rintro e w'' ⟨⟨N, rfl⟩, hb⟩
            have e1 := int_at hm hB
            refine ⟨?_, hb⟩
            unfold atV
            rw [e1]; rfl)
          have HL := Lib.hid hL
          clear hL HE HA H0 C1 HD hB
          rcases c10 with c10 | ⟨c10, c11⟩
          · go_enter Tryz.func138, Tryz.ntmps138
            go_wp2_with (first | (go_at_call 169; refine (HP.out _).mono ?_; rintro e w1 ⟨rfl, rfl⟩) | (go_at_call 140; refine (HT.out _).mono ?_; rintro e w2 ⟨rfl, hb2⟩) | (go_at_call 51; refine (HI.out _ (HL.out.past hb2)).mono ?_; rintro e w3 ⟨rfl, hb3⟩))
            go_quiet (fail)
            go_wp2_with fail
            go_ret2
            exact HN.out _ (by (repeat (first | exact Below.refl _ _ | assumption | (refine Below.setCell ?_ (by first | (simp; done) | (simp; omega) | omega) _) | (refine Below.drew ?_) | (refine below_drewN ?_ _) | (refine Below.alloc ?_ (by first | (simp; done) | (simp; omega) | omega) _) | (refine Below.trans ?_ (Below.mono (by assumption) (by first | (simp; done) | (simp; omega) | omega))))); exact hb2.trans (hb3.mono hb2.size))
          · go_enter Tryz.func138, Tryz.ntmps138
            go_wp2_with (first | (go_at_call 169; refine (HP.out _).mono ?_; rintro e w1 ⟨rfl, rfl⟩) | (go_at_call 140; refine (HT.out _).mono ?_; rintro e w2 ⟨rfl, hb2⟩) | (go_at_call 51; refine (HI.out _ (HL.out.past hb2)).mono ?_; rintro e w3 ⟨rfl, hb3⟩))
            go_quiet (fail)
            go_wp2_with fail
            go_ret2
            exact HN.out _ (by (repeat (first | exact Below.refl _ _ | assumption | (refine Below.setCell ?_ (by first | (simp; done) | (simp; omega) | omega) _) | (refine Below.drew ?_) | (refine below_drewN ?_ _) | (refine Below.alloc ?_ (by first | (simp; done) | (simp; omega) | omega) _) | (refine Below.trans ?_ (Below.mono (by assumption) (by first | (simp; done) | (simp; omega) | omega))))); exact hb2.trans (hb3.mono hb2.size))
        cases c7 : decide ((1 : Int) < (d.size : Int))
        · cases c9 : (s.toList == [45, 48])
          · exact go3 c9 (.inl c7)
          · exact go2 c9 (.inl c7)
        · cases c8 : ((d[0].toNat : Int) == 48)
          · cases c9 : (s.toList == [45, 48])
            · exact go3 c9 (.inr ⟨c7, c8⟩)
            · exact go2 c9 (.inr ⟨c7, c8⟩)
          · exact go1 c7 c8
      · have c6 : t.toList.isEmpty = false := by simpa using c5
        have HN : Hid (∀ w', Below w.heap.size w w' → IntRes s.data.toList most w (.returned (.tuple #[.int .i64 0, .bool false])) w') := Lib.hid (fun w' hb => intRes_no (not_can (.inr (.inr (.inl (by
          rw [← HE.out]
          cases h : t.data.toList with
          | nil => exact absurd (str_nil.2 h) c5
          | cons _ _ => rfl))))) rfl hb)
        clear hL HE C1 HD
        go_enter Tryz.func138, Tryz.ntmps138
        go_wp2_with (first | (go_at_call 169; refine (HP.out _).mono ?_; rintro e w1 ⟨rfl, rfl⟩) | (go_at_call 140; refine (HT.out _).mono ?_; rintro e w2 ⟨rfl, hb2⟩))
        go_ret2
        exact HN.out _ hb2
end Go.Proofs.YtjcakbikpficbaaGreatDoor
