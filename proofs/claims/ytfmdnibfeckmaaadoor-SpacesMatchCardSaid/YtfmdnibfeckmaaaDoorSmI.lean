/- The document's error of a space. Conditions: the name is a string. -/
import Derived.Test.YtfmdnibfeckmaaaDoorSmH
import Derived.Test.YtfmdnibfeckmaaaDoorSmG
namespace Go.Proofs.YtfmdnibfeckmaaaDoor
open Go Go.RowKit
/-- The name is right as far as m bytes. -/
def rgM (n : ByteArray) (m : Nat) : Bool := (!n.toList.isEmpty && decide ((n.size : Int) ≤ 40)) && (n.data.toList.take m).all fun b => setB b.toNat
theorem rgM_start (n : ByteArray) : rgM n 0 = (!n.toList.isEmpty && decide ((n.size : Int) ≤ 40)) := by unfold rgM; simp
theorem rgM_end (n : ByteArray) : rgM n n.size = rgB n := by
  unfold rgM rgB
  have e : n.data.toList.take n.size = n.data.toList := List.take_of_length_le (by show n.data.toList.length ≤ n.data.size; simp)
  rw [e, Bool.and_assoc]
theorem take_snoc_b (s : ByteArray) (k : Nat) (h : k < s.size) : s.data.toList.take (k + 1) = s.data.toList.take k ++ [s[k]] := by
  rw [List.take_succ_eq_append_getElem (by simpa using h)]; rfl
theorem rgM_next (n : ByteArray) (m : Nat) (h : m < n.size) : rgM n (m + 1) = (rgM n m && setB n[m].toNat) := by
  unfold rgM
  rw [take_snoc_b n m h, List.all_append, ← Bool.and_assoc]
  simp
/-- What the two errors in one statement are. -/
def SePsi (P Q : Int) (f : FuncId) (_ : Array Value) (u : Value) : Prop := (f = 18 ∧ u = .int .i64 P) ∨ (f = 19 ∧ u = .int .i64 Q)
theorem se_psi1 {P Q : Int} {args : Array Value} {u : Value} : SePsi P Q 18 args u ↔ u = .int .i64 P := by
  have h : (18 : FuncId) ≠ 19 := by decide
  unfold SePsi; simp [h]
theorem se_psi2 {P Q : Int} {args : Array Value} {u : Value} : SePsi P Q 19 args u ↔ u = .int .i64 Q := by
  have h : (19 : FuncId) ≠ 18 := by decide
  unfold SePsi; simp [h]
set_option maxRecDepth 100000 in
set_option maxHeartbeats 25600000 in
theorem SpaceError_any (n : ByteArray) (p : Nat → Nat) (k : Int) (a b c : Nat) (w : World) (hn : n.size ≤ 9223372036854775807) : Calls Tryd.prog 9 #[spcV n p k a b c] w (IntIs (spaE n p k a b c) w.heap.size w) := by
  have hst := rgM_start n
  obtain ⟨r0, hr0⟩ : ∃ r : Bool, rgM n 0 = r := ⟨_, rfl⟩
  have hcase : (n.toList.isEmpty = true ∧ r0 = false) ∨ (n.toList.isEmpty = false ∧ ¬ n.toList = [] ∧ (n.size : Int) ≤ 40 ∧ r0 = true) ∨ (n.toList.isEmpty = false ∧ ¬ n.toList = [] ∧ ¬ (n.size : Int) ≤ 40 ∧ r0 = false) := by
    rw [hr0] at hst
    cases e1 : n.toList.isEmpty
    · have e2 : ¬ n.toList = [] := fun h => by rw [h] at e1; cases e1
      rw [e1] at hst
      by_cases e3 : (n.size : Int) ≤ 40
      · exact .inr (.inl ⟨rfl, e2, e3, by rw [hst, decide_eq_true e3]; rfl⟩)
      · exact .inr (.inr ⟨rfl, e2, e3, by rw [hst, decide_eq_false e3]; rfl⟩)
    · exact .inl ⟨rfl, by rw [hst, e1]; rfl⟩
  have HR0 := Lib.hid hr0
  clear hst hr0
  rcases hcase with ⟨e1, hr⟩ | ⟨e1, e2, e3, hr⟩ | ⟨e1, e2, e3, hr⟩
  · have e2 : n.toList = [] := by simpa using e1
    have HS : Hid (rgM n 0 = false) := Lib.hid (by rw [HR0.out, hr])
    clear hr HR0
    go_enter Tryd.func9, Tryd.ntmps9
    go_upto_region 3 with fail
    refine wp_world (fun W hW => ?_)
    have HW : Hid (Blk W w.heap.size (spcL n p k a b c) ∧ Below w.heap.size w W) := Lib.hid (by rw [hW]; exact ⟨Blk.new _ _ _ _ rfl, by (repeat (first | exact Below.refl _ _ | assumption | (refine Below.setCell ?_ (by first | (simp; done) | (simp; omega) | omega) _) | (refine Below.drew ?_) | (refine below_drewN ?_ _) | (refine Below.alloc ?_ (by first | (simp; done) | (simp; omega) | omega) _) | (refine Below.trans ?_ (Below.mono (by assumption) (by first | (simp; done) | (simp; omega) | omega)))))⟩)
    have z0 := HW.out.1.c 0 _ rfl; have zl := HW.out.1.lt
    clear hW e1 e2
    go_loop [3, 21] (fun s3 s21 => ∃ m : Nat, m ≤ n.size ∧ s21 = .int .i64 m ∧ s3 = .bool (rgM n m)) (fun _ s21 => n.size - (intOf s21).toNat)
    case atStart => exact ⟨0, by omega, rfl, by rw [HS.out]⟩
    case round =>
      obtain ⟨m, hm, rfl, rfl⟩ := hrel
      clear HS
      by_cases hlt : m < n.size
      · have HN := Lib.hid (rgM_next n m hlt)
        cases hr : rgM n m
        · have HNX : Hid (rgM n (m + 1) = false) := Lib.hid (by rw [HN.out, hr]; rfl)
          clear hr HN
          go_wp2_with fail
          go_round
          case rel => exact ⟨m + 1, by omega, by go_num, by rw [HNX.out]⟩
          case measure => simp [intOf]; omega
        · have HNX : Hid (rgM n (m + 1) = setB n[m].toNat) := Lib.hid (by rw [HN.out, hr]; rfl)
          clear hr HN
          rcases (show n[m].toNat < 45 ∨ n[m].toNat = 45 ∨ (46 ≤ n[m].toNat ∧ n[m].toNat ≤ 47) ∨ (48 ≤ n[m].toNat ∧ n[m].toNat ≤ 57) ∨ (58 ≤ n[m].toNat ∧ n[m].toNat ≤ 96) ∨ (97 ≤ n[m].toNat ∧ n[m].toNat ≤ 122) ∨ 123 ≤ n[m].toNat by omega) with hc | hc | hc | hc | hc | hc | hc
          · have HB : Hid (rgM n (m + 1) = false) := Lib.hid (by rw [HNX.out]; unfold setB; simp; omega)
            clear HNX
            have q2 : (n[m].toNat : Int) ≤ 44 := by omega
            have q3 : ((n[m].toNat : Int) == 45) = false := by simp; omega
            clear hc
            go_wp2_with fail
            go_round
            case rel => exact ⟨m + 1, by omega, by go_num, by (rw [HB.out]) <;> first | rfl | (congr 1; simp; omega)⟩
            case measure => simp [intOf]; omega
          · have HB : Hid (rgM n (m + 1) = true) := Lib.hid (by rw [HNX.out]; unfold setB; simp; omega)
            clear HNX
            have q1 : (45 : Int) ≤ (n[m].toNat : Int) := by omega
            have q2 : (n[m].toNat : Int) ≤ 45 := by omega
            have q3 : ((n[m].toNat : Int) == 45) = true := by simp; omega
            clear hc
            go_wp2_with fail
            go_round
            case rel => exact ⟨m + 1, by omega, by go_num, by (rw [HB.out]) <;> first | rfl | (congr 1; simp; omega)⟩
            case measure => simp [intOf]; omega
          · have HB : Hid (rgM n (m + 1) = false) := Lib.hid (by rw [HNX.out]; unfold setB; simp; omega)
            clear HNX
            have q1 : (46 : Int) ≤ (n[m].toNat : Int) := by omega
            have q2 : (n[m].toNat : Int) ≤ 47 := by omega
            have q3 : ((n[m].toNat : Int) == 45) = false := by simp; omega
            clear hc
            go_wp2_with fail
            go_round
            case rel => exact ⟨m + 1, by omega, by go_num, by (rw [HB.out]) <;> first | rfl | (congr 1; simp; omega)⟩
            case measure => simp [intOf]; omega
          · have HB : Hid (rgM n (m + 1) = true) := Lib.hid (by rw [HNX.out]; unfold setB; simp; omega)
            clear HNX
            have q1 : (48 : Int) ≤ (n[m].toNat : Int) := by omega
            have q2 : (n[m].toNat : Int) ≤ 57 := by omega
            have q3 : ((n[m].toNat : Int) == 45) = false := by simp; omega
            clear hc
            go_wp2_with fail
            go_round
            case rel => exact ⟨m + 1, by omega, by go_num, by (rw [HB.out]) <;> first | rfl | (congr 1; simp; omega)⟩
            case measure => simp [intOf]; omega
          · have HB : Hid (rgM n (m + 1) = false) := Lib.hid (by rw [HNX.out]; unfold setB; simp; omega)
            clear HNX
            have q1 : (58 : Int) ≤ (n[m].toNat : Int) := by omega
            have q2 : (n[m].toNat : Int) ≤ 96 := by omega
            have q3 : ((n[m].toNat : Int) == 45) = false := by simp; omega
            clear hc
            go_wp2_with fail
            go_round
            case rel => exact ⟨m + 1, by omega, by go_num, by (rw [HB.out]) <;> first | rfl | (congr 1; simp; omega)⟩
            case measure => simp [intOf]; omega
          · have HB : Hid (rgM n (m + 1) = true) := Lib.hid (by rw [HNX.out]; unfold setB; simp; omega)
            clear HNX
            have q1 : (97 : Int) ≤ (n[m].toNat : Int) := by omega
            have q2 : (n[m].toNat : Int) ≤ 122 := by omega
            have q3 : ((n[m].toNat : Int) == 45) = false := by simp; omega
            clear hc
            go_wp2_with fail
            go_round
            case rel => exact ⟨m + 1, by omega, by go_num, by (rw [HB.out]) <;> first | rfl | (congr 1; simp; omega)⟩
            case measure => simp [intOf]; omega
          · have HB : Hid (rgM n (m + 1) = false) := Lib.hid (by rw [HNX.out]; unfold setB; simp; omega)
            clear HNX
            have q1 : (123 : Int) ≤ (n[m].toNat : Int) := by omega
            have q3 : ((n[m].toNat : Int) == 45) = false := by simp; omega
            clear hc
            go_wp2_with fail
            go_round
            case rel => exact ⟨m + 1, by omega, by go_num, by (rw [HB.out]) <;> first | rfl | (congr 1; simp; omega)⟩
            case measure => simp [intOf]; omega
      · have hlt' : ¬ (m : Int) < (n.size : Int) := by omega
        obtain rfl : m = n.size := by omega
        have HM := Lib.hid (rgM_end n)
        cases hg : rgB n
        · have hr : rgM n n.size = false := by rw [HM.out]; exact hg
          have HE : Hid (spaE n p k a b c = 6) := Lib.hid (by unfold spaE; rw [hg]; rfl)
          clear hg
          go_wp2_with fail
          go_ret
          exact ⟨by rw [HE.out]; rfl, HW.out.2⟩
        · have hr : rgM n n.size = true := by rw [HM.out]; exact hg
          have HG := Lib.hid hg
          clear hg z0 zl
          go_upto_region 10 with fail
          clear hr
          have c1 := HW.out.1.c 1 _ rfl; have c2 := HW.out.1.c 2 _ rfl; have c3 := HW.out.1.c 3 _ rfl; have c4 := HW.out.1.c 4 _ rfl; have c5 := HW.out.1.c 5 _ rfl; have c6 := HW.out.1.c 6 _ rfl; have c7 := HW.out.1.c 7 _ rfl; have c8 := HW.out.1.c 8 _ rfl; have cl := HW.out.1.lt
          have c9 := HW.out.1.c 9 _ rfl; have c10 := HW.out.1.c 10 _ rfl; have c11 := HW.out.1.c 11 _ rfl; have c12 := HW.out.1.c 12 _ rfl
          obtain ⟨P, hP⟩ : ∃ P, P = prE p := ⟨_, rfl⟩
          obtain ⟨Q, hQ⟩ : ∃ Q, Q = trE k a b c := ⟨_, rfl⟩
          have HPQ := Lib.hid (And.intro hP hQ)
          clear hP hQ
          refine wp_region_loose 6 (SePsi P Q) (by kernel_rfl) (by kernel_rfl) ?_
          simp only [List.take_succ_cons, List.take_zero, List.drop_succ_cons, List.drop_zero]
          (refine loose_wanted rfl (fun K hK => ?_); go_simp; refine hK _ ?_; clear hK K)
          (refine loose_wanted rfl (fun K hK => ?_); go_simp; refine hK _ ?_; clear hK K)
          refine loose_wanted rfl (fun K hK => ?_)
          go_simp
          refine ⟨fun z => (PrimariesError_any p z.w).mono ?_, ?_⟩
          · rintro e w' ⟨rfl, hb⟩
            exact ⟨_, rfl, se_psi1.2 (by rw [HPQ.out.1]), z.h.trans (hb.mono z.h.size)⟩
          intro u hu
          obtain rfl := se_psi1.1 hu
          refine hK _ ?_
          clear hK K hu
          (refine loose_wanted rfl (fun K hK => ?_); go_simp; refine hK _ ?_; clear hK K)
          (refine loose_wanted rfl (fun K hK => ?_); go_simp; refine hK _ ?_; clear hK K)
          refine loose_wanted rfl (fun K hK => ?_)
          go_simp
          refine ⟨fun z => (TransferError_any k a b c z.w).mono ?_, ?_⟩
          · rintro e w' ⟨rfl, hb⟩
            exact ⟨_, rfl, se_psi2.2 (by rw [HPQ.out.2]), z.h.trans (hb.mono z.h.size)⟩
          intro u hu
          obtain rfl := se_psi2.1 hu
          refine hK _ ?_
          clear hK K hu
          refine loose_nil (fun w5 hb5 => ?_)
          have H5 : Hid (Blk w5 w.heap.size (spcL n p k a b c) ∧ Below w.heap.size w w5) := Lib.hid ⟨HW.out.1.past hb5, HW.out.2.trans (hb5.mono HW.out.2.size)⟩
          clear hb5 c1 c2 c3 c4 c5 c6 c7 c8 c9 c10 c11 c12 cl HW
          go_upto_region 11 with (go_at_call 17; refine (First2_new _ _ _ _ _ (heap_new _ _ _ rfl)).mono ?_; rintro e w' ⟨rfl, rfl⟩)
          refine wp_world (fun V hV => ?_)
          have H6 : Hid (Blk V w.heap.size (spcL n p k a b c) ∧ Below w.heap.size w V) := Lib.hid (by rw [hV]; exact ⟨H5.out.1.alloc _, H5.out.2.alloc H5.out.2.size _⟩)
          clear hV H5
          by_cases h0 : firstE P Q = 0
          · have n2 : (firstE P Q != 0) = false := by simpa using h0
            have HE : Hid (spaE n p k a b c = xyE p) := Lib.hid (by
              have hP : P = 0 := by
                unfold firstE at h0; split at h0
                · assumption
                · exact h0
              have hQ : Q = 0 := by rw [hP] at h0; exact h0
              unfold spaE; rw [HG.out, ← HPQ.out.1, ← HPQ.out.2, hP, hQ]; rfl)
            clear h0
            have c1 := H6.out.1.c 1 _ rfl; have c2 := H6.out.1.c 2 _ rfl; have c3 := H6.out.1.c 3 _ rfl; have c4 := H6.out.1.c 4 _ rfl; have c5 := H6.out.1.c 5 _ rfl; have c6 := H6.out.1.c 6 _ rfl; have c7 := H6.out.1.c 7 _ rfl; have c8 := H6.out.1.c 8 _ rfl; have cl := H6.out.1.lt
            have HX := Lib.hid (fun w' => ToXYZOf_any p w' : ∀ w', _)
            generalize xyE p = X at *
            go_wp2_with (first | (go_at_call 20; refine (HX.out _).mono ?_; rintro e w4 ⟨⟨q, rfl, hq⟩, hb4⟩) | ((with_reducible apply wpList_st9 (r := q) (VecD.of9 (f := fun _ => 0) (Blk.new _ _ _ _ rfl))); rfl; rfl; rfl; rfl; intro w9 hk9 hs9 hh9 hb9))
            go_ret
            exact ⟨by rw [HE.out]; rfl, hb9 _ _ ((H6.out.2.trans (hb4.mono H6.out.2.size)).alloc (by have := hb4.size; have := H6.out.2.size; omega) _) (by have := hb4.size; have := H6.out.2.size; omega)⟩
          · have n2 : (firstE P Q != 0) = true := by simpa using h0
            have HE : Hid (spaE n p k a b c = firstE P Q) := Lib.hid (by
              unfold spaE; rw [HG.out, ← HPQ.out.1, ← HPQ.out.2]
              unfold firstE at h0 ⊢
              by_cases hP : P = 0
              · rw [if_pos hP] at h0 ⊢; rw [if_pos rfl, if_pos hP, if_neg h0]
              · rw [if_neg hP]; rw [if_pos rfl, if_neg hP])
            clear h0
            go_wp2_with fail
            go_ret
            exact ⟨by rw [HE.out]; rfl, H6.out.2⟩
  · have HS : Hid (rgM n 0 = true) := Lib.hid (by rw [HR0.out, hr])
    clear hr HR0
    go_enter Tryd.func9, Tryd.ntmps9
    go_upto_region 3 with fail
    refine wp_world (fun W hW => ?_)
    have HW : Hid (Blk W w.heap.size (spcL n p k a b c) ∧ Below w.heap.size w W) := Lib.hid (by rw [hW]; exact ⟨Blk.new _ _ _ _ rfl, by (repeat (first | exact Below.refl _ _ | assumption | (refine Below.setCell ?_ (by first | (simp; done) | (simp; omega) | omega) _) | (refine Below.drew ?_) | (refine below_drewN ?_ _) | (refine Below.alloc ?_ (by first | (simp; done) | (simp; omega) | omega) _) | (refine Below.trans ?_ (Below.mono (by assumption) (by first | (simp; done) | (simp; omega) | omega)))))⟩)
    have z0 := HW.out.1.c 0 _ rfl; have zl := HW.out.1.lt
    clear hW e1 e2 e3
    go_loop [3, 21] (fun s3 s21 => ∃ m : Nat, m ≤ n.size ∧ s21 = .int .i64 m ∧ s3 = .bool (rgM n m)) (fun _ s21 => n.size - (intOf s21).toNat)
    case atStart => exact ⟨0, by omega, rfl, by rw [HS.out]⟩
    case round =>
      obtain ⟨m, hm, rfl, rfl⟩ := hrel
      clear HS
      by_cases hlt : m < n.size
      · have HN := Lib.hid (rgM_next n m hlt)
        cases hr : rgM n m
        · have HNX : Hid (rgM n (m + 1) = false) := Lib.hid (by rw [HN.out, hr]; rfl)
          clear hr HN
          go_wp2_with fail
          go_round
          case rel => exact ⟨m + 1, by omega, by go_num, by rw [HNX.out]⟩
          case measure => simp [intOf]; omega
        · have HNX : Hid (rgM n (m + 1) = setB n[m].toNat) := Lib.hid (by rw [HN.out, hr]; rfl)
          clear hr HN
          rcases (show n[m].toNat < 45 ∨ n[m].toNat = 45 ∨ (46 ≤ n[m].toNat ∧ n[m].toNat ≤ 47) ∨ (48 ≤ n[m].toNat ∧ n[m].toNat ≤ 57) ∨ (58 ≤ n[m].toNat ∧ n[m].toNat ≤ 96) ∨ (97 ≤ n[m].toNat ∧ n[m].toNat ≤ 122) ∨ 123 ≤ n[m].toNat by omega) with hc | hc | hc | hc | hc | hc | hc
          · have HB : Hid (rgM n (m + 1) = false) := Lib.hid (by rw [HNX.out]; unfold setB; simp; omega)
            clear HNX
            have q2 : (n[m].toNat : Int) ≤ 44 := by omega
            have q3 : ((n[m].toNat : Int) == 45) = false := by simp; omega
            clear hc
            go_wp2_with fail
            go_round
            case rel => exact ⟨m + 1, by omega, by go_num, by (rw [HB.out]) <;> first | rfl | (congr 1; simp; omega)⟩
            case measure => simp [intOf]; omega
          · have HB : Hid (rgM n (m + 1) = true) := Lib.hid (by rw [HNX.out]; unfold setB; simp; omega)
            clear HNX
            have q1 : (45 : Int) ≤ (n[m].toNat : Int) := by omega
            have q2 : (n[m].toNat : Int) ≤ 45 := by omega
            have q3 : ((n[m].toNat : Int) == 45) = true := by simp; omega
            clear hc
            go_wp2_with fail
            go_round
            case rel => exact ⟨m + 1, by omega, by go_num, by (rw [HB.out]) <;> first | rfl | (congr 1; simp; omega)⟩
            case measure => simp [intOf]; omega
          · have HB : Hid (rgM n (m + 1) = false) := Lib.hid (by rw [HNX.out]; unfold setB; simp; omega)
            clear HNX
            have q1 : (46 : Int) ≤ (n[m].toNat : Int) := by omega
            have q2 : (n[m].toNat : Int) ≤ 47 := by omega
            have q3 : ((n[m].toNat : Int) == 45) = false := by simp; omega
            clear hc
            go_wp2_with fail
            go_round
            case rel => exact ⟨m + 1, by omega, by go_num, by (rw [HB.out]) <;> first | rfl | (congr 1; simp; omega)⟩
            case measure => simp [intOf]; omega
          · have HB : Hid (rgM n (m + 1) = true) := Lib.hid (by rw [HNX.out]; unfold setB; simp; omega)
            clear HNX
            have q1 : (48 : Int) ≤ (n[m].toNat : Int) := by omega
            have q2 : (n[m].toNat : Int) ≤ 57 := by omega
            have q3 : ((n[m].toNat : Int) == 45) = false := by simp; omega
            clear hc
            go_wp2_with fail
            go_round
            case rel => exact ⟨m + 1, by omega, by go_num, by (rw [HB.out]) <;> first | rfl | (congr 1; simp; omega)⟩
            case measure => simp [intOf]; omega
          · have HB : Hid (rgM n (m + 1) = false) := Lib.hid (by rw [HNX.out]; unfold setB; simp; omega)
            clear HNX
            have q1 : (58 : Int) ≤ (n[m].toNat : Int) := by omega
            have q2 : (n[m].toNat : Int) ≤ 96 := by omega
            have q3 : ((n[m].toNat : Int) == 45) = false := by simp; omega
            clear hc
            go_wp2_with fail
            go_round
            case rel => exact ⟨m + 1, by omega, by go_num, by (rw [HB.out]) <;> first | rfl | (congr 1; simp; omega)⟩
            case measure => simp [intOf]; omega
          · have HB : Hid (rgM n (m + 1) = true) := Lib.hid (by rw [HNX.out]; unfold setB; simp; omega)
            clear HNX
            have q1 : (97 : Int) ≤ (n[m].toNat : Int) := by omega
            have q2 : (n[m].toNat : Int) ≤ 122 := by omega
            have q3 : ((n[m].toNat : Int) == 45) = false := by simp; omega
            clear hc
            go_wp2_with fail
            go_round
            case rel => exact ⟨m + 1, by omega, by go_num, by (rw [HB.out]) <;> first | rfl | (congr 1; simp; omega)⟩
            case measure => simp [intOf]; omega
          · have HB : Hid (rgM n (m + 1) = false) := Lib.hid (by rw [HNX.out]; unfold setB; simp; omega)
            clear HNX
            have q1 : (123 : Int) ≤ (n[m].toNat : Int) := by omega
            have q3 : ((n[m].toNat : Int) == 45) = false := by simp; omega
            clear hc
            go_wp2_with fail
            go_round
            case rel => exact ⟨m + 1, by omega, by go_num, by (rw [HB.out]) <;> first | rfl | (congr 1; simp; omega)⟩
            case measure => simp [intOf]; omega
      · have hlt' : ¬ (m : Int) < (n.size : Int) := by omega
        obtain rfl : m = n.size := by omega
        have HM := Lib.hid (rgM_end n)
        cases hg : rgB n
        · have hr : rgM n n.size = false := by rw [HM.out]; exact hg
          have HE : Hid (spaE n p k a b c = 6) := Lib.hid (by unfold spaE; rw [hg]; rfl)
          clear hg
          go_wp2_with fail
          go_ret
          exact ⟨by rw [HE.out]; rfl, HW.out.2⟩
        · have hr : rgM n n.size = true := by rw [HM.out]; exact hg
          have HG := Lib.hid hg
          clear hg z0 zl
          go_upto_region 10 with fail
          clear hr
          have c1 := HW.out.1.c 1 _ rfl; have c2 := HW.out.1.c 2 _ rfl; have c3 := HW.out.1.c 3 _ rfl; have c4 := HW.out.1.c 4 _ rfl; have c5 := HW.out.1.c 5 _ rfl; have c6 := HW.out.1.c 6 _ rfl; have c7 := HW.out.1.c 7 _ rfl; have c8 := HW.out.1.c 8 _ rfl; have cl := HW.out.1.lt
          have c9 := HW.out.1.c 9 _ rfl; have c10 := HW.out.1.c 10 _ rfl; have c11 := HW.out.1.c 11 _ rfl; have c12 := HW.out.1.c 12 _ rfl
          obtain ⟨P, hP⟩ : ∃ P, P = prE p := ⟨_, rfl⟩
          obtain ⟨Q, hQ⟩ : ∃ Q, Q = trE k a b c := ⟨_, rfl⟩
          have HPQ := Lib.hid (And.intro hP hQ)
          clear hP hQ
          refine wp_region_loose 6 (SePsi P Q) (by kernel_rfl) (by kernel_rfl) ?_
          simp only [List.take_succ_cons, List.take_zero, List.drop_succ_cons, List.drop_zero]
          (refine loose_wanted rfl (fun K hK => ?_); go_simp; refine hK _ ?_; clear hK K)
          (refine loose_wanted rfl (fun K hK => ?_); go_simp; refine hK _ ?_; clear hK K)
          refine loose_wanted rfl (fun K hK => ?_)
          go_simp
          refine ⟨fun z => (PrimariesError_any p z.w).mono ?_, ?_⟩
          · rintro e w' ⟨rfl, hb⟩
            exact ⟨_, rfl, se_psi1.2 (by rw [HPQ.out.1]), z.h.trans (hb.mono z.h.size)⟩
          intro u hu
          obtain rfl := se_psi1.1 hu
          refine hK _ ?_
          clear hK K hu
          (refine loose_wanted rfl (fun K hK => ?_); go_simp; refine hK _ ?_; clear hK K)
          (refine loose_wanted rfl (fun K hK => ?_); go_simp; refine hK _ ?_; clear hK K)
          refine loose_wanted rfl (fun K hK => ?_)
          go_simp
          refine ⟨fun z => (TransferError_any k a b c z.w).mono ?_, ?_⟩
          · rintro e w' ⟨rfl, hb⟩
            exact ⟨_, rfl, se_psi2.2 (by rw [HPQ.out.2]), z.h.trans (hb.mono z.h.size)⟩
          intro u hu
          obtain rfl := se_psi2.1 hu
          refine hK _ ?_
          clear hK K hu
          refine loose_nil (fun w5 hb5 => ?_)
          have H5 : Hid (Blk w5 w.heap.size (spcL n p k a b c) ∧ Below w.heap.size w w5) := Lib.hid ⟨HW.out.1.past hb5, HW.out.2.trans (hb5.mono HW.out.2.size)⟩
          clear hb5 c1 c2 c3 c4 c5 c6 c7 c8 c9 c10 c11 c12 cl HW
          go_upto_region 11 with (go_at_call 17; refine (First2_new _ _ _ _ _ (heap_new _ _ _ rfl)).mono ?_; rintro e w' ⟨rfl, rfl⟩)
          refine wp_world (fun V hV => ?_)
          have H6 : Hid (Blk V w.heap.size (spcL n p k a b c) ∧ Below w.heap.size w V) := Lib.hid (by rw [hV]; exact ⟨H5.out.1.alloc _, H5.out.2.alloc H5.out.2.size _⟩)
          clear hV H5
          by_cases h0 : firstE P Q = 0
          · have n2 : (firstE P Q != 0) = false := by simpa using h0
            have HE : Hid (spaE n p k a b c = xyE p) := Lib.hid (by
              have hP : P = 0 := by
                unfold firstE at h0; split at h0
                · assumption
                · exact h0
              have hQ : Q = 0 := by rw [hP] at h0; exact h0
              unfold spaE; rw [HG.out, ← HPQ.out.1, ← HPQ.out.2, hP, hQ]; rfl)
            clear h0
            have c1 := H6.out.1.c 1 _ rfl; have c2 := H6.out.1.c 2 _ rfl; have c3 := H6.out.1.c 3 _ rfl; have c4 := H6.out.1.c 4 _ rfl; have c5 := H6.out.1.c 5 _ rfl; have c6 := H6.out.1.c 6 _ rfl; have c7 := H6.out.1.c 7 _ rfl; have c8 := H6.out.1.c 8 _ rfl; have cl := H6.out.1.lt
            have HX := Lib.hid (fun w' => ToXYZOf_any p w' : ∀ w', _)
            generalize xyE p = X at *
            go_wp2_with (first | (go_at_call 20; refine (HX.out _).mono ?_; rintro e w4 ⟨⟨q, rfl, hq⟩, hb4⟩) | ((with_reducible apply wpList_st9 (r := q) (VecD.of9 (f := fun _ => 0) (Blk.new _ _ _ _ rfl))); rfl; rfl; rfl; rfl; intro w9 hk9 hs9 hh9 hb9))
            go_ret
            exact ⟨by rw [HE.out]; rfl, hb9 _ _ ((H6.out.2.trans (hb4.mono H6.out.2.size)).alloc (by have := hb4.size; have := H6.out.2.size; omega) _) (by have := hb4.size; have := H6.out.2.size; omega)⟩
          · have n2 : (firstE P Q != 0) = true := by simpa using h0
            have HE : Hid (spaE n p k a b c = firstE P Q) := Lib.hid (by
              unfold spaE; rw [HG.out, ← HPQ.out.1, ← HPQ.out.2]
              unfold firstE at h0 ⊢
              by_cases hP : P = 0
              · rw [if_pos hP] at h0 ⊢; rw [if_pos rfl, if_pos hP, if_neg h0]
              · rw [if_neg hP]; rw [if_pos rfl, if_neg hP])
            clear h0
            go_wp2_with fail
            go_ret
            exact ⟨by rw [HE.out]; rfl, H6.out.2⟩
  · have HS : Hid (rgM n 0 = false) := Lib.hid (by rw [HR0.out, hr])
    clear hr HR0
    go_enter Tryd.func9, Tryd.ntmps9
    go_upto_region 3 with fail
    refine wp_world (fun W hW => ?_)
    have HW : Hid (Blk W w.heap.size (spcL n p k a b c) ∧ Below w.heap.size w W) := Lib.hid (by rw [hW]; exact ⟨Blk.new _ _ _ _ rfl, by (repeat (first | exact Below.refl _ _ | assumption | (refine Below.setCell ?_ (by first | (simp; done) | (simp; omega) | omega) _) | (refine Below.drew ?_) | (refine below_drewN ?_ _) | (refine Below.alloc ?_ (by first | (simp; done) | (simp; omega) | omega) _) | (refine Below.trans ?_ (Below.mono (by assumption) (by first | (simp; done) | (simp; omega) | omega)))))⟩)
    have z0 := HW.out.1.c 0 _ rfl; have zl := HW.out.1.lt
    clear hW e1 e2 e3
    go_loop [3, 21] (fun s3 s21 => ∃ m : Nat, m ≤ n.size ∧ s21 = .int .i64 m ∧ s3 = .bool (rgM n m)) (fun _ s21 => n.size - (intOf s21).toNat)
    case atStart => exact ⟨0, by omega, rfl, by rw [HS.out]⟩
    case round =>
      obtain ⟨m, hm, rfl, rfl⟩ := hrel
      clear HS
      by_cases hlt : m < n.size
      · have HN := Lib.hid (rgM_next n m hlt)
        cases hr : rgM n m
        · have HNX : Hid (rgM n (m + 1) = false) := Lib.hid (by rw [HN.out, hr]; rfl)
          clear hr HN
          go_wp2_with fail
          go_round
          case rel => exact ⟨m + 1, by omega, by go_num, by rw [HNX.out]⟩
          case measure => simp [intOf]; omega
        · have HNX : Hid (rgM n (m + 1) = setB n[m].toNat) := Lib.hid (by rw [HN.out, hr]; rfl)
          clear hr HN
          rcases (show n[m].toNat < 45 ∨ n[m].toNat = 45 ∨ (46 ≤ n[m].toNat ∧ n[m].toNat ≤ 47) ∨ (48 ≤ n[m].toNat ∧ n[m].toNat ≤ 57) ∨ (58 ≤ n[m].toNat ∧ n[m].toNat ≤ 96) ∨ (97 ≤ n[m].toNat ∧ n[m].toNat ≤ 122) ∨ 123 ≤ n[m].toNat by omega) with hc | hc | hc | hc | hc | hc | hc
          · have HB : Hid (rgM n (m + 1) = false) := Lib.hid (by rw [HNX.out]; unfold setB; simp; omega)
            clear HNX
            have q2 : (n[m].toNat : Int) ≤ 44 := by omega
            have q3 : ((n[m].toNat : Int) == 45) = false := by simp; omega
            clear hc
            go_wp2_with fail
            go_round
            case rel => exact ⟨m + 1, by omega, by go_num, by (rw [HB.out]) <;> first | rfl | (congr 1; simp; omega)⟩
            case measure => simp [intOf]; omega
          · have HB : Hid (rgM n (m + 1) = true) := Lib.hid (by rw [HNX.out]; unfold setB; simp; omega)
            clear HNX
            have q1 : (45 : Int) ≤ (n[m].toNat : Int) := by omega
            have q2 : (n[m].toNat : Int) ≤ 45 := by omega
            have q3 : ((n[m].toNat : Int) == 45) = true := by simp; omega
            clear hc
            go_wp2_with fail
            go_round
            case rel => exact ⟨m + 1, by omega, by go_num, by (rw [HB.out]) <;> first | rfl | (congr 1; simp; omega)⟩
            case measure => simp [intOf]; omega
          · have HB : Hid (rgM n (m + 1) = false) := Lib.hid (by rw [HNX.out]; unfold setB; simp; omega)
            clear HNX
            have q1 : (46 : Int) ≤ (n[m].toNat : Int) := by omega
            have q2 : (n[m].toNat : Int) ≤ 47 := by omega
            have q3 : ((n[m].toNat : Int) == 45) = false := by simp; omega
            clear hc
            go_wp2_with fail
            go_round
            case rel => exact ⟨m + 1, by omega, by go_num, by (rw [HB.out]) <;> first | rfl | (congr 1; simp; omega)⟩
            case measure => simp [intOf]; omega
          · have HB : Hid (rgM n (m + 1) = true) := Lib.hid (by rw [HNX.out]; unfold setB; simp; omega)
            clear HNX
            have q1 : (48 : Int) ≤ (n[m].toNat : Int) := by omega
            have q2 : (n[m].toNat : Int) ≤ 57 := by omega
            have q3 : ((n[m].toNat : Int) == 45) = false := by simp; omega
            clear hc
            go_wp2_with fail
            go_round
            case rel => exact ⟨m + 1, by omega, by go_num, by (rw [HB.out]) <;> first | rfl | (congr 1; simp; omega)⟩
            case measure => simp [intOf]; omega
          · have HB : Hid (rgM n (m + 1) = false) := Lib.hid (by rw [HNX.out]; unfold setB; simp; omega)
            clear HNX
            have q1 : (58 : Int) ≤ (n[m].toNat : Int) := by omega
            have q2 : (n[m].toNat : Int) ≤ 96 := by omega
            have q3 : ((n[m].toNat : Int) == 45) = false := by simp; omega
            clear hc
            go_wp2_with fail
            go_round
            case rel => exact ⟨m + 1, by omega, by go_num, by (rw [HB.out]) <;> first | rfl | (congr 1; simp; omega)⟩
            case measure => simp [intOf]; omega
          · have HB : Hid (rgM n (m + 1) = true) := Lib.hid (by rw [HNX.out]; unfold setB; simp; omega)
            clear HNX
            have q1 : (97 : Int) ≤ (n[m].toNat : Int) := by omega
            have q2 : (n[m].toNat : Int) ≤ 122 := by omega
            have q3 : ((n[m].toNat : Int) == 45) = false := by simp; omega
            clear hc
            go_wp2_with fail
            go_round
            case rel => exact ⟨m + 1, by omega, by go_num, by (rw [HB.out]) <;> first | rfl | (congr 1; simp; omega)⟩
            case measure => simp [intOf]; omega
          · have HB : Hid (rgM n (m + 1) = false) := Lib.hid (by rw [HNX.out]; unfold setB; simp; omega)
            clear HNX
            have q1 : (123 : Int) ≤ (n[m].toNat : Int) := by omega
            have q3 : ((n[m].toNat : Int) == 45) = false := by simp; omega
            clear hc
            go_wp2_with fail
            go_round
            case rel => exact ⟨m + 1, by omega, by go_num, by (rw [HB.out]) <;> first | rfl | (congr 1; simp; omega)⟩
            case measure => simp [intOf]; omega
      · have hlt' : ¬ (m : Int) < (n.size : Int) := by omega
        obtain rfl : m = n.size := by omega
        have HM := Lib.hid (rgM_end n)
        cases hg : rgB n
        · have hr : rgM n n.size = false := by rw [HM.out]; exact hg
          have HE : Hid (spaE n p k a b c = 6) := Lib.hid (by unfold spaE; rw [hg]; rfl)
          clear hg
          go_wp2_with fail
          go_ret
          exact ⟨by rw [HE.out]; rfl, HW.out.2⟩
        · have hr : rgM n n.size = true := by rw [HM.out]; exact hg
          have HG := Lib.hid hg
          clear hg z0 zl
          go_upto_region 10 with fail
          clear hr
          have c1 := HW.out.1.c 1 _ rfl; have c2 := HW.out.1.c 2 _ rfl; have c3 := HW.out.1.c 3 _ rfl; have c4 := HW.out.1.c 4 _ rfl; have c5 := HW.out.1.c 5 _ rfl; have c6 := HW.out.1.c 6 _ rfl; have c7 := HW.out.1.c 7 _ rfl; have c8 := HW.out.1.c 8 _ rfl; have cl := HW.out.1.lt
          have c9 := HW.out.1.c 9 _ rfl; have c10 := HW.out.1.c 10 _ rfl; have c11 := HW.out.1.c 11 _ rfl; have c12 := HW.out.1.c 12 _ rfl
          obtain ⟨P, hP⟩ : ∃ P, P = prE p := ⟨_, rfl⟩
          obtain ⟨Q, hQ⟩ : ∃ Q, Q = trE k a b c := ⟨_, rfl⟩
          have HPQ := Lib.hid (And.intro hP hQ)
          clear hP hQ
          refine wp_region_loose 6 (SePsi P Q) (by kernel_rfl) (by kernel_rfl) ?_
          simp only [List.take_succ_cons, List.take_zero, List.drop_succ_cons, List.drop_zero]
          (refine loose_wanted rfl (fun K hK => ?_); go_simp; refine hK _ ?_; clear hK K)
          (refine loose_wanted rfl (fun K hK => ?_); go_simp; refine hK _ ?_; clear hK K)
          refine loose_wanted rfl (fun K hK => ?_)
          go_simp
          refine ⟨fun z => (PrimariesError_any p z.w).mono ?_, ?_⟩
          · rintro e w' ⟨rfl, hb⟩
            exact ⟨_, rfl, se_psi1.2 (by rw [HPQ.out.1]), z.h.trans (hb.mono z.h.size)⟩
          intro u hu
          obtain rfl := se_psi1.1 hu
          refine hK _ ?_
          clear hK K hu
          (refine loose_wanted rfl (fun K hK => ?_); go_simp; refine hK _ ?_; clear hK K)
          (refine loose_wanted rfl (fun K hK => ?_); go_simp; refine hK _ ?_; clear hK K)
          refine loose_wanted rfl (fun K hK => ?_)
          go_simp
          refine ⟨fun z => (TransferError_any k a b c z.w).mono ?_, ?_⟩
          · rintro e w' ⟨rfl, hb⟩
            exact ⟨_, rfl, se_psi2.2 (by rw [HPQ.out.2]), z.h.trans (hb.mono z.h.size)⟩
          intro u hu
          obtain rfl := se_psi2.1 hu
          refine hK _ ?_
          clear hK K hu
          refine loose_nil (fun w5 hb5 => ?_)
          have H5 : Hid (Blk w5 w.heap.size (spcL n p k a b c) ∧ Below w.heap.size w w5) := Lib.hid ⟨HW.out.1.past hb5, HW.out.2.trans (hb5.mono HW.out.2.size)⟩
          clear hb5 c1 c2 c3 c4 c5 c6 c7 c8 c9 c10 c11 c12 cl HW
          go_upto_region 11 with (go_at_call 17; refine (First2_new _ _ _ _ _ (heap_new _ _ _ rfl)).mono ?_; rintro e w' ⟨rfl, rfl⟩)
          refine wp_world (fun V hV => ?_)
          have H6 : Hid (Blk V w.heap.size (spcL n p k a b c) ∧ Below w.heap.size w V) := Lib.hid (by rw [hV]; exact ⟨H5.out.1.alloc _, H5.out.2.alloc H5.out.2.size _⟩)
          clear hV H5
          by_cases h0 : firstE P Q = 0
          · have n2 : (firstE P Q != 0) = false := by simpa using h0
            have HE : Hid (spaE n p k a b c = xyE p) := Lib.hid (by
              have hP : P = 0 := by
                unfold firstE at h0; split at h0
                · assumption
                · exact h0
              have hQ : Q = 0 := by rw [hP] at h0; exact h0
              unfold spaE; rw [HG.out, ← HPQ.out.1, ← HPQ.out.2, hP, hQ]; rfl)
            clear h0
            have c1 := H6.out.1.c 1 _ rfl; have c2 := H6.out.1.c 2 _ rfl; have c3 := H6.out.1.c 3 _ rfl; have c4 := H6.out.1.c 4 _ rfl; have c5 := H6.out.1.c 5 _ rfl; have c6 := H6.out.1.c 6 _ rfl; have c7 := H6.out.1.c 7 _ rfl; have c8 := H6.out.1.c 8 _ rfl; have cl := H6.out.1.lt
            have HX := Lib.hid (fun w' => ToXYZOf_any p w' : ∀ w', _)
            generalize xyE p = X at *
            go_wp2_with (first | (go_at_call 20; refine (HX.out _).mono ?_; rintro e w4 ⟨⟨q, rfl, hq⟩, hb4⟩) | ((with_reducible apply wpList_st9 (r := q) (VecD.of9 (f := fun _ => 0) (Blk.new _ _ _ _ rfl))); rfl; rfl; rfl; rfl; intro w9 hk9 hs9 hh9 hb9))
            go_ret
            exact ⟨by rw [HE.out]; rfl, hb9 _ _ ((H6.out.2.trans (hb4.mono H6.out.2.size)).alloc (by have := hb4.size; have := H6.out.2.size; omega) _) (by have := hb4.size; have := H6.out.2.size; omega)⟩
          · have n2 : (firstE P Q != 0) = true := by simpa using h0
            have HE : Hid (spaE n p k a b c = firstE P Q) := Lib.hid (by
              unfold spaE; rw [HG.out, ← HPQ.out.1, ← HPQ.out.2]
              unfold firstE at h0 ⊢
              by_cases hP : P = 0
              · rw [if_pos hP] at h0 ⊢; rw [if_pos rfl, if_pos hP, if_neg h0]
              · rw [if_neg hP]; rw [if_pos rfl, if_neg hP])
            clear h0
            go_wp2_with fail
            go_ret
            exact ⟨by rw [HE.out]; rfl, H6.out.2⟩
end Go.Proofs.YtfmdnibfeckmaaaDoor
