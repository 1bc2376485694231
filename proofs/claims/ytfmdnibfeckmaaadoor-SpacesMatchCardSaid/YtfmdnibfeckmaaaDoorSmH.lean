/- The error of a space, by the program. Conditions: the name is a string. -/
import Derived.Test.YtfmdnibfeckmaaaDoorSmF
import Derived.Test.YtfmdnibfeckmaaaDoorShelf
import Derived.Shelf.Strings.SlTrimAscii
namespace Go.Proofs.YtfmdnibfeckmaaaDoor
open Go Go.RowKit
def setN : ByteArray := ⟨#[97, 98, 99, 100, 101, 102, 103, 104, 105, 106, 107, 108, 109, 110, 111, 112, 113, 114, 115, 116, 117, 118, 119, 120, 121, 122, 48, 49, 50, 51, 52, 53, 54, 55, 56, 57, 45]⟩
theorem trim_any (s : ByteArray) (w : World) (hs : s.size ≤ 9223372036854775807) : Calls Tryd.prog 13 #[.string s, .string setN] w fun e w' => e = .returned (.string ⟨(Lib.trimS s.data.toList setN.data.toList).toArray⟩) ∧ Below w.heap.size w w' :=
  Any.strings_Trim_laid Tryd.lays160 (by kernel_rfl) s setN w hs (by decide) (ascii_of_all (by decide))
abbrev spcV (n : ByteArray) (p : Nat → Nat) (k : Int) (a b c : Nat) : Value := .agg #[.string n, .float .f32 (p 0), .float .f32 (p 1), .float .f32 (p 2), .float .f32 (p 3), .float .f32 (p 4), .float .f32 (p 5), .float .f32 (p 6), .float .f32 (p 7), .int .i64 k, .float .f32 a, .float .f32 b, .float .f32 c]
/-- A letter, a digit or a hyphen. -/
def setB (b : Nat) : Bool := decide (97 ≤ b ∧ b ≤ 122) || (decide (48 ≤ b ∧ b ≤ 57) || decide (b = 45))
theorem set_has : ∀ n, n < 256 → setN.data.toList.contains (UInt8.ofNat n) = setB n := by decide +kernel
theorem set_of (b : UInt8) : setN.data.toList.contains b = setB b.toNat := by
  have h := set_has b.toNat b.toNat_lt
  rwa [UInt8.ofNat_toNat] at h
/-- A right name. -/
def rgB (n : ByteArray) : Bool := !n.toList.isEmpty && (decide ((n.size : Int) ≤ 40) && n.data.toList.all fun b => setB b.toNat)
theorem dropWhile_nil {α : Type} (p : α → Bool) : ∀ l : List α, (l.dropWhile p).isEmpty = l.all p
  | [] => rfl
  | x :: l => by
    rw [List.dropWhile_cons, List.all_cons]
    cases p x with
    | true => simp only [if_true, Bool.true_and]; exact dropWhile_nil p l
    | false => rfl
theorem dropWhile_head {α : Type} (p : α → Bool) : ∀ l : List α, ∀ x r, l.dropWhile p = x :: r → p x = false
  | [], x, r, h => by cases h
  | y :: l, x, r, h => by
    rw [List.dropWhile_cons] at h
    cases hy : p y with
    | true => rw [hy] at h; exact dropWhile_head p l x r h
    | false => rw [hy] at h; cases h; exact hy
theorem trim_nil (l cs : List UInt8) : (Lib.trimS l cs).isEmpty = l.all (cs.contains ·) := by
  unfold Lib.trimS Lib.trimLeftS Lib.trimRightS
  rw [dropWhile_nil, List.all_reverse]
  cases h : (l.reverse.dropWhile fun x => cs.contains x) with
  | nil =>
    have := dropWhile_nil (fun x => cs.contains x) l.reverse
    rw [h, List.all_reverse] at this
    rw [← this]; rfl
  | cons x r =>
    have h1 := dropWhile_head _ _ _ _ h
    have h2 := dropWhile_nil (fun x => cs.contains x) l.reverse
    rw [h, List.all_reverse] at h2
    rw [← h2, List.all_cons, h1]; rfl
theorem trim_right (n : ByteArray) : (Lib.trimS n.data.toList setN.data.toList).isEmpty = n.data.toList.all fun b => setB b.toNat := by
  rw [trim_nil]; congr 1; funext b; exact set_of b
def spaE (n : ByteArray) (p : Nat → Nat) (k : Int) (a b c : Nat) : Int := if rgB n then (if prE p = 0 then (if trE k a b c = 0 then xyE p else trE k a b c) else prE p) else 6
abbrev spcL (n : ByteArray) (p : Nat → Nat) (k : Int) (a b c : Nat) : List Value := [.string n, .float .f32 (p 0), .float .f32 (p 1), .float .f32 (p 2), .float .f32 (p 3), .float .f32 (p 4), .float .f32 (p 5), .float .f32 (p 6), .float .f32 (p 7), .int .i64 k, .float .f32 a, .float .f32 b, .float .f32 c]
set_option maxRecDepth 100000 in
set_option maxHeartbeats 6400000 in
theorem CheckSpace_any (n : ByteArray) (p : Nat → Nat) (k : Int) (a b c : Nat) (w : World) (hn : n.size ≤ 9223372036854775807) : Calls Tryd.prog 8 #[spcV n p k a b c] w (IntIs (spaE n p k a b c) w.heap.size w) := by
  have ht := trim_right n
  have HT := Lib.hid (fun w' => trim_any n w' hn : ∀ w', _)
  cases e1 : n.toList.isEmpty
  · have e2 : ¬ n.toList = [] := fun h => by rw [h] at e1; cases e1
    by_cases e3 : (n.size : Int) ≤ 40
    · have e4 : ¬ 40 < (n.size : Int) := by omega
      cases e5 : (Lib.trimS n.data.toList setN.data.toList).isEmpty
      · have HE : Hid (spaE n p k a b c = 6) := Lib.hid (by
          have : rgB n = false := by unfold rgB; rw [← ht, e5, Bool.and_false, Bool.and_false]
          unfold spaE; rw [this]; rfl)
        clear ht
        go_enter Tryd.func8, Tryd.ntmps8
        go_wp2_with ((go_at_call 13; refine (HT.out _).mono ?_; rintro e w1 ⟨rfl, hb1⟩))
        go_ret
        exact ⟨by rw [HE.out]; rfl, Below.trans (by (repeat (first | exact Below.refl _ _ | assumption | (refine Below.setCell ?_ (by first | (simp; done) | (simp; omega) | omega) _) | (refine Below.drew ?_) | (refine below_drewN ?_ _) | (refine Below.alloc ?_ (by first | (simp; done) | (simp; omega) | omega) _) | (refine Below.trans ?_ (Below.mono (by assumption) (by first | (simp; done) | (simp; omega) | omega)))))) (hb1.mono (by simp))⟩
      · have HG : Hid (rgB n = true) := Lib.hid (by unfold rgB; rw [← ht, e5, e1, decide_eq_true e3]; rfl)
        clear ht
        go_enter Tryd.func8, Tryd.ntmps8
        go_upto_region 3 with ((go_at_call 13; refine (HT.out _).mono ?_; rintro e w1 ⟨rfl, hb1⟩))
        have H1 : Hid (Blk w1 w.heap.size (spcL n p k a b c) ∧ Below w.heap.size w w1) := Lib.hid ⟨(Blk.new _ _ _ _ rfl).past hb1, Below.trans (by (repeat (first | exact Below.refl _ _ | assumption | (refine Below.setCell ?_ (by first | (simp; done) | (simp; omega) | omega) _) | (refine Below.drew ?_) | (refine below_drewN ?_ _) | (refine Below.alloc ?_ (by first | (simp; done) | (simp; omega) | omega) _) | (refine Below.trans ?_ (Below.mono (by assumption) (by first | (simp; done) | (simp; omega) | omega)))))) (hb1.mono (by simp))⟩
        clear hb1 e1 e2 e3 e4 e5 HT
        have c1 := H1.out.1.c 1 _ rfl; have c2 := H1.out.1.c 2 _ rfl; have c3 := H1.out.1.c 3 _ rfl; have c4 := H1.out.1.c 4 _ rfl; have c5 := H1.out.1.c 5 _ rfl; have c6 := H1.out.1.c 6 _ rfl; have c7 := H1.out.1.c 7 _ rfl; have c8 := H1.out.1.c 8 _ rfl; have cl := H1.out.1.lt
        by_cases h0 : prE p = 0
        · have HP := Lib.hid h0
          clear h0
          go_upto_region 6 with ((go_at_call 14; refine (CheckPrimaries_any p _).mono ?_; rintro e w2 ⟨rfl, hb2⟩; rw [HP.out]))
          have H2 : Hid (Blk w2 w.heap.size (spcL n p k a b c) ∧ Below w.heap.size w w2) := Lib.hid ⟨H1.out.1.past hb2, H1.out.2.trans (hb2.mono H1.out.2.size)⟩
          clear hb2 c1 c2 c3 c4 c5 c6 c7 c8 cl H1
          have c9 := H2.out.1.c 9 _ rfl; have c10 := H2.out.1.c 10 _ rfl; have c11 := H2.out.1.c 11 _ rfl; have c12 := H2.out.1.c 12 _ rfl; have cl := H2.out.1.lt
          by_cases h1 : trE k a b c = 0
          · have HQ := Lib.hid h1
            have HE : Hid (spaE n p k a b c = xyE p) := Lib.hid (by unfold spaE; rw [HG.out, HP.out, h1]; rfl)
            clear h1
            go_upto_region 9 with ((go_at_call 15; refine (CheckTransfer_any k a b c _).mono ?_; rintro e w3 ⟨rfl, hb3⟩; rw [HQ.out]))
            have H3 : Hid (Blk w3 w.heap.size (spcL n p k a b c) ∧ Below w.heap.size w w3) := Lib.hid ⟨H2.out.1.past hb3, H2.out.2.trans (hb3.mono H2.out.2.size)⟩
            clear hb3 c9 c10 c11 c12 cl H2
            have c1 := H3.out.1.c 1 _ rfl; have c2 := H3.out.1.c 2 _ rfl; have c3 := H3.out.1.c 3 _ rfl; have c4 := H3.out.1.c 4 _ rfl; have c5 := H3.out.1.c 5 _ rfl; have c6 := H3.out.1.c 6 _ rfl; have c7 := H3.out.1.c 7 _ rfl; have c8 := H3.out.1.c 8 _ rfl; have cl := H3.out.1.lt
            have HX := Lib.hid (fun w' => ToXYZ_any p w' : ∀ w', _)
            generalize xyE p = X at *
            go_wp2_with (first | (go_at_call 16; refine (HX.out _).mono ?_; rintro e w4 ⟨⟨q, rfl, hq⟩, hb4⟩) | ((with_reducible apply wpList_st9 (r := q) (VecD.of9 (f := fun _ => 0) (Blk.new _ _ _ _ rfl))); rfl; rfl; rfl; rfl; intro w9 hk9 hs9 hh9 hb9))
            go_ret
            exact ⟨by rw [HE.out]; rfl, hb9 _ _ ((H3.out.2.trans (hb4.mono H3.out.2.size)).alloc (by have := hb4.size; have := H3.out.2.size; omega) _) (by have := hb4.size; have := H3.out.2.size; omega)⟩
          · have n2 : (trE k a b c != 0) = true := by simpa using h1
            have HE : Hid (spaE n p k a b c = trE k a b c) := Lib.hid (by unfold spaE; rw [HG.out, HP.out, if_neg h1]; rfl)
            clear h1
            go_wp2_with ((go_at_call 15; refine (CheckTransfer_any k a b c _).mono ?_; rintro e w3 ⟨rfl, hb3⟩))
            go_ret
            exact ⟨by rw [HE.out]; rfl, H2.out.2.trans (hb3.mono H2.out.2.size)⟩
        · have n2 : (prE p != 0) = true := by simpa using h0
          have HE : Hid (spaE n p k a b c = prE p) := Lib.hid (by unfold spaE; rw [HG.out, if_neg h0]; rfl)
          clear h0
          go_wp2_with ((go_at_call 14; refine (CheckPrimaries_any p _).mono ?_; rintro e w2 ⟨rfl, hb2⟩))
          go_ret
          exact ⟨by rw [HE.out]; rfl, H1.out.2.trans (hb2.mono H1.out.2.size)⟩
    · have e4 : 40 < (n.size : Int) := by omega
      have HE : Hid (spaE n p k a b c = 6) := Lib.hid (by
        have : rgB n = false := by unfold rgB; rw [decide_eq_false e3, Bool.false_and, Bool.and_false]
        unfold spaE; rw [this]; rfl)
      clear ht
      go_enter Tryd.func8, Tryd.ntmps8
      go_wp2_with fail
      go_ret
      exact ⟨by rw [HE.out]; rfl, by (repeat (first | exact Below.refl _ _ | assumption | (refine Below.setCell ?_ (by first | (simp; done) | (simp; omega) | omega) _) | (refine Below.drew ?_) | (refine below_drewN ?_ _) | (refine Below.alloc ?_ (by first | (simp; done) | (simp; omega) | omega) _) | (refine Below.trans ?_ (Below.mono (by assumption) (by first | (simp; done) | (simp; omega) | omega)))))⟩
  · have e2 : n.toList = [] := by simpa using e1
    have HE : Hid (spaE n p k a b c = 6) := Lib.hid (by
      have : rgB n = false := by unfold rgB; rw [e1]; rfl
      unfold spaE; rw [this]; rfl)
    clear ht
    go_enter Tryd.func8, Tryd.ntmps8
    go_wp2_with fail
    go_ret
    exact ⟨by rw [HE.out]; rfl, by (repeat (first | exact Below.refl _ _ | assumption | (refine Below.setCell ?_ (by first | (simp; done) | (simp; omega) | omega) _) | (refine Below.drew ?_) | (refine below_drewN ?_ _) | (refine Below.alloc ?_ (by first | (simp; done) | (simp; omega) | omega) _) | (refine Below.trans ?_ (Below.mono (by assumption) (by first | (simp; done) | (simp; omega) | omega)))))⟩
end Go.Proofs.YtfmdnibfeckmaaaDoor
