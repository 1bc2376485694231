/- node.beyond at each operation, node.parameters at each operation without a check of its own. Conditions: the numbers can be read. -/
import Derived.Test.YtbaocallhnehfaaGreatDoorQD
namespace Go.Proofs.YtbaocallhnehfaaGreatDoor
open Go Go.RowKit
theorem outB_any (v lo hi : Int) (w : World) : Calls Tryz.prog 86 #[.int .i64 v, .int .i64 lo, .int .i64 hi] w fun e w' => e = .returned (.bool (!inB v lo hi)) ∧ w = w' := by
  by_cases h1 : v < lo
  · rw [inB_f (by omega)]
    go_enter Tryz.func86, Tryz.ntmps86
    go_wp2_with fail
    go_ret
    exact ⟨rfl, rfl⟩
  · by_cases h2 : hi < v
    · rw [inB_f (by omega)]
      go_enter Tryz.func86, Tryz.ntmps86
      go_wp2_with fail
      go_ret
      exact ⟨rfl, rfl⟩
    · rw [inB_t (by omega)]
      go_enter Tryz.func86, Tryz.ntmps86
      go_wp2_with fail
      go_ret
      exact ⟨rfl, rfl⟩
set_option maxRecDepth 100000 in
theorem allN_at (ar : Option Addr) (nr cr : Nat) (rs : List Nat) (w : World) (hl : rs.length = nr) (hb : nr ≤ 1000) (hr : RealsAt 0 w ar rs) : Calls Tryz.prog 54 #[.slice ar nr cr] w fun e w' => e = .returned (.bool (allNum rs)) ∧ w = w' := by
  rcases hr with h | ⟨b, off, rfl, -, -, hc⟩
  · subst h
    obtain rfl : nr = 0 := hl.symm
    go_enter Tryz.func54, Tryz.ntmps54
    go_wp2_with fail
    refine wp_loop_rounds 1 ?_
    rw [rounds_succ]
    go_wp2_with fail
    go_ret
    exact ⟨rfl, rfl⟩
  · exact AllNumbers_any b off nr cr rs w hl (by omega) (fun i hi => hc i _ (by rw [List.getD_eq_getElem?_getD, List.getElem?_eq_getElem (by omega)]; rfl))
theorem ints_at {w : World} {a : Option Addr} {l : List Int} (h : IntsAt 0 w a l) (hl : 0 < l.length) : ∃ b off, a = some ⟨b, off, none⟩ ∧ ∀ i v, l[i]? = some v → w.cell? ⟨b, off + i, none⟩ = some (.int .i64 v) := by
  rcases h with h | ⟨b, off, h, -, -, hc⟩
  · subst h; simp at hl
  · exact ⟨b, off, h, hc⟩
set_option maxRecDepth 100000 in
set_option maxHeartbeats 1600000 in
theorem bey_source (ai : Option Addr) (ci : Nat) (i0 : Int) (w : World) (hi : IntsAt 0 w ai [i0]) : Calls Tryz.prog 55 #[.string ⟨#[115, 111, 117, 114, 99, 101]⟩, .slice ai 1 ci] w fun e w' => e = .returned (.bool (!rngK 0 [i0])) ∧ Below w.heap.size w w' := by
  obtain ⟨bi, oi, rfl, hc⟩ := ints_at hi (by simp)
  have c0 := hc 0 _ rfl
  have cl := cell_lt c0; simp only at cl
  rw [Nat.add_zero] at c0
  clear hc hi
  cases h0 : inB i0 0 7
  case false =>
    have HE : Hid ((!rngK 0 [i0]) = true) := Lib.hid (by simp [rngK, h0])
    rw [HE.out]
    go_enter Tryz.func55, Tryz.ntmps55
    go_wp2_with (go_at_call 86; refine (outB_any _ _ _ _).mono ?_; rintro e w1 ⟨rfl, rfl⟩)
    go_ret
    exact ⟨rfl, by first | exact Below.refl _ _ | (repeat (first | exact Below.refl _ _ | assumption | (refine Below.setCell ?_ (by first | (simp; done) | (simp; omega) | omega) _) | (refine Below.drew ?_) | (refine below_drewN ?_ _) | (refine Below.alloc ?_ (by first | (simp; done) | (simp; omega) | omega) _) | (refine Below.trans ?_ (Below.mono (by assumption) (by first | (simp; done) | (simp; omega) | omega)))))⟩
  case true =>
    have HE : Hid ((!rngK 0 [i0]) = false) := Lib.hid (by simp [rngK, h0])
    rw [HE.out]
    go_enter Tryz.func55, Tryz.ntmps55
    go_wp2_with (go_at_call 86; refine (outB_any _ _ _ _).mono ?_; rintro e w1 ⟨rfl, rfl⟩)
    go_ret
    exact ⟨rfl, by first | exact Below.refl _ _ | (repeat (first | exact Below.refl _ _ | assumption | (refine Below.setCell ?_ (by first | (simp; done) | (simp; omega) | omega) _) | (refine Below.drew ?_) | (refine below_drewN ?_ _) | (refine Below.alloc ?_ (by first | (simp; done) | (simp; omega) | omega) _) | (refine Below.trans ?_ (Below.mono (by assumption) (by first | (simp; done) | (simp; omega) | omega)))))⟩
set_option maxRecDepth 100000 in
set_option maxHeartbeats 1600000 in
theorem par_source (ai ar : Option Addr) (ci cr : Nat) (is : List Int) (rs : List Nat) (w : World) (hni : is.length = 1) (hnr : rs.length = 0) (hi : IntsAt 0 w ai is) (hr : RealsAt 0 w ar rs) : Calls Tryz.prog 30 #[.string ⟨#[115, 111, 117, 114, 99, 101]⟩, .slice ai 1 ci, .slice ar 0 cr] w fun e w' => e = .returned (.int .i64 (paE 0 is rs)) ∧ Below w.heap.size w w' := by
  obtain ⟨i0, his⟩ : ∃ i0, is = [i0] := by match is, hni with | [a0], _ => exact ⟨a0, rfl⟩
  subst his
  have HN := Lib.hid (allN_at ar 0 cr rs w hnr (by decide) hr)
  have HB := Lib.hid (bey_source ai ci i0 w hi)
  clear hi hr hni hnr
  cases hA : allNum rs
  case false =>
    rw [paE_form (by decide) hA]
    rw [hA] at HN
    go_enter Tryz.func30, Tryz.ntmps30
    go_wp2_with (first | (go_at_call 54; refine (HN.out).mono ?_; rintro e w1 ⟨rfl, rfl⟩))
    go_ret
    exact ⟨rfl, Below.refl _ _⟩
  case true =>
    rw [hA] at HN
    cases hB : rngK 0 [i0]
    case false =>
      have hE : paE 0 [i0] rs = 3 := by rw [paE_rest (.inr hA), hB]; rfl
      rw [hE]; clear hE
      rw [hB] at HB
      go_enter Tryz.func30, Tryz.ntmps30
      go_wp2_with (first | (go_at_call 54; refine (HN.out).mono ?_; rintro e w1 ⟨rfl, rfl⟩) | (go_at_call 55; refine (HB.out).mono ?_; rintro e w1 ⟨rfl, hb⟩))
      go_ret
      exact ⟨rfl, hb⟩
    case true =>
      have hE : paE 0 [i0] rs = 0 := by rw [paE_rest (.inr hA), hB]; rfl
      rw [hE]; clear hE
      rw [hB] at HB
      go_enter Tryz.func30, Tryz.ntmps30
      go_wp2_with (first | (go_at_call 54; refine (HN.out).mono ?_; rintro e w1 ⟨rfl, rfl⟩) | (go_at_call 55; refine (HB.out).mono ?_; rintro e w1 ⟨rfl, hb⟩))
      go_ret
      exact ⟨rfl, hb⟩
set_option maxRecDepth 100000 in
set_option maxHeartbeats 1600000 in
theorem bey_fill (ai : Option Addr) (ci : Nat) (w : World) : Calls Tryz.prog 55 #[.string ⟨#[102, 105, 108, 108]⟩, .slice ai 0 ci] w fun e w' => e = .returned (.bool (!rngK 1 [])) ∧ Below w.heap.size w w' := by
  have HE : Hid ((!rngK 1 []) = false) := Lib.hid (by simp [rngK])
  rw [HE.out]
  go_enter Tryz.func55, Tryz.ntmps55
  go_wp2_with (go_at_call 86; refine (outB_any _ _ _ _).mono ?_; rintro e w1 ⟨rfl, rfl⟩)
  go_ret
  exact ⟨rfl, by first | exact Below.refl _ _ | (repeat (first | exact Below.refl _ _ | assumption | (refine Below.setCell ?_ (by first | (simp; done) | (simp; omega) | omega) _) | (refine Below.drew ?_) | (refine below_drewN ?_ _) | (refine Below.alloc ?_ (by first | (simp; done) | (simp; omega) | omega) _) | (refine Below.trans ?_ (Below.mono (by assumption) (by first | (simp; done) | (simp; omega) | omega)))))⟩
set_option maxRecDepth 100000 in
set_option maxHeartbeats 1600000 in
theorem par_fill (ai ar : Option Addr) (ci cr : Nat) (is : List Int) (rs : List Nat) (w : World) (hni : is.length = 0) (hnr : rs.length = 4) (hi : IntsAt 0 w ai is) (hr : RealsAt 0 w ar rs) : Calls Tryz.prog 30 #[.string ⟨#[102, 105, 108, 108]⟩, .slice ai 0 ci, .slice ar 4 cr] w fun e w' => e = .returned (.int .i64 (paE 1 is rs)) ∧ Below w.heap.size w w' := by
  obtain rfl : is = [] := List.eq_nil_of_length_eq_zero hni
  clear hi
  have HN := Lib.hid (allN_at ar 4 cr rs w hnr (by decide) hr)
  have HB := Lib.hid (bey_fill ai ci w)
  clear hr hni hnr
  clear HN
  have hE : paE 1 [] rs = 0 := by rw [paE_rest (.inl rfl)]; rfl
  rw [hE]; clear hE
  go_enter Tryz.func30, Tryz.ntmps30
  go_wp2_with (first | (go_at_call 55; refine (HB.out).mono ?_; rintro e w1 ⟨rfl, hb⟩))
  go_ret
  exact ⟨rfl, hb⟩
set_option maxRecDepth 100000 in
set_option maxHeartbeats 1600000 in
theorem bey_grade (ai : Option Addr) (ci : Nat) (i0 : Int) (w : World) (hi : IntsAt 0 w ai [i0]) : Calls Tryz.prog 55 #[.string ⟨#[103, 114, 97, 100, 101]⟩, .slice ai 1 ci] w fun e w' => e = .returned (.bool (!rngK 2 [i0])) ∧ Below w.heap.size w w' := by
  obtain ⟨bi, oi, rfl, hc⟩ := ints_at hi (by simp)
  have c0 := hc 0 _ rfl
  have cl := cell_lt c0; simp only at cl
  rw [Nat.add_zero] at c0
  clear hc hi
  cases h0 : inB i0 0 15
  case false =>
    have HE : Hid ((!rngK 2 [i0]) = true) := Lib.hid (by simp [rngK, h0])
    rw [HE.out]
    go_enter Tryz.func55, Tryz.ntmps55
    go_wp2_with (go_at_call 86; refine (outB_any _ _ _ _).mono ?_; rintro e w1 ⟨rfl, rfl⟩)
    go_ret
    exact ⟨rfl, by first | exact Below.refl _ _ | (repeat (first | exact Below.refl _ _ | assumption | (refine Below.setCell ?_ (by first | (simp; done) | (simp; omega) | omega) _) | (refine Below.drew ?_) | (refine below_drewN ?_ _) | (refine Below.alloc ?_ (by first | (simp; done) | (simp; omega) | omega) _) | (refine Below.trans ?_ (Below.mono (by assumption) (by first | (simp; done) | (simp; omega) | omega)))))⟩
  case true =>
    have HE : Hid ((!rngK 2 [i0]) = false) := Lib.hid (by simp [rngK, h0])
    rw [HE.out]
    go_enter Tryz.func55, Tryz.ntmps55
    go_wp2_with (go_at_call 86; refine (outB_any _ _ _ _).mono ?_; rintro e w1 ⟨rfl, rfl⟩)
    go_ret
    exact ⟨rfl, by first | exact Below.refl _ _ | (repeat (first | exact Below.refl _ _ | assumption | (refine Below.setCell ?_ (by first | (simp; done) | (simp; omega) | omega) _) | (refine Below.drew ?_) | (refine below_drewN ?_ _) | (refine Below.alloc ?_ (by first | (simp; done) | (simp; omega) | omega) _) | (refine Below.trans ?_ (Below.mono (by assumption) (by first | (simp; done) | (simp; omega) | omega)))))⟩
set_option maxRecDepth 100000 in
set_option maxHeartbeats 1600000 in
theorem par_grade (ai ar : Option Addr) (ci cr : Nat) (is : List Int) (rs : List Nat) (w : World) (hni : is.length = 1) (hnr : rs.length = 0) (hi : IntsAt 0 w ai is) (hr : RealsAt 0 w ar rs) : Calls Tryz.prog 30 #[.string ⟨#[103, 114, 97, 100, 101]⟩, .slice ai 1 ci, .slice ar 0 cr] w fun e w' => e = .returned (.int .i64 (paE 2 is rs)) ∧ Below w.heap.size w w' := by
  obtain ⟨i0, his⟩ : ∃ i0, is = [i0] := by match is, hni with | [a0], _ => exact ⟨a0, rfl⟩
  subst his
  have HN := Lib.hid (allN_at ar 0 cr rs w hnr (by decide) hr)
  have HB := Lib.hid (bey_grade ai ci i0 w hi)
  clear hi hr hni hnr
  cases hA : allNum rs
  case false =>
    rw [paE_form (by decide) hA]
    rw [hA] at HN
    go_enter Tryz.func30, Tryz.ntmps30
    go_wp2_with (first | (go_at_call 54; refine (HN.out).mono ?_; rintro e w1 ⟨rfl, rfl⟩))
    go_ret
    exact ⟨rfl, Below.refl _ _⟩
  case true =>
    rw [hA] at HN
    cases hB : rngK 2 [i0]
    case false =>
      have hE : paE 2 [i0] rs = 3 := by rw [paE_rest (.inr hA), hB]; rfl
      rw [hE]; clear hE
      rw [hB] at HB
      go_enter Tryz.func30, Tryz.ntmps30
      go_wp2_with (first | (go_at_call 54; refine (HN.out).mono ?_; rintro e w1 ⟨rfl, rfl⟩) | (go_at_call 55; refine (HB.out).mono ?_; rintro e w1 ⟨rfl, hb⟩))
      go_ret
      exact ⟨rfl, hb⟩
    case true =>
      have hE : paE 2 [i0] rs = 0 := by rw [paE_rest (.inr hA), hB]; rfl
      rw [hE]; clear hE
      rw [hB] at HB
      go_enter Tryz.func30, Tryz.ntmps30
      go_wp2_with (first | (go_at_call 54; refine (HN.out).mono ?_; rintro e w1 ⟨rfl, rfl⟩) | (go_at_call 55; refine (HB.out).mono ?_; rintro e w1 ⟨rfl, hb⟩))
      go_ret
      exact ⟨rfl, hb⟩
set_option maxRecDepth 100000 in
set_option maxHeartbeats 1600000 in
theorem bey_cube (ai : Option Addr) (ci : Nat) (i0 i1 : Int) (w : World) (hi : IntsAt 0 w ai [i0, i1]) : Calls Tryz.prog 55 #[.string ⟨#[99, 117, 98, 101]⟩, .slice ai 2 ci] w fun e w' => e = .returned (.bool (!rngK 3 [i0, i1])) ∧ Below w.heap.size w w' := by
  obtain ⟨bi, oi, rfl, hc⟩ := ints_at hi (by simp)
  have c0 := hc 0 _ rfl
  have c1 := hc 1 _ rfl
  have cl := cell_lt c0; simp only at cl
  rw [Nat.add_zero] at c0
  clear hc hi
  cases h0 : inB i0 0 15
  case false =>
    have HE : Hid ((!rngK 3 [i0, i1]) = true) := Lib.hid (by simp [rngK, h0])
    rw [HE.out]
    go_enter Tryz.func55, Tryz.ntmps55
    go_wp2_with (go_at_call 86; refine (outB_any _ _ _ _).mono ?_; rintro e w1 ⟨rfl, rfl⟩)
    go_ret
    exact ⟨rfl, by first | exact Below.refl _ _ | (repeat (first | exact Below.refl _ _ | assumption | (refine Below.setCell ?_ (by first | (simp; done) | (simp; omega) | omega) _) | (refine Below.drew ?_) | (refine below_drewN ?_ _) | (refine Below.alloc ?_ (by first | (simp; done) | (simp; omega) | omega) _) | (refine Below.trans ?_ (Below.mono (by assumption) (by first | (simp; done) | (simp; omega) | omega)))))⟩
  case true =>
    cases h1 : inB i1 1 2
    case false =>
      have HE : Hid ((!rngK 3 [i0, i1]) = true) := Lib.hid (by simp [rngK, h0, h1])
      rw [HE.out]
      go_enter Tryz.func55, Tryz.ntmps55
      go_wp2_with (go_at_call 86; refine (outB_any _ _ _ _).mono ?_; rintro e w1 ⟨rfl, rfl⟩)
      go_ret
      exact ⟨rfl, by first | exact Below.refl _ _ | (repeat (first | exact Below.refl _ _ | assumption | (refine Below.setCell ?_ (by first | (simp; done) | (simp; omega) | omega) _) | (refine Below.drew ?_) | (refine below_drewN ?_ _) | (refine Below.alloc ?_ (by first | (simp; done) | (simp; omega) | omega) _) | (refine Below.trans ?_ (Below.mono (by assumption) (by first | (simp; done) | (simp; omega) | omega)))))⟩
    case true =>
      have HE : Hid ((!rngK 3 [i0, i1]) = false) := Lib.hid (by simp [rngK, h0, h1])
      rw [HE.out]
      go_enter Tryz.func55, Tryz.ntmps55
      go_wp2_with (go_at_call 86; refine (outB_any _ _ _ _).mono ?_; rintro e w1 ⟨rfl, rfl⟩)
      go_ret
      exact ⟨rfl, by first | exact Below.refl _ _ | (repeat (first | exact Below.refl _ _ | assumption | (refine Below.setCell ?_ (by first | (simp; done) | (simp; omega) | omega) _) | (refine Below.drew ?_) | (refine below_drewN ?_ _) | (refine Below.alloc ?_ (by first | (simp; done) | (simp; omega) | omega) _) | (refine Below.trans ?_ (Below.mono (by assumption) (by first | (simp; done) | (simp; omega) | omega)))))⟩
set_option maxRecDepth 100000 in
set_option maxHeartbeats 1600000 in
theorem par_cube (ai ar : Option Addr) (ci cr : Nat) (is : List Int) (rs : List Nat) (w : World) (hni : is.length = 2) (hnr : rs.length = 0) (hi : IntsAt 0 w ai is) (hr : RealsAt 0 w ar rs) : Calls Tryz.prog 30 #[.string ⟨#[99, 117, 98, 101]⟩, .slice ai 2 ci, .slice ar 0 cr] w fun e w' => e = .returned (.int .i64 (paE 3 is rs)) ∧ Below w.heap.size w w' := by
  obtain ⟨i0, i1, his⟩ : ∃ i0 i1, is = [i0, i1] := by match is, hni with | [a0, a1], _ => exact ⟨a0, a1, rfl⟩
  subst his
  have HN := Lib.hid (allN_at ar 0 cr rs w hnr (by decide) hr)
  have HB := Lib.hid (bey_cube ai ci i0 i1 w hi)
  clear hi hr hni hnr
  cases hA : allNum rs
  case false =>
    rw [paE_form (by decide) hA]
    rw [hA] at HN
    go_enter Tryz.func30, Tryz.ntmps30
    go_wp2_with (first | (go_at_call 54; refine (HN.out).mono ?_; rintro e w1 ⟨rfl, rfl⟩))
    go_ret
    exact ⟨rfl, Below.refl _ _⟩
  case true =>
    rw [hA] at HN
    cases hB : rngK 3 [i0, i1]
    case false =>
      have hE : paE 3 [i0, i1] rs = 3 := by rw [paE_rest (.inr hA), hB]; rfl
      rw [hE]; clear hE
      rw [hB] at HB
      go_enter Tryz.func30, Tryz.ntmps30
      go_wp2_with (first | (go_at_call 54; refine (HN.out).mono ?_; rintro e w1 ⟨rfl, rfl⟩) | (go_at_call 55; refine (HB.out).mono ?_; rintro e w1 ⟨rfl, hb⟩))
      go_ret
      exact ⟨rfl, hb⟩
    case true =>
      have hE : paE 3 [i0, i1] rs = 0 := by rw [paE_rest (.inr hA), hB]; rfl
      rw [hE]; clear hE
      rw [hB] at HB
      go_enter Tryz.func30, Tryz.ntmps30
      go_wp2_with (first | (go_at_call 54; refine (HN.out).mono ?_; rintro e w1 ⟨rfl, rfl⟩) | (go_at_call 55; refine (HB.out).mono ?_; rintro e w1 ⟨rfl, hb⟩))
      go_ret
      exact ⟨rfl, hb⟩
set_option maxRecDepth 100000 in
set_option maxHeartbeats 1600000 in
theorem bey_convert (ai : Option Addr) (ci : Nat) (i0 i1 : Int) (w : World) (hi : IntsAt 0 w ai [i0, i1]) : Calls Tryz.prog 55 #[.string ⟨#[99, 111, 110, 118, 101, 114, 116]⟩, .slice ai 2 ci] w fun e w' => e = .returned (.bool (!rngK 4 [i0, i1])) ∧ Below w.heap.size w w' := by
  obtain ⟨bi, oi, rfl, hc⟩ := ints_at hi (by simp)
  have c0 := hc 0 _ rfl
  have c1 := hc 1 _ rfl
  have cl := cell_lt c0; simp only at cl
  rw [Nat.add_zero] at c0
  clear hc hi
  cases h0 : inB i0 0 5
  case false =>
    have HE : Hid ((!rngK 4 [i0, i1]) = true) := Lib.hid (by simp [rngK, h0])
    rw [HE.out]
    go_enter Tryz.func55, Tryz.ntmps55
    go_wp2_with (go_at_call 86; refine (outB_any _ _ _ _).mono ?_; rintro e w1 ⟨rfl, rfl⟩)
    go_ret
    exact ⟨rfl, by first | exact Below.refl _ _ | (repeat (first | exact Below.refl _ _ | assumption | (refine Below.setCell ?_ (by first | (simp; done) | (simp; omega) | omega) _) | (refine Below.drew ?_) | (refine below_drewN ?_ _) | (refine Below.alloc ?_ (by first | (simp; done) | (simp; omega) | omega) _) | (refine Below.trans ?_ (Below.mono (by assumption) (by first | (simp; done) | (simp; omega) | omega)))))⟩
  case true =>
    cases h1 : inB i1 0 5
    case false =>
      have HE : Hid ((!rngK 4 [i0, i1]) = true) := Lib.hid (by simp [rngK, h0, h1])
      rw [HE.out]
      go_enter Tryz.func55, Tryz.ntmps55
      go_wp2_with (go_at_call 86; refine (outB_any _ _ _ _).mono ?_; rintro e w1 ⟨rfl, rfl⟩)
      go_ret
      exact ⟨rfl, by first | exact Below.refl _ _ | (repeat (first | exact Below.refl _ _ | assumption | (refine Below.setCell ?_ (by first | (simp; done) | (simp; omega) | omega) _) | (refine Below.drew ?_) | (refine below_drewN ?_ _) | (refine Below.alloc ?_ (by first | (simp; done) | (simp; omega) | omega) _) | (refine Below.trans ?_ (Below.mono (by assumption) (by first | (simp; done) | (simp; omega) | omega)))))⟩
    case true =>
      have HE : Hid ((!rngK 4 [i0, i1]) = false) := Lib.hid (by simp [rngK, h0, h1])
      rw [HE.out]
      go_enter Tryz.func55, Tryz.ntmps55
      go_wp2_with (go_at_call 86; refine (outB_any _ _ _ _).mono ?_; rintro e w1 ⟨rfl, rfl⟩)
      go_ret
      exact ⟨rfl, by first | exact Below.refl _ _ | (repeat (first | exact Below.refl _ _ | assumption | (refine Below.setCell ?_ (by first | (simp; done) | (simp; omega) | omega) _) | (refine Below.drew ?_) | (refine below_drewN ?_ _) | (refine Below.alloc ?_ (by first | (simp; done) | (simp; omega) | omega) _) | (refine Below.trans ?_ (Below.mono (by assumption) (by first | (simp; done) | (simp; omega) | omega)))))⟩
set_option maxRecDepth 100000 in
set_option maxHeartbeats 1600000 in
theorem par_convert (ai ar : Option Addr) (ci cr : Nat) (is : List Int) (rs : List Nat) (w : World) (hni : is.length = 2) (hnr : rs.length = 0) (hi : IntsAt 0 w ai is) (hr : RealsAt 0 w ar rs) : Calls Tryz.prog 30 #[.string ⟨#[99, 111, 110, 118, 101, 114, 116]⟩, .slice ai 2 ci, .slice ar 0 cr] w fun e w' => e = .returned (.int .i64 (paE 4 is rs)) ∧ Below w.heap.size w w' := by
  obtain ⟨i0, i1, his⟩ : ∃ i0 i1, is = [i0, i1] := by match is, hni with | [a0, a1], _ => exact ⟨a0, a1, rfl⟩
  subst his
  have HN := Lib.hid (allN_at ar 0 cr rs w hnr (by decide) hr)
  have HB := Lib.hid (bey_convert ai ci i0 i1 w hi)
  clear hi hr hni hnr
  cases hA : allNum rs
  case false =>
    rw [paE_form (by decide) hA]
    rw [hA] at HN
    go_enter Tryz.func30, Tryz.ntmps30
    go_wp2_with (first | (go_at_call 54; refine (HN.out).mono ?_; rintro e w1 ⟨rfl, rfl⟩))
    go_ret
    exact ⟨rfl, Below.refl _ _⟩
  case true =>
    rw [hA] at HN
    cases hB : rngK 4 [i0, i1]
    case false =>
      have hE : paE 4 [i0, i1] rs = 3 := by rw [paE_rest (.inr hA), hB]; rfl
      rw [hE]; clear hE
      rw [hB] at HB
      go_enter Tryz.func30, Tryz.ntmps30
      go_wp2_with (first | (go_at_call 54; refine (HN.out).mono ?_; rintro e w1 ⟨rfl, rfl⟩) | (go_at_call 55; refine (HB.out).mono ?_; rintro e w1 ⟨rfl, hb⟩))
      go_ret
      exact ⟨rfl, hb⟩
    case true =>
      have hE : paE 4 [i0, i1] rs = 0 := by rw [paE_rest (.inr hA), hB]; rfl
      rw [hE]; clear hE
      rw [hB] at HB
      go_enter Tryz.func30, Tryz.ntmps30
      go_wp2_with (first | (go_at_call 54; refine (HN.out).mono ?_; rintro e w1 ⟨rfl, rfl⟩) | (go_at_call 55; refine (HB.out).mono ?_; rintro e w1 ⟨rfl, hb⟩))
      go_ret
      exact ⟨rfl, hb⟩
set_option maxRecDepth 100000 in
set_option maxHeartbeats 1600000 in
theorem bey_saturate (ai : Option Addr) (ci : Nat) (w : World) : Calls Tryz.prog 55 #[.string ⟨#[115, 97, 116, 117, 114, 97, 116, 101]⟩, .slice ai 0 ci] w fun e w' => e = .returned (.bool (!rngK 5 [])) ∧ Below w.heap.size w w' := by
  have HE : Hid ((!rngK 5 []) = false) := Lib.hid (by simp [rngK])
  rw [HE.out]
  go_enter Tryz.func55, Tryz.ntmps55
  go_wp2_with (go_at_call 86; refine (outB_any _ _ _ _).mono ?_; rintro e w1 ⟨rfl, rfl⟩)
  go_ret
  exact ⟨rfl, by first | exact Below.refl _ _ | (repeat (first | exact Below.refl _ _ | assumption | (refine Below.setCell ?_ (by first | (simp; done) | (simp; omega) | omega) _) | (refine Below.drew ?_) | (refine below_drewN ?_ _) | (refine Below.alloc ?_ (by first | (simp; done) | (simp; omega) | omega) _) | (refine Below.trans ?_ (Below.mono (by assumption) (by first | (simp; done) | (simp; omega) | omega)))))⟩
set_option maxRecDepth 100000 in
set_option maxHeartbeats 1600000 in
theorem par_saturate (ai ar : Option Addr) (ci cr : Nat) (is : List Int) (rs : List Nat) (w : World) (hni : is.length = 0) (hnr : rs.length = 1) (hi : IntsAt 0 w ai is) (hr : RealsAt 0 w ar rs) : Calls Tryz.prog 30 #[.string ⟨#[115, 97, 116, 117, 114, 97, 116, 101]⟩, .slice ai 0 ci, .slice ar 1 cr] w fun e w' => e = .returned (.int .i64 (paE 5 is rs)) ∧ Below w.heap.size w w' := by
  obtain rfl : is = [] := List.eq_nil_of_length_eq_zero hni
  clear hi
  have HN := Lib.hid (allN_at ar 1 cr rs w hnr (by decide) hr)
  have HB := Lib.hid (bey_saturate ai ci w)
  clear hr hni hnr
  cases hA : allNum rs
  case false =>
    rw [paE_form (by decide) hA]
    rw [hA] at HN
    go_enter Tryz.func30, Tryz.ntmps30
    go_wp2_with (first | (go_at_call 54; refine (HN.out).mono ?_; rintro e w1 ⟨rfl, rfl⟩))
    go_ret
    exact ⟨rfl, Below.refl _ _⟩
  case true =>
    rw [hA] at HN
    cases hB : rngK 5 []
    case false =>
      have hE : paE 5 [] rs = 3 := by rw [paE_rest (.inr hA), hB]; rfl
      rw [hE]; clear hE
      rw [hB] at HB
      go_enter Tryz.func30, Tryz.ntmps30
      go_wp2_with (first | (go_at_call 54; refine (HN.out).mono ?_; rintro e w1 ⟨rfl, rfl⟩) | (go_at_call 55; refine (HB.out).mono ?_; rintro e w1 ⟨rfl, hb⟩))
      go_ret
      exact ⟨rfl, hb⟩
    case true =>
      have hE : paE 5 [] rs = 0 := by rw [paE_rest (.inr hA), hB]; rfl
      rw [hE]; clear hE
      rw [hB] at HB
      go_enter Tryz.func30, Tryz.ntmps30
      go_wp2_with (first | (go_at_call 54; refine (HN.out).mono ?_; rintro e w1 ⟨rfl, rfl⟩) | (go_at_call 55; refine (HB.out).mono ?_; rintro e w1 ⟨rfl, hb⟩))
      go_ret
      exact ⟨rfl, hb⟩
set_option maxRecDepth 100000 in
set_option maxHeartbeats 1600000 in
theorem bey_turn (ai : Option Addr) (ci : Nat) (w : World) : Calls Tryz.prog 55 #[.string ⟨#[116, 117, 114, 110]⟩, .slice ai 0 ci] w fun e w' => e = .returned (.bool (!rngK 6 [])) ∧ Below w.heap.size w w' := by
  have HE : Hid ((!rngK 6 []) = false) := Lib.hid (by simp [rngK])
  rw [HE.out]
  go_enter Tryz.func55, Tryz.ntmps55
  go_wp2_with (go_at_call 86; refine (outB_any _ _ _ _).mono ?_; rintro e w1 ⟨rfl, rfl⟩)
  go_ret
  exact ⟨rfl, by first | exact Below.refl _ _ | (repeat (first | exact Below.refl _ _ | assumption | (refine Below.setCell ?_ (by first | (simp; done) | (simp; omega) | omega) _) | (refine Below.drew ?_) | (refine below_drewN ?_ _) | (refine Below.alloc ?_ (by first | (simp; done) | (simp; omega) | omega) _) | (refine Below.trans ?_ (Below.mono (by assumption) (by first | (simp; done) | (simp; omega) | omega)))))⟩
set_option maxRecDepth 100000 in
set_option maxHeartbeats 1600000 in
theorem par_turn (ai ar : Option Addr) (ci cr : Nat) (is : List Int) (rs : List Nat) (w : World) (hni : is.length = 0) (hnr : rs.length = 1) (hi : IntsAt 0 w ai is) (hr : RealsAt 0 w ar rs) : Calls Tryz.prog 30 #[.string ⟨#[116, 117, 114, 110]⟩, .slice ai 0 ci, .slice ar 1 cr] w fun e w' => e = .returned (.int .i64 (paE 6 is rs)) ∧ Below w.heap.size w w' := by
  obtain rfl : is = [] := List.eq_nil_of_length_eq_zero hni
  clear hi
  have HN := Lib.hid (allN_at ar 1 cr rs w hnr (by decide) hr)
  have HB := Lib.hid (bey_turn ai ci w)
  clear hr hni hnr
  cases hA : allNum rs
  case false =>
    rw [paE_form (by decide) hA]
    rw [hA] at HN
    go_enter Tryz.func30, Tryz.ntmps30
    go_wp2_with (first | (go_at_call 54; refine (HN.out).mono ?_; rintro e w1 ⟨rfl, rfl⟩))
    go_ret
    exact ⟨rfl, Below.refl _ _⟩
  case true =>
    rw [hA] at HN
    cases hB : rngK 6 []
    case false =>
      have hE : paE 6 [] rs = 3 := by rw [paE_rest (.inr hA), hB]; rfl
      rw [hE]; clear hE
      rw [hB] at HB
      go_enter Tryz.func30, Tryz.ntmps30
      go_wp2_with (first | (go_at_call 54; refine (HN.out).mono ?_; rintro e w1 ⟨rfl, rfl⟩) | (go_at_call 55; refine (HB.out).mono ?_; rintro e w1 ⟨rfl, hb⟩))
      go_ret
      exact ⟨rfl, hb⟩
    case true =>
      have hE : paE 6 [] rs = 0 := by rw [paE_rest (.inr hA), hB]; rfl
      rw [hE]; clear hE
      rw [hB] at HB
      go_enter Tryz.func30, Tryz.ntmps30
      go_wp2_with (first | (go_at_call 54; refine (HN.out).mono ?_; rintro e w1 ⟨rfl, rfl⟩) | (go_at_call 55; refine (HB.out).mono ?_; rintro e w1 ⟨rfl, hb⟩))
      go_ret
      exact ⟨rfl, hb⟩
set_option maxRecDepth 100000 in
set_option maxHeartbeats 1600000 in
theorem bey_tone (ai : Option Addr) (ci : Nat) (i0 : Int) (w : World) (hi : IntsAt 0 w ai [i0]) : Calls Tryz.prog 55 #[.string ⟨#[116, 111, 110, 101]⟩, .slice ai 1 ci] w fun e w' => e = .returned (.bool (!rngK 7 [i0])) ∧ Below w.heap.size w w' := by
  obtain ⟨bi, oi, rfl, hc⟩ := ints_at hi (by simp)
  have c0 := hc 0 _ rfl
  have cl := cell_lt c0; simp only at cl
  rw [Nat.add_zero] at c0
  clear hc hi
  cases h0 : inB i0 1 3
  case false =>
    have HE : Hid ((!rngK 7 [i0]) = true) := Lib.hid (by simp [rngK, h0])
    rw [HE.out]
    go_enter Tryz.func55, Tryz.ntmps55
    go_wp2_with (go_at_call 86; refine (outB_any _ _ _ _).mono ?_; rintro e w1 ⟨rfl, rfl⟩)
    go_ret
    exact ⟨rfl, by first | exact Below.refl _ _ | (repeat (first | exact Below.refl _ _ | assumption | (refine Below.setCell ?_ (by first | (simp; done) | (simp; omega) | omega) _) | (refine Below.drew ?_) | (refine below_drewN ?_ _) | (refine Below.alloc ?_ (by first | (simp; done) | (simp; omega) | omega) _) | (refine Below.trans ?_ (Below.mono (by assumption) (by first | (simp; done) | (simp; omega) | omega)))))⟩
  case true =>
    have HE : Hid ((!rngK 7 [i0]) = false) := Lib.hid (by simp [rngK, h0])
    rw [HE.out]
    go_enter Tryz.func55, Tryz.ntmps55
    go_wp2_with (go_at_call 86; refine (outB_any _ _ _ _).mono ?_; rintro e w1 ⟨rfl, rfl⟩)
    go_ret
    exact ⟨rfl, by first | exact Below.refl _ _ | (repeat (first | exact Below.refl _ _ | assumption | (refine Below.setCell ?_ (by first | (simp; done) | (simp; omega) | omega) _) | (refine Below.drew ?_) | (refine below_drewN ?_ _) | (refine Below.alloc ?_ (by first | (simp; done) | (simp; omega) | omega) _) | (refine Below.trans ?_ (Below.mono (by assumption) (by first | (simp; done) | (simp; omega) | omega)))))⟩
set_option maxRecDepth 100000 in
set_option maxHeartbeats 1600000 in
theorem bey_expose (ai : Option Addr) (ci : Nat) (w : World) : Calls Tryz.prog 55 #[.string ⟨#[101, 120, 112, 111, 115, 101]⟩, .slice ai 0 ci] w fun e w' => e = .returned (.bool (!rngK 8 [])) ∧ Below w.heap.size w w' := by
  have HE : Hid ((!rngK 8 []) = false) := Lib.hid (by simp [rngK])
  rw [HE.out]
  go_enter Tryz.func55, Tryz.ntmps55
  go_wp2_with (go_at_call 86; refine (outB_any _ _ _ _).mono ?_; rintro e w1 ⟨rfl, rfl⟩)
  go_ret
  exact ⟨rfl, by first | exact Below.refl _ _ | (repeat (first | exact Below.refl _ _ | assumption | (refine Below.setCell ?_ (by first | (simp; done) | (simp; omega) | omega) _) | (refine Below.drew ?_) | (refine below_drewN ?_ _) | (refine Below.alloc ?_ (by first | (simp; done) | (simp; omega) | omega) _) | (refine Below.trans ?_ (Below.mono (by assumption) (by first | (simp; done) | (simp; omega) | omega)))))⟩
set_option maxRecDepth 100000 in
set_option maxHeartbeats 1600000 in
theorem par_expose (ai ar : Option Addr) (ci cr : Nat) (is : List Int) (rs : List Nat) (w : World) (hni : is.length = 0) (hnr : rs.length = 1) (hi : IntsAt 0 w ai is) (hr : RealsAt 0 w ar rs) : Calls Tryz.prog 30 #[.string ⟨#[101, 120, 112, 111, 115, 101]⟩, .slice ai 0 ci, .slice ar 1 cr] w fun e w' => e = .returned (.int .i64 (paE 8 is rs)) ∧ Below w.heap.size w w' := by
  obtain rfl : is = [] := List.eq_nil_of_length_eq_zero hni
  clear hi
  have HN := Lib.hid (allN_at ar 1 cr rs w hnr (by decide) hr)
  have HB := Lib.hid (bey_expose ai ci w)
  clear hr hni hnr
  cases hA : allNum rs
  case false =>
    rw [paE_form (by decide) hA]
    rw [hA] at HN
    go_enter Tryz.func30, Tryz.ntmps30
    go_wp2_with (first | (go_at_call 54; refine (HN.out).mono ?_; rintro e w1 ⟨rfl, rfl⟩))
    go_ret
    exact ⟨rfl, Below.refl _ _⟩
  case true =>
    rw [hA] at HN
    cases hB : rngK 8 []
    case false =>
      have hE : paE 8 [] rs = 3 := by rw [paE_rest (.inr hA), hB]; rfl
      rw [hE]; clear hE
      rw [hB] at HB
      go_enter Tryz.func30, Tryz.ntmps30
      go_wp2_with (first | (go_at_call 54; refine (HN.out).mono ?_; rintro e w1 ⟨rfl, rfl⟩) | (go_at_call 55; refine (HB.out).mono ?_; rintro e w1 ⟨rfl, hb⟩))
      go_ret
      exact ⟨rfl, hb⟩
    case true =>
      have hE : paE 8 [] rs = 0 := by rw [paE_rest (.inr hA), hB]; rfl
      rw [hE]; clear hE
      rw [hB] at HB
      go_enter Tryz.func30, Tryz.ntmps30
      go_wp2_with (first | (go_at_call 54; refine (HN.out).mono ?_; rintro e w1 ⟨rfl, rfl⟩) | (go_at_call 55; refine (HB.out).mono ?_; rintro e w1 ⟨rfl, hb⟩))
      go_ret
      exact ⟨rfl, hb⟩
set_option maxRecDepth 100000 in
set_option maxHeartbeats 1600000 in
theorem bey_compress (ai : Option Addr) (ci : Nat) (w : World) : Calls Tryz.prog 55 #[.string ⟨#[99, 111, 109, 112, 114, 101, 115, 115]⟩, .slice ai 0 ci] w fun e w' => e = .returned (.bool (!rngK 9 [])) ∧ Below w.heap.size w w' := by
  have HE : Hid ((!rngK 9 []) = false) := Lib.hid (by simp [rngK])
  rw [HE.out]
  go_enter Tryz.func55, Tryz.ntmps55
  go_wp2_with (go_at_call 86; refine (outB_any _ _ _ _).mono ?_; rintro e w1 ⟨rfl, rfl⟩)
  go_ret
  exact ⟨rfl, by first | exact Below.refl _ _ | (repeat (first | exact Below.refl _ _ | assumption | (refine Below.setCell ?_ (by first | (simp; done) | (simp; omega) | omega) _) | (refine Below.drew ?_) | (refine below_drewN ?_ _) | (refine Below.alloc ?_ (by first | (simp; done) | (simp; omega) | omega) _) | (refine Below.trans ?_ (Below.mono (by assumption) (by first | (simp; done) | (simp; omega) | omega)))))⟩
set_option maxRecDepth 100000 in
set_option maxHeartbeats 1600000 in
theorem bey_grain (ai : Option Addr) (ci : Nat) (i0 i1 i2 : Int) (w : World) (hi : IntsAt 0 w ai [i0, i1, i2]) : Calls Tryz.prog 55 #[.string ⟨#[103, 114, 97, 105, 110]⟩, .slice ai 3 ci] w fun e w' => e = .returned (.bool (!rngK 10 [i0, i1, i2])) ∧ Below w.heap.size w w' := by
  obtain ⟨bi, oi, rfl, hc⟩ := ints_at hi (by simp)
  have c0 := hc 0 _ rfl
  have c1 := hc 1 _ rfl
  have c2 := hc 2 _ rfl
  have cl := cell_lt c0; simp only at cl
  rw [Nat.add_zero] at c0
  clear hc hi
  cases h0 : inB i0 0 4294967295
  case false =>
    have HE : Hid ((!rngK 10 [i0, i1, i2]) = true) := Lib.hid (by simp [rngK, h0])
    rw [HE.out]
    go_enter Tryz.func55, Tryz.ntmps55
    go_wp2_with (go_at_call 86; refine (outB_any _ _ _ _).mono ?_; rintro e w1 ⟨rfl, rfl⟩)
    go_ret
    exact ⟨rfl, by first | exact Below.refl _ _ | (repeat (first | exact Below.refl _ _ | assumption | (refine Below.setCell ?_ (by first | (simp; done) | (simp; omega) | omega) _) | (refine Below.drew ?_) | (refine below_drewN ?_ _) | (refine Below.alloc ?_ (by first | (simp; done) | (simp; omega) | omega) _) | (refine Below.trans ?_ (Below.mono (by assumption) (by first | (simp; done) | (simp; omega) | omega)))))⟩
  case true =>
    cases h1 : inB i2 0 1
    case false =>
      have HE : Hid ((!rngK 10 [i0, i1, i2]) = true) := Lib.hid (by simp [rngK, h0, h1])
      rw [HE.out]
      go_enter Tryz.func55, Tryz.ntmps55
      go_wp2_with (go_at_call 86; refine (outB_any _ _ _ _).mono ?_; rintro e w1 ⟨rfl, rfl⟩)
      go_ret
      exact ⟨rfl, by first | exact Below.refl _ _ | (repeat (first | exact Below.refl _ _ | assumption | (refine Below.setCell ?_ (by first | (simp; done) | (simp; omega) | omega) _) | (refine Below.drew ?_) | (refine below_drewN ?_ _) | (refine Below.alloc ?_ (by first | (simp; done) | (simp; omega) | omega) _) | (refine Below.trans ?_ (Below.mono (by assumption) (by first | (simp; done) | (simp; omega) | omega)))))⟩
    case true =>
      have HE : Hid ((!rngK 10 [i0, i1, i2]) = false) := Lib.hid (by simp [rngK, h0, h1])
      rw [HE.out]
      go_enter Tryz.func55, Tryz.ntmps55
      go_wp2_with (go_at_call 86; refine (outB_any _ _ _ _).mono ?_; rintro e w1 ⟨rfl, rfl⟩)
      go_ret
      exact ⟨rfl, by first | exact Below.refl _ _ | (repeat (first | exact Below.refl _ _ | assumption | (refine Below.setCell ?_ (by first | (simp; done) | (simp; omega) | omega) _) | (refine Below.drew ?_) | (refine below_drewN ?_ _) | (refine Below.alloc ?_ (by first | (simp; done) | (simp; omega) | omega) _) | (refine Below.trans ?_ (Below.mono (by assumption) (by first | (simp; done) | (simp; omega) | omega)))))⟩
set_option maxRecDepth 100000 in
set_option maxHeartbeats 1600000 in
theorem bey_vignette (ai : Option Addr) (ci : Nat) (w : World) : Calls Tryz.prog 55 #[.string ⟨#[118, 105, 103, 110, 101, 116, 116, 101]⟩, .slice ai 0 ci] w fun e w' => e = .returned (.bool (!rngK 11 [])) ∧ Below w.heap.size w w' := by
  have HE : Hid ((!rngK 11 []) = false) := Lib.hid (by simp [rngK])
  rw [HE.out]
  go_enter Tryz.func55, Tryz.ntmps55
  go_wp2_with (go_at_call 86; refine (outB_any _ _ _ _).mono ?_; rintro e w1 ⟨rfl, rfl⟩)
  go_ret
  exact ⟨rfl, by first | exact Below.refl _ _ | (repeat (first | exact Below.refl _ _ | assumption | (refine Below.setCell ?_ (by first | (simp; done) | (simp; omega) | omega) _) | (refine Below.drew ?_) | (refine below_drewN ?_ _) | (refine Below.alloc ?_ (by first | (simp; done) | (simp; omega) | omega) _) | (refine Below.trans ?_ (Below.mono (by assumption) (by first | (simp; done) | (simp; omega) | omega)))))⟩
set_option maxRecDepth 100000 in
set_option maxHeartbeats 1600000 in
theorem bey_sharpen (ai : Option Addr) (ci : Nat) (w : World) : Calls Tryz.prog 55 #[.string ⟨#[115, 104, 97, 114, 112, 101, 110]⟩, .slice ai 0 ci] w fun e w' => e = .returned (.bool (!rngK 12 [])) ∧ Below w.heap.size w w' := by
  have HE : Hid ((!rngK 12 []) = false) := Lib.hid (by simp [rngK])
  rw [HE.out]
  go_enter Tryz.func55, Tryz.ntmps55
  go_wp2_with (go_at_call 86; refine (outB_any _ _ _ _).mono ?_; rintro e w1 ⟨rfl, rfl⟩)
  go_ret
  exact ⟨rfl, by first | exact Below.refl _ _ | (repeat (first | exact Below.refl _ _ | assumption | (refine Below.setCell ?_ (by first | (simp; done) | (simp; omega) | omega) _) | (refine Below.drew ?_) | (refine below_drewN ?_ _) | (refine Below.alloc ?_ (by first | (simp; done) | (simp; omega) | omega) _) | (refine Below.trans ?_ (Below.mono (by assumption) (by first | (simp; done) | (simp; omega) | omega)))))⟩
set_option maxRecDepth 100000 in
set_option maxHeartbeats 1600000 in
theorem bey_blur (ai : Option Addr) (ci : Nat) (i0 : Int) (w : World) (hi : IntsAt 0 w ai [i0]) : Calls Tryz.prog 55 #[.string ⟨#[98, 108, 117, 114]⟩, .slice ai 1 ci] w fun e w' => e = .returned (.bool (!rngK 13 [i0])) ∧ Below w.heap.size w w' := by
  obtain ⟨bi, oi, rfl, hc⟩ := ints_at hi (by simp)
  have c0 := hc 0 _ rfl
  have cl := cell_lt c0; simp only at cl
  rw [Nat.add_zero] at c0
  clear hc hi
  cases h0 : inB i0 0 16
  case false =>
    have HE : Hid ((!rngK 13 [i0]) = true) := Lib.hid (by simp [rngK, h0])
    rw [HE.out]
    go_enter Tryz.func55, Tryz.ntmps55
    go_wp2_with (go_at_call 86; refine (outB_any _ _ _ _).mono ?_; rintro e w1 ⟨rfl, rfl⟩)
    go_ret
    exact ⟨rfl, by first | exact Below.refl _ _ | (repeat (first | exact Below.refl _ _ | assumption | (refine Below.setCell ?_ (by first | (simp; done) | (simp; omega) | omega) _) | (refine Below.drew ?_) | (refine below_drewN ?_ _) | (refine Below.alloc ?_ (by first | (simp; done) | (simp; omega) | omega) _) | (refine Below.trans ?_ (Below.mono (by assumption) (by first | (simp; done) | (simp; omega) | omega)))))⟩
  case true =>
    have HE : Hid ((!rngK 13 [i0]) = false) := Lib.hid (by simp [rngK, h0])
    rw [HE.out]
    go_enter Tryz.func55, Tryz.ntmps55
    go_wp2_with (go_at_call 86; refine (outB_any _ _ _ _).mono ?_; rintro e w1 ⟨rfl, rfl⟩)
    go_ret
    exact ⟨rfl, by first | exact Below.refl _ _ | (repeat (first | exact Below.refl _ _ | assumption | (refine Below.setCell ?_ (by first | (simp; done) | (simp; omega) | omega) _) | (refine Below.drew ?_) | (refine below_drewN ?_ _) | (refine Below.alloc ?_ (by first | (simp; done) | (simp; omega) | omega) _) | (refine Below.trans ?_ (Below.mono (by assumption) (by first | (simp; done) | (simp; omega) | omega)))))⟩
set_option maxRecDepth 100000 in
set_option maxHeartbeats 1600000 in
theorem par_blur (ai ar : Option Addr) (ci cr : Nat) (is : List Int) (rs : List Nat) (w : World) (hni : is.length = 1) (hnr : rs.length = 0) (hi : IntsAt 0 w ai is) (hr : RealsAt 0 w ar rs) : Calls Tryz.prog 30 #[.string ⟨#[98, 108, 117, 114]⟩, .slice ai 1 ci, .slice ar 0 cr] w fun e w' => e = .returned (.int .i64 (paE 13 is rs)) ∧ Below w.heap.size w w' := by
  obtain ⟨i0, his⟩ : ∃ i0, is = [i0] := by match is, hni with | [a0], _ => exact ⟨a0, rfl⟩
  subst his
  have HN := Lib.hid (allN_at ar 0 cr rs w hnr (by decide) hr)
  have HB := Lib.hid (bey_blur ai ci i0 w hi)
  clear hi hr hni hnr
  cases hA : allNum rs
  case false =>
    rw [paE_form (by decide) hA]
    rw [hA] at HN
    go_enter Tryz.func30, Tryz.ntmps30
    go_wp2_with (first | (go_at_call 54; refine (HN.out).mono ?_; rintro e w1 ⟨rfl, rfl⟩))
    go_ret
    exact ⟨rfl, Below.refl _ _⟩
  case true =>
    rw [hA] at HN
    cases hB : rngK 13 [i0]
    case false =>
      have hE : paE 13 [i0] rs = 3 := by rw [paE_rest (.inr hA), hB]; rfl
      rw [hE]; clear hE
      rw [hB] at HB
      go_enter Tryz.func30, Tryz.ntmps30
      go_wp2_with (first | (go_at_call 54; refine (HN.out).mono ?_; rintro e w1 ⟨rfl, rfl⟩) | (go_at_call 55; refine (HB.out).mono ?_; rintro e w1 ⟨rfl, hb⟩))
      go_ret
      exact ⟨rfl, hb⟩
    case true =>
      have hE : paE 13 [i0] rs = 0 := by rw [paE_rest (.inr hA), hB]; rfl
      rw [hE]; clear hE
      rw [hB] at HB
      go_enter Tryz.func30, Tryz.ntmps30
      go_wp2_with (first | (go_at_call 54; refine (HN.out).mono ?_; rintro e w1 ⟨rfl, rfl⟩) | (go_at_call 55; refine (HB.out).mono ?_; rintro e w1 ⟨rfl, hb⟩))
      go_ret
      exact ⟨rfl, hb⟩
set_option maxRecDepth 100000 in
set_option maxHeartbeats 1600000 in
theorem bey_mix (ai : Option Addr) (ci : Nat) (w : World) : Calls Tryz.prog 55 #[.string ⟨#[109, 105, 120]⟩, .slice ai 0 ci] w fun e w' => e = .returned (.bool (!rngK 14 [])) ∧ Below w.heap.size w w' := by
  have HE : Hid ((!rngK 14 []) = false) := Lib.hid (by simp [rngK])
  rw [HE.out]
  go_enter Tryz.func55, Tryz.ntmps55
  go_wp2_with (go_at_call 86; refine (outB_any _ _ _ _).mono ?_; rintro e w1 ⟨rfl, rfl⟩)
  go_ret
  exact ⟨rfl, by first | exact Below.refl _ _ | (repeat (first | exact Below.refl _ _ | assumption | (refine Below.setCell ?_ (by first | (simp; done) | (simp; omega) | omega) _) | (refine Below.drew ?_) | (refine below_drewN ?_ _) | (refine Below.alloc ?_ (by first | (simp; done) | (simp; omega) | omega) _) | (refine Below.trans ?_ (Below.mono (by assumption) (by first | (simp; done) | (simp; omega) | omega)))))⟩
set_option maxRecDepth 100000 in
set_option maxHeartbeats 1600000 in
theorem par_mix (ai ar : Option Addr) (ci cr : Nat) (is : List Int) (rs : List Nat) (w : World) (hni : is.length = 0) (hnr : rs.length = 1) (hi : IntsAt 0 w ai is) (hr : RealsAt 0 w ar rs) : Calls Tryz.prog 30 #[.string ⟨#[109, 105, 120]⟩, .slice ai 0 ci, .slice ar 1 cr] w fun e w' => e = .returned (.int .i64 (paE 14 is rs)) ∧ Below w.heap.size w w' := by
  obtain rfl : is = [] := List.eq_nil_of_length_eq_zero hni
  clear hi
  have HN := Lib.hid (allN_at ar 1 cr rs w hnr (by decide) hr)
  have HB := Lib.hid (bey_mix ai ci w)
  clear hr hni hnr
  cases hA : allNum rs
  case false =>
    rw [paE_form (by decide) hA]
    rw [hA] at HN
    go_enter Tryz.func30, Tryz.ntmps30
    go_wp2_with (first | (go_at_call 54; refine (HN.out).mono ?_; rintro e w1 ⟨rfl, rfl⟩))
    go_ret
    exact ⟨rfl, Below.refl _ _⟩
  case true =>
    rw [hA] at HN
    cases hB : rngK 14 []
    case false =>
      have hE : paE 14 [] rs = 3 := by rw [paE_rest (.inr hA), hB]; rfl
      rw [hE]; clear hE
      rw [hB] at HB
      go_enter Tryz.func30, Tryz.ntmps30
      go_wp2_with (first | (go_at_call 54; refine (HN.out).mono ?_; rintro e w1 ⟨rfl, rfl⟩) | (go_at_call 55; refine (HB.out).mono ?_; rintro e w1 ⟨rfl, hb⟩))
      go_ret
      exact ⟨rfl, hb⟩
    case true =>
      have hE : paE 14 [] rs = 0 := by rw [paE_rest (.inr hA), hB]; rfl
      rw [hE]; clear hE
      rw [hB] at HB
      go_enter Tryz.func30, Tryz.ntmps30
      go_wp2_with (first | (go_at_call 54; refine (HN.out).mono ?_; rintro e w1 ⟨rfl, rfl⟩) | (go_at_call 55; refine (HB.out).mono ?_; rintro e w1 ⟨rfl, hb⟩))
      go_ret
      exact ⟨rfl, hb⟩
set_option maxRecDepth 100000 in
set_option maxHeartbeats 1600000 in
theorem bey_combine (ai : Option Addr) (ci : Nat) (i0 : Int) (w : World) (hi : IntsAt 0 w ai [i0]) : Calls Tryz.prog 55 #[.string ⟨#[99, 111, 109, 98, 105, 110, 101]⟩, .slice ai 1 ci] w fun e w' => e = .returned (.bool (!rngK 15 [i0])) ∧ Below w.heap.size w w' := by
  obtain ⟨bi, oi, rfl, hc⟩ := ints_at hi (by simp)
  have c0 := hc 0 _ rfl
  have cl := cell_lt c0; simp only at cl
  rw [Nat.add_zero] at c0
  clear hc hi
  cases h0 : inB i0 1 8
  case false =>
    have HE : Hid ((!rngK 15 [i0]) = true) := Lib.hid (by simp [rngK, h0])
    rw [HE.out]
    go_enter Tryz.func55, Tryz.ntmps55
    go_wp2_with (go_at_call 86; refine (outB_any _ _ _ _).mono ?_; rintro e w1 ⟨rfl, rfl⟩)
    go_ret
    exact ⟨rfl, by first | exact Below.refl _ _ | (repeat (first | exact Below.refl _ _ | assumption | (refine Below.setCell ?_ (by first | (simp; done) | (simp; omega) | omega) _) | (refine Below.drew ?_) | (refine below_drewN ?_ _) | (refine Below.alloc ?_ (by first | (simp; done) | (simp; omega) | omega) _) | (refine Below.trans ?_ (Below.mono (by assumption) (by first | (simp; done) | (simp; omega) | omega)))))⟩
  case true =>
    have HE : Hid ((!rngK 15 [i0]) = false) := Lib.hid (by simp [rngK, h0])
    rw [HE.out]
    go_enter Tryz.func55, Tryz.ntmps55
    go_wp2_with (go_at_call 86; refine (outB_any _ _ _ _).mono ?_; rintro e w1 ⟨rfl, rfl⟩)
    go_ret
    exact ⟨rfl, by first | exact Below.refl _ _ | (repeat (first | exact Below.refl _ _ | assumption | (refine Below.setCell ?_ (by first | (simp; done) | (simp; omega) | omega) _) | (refine Below.drew ?_) | (refine below_drewN ?_ _) | (refine Below.alloc ?_ (by first | (simp; done) | (simp; omega) | omega) _) | (refine Below.trans ?_ (Below.mono (by assumption) (by first | (simp; done) | (simp; omega) | omega)))))⟩
set_option maxRecDepth 100000 in
set_option maxHeartbeats 1600000 in
theorem par_combine (ai ar : Option Addr) (ci cr : Nat) (is : List Int) (rs : List Nat) (w : World) (hni : is.length = 1) (hnr : rs.length = 0) (hi : IntsAt 0 w ai is) (hr : RealsAt 0 w ar rs) : Calls Tryz.prog 30 #[.string ⟨#[99, 111, 109, 98, 105, 110, 101]⟩, .slice ai 1 ci, .slice ar 0 cr] w fun e w' => e = .returned (.int .i64 (paE 15 is rs)) ∧ Below w.heap.size w w' := by
  obtain ⟨i0, his⟩ : ∃ i0, is = [i0] := by match is, hni with | [a0], _ => exact ⟨a0, rfl⟩
  subst his
  have HN := Lib.hid (allN_at ar 0 cr rs w hnr (by decide) hr)
  have HB := Lib.hid (bey_combine ai ci i0 w hi)
  clear hi hr hni hnr
  cases hA : allNum rs
  case false =>
    rw [paE_form (by decide) hA]
    rw [hA] at HN
    go_enter Tryz.func30, Tryz.ntmps30
    go_wp2_with (first | (go_at_call 54; refine (HN.out).mono ?_; rintro e w1 ⟨rfl, rfl⟩))
    go_ret
    exact ⟨rfl, Below.refl _ _⟩
  case true =>
    rw [hA] at HN
    cases hB : rngK 15 [i0]
    case false =>
      have hE : paE 15 [i0] rs = 3 := by rw [paE_rest (.inr hA), hB]; rfl
      rw [hE]; clear hE
      rw [hB] at HB
      go_enter Tryz.func30, Tryz.ntmps30
      go_wp2_with (first | (go_at_call 54; refine (HN.out).mono ?_; rintro e w1 ⟨rfl, rfl⟩) | (go_at_call 55; refine (HB.out).mono ?_; rintro e w1 ⟨rfl, hb⟩))
      go_ret
      exact ⟨rfl, hb⟩
    case true =>
      have hE : paE 15 [i0] rs = 0 := by rw [paE_rest (.inr hA), hB]; rfl
      rw [hE]; clear hE
      rw [hB] at HB
      go_enter Tryz.func30, Tryz.ntmps30
      go_wp2_with (first | (go_at_call 54; refine (HN.out).mono ?_; rintro e w1 ⟨rfl, rfl⟩) | (go_at_call 55; refine (HB.out).mono ?_; rintro e w1 ⟨rfl, hb⟩))
      go_ret
      exact ⟨rfl, hb⟩
set_option maxRecDepth 100000 in
set_option maxHeartbeats 1600000 in
theorem bey_through (ai : Option Addr) (ci : Nat) (w : World) : Calls Tryz.prog 55 #[.string ⟨#[116, 104, 114, 111, 117, 103, 104]⟩, .slice ai 0 ci] w fun e w' => e = .returned (.bool (!rngK 16 [])) ∧ Below w.heap.size w w' := by
  have HE : Hid ((!rngK 16 []) = false) := Lib.hid (by simp [rngK])
  rw [HE.out]
  go_enter Tryz.func55, Tryz.ntmps55
  go_wp2_with (go_at_call 86; refine (outB_any _ _ _ _).mono ?_; rintro e w1 ⟨rfl, rfl⟩)
  go_ret
  exact ⟨rfl, by first | exact Below.refl _ _ | (repeat (first | exact Below.refl _ _ | assumption | (refine Below.setCell ?_ (by first | (simp; done) | (simp; omega) | omega) _) | (refine Below.drew ?_) | (refine below_drewN ?_ _) | (refine Below.alloc ?_ (by first | (simp; done) | (simp; omega) | omega) _) | (refine Below.trans ?_ (Below.mono (by assumption) (by first | (simp; done) | (simp; omega) | omega)))))⟩
set_option maxRecDepth 100000 in
set_option maxHeartbeats 1600000 in
theorem par_through (ai ar : Option Addr) (ci cr : Nat) (is : List Int) (rs : List Nat) (w : World) (hni : is.length = 0) (hnr : rs.length = 0) (hi : IntsAt 0 w ai is) (hr : RealsAt 0 w ar rs) : Calls Tryz.prog 30 #[.string ⟨#[116, 104, 114, 111, 117, 103, 104]⟩, .slice ai 0 ci, .slice ar 0 cr] w fun e w' => e = .returned (.int .i64 (paE 16 is rs)) ∧ Below w.heap.size w w' := by
  obtain rfl : is = [] := List.eq_nil_of_length_eq_zero hni
  clear hi
  have HN := Lib.hid (allN_at ar 0 cr rs w hnr (by decide) hr)
  have HB := Lib.hid (bey_through ai ci w)
  clear hr hni hnr
  cases hA : allNum rs
  case false =>
    rw [paE_form (by decide) hA]
    rw [hA] at HN
    go_enter Tryz.func30, Tryz.ntmps30
    go_wp2_with (first | (go_at_call 54; refine (HN.out).mono ?_; rintro e w1 ⟨rfl, rfl⟩))
    go_ret
    exact ⟨rfl, Below.refl _ _⟩
  case true =>
    rw [hA] at HN
    cases hB : rngK 16 []
    case false =>
      have hE : paE 16 [] rs = 3 := by rw [paE_rest (.inr hA), hB]; rfl
      rw [hE]; clear hE
      rw [hB] at HB
      go_enter Tryz.func30, Tryz.ntmps30
      go_wp2_with (first | (go_at_call 54; refine (HN.out).mono ?_; rintro e w1 ⟨rfl, rfl⟩) | (go_at_call 55; refine (HB.out).mono ?_; rintro e w1 ⟨rfl, hb⟩))
      go_ret
      exact ⟨rfl, hb⟩
    case true =>
      have hE : paE 16 [] rs = 0 := by rw [paE_rest (.inr hA), hB]; rfl
      rw [hE]; clear hE
      rw [hB] at HB
      go_enter Tryz.func30, Tryz.ntmps30
      go_wp2_with (first | (go_at_call 54; refine (HN.out).mono ?_; rintro e w1 ⟨rfl, rfl⟩) | (go_at_call 55; refine (HB.out).mono ?_; rintro e w1 ⟨rfl, hb⟩))
      go_ret
      exact ⟨rfl, hb⟩
set_option maxRecDepth 100000 in
set_option maxHeartbeats 1600000 in
theorem bey_alpha (ai : Option Addr) (ci : Nat) (w : World) : Calls Tryz.prog 55 #[.string ⟨#[97, 108, 112, 104, 97]⟩, .slice ai 0 ci] w fun e w' => e = .returned (.bool (!rngK 17 [])) ∧ Below w.heap.size w w' := by
  have HE : Hid ((!rngK 17 []) = false) := Lib.hid (by simp [rngK])
  rw [HE.out]
  go_enter Tryz.func55, Tryz.ntmps55
  go_wp2_with (go_at_call 86; refine (outB_any _ _ _ _).mono ?_; rintro e w1 ⟨rfl, rfl⟩)
  go_ret
  exact ⟨rfl, by first | exact Below.refl _ _ | (repeat (first | exact Below.refl _ _ | assumption | (refine Below.setCell ?_ (by first | (simp; done) | (simp; omega) | omega) _) | (refine Below.drew ?_) | (refine below_drewN ?_ _) | (refine Below.alloc ?_ (by first | (simp; done) | (simp; omega) | omega) _) | (refine Below.trans ?_ (Below.mono (by assumption) (by first | (simp; done) | (simp; omega) | omega)))))⟩
set_option maxRecDepth 100000 in
set_option maxHeartbeats 1600000 in
theorem par_alpha (ai ar : Option Addr) (ci cr : Nat) (is : List Int) (rs : List Nat) (w : World) (hni : is.length = 0) (hnr : rs.length = 0) (hi : IntsAt 0 w ai is) (hr : RealsAt 0 w ar rs) : Calls Tryz.prog 30 #[.string ⟨#[97, 108, 112, 104, 97]⟩, .slice ai 0 ci, .slice ar 0 cr] w fun e w' => e = .returned (.int .i64 (paE 17 is rs)) ∧ Below w.heap.size w w' := by
  obtain rfl : is = [] := List.eq_nil_of_length_eq_zero hni
  clear hi
  have HN := Lib.hid (allN_at ar 0 cr rs w hnr (by decide) hr)
  have HB := Lib.hid (bey_alpha ai ci w)
  clear hr hni hnr
  cases hA : allNum rs
  case false =>
    rw [paE_form (by decide) hA]
    rw [hA] at HN
    go_enter Tryz.func30, Tryz.ntmps30
    go_wp2_with (first | (go_at_call 54; refine (HN.out).mono ?_; rintro e w1 ⟨rfl, rfl⟩))
    go_ret
    exact ⟨rfl, Below.refl _ _⟩
  case true =>
    rw [hA] at HN
    cases hB : rngK 17 []
    case false =>
      have hE : paE 17 [] rs = 3 := by rw [paE_rest (.inr hA), hB]; rfl
      rw [hE]; clear hE
      rw [hB] at HB
      go_enter Tryz.func30, Tryz.ntmps30
      go_wp2_with (first | (go_at_call 54; refine (HN.out).mono ?_; rintro e w1 ⟨rfl, rfl⟩) | (go_at_call 55; refine (HB.out).mono ?_; rintro e w1 ⟨rfl, hb⟩))
      go_ret
      exact ⟨rfl, hb⟩
    case true =>
      have hE : paE 17 [] rs = 0 := by rw [paE_rest (.inr hA), hB]; rfl
      rw [hE]; clear hE
      rw [hB] at HB
      go_enter Tryz.func30, Tryz.ntmps30
      go_wp2_with (first | (go_at_call 54; refine (HN.out).mono ?_; rintro e w1 ⟨rfl, rfl⟩) | (go_at_call 55; refine (HB.out).mono ?_; rintro e w1 ⟨rfl, hb⟩))
      go_ret
      exact ⟨rfl, hb⟩
set_option maxRecDepth 100000 in
set_option maxHeartbeats 1600000 in
theorem bey_cover (ai : Option Addr) (ci : Nat) (w : World) : Calls Tryz.prog 55 #[.string ⟨#[99, 111, 118, 101, 114]⟩, .slice ai 0 ci] w fun e w' => e = .returned (.bool (!rngK 18 [])) ∧ Below w.heap.size w w' := by
  have HE : Hid ((!rngK 18 []) = false) := Lib.hid (by simp [rngK])
  rw [HE.out]
  go_enter Tryz.func55, Tryz.ntmps55
  go_wp2_with (go_at_call 86; refine (outB_any _ _ _ _).mono ?_; rintro e w1 ⟨rfl, rfl⟩)
  go_ret
  exact ⟨rfl, by first | exact Below.refl _ _ | (repeat (first | exact Below.refl _ _ | assumption | (refine Below.setCell ?_ (by first | (simp; done) | (simp; omega) | omega) _) | (refine Below.drew ?_) | (refine below_drewN ?_ _) | (refine Below.alloc ?_ (by first | (simp; done) | (simp; omega) | omega) _) | (refine Below.trans ?_ (Below.mono (by assumption) (by first | (simp; done) | (simp; omega) | omega)))))⟩
set_option maxRecDepth 100000 in
set_option maxHeartbeats 1600000 in
theorem par_cover (ai ar : Option Addr) (ci cr : Nat) (is : List Int) (rs : List Nat) (w : World) (hni : is.length = 0) (hnr : rs.length = 0) (hi : IntsAt 0 w ai is) (hr : RealsAt 0 w ar rs) : Calls Tryz.prog 30 #[.string ⟨#[99, 111, 118, 101, 114]⟩, .slice ai 0 ci, .slice ar 0 cr] w fun e w' => e = .returned (.int .i64 (paE 18 is rs)) ∧ Below w.heap.size w w' := by
  obtain rfl : is = [] := List.eq_nil_of_length_eq_zero hni
  clear hi
  have HN := Lib.hid (allN_at ar 0 cr rs w hnr (by decide) hr)
  have HB := Lib.hid (bey_cover ai ci w)
  clear hr hni hnr
  cases hA : allNum rs
  case false =>
    rw [paE_form (by decide) hA]
    rw [hA] at HN
    go_enter Tryz.func30, Tryz.ntmps30
    go_wp2_with (first | (go_at_call 54; refine (HN.out).mono ?_; rintro e w1 ⟨rfl, rfl⟩))
    go_ret
    exact ⟨rfl, Below.refl _ _⟩
  case true =>
    rw [hA] at HN
    cases hB : rngK 18 []
    case false =>
      have hE : paE 18 [] rs = 3 := by rw [paE_rest (.inr hA), hB]; rfl
      rw [hE]; clear hE
      rw [hB] at HB
      go_enter Tryz.func30, Tryz.ntmps30
      go_wp2_with (first | (go_at_call 54; refine (HN.out).mono ?_; rintro e w1 ⟨rfl, rfl⟩) | (go_at_call 55; refine (HB.out).mono ?_; rintro e w1 ⟨rfl, hb⟩))
      go_ret
      exact ⟨rfl, hb⟩
    case true =>
      have hE : paE 18 [] rs = 0 := by rw [paE_rest (.inr hA), hB]; rfl
      rw [hE]; clear hE
      rw [hB] at HB
      go_enter Tryz.func30, Tryz.ntmps30
      go_wp2_with (first | (go_at_call 54; refine (HN.out).mono ?_; rintro e w1 ⟨rfl, rfl⟩) | (go_at_call 55; refine (HB.out).mono ?_; rintro e w1 ⟨rfl, hb⟩))
      go_ret
      exact ⟨rfl, hb⟩
set_option maxRecDepth 100000 in
set_option maxHeartbeats 1600000 in
theorem bey_luma (ai : Option Addr) (ci : Nat) (w : World) : Calls Tryz.prog 55 #[.string ⟨#[108, 117, 109, 97]⟩, .slice ai 0 ci] w fun e w' => e = .returned (.bool (!rngK 19 [])) ∧ Below w.heap.size w w' := by
  have HE : Hid ((!rngK 19 []) = false) := Lib.hid (by simp [rngK])
  rw [HE.out]
  go_enter Tryz.func55, Tryz.ntmps55
  go_wp2_with (go_at_call 86; refine (outB_any _ _ _ _).mono ?_; rintro e w1 ⟨rfl, rfl⟩)
  go_ret
  exact ⟨rfl, by first | exact Below.refl _ _ | (repeat (first | exact Below.refl _ _ | assumption | (refine Below.setCell ?_ (by first | (simp; done) | (simp; omega) | omega) _) | (refine Below.drew ?_) | (refine below_drewN ?_ _) | (refine Below.alloc ?_ (by first | (simp; done) | (simp; omega) | omega) _) | (refine Below.trans ?_ (Below.mono (by assumption) (by first | (simp; done) | (simp; omega) | omega)))))⟩
set_option maxRecDepth 100000 in
set_option maxHeartbeats 1600000 in
theorem bey_hue (ai : Option Addr) (ci : Nat) (w : World) : Calls Tryz.prog 55 #[.string ⟨#[104, 117, 101]⟩, .slice ai 0 ci] w fun e w' => e = .returned (.bool (!rngK 20 [])) ∧ Below w.heap.size w w' := by
  have HE : Hid ((!rngK 20 []) = false) := Lib.hid (by simp [rngK])
  rw [HE.out]
  go_enter Tryz.func55, Tryz.ntmps55
  go_wp2_with (go_at_call 86; refine (outB_any _ _ _ _).mono ?_; rintro e w1 ⟨rfl, rfl⟩)
  go_ret
  exact ⟨rfl, by first | exact Below.refl _ _ | (repeat (first | exact Below.refl _ _ | assumption | (refine Below.setCell ?_ (by first | (simp; done) | (simp; omega) | omega) _) | (refine Below.drew ?_) | (refine below_drewN ?_ _) | (refine Below.alloc ?_ (by first | (simp; done) | (simp; omega) | omega) _) | (refine Below.trans ?_ (Below.mono (by assumption) (by first | (simp; done) | (simp; omega) | omega)))))⟩
set_option maxRecDepth 100000 in
set_option maxHeartbeats 1600000 in
theorem bey_window (ai : Option Addr) (ci : Nat) (i0 : Int) (w : World) (hi : IntsAt 0 w ai [i0]) : Calls Tryz.prog 55 #[.string ⟨#[119, 105, 110, 100, 111, 119]⟩, .slice ai 1 ci] w fun e w' => e = .returned (.bool (!rngK 21 [i0])) ∧ Below w.heap.size w w' := by
  obtain ⟨bi, oi, rfl, hc⟩ := ints_at hi (by simp)
  have c0 := hc 0 _ rfl
  have cl := cell_lt c0; simp only at cl
  rw [Nat.add_zero] at c0
  clear hc hi
  cases h0 : inB i0 0 15
  case false =>
    have HE : Hid ((!rngK 21 [i0]) = true) := Lib.hid (by simp [rngK, h0])
    rw [HE.out]
    go_enter Tryz.func55, Tryz.ntmps55
    go_wp2_with (go_at_call 86; refine (outB_any _ _ _ _).mono ?_; rintro e w1 ⟨rfl, rfl⟩)
    go_ret
    exact ⟨rfl, by first | exact Below.refl _ _ | (repeat (first | exact Below.refl _ _ | assumption | (refine Below.setCell ?_ (by first | (simp; done) | (simp; omega) | omega) _) | (refine Below.drew ?_) | (refine below_drewN ?_ _) | (refine Below.alloc ?_ (by first | (simp; done) | (simp; omega) | omega) _) | (refine Below.trans ?_ (Below.mono (by assumption) (by first | (simp; done) | (simp; omega) | omega)))))⟩
  case true =>
    have HE : Hid ((!rngK 21 [i0]) = false) := Lib.hid (by simp [rngK, h0])
    rw [HE.out]
    go_enter Tryz.func55, Tryz.ntmps55
    go_wp2_with (go_at_call 86; refine (outB_any _ _ _ _).mono ?_; rintro e w1 ⟨rfl, rfl⟩)
    go_ret
    exact ⟨rfl, by first | exact Below.refl _ _ | (repeat (first | exact Below.refl _ _ | assumption | (refine Below.setCell ?_ (by first | (simp; done) | (simp; omega) | omega) _) | (refine Below.drew ?_) | (refine below_drewN ?_ _) | (refine Below.alloc ?_ (by first | (simp; done) | (simp; omega) | omega) _) | (refine Below.trans ?_ (Below.mono (by assumption) (by first | (simp; done) | (simp; omega) | omega)))))⟩
set_option maxRecDepth 100000 in
set_option maxHeartbeats 1600000 in
theorem par_window (ai ar : Option Addr) (ci cr : Nat) (is : List Int) (rs : List Nat) (w : World) (hni : is.length = 1) (hnr : rs.length = 0) (hi : IntsAt 0 w ai is) (hr : RealsAt 0 w ar rs) : Calls Tryz.prog 30 #[.string ⟨#[119, 105, 110, 100, 111, 119]⟩, .slice ai 1 ci, .slice ar 0 cr] w fun e w' => e = .returned (.int .i64 (paE 21 is rs)) ∧ Below w.heap.size w w' := by
  obtain ⟨i0, his⟩ : ∃ i0, is = [i0] := by match is, hni with | [a0], _ => exact ⟨a0, rfl⟩
  subst his
  have HN := Lib.hid (allN_at ar 0 cr rs w hnr (by decide) hr)
  have HB := Lib.hid (bey_window ai ci i0 w hi)
  clear hi hr hni hnr
  cases hA : allNum rs
  case false =>
    rw [paE_form (by decide) hA]
    rw [hA] at HN
    go_enter Tryz.func30, Tryz.ntmps30
    go_wp2_with (first | (go_at_call 54; refine (HN.out).mono ?_; rintro e w1 ⟨rfl, rfl⟩))
    go_ret
    exact ⟨rfl, Below.refl _ _⟩
  case true =>
    rw [hA] at HN
    cases hB : rngK 21 [i0]
    case false =>
      have hE : paE 21 [i0] rs = 3 := by rw [paE_rest (.inr hA), hB]; rfl
      rw [hE]; clear hE
      rw [hB] at HB
      go_enter Tryz.func30, Tryz.ntmps30
      go_wp2_with (first | (go_at_call 54; refine (HN.out).mono ?_; rintro e w1 ⟨rfl, rfl⟩) | (go_at_call 55; refine (HB.out).mono ?_; rintro e w1 ⟨rfl, hb⟩))
      go_ret
      exact ⟨rfl, hb⟩
    case true =>
      have hE : paE 21 [i0] rs = 0 := by rw [paE_rest (.inr hA), hB]; rfl
      rw [hE]; clear hE
      rw [hB] at HB
      go_enter Tryz.func30, Tryz.ntmps30
      go_wp2_with (first | (go_at_call 54; refine (HN.out).mono ?_; rintro e w1 ⟨rfl, rfl⟩) | (go_at_call 55; refine (HB.out).mono ?_; rintro e w1 ⟨rfl, hb⟩))
      go_ret
      exact ⟨rfl, hb⟩
set_option maxRecDepth 100000 in
set_option maxHeartbeats 1600000 in
theorem bey_invert (ai : Option Addr) (ci : Nat) (w : World) : Calls Tryz.prog 55 #[.string ⟨#[105, 110, 118, 101, 114, 116]⟩, .slice ai 0 ci] w fun e w' => e = .returned (.bool (!rngK 22 [])) ∧ Below w.heap.size w w' := by
  have HE : Hid ((!rngK 22 []) = false) := Lib.hid (by simp [rngK])
  rw [HE.out]
  go_enter Tryz.func55, Tryz.ntmps55
  go_wp2_with (go_at_call 86; refine (outB_any _ _ _ _).mono ?_; rintro e w1 ⟨rfl, rfl⟩)
  go_ret
  exact ⟨rfl, by first | exact Below.refl _ _ | (repeat (first | exact Below.refl _ _ | assumption | (refine Below.setCell ?_ (by first | (simp; done) | (simp; omega) | omega) _) | (refine Below.drew ?_) | (refine below_drewN ?_ _) | (refine Below.alloc ?_ (by first | (simp; done) | (simp; omega) | omega) _) | (refine Below.trans ?_ (Below.mono (by assumption) (by first | (simp; done) | (simp; omega) | omega)))))⟩
set_option maxRecDepth 100000 in
set_option maxHeartbeats 1600000 in
theorem par_invert (ai ar : Option Addr) (ci cr : Nat) (is : List Int) (rs : List Nat) (w : World) (hni : is.length = 0) (hnr : rs.length = 0) (hi : IntsAt 0 w ai is) (hr : RealsAt 0 w ar rs) : Calls Tryz.prog 30 #[.string ⟨#[105, 110, 118, 101, 114, 116]⟩, .slice ai 0 ci, .slice ar 0 cr] w fun e w' => e = .returned (.int .i64 (paE 22 is rs)) ∧ Below w.heap.size w w' := by
  obtain rfl : is = [] := List.eq_nil_of_length_eq_zero hni
  clear hi
  have HN := Lib.hid (allN_at ar 0 cr rs w hnr (by decide) hr)
  have HB := Lib.hid (bey_invert ai ci w)
  clear hr hni hnr
  cases hA : allNum rs
  case false =>
    rw [paE_form (by decide) hA]
    rw [hA] at HN
    go_enter Tryz.func30, Tryz.ntmps30
    go_wp2_with (first | (go_at_call 54; refine (HN.out).mono ?_; rintro e w1 ⟨rfl, rfl⟩))
    go_ret
    exact ⟨rfl, Below.refl _ _⟩
  case true =>
    rw [hA] at HN
    cases hB : rngK 22 []
    case false =>
      have hE : paE 22 [] rs = 3 := by rw [paE_rest (.inr hA), hB]; rfl
      rw [hE]; clear hE
      rw [hB] at HB
      go_enter Tryz.func30, Tryz.ntmps30
      go_wp2_with (first | (go_at_call 54; refine (HN.out).mono ?_; rintro e w1 ⟨rfl, rfl⟩) | (go_at_call 55; refine (HB.out).mono ?_; rintro e w1 ⟨rfl, hb⟩))
      go_ret
      exact ⟨rfl, hb⟩
    case true =>
      have hE : paE 22 [] rs = 0 := by rw [paE_rest (.inr hA), hB]; rfl
      rw [hE]; clear hE
      rw [hB] at HB
      go_enter Tryz.func30, Tryz.ntmps30
      go_wp2_with (first | (go_at_call 54; refine (HN.out).mono ?_; rintro e w1 ⟨rfl, rfl⟩) | (go_at_call 55; refine (HB.out).mono ?_; rintro e w1 ⟨rfl, hb⟩))
      go_ret
      exact ⟨rfl, hb⟩
set_option maxRecDepth 100000 in
set_option maxHeartbeats 1600000 in
theorem bey_meet (ai : Option Addr) (ci : Nat) (i0 : Int) (w : World) (hi : IntsAt 0 w ai [i0]) : Calls Tryz.prog 55 #[.string ⟨#[109, 101, 101, 116]⟩, .slice ai 1 ci] w fun e w' => e = .returned (.bool (!rngK 23 [i0])) ∧ Below w.heap.size w w' := by
  obtain ⟨bi, oi, rfl, hc⟩ := ints_at hi (by simp)
  have c0 := hc 0 _ rfl
  have cl := cell_lt c0; simp only at cl
  rw [Nat.add_zero] at c0
  clear hc hi
  cases h0 : inB i0 1 4
  case false =>
    have HE : Hid ((!rngK 23 [i0]) = true) := Lib.hid (by simp [rngK, h0])
    rw [HE.out]
    go_enter Tryz.func55, Tryz.ntmps55
    go_wp2_with (go_at_call 86; refine (outB_any _ _ _ _).mono ?_; rintro e w1 ⟨rfl, rfl⟩)
    go_ret
    exact ⟨rfl, by first | exact Below.refl _ _ | (repeat (first | exact Below.refl _ _ | assumption | (refine Below.setCell ?_ (by first | (simp; done) | (simp; omega) | omega) _) | (refine Below.drew ?_) | (refine below_drewN ?_ _) | (refine Below.alloc ?_ (by first | (simp; done) | (simp; omega) | omega) _) | (refine Below.trans ?_ (Below.mono (by assumption) (by first | (simp; done) | (simp; omega) | omega)))))⟩
  case true =>
    have HE : Hid ((!rngK 23 [i0]) = false) := Lib.hid (by simp [rngK, h0])
    rw [HE.out]
    go_enter Tryz.func55, Tryz.ntmps55
    go_wp2_with (go_at_call 86; refine (outB_any _ _ _ _).mono ?_; rintro e w1 ⟨rfl, rfl⟩)
    go_ret
    exact ⟨rfl, by first | exact Below.refl _ _ | (repeat (first | exact Below.refl _ _ | assumption | (refine Below.setCell ?_ (by first | (simp; done) | (simp; omega) | omega) _) | (refine Below.drew ?_) | (refine below_drewN ?_ _) | (refine Below.alloc ?_ (by first | (simp; done) | (simp; omega) | omega) _) | (refine Below.trans ?_ (Below.mono (by assumption) (by first | (simp; done) | (simp; omega) | omega)))))⟩
set_option maxRecDepth 100000 in
set_option maxHeartbeats 1600000 in
theorem par_meet (ai ar : Option Addr) (ci cr : Nat) (is : List Int) (rs : List Nat) (w : World) (hni : is.length = 1) (hnr : rs.length = 0) (hi : IntsAt 0 w ai is) (hr : RealsAt 0 w ar rs) : Calls Tryz.prog 30 #[.string ⟨#[109, 101, 101, 116]⟩, .slice ai 1 ci, .slice ar 0 cr] w fun e w' => e = .returned (.int .i64 (paE 23 is rs)) ∧ Below w.heap.size w w' := by
  obtain ⟨i0, his⟩ : ∃ i0, is = [i0] := by match is, hni with | [a0], _ => exact ⟨a0, rfl⟩
  subst his
  have HN := Lib.hid (allN_at ar 0 cr rs w hnr (by decide) hr)
  have HB := Lib.hid (bey_meet ai ci i0 w hi)
  clear hi hr hni hnr
  cases hA : allNum rs
  case false =>
    rw [paE_form (by decide) hA]
    rw [hA] at HN
    go_enter Tryz.func30, Tryz.ntmps30
    go_wp2_with (first | (go_at_call 54; refine (HN.out).mono ?_; rintro e w1 ⟨rfl, rfl⟩))
    go_ret
    exact ⟨rfl, Below.refl _ _⟩
  case true =>
    rw [hA] at HN
    cases hB : rngK 23 [i0]
    case false =>
      have hE : paE 23 [i0] rs = 3 := by rw [paE_rest (.inr hA), hB]; rfl
      rw [hE]; clear hE
      rw [hB] at HB
      go_enter Tryz.func30, Tryz.ntmps30
      go_wp2_with (first | (go_at_call 54; refine (HN.out).mono ?_; rintro e w1 ⟨rfl, rfl⟩) | (go_at_call 55; refine (HB.out).mono ?_; rintro e w1 ⟨rfl, hb⟩))
      go_ret
      exact ⟨rfl, hb⟩
    case true =>
      have hE : paE 23 [i0] rs = 0 := by rw [paE_rest (.inr hA), hB]; rfl
      rw [hE]; clear hE
      rw [hB] at HB
      go_enter Tryz.func30, Tryz.ntmps30
      go_wp2_with (first | (go_at_call 54; refine (HN.out).mono ?_; rintro e w1 ⟨rfl, rfl⟩) | (go_at_call 55; refine (HB.out).mono ?_; rintro e w1 ⟨rfl, hb⟩))
      go_ret
      exact ⟨rfl, hb⟩
set_option maxRecDepth 100000 in
set_option maxHeartbeats 1600000 in
theorem bey_spread (ai : Option Addr) (ci : Nat) (i0 : Int) (w : World) (hi : IntsAt 0 w ai [i0]) : Calls Tryz.prog 55 #[.string ⟨#[115, 112, 114, 101, 97, 100]⟩, .slice ai 1 ci] w fun e w' => e = .returned (.bool (!rngK 24 [i0])) ∧ Below w.heap.size w w' := by
  obtain ⟨bi, oi, rfl, hc⟩ := ints_at hi (by simp)
  have c0 := hc 0 _ rfl
  have cl := cell_lt c0; simp only at cl
  rw [Nat.add_zero] at c0
  clear hc hi
  cases h0 : inB i0 0 16
  case false =>
    have HE : Hid ((!rngK 24 [i0]) = true) := Lib.hid (by simp [rngK, h0])
    rw [HE.out]
    go_enter Tryz.func55, Tryz.ntmps55
    go_wp2_with (go_at_call 86; refine (outB_any _ _ _ _).mono ?_; rintro e w1 ⟨rfl, rfl⟩)
    go_ret
    exact ⟨rfl, by first | exact Below.refl _ _ | (repeat (first | exact Below.refl _ _ | assumption | (refine Below.setCell ?_ (by first | (simp; done) | (simp; omega) | omega) _) | (refine Below.drew ?_) | (refine below_drewN ?_ _) | (refine Below.alloc ?_ (by first | (simp; done) | (simp; omega) | omega) _) | (refine Below.trans ?_ (Below.mono (by assumption) (by first | (simp; done) | (simp; omega) | omega)))))⟩
  case true =>
    have HE : Hid ((!rngK 24 [i0]) = false) := Lib.hid (by simp [rngK, h0])
    rw [HE.out]
    go_enter Tryz.func55, Tryz.ntmps55
    go_wp2_with (go_at_call 86; refine (outB_any _ _ _ _).mono ?_; rintro e w1 ⟨rfl, rfl⟩)
    go_ret
    exact ⟨rfl, by first | exact Below.refl _ _ | (repeat (first | exact Below.refl _ _ | assumption | (refine Below.setCell ?_ (by first | (simp; done) | (simp; omega) | omega) _) | (refine Below.drew ?_) | (refine below_drewN ?_ _) | (refine Below.alloc ?_ (by first | (simp; done) | (simp; omega) | omega) _) | (refine Below.trans ?_ (Below.mono (by assumption) (by first | (simp; done) | (simp; omega) | omega)))))⟩
set_option maxRecDepth 100000 in
set_option maxHeartbeats 1600000 in
theorem par_spread (ai ar : Option Addr) (ci cr : Nat) (is : List Int) (rs : List Nat) (w : World) (hni : is.length = 1) (hnr : rs.length = 0) (hi : IntsAt 0 w ai is) (hr : RealsAt 0 w ar rs) : Calls Tryz.prog 30 #[.string ⟨#[115, 112, 114, 101, 97, 100]⟩, .slice ai 1 ci, .slice ar 0 cr] w fun e w' => e = .returned (.int .i64 (paE 24 is rs)) ∧ Below w.heap.size w w' := by
  obtain ⟨i0, his⟩ : ∃ i0, is = [i0] := by match is, hni with | [a0], _ => exact ⟨a0, rfl⟩
  subst his
  have HN := Lib.hid (allN_at ar 0 cr rs w hnr (by decide) hr)
  have HB := Lib.hid (bey_spread ai ci i0 w hi)
  clear hi hr hni hnr
  cases hA : allNum rs
  case false =>
    rw [paE_form (by decide) hA]
    rw [hA] at HN
    go_enter Tryz.func30, Tryz.ntmps30
    go_wp2_with (first | (go_at_call 54; refine (HN.out).mono ?_; rintro e w1 ⟨rfl, rfl⟩))
    go_ret
    exact ⟨rfl, Below.refl _ _⟩
  case true =>
    rw [hA] at HN
    cases hB : rngK 24 [i0]
    case false =>
      have hE : paE 24 [i0] rs = 3 := by rw [paE_rest (.inr hA), hB]; rfl
      rw [hE]; clear hE
      rw [hB] at HB
      go_enter Tryz.func30, Tryz.ntmps30
      go_wp2_with (first | (go_at_call 54; refine (HN.out).mono ?_; rintro e w1 ⟨rfl, rfl⟩) | (go_at_call 55; refine (HB.out).mono ?_; rintro e w1 ⟨rfl, hb⟩))
      go_ret
      exact ⟨rfl, hb⟩
    case true =>
      have hE : paE 24 [i0] rs = 0 := by rw [paE_rest (.inr hA), hB]; rfl
      rw [hE]; clear hE
      rw [hB] at HB
      go_enter Tryz.func30, Tryz.ntmps30
      go_wp2_with (first | (go_at_call 54; refine (HN.out).mono ?_; rintro e w1 ⟨rfl, rfl⟩) | (go_at_call 55; refine (HB.out).mono ?_; rintro e w1 ⟨rfl, hb⟩))
      go_ret
      exact ⟨rfl, hb⟩
set_option maxRecDepth 100000 in
set_option maxHeartbeats 1600000 in
theorem bey_shrink (ai : Option Addr) (ci : Nat) (i0 : Int) (w : World) (hi : IntsAt 0 w ai [i0]) : Calls Tryz.prog 55 #[.string ⟨#[115, 104, 114, 105, 110, 107]⟩, .slice ai 1 ci] w fun e w' => e = .returned (.bool (!rngK 25 [i0])) ∧ Below w.heap.size w w' := by
  obtain ⟨bi, oi, rfl, hc⟩ := ints_at hi (by simp)
  have c0 := hc 0 _ rfl
  have cl := cell_lt c0; simp only at cl
  rw [Nat.add_zero] at c0
  clear hc hi
  cases h0 : inB i0 0 16
  case false =>
    have HE : Hid ((!rngK 25 [i0]) = true) := Lib.hid (by simp [rngK, h0])
    rw [HE.out]
    go_enter Tryz.func55, Tryz.ntmps55
    go_wp2_with (go_at_call 86; refine (outB_any _ _ _ _).mono ?_; rintro e w1 ⟨rfl, rfl⟩)
    go_ret
    exact ⟨rfl, by first | exact Below.refl _ _ | (repeat (first | exact Below.refl _ _ | assumption | (refine Below.setCell ?_ (by first | (simp; done) | (simp; omega) | omega) _) | (refine Below.drew ?_) | (refine below_drewN ?_ _) | (refine Below.alloc ?_ (by first | (simp; done) | (simp; omega) | omega) _) | (refine Below.trans ?_ (Below.mono (by assumption) (by first | (simp; done) | (simp; omega) | omega)))))⟩
  case true =>
    have HE : Hid ((!rngK 25 [i0]) = false) := Lib.hid (by simp [rngK, h0])
    rw [HE.out]
    go_enter Tryz.func55, Tryz.ntmps55
    go_wp2_with (go_at_call 86; refine (outB_any _ _ _ _).mono ?_; rintro e w1 ⟨rfl, rfl⟩)
    go_ret
    exact ⟨rfl, by first | exact Below.refl _ _ | (repeat (first | exact Below.refl _ _ | assumption | (refine Below.setCell ?_ (by first | (simp; done) | (simp; omega) | omega) _) | (refine Below.drew ?_) | (refine below_drewN ?_ _) | (refine Below.alloc ?_ (by first | (simp; done) | (simp; omega) | omega) _) | (refine Below.trans ?_ (Below.mono (by assumption) (by first | (simp; done) | (simp; omega) | omega)))))⟩
set_option maxRecDepth 100000 in
set_option maxHeartbeats 1600000 in
theorem par_shrink (ai ar : Option Addr) (ci cr : Nat) (is : List Int) (rs : List Nat) (w : World) (hni : is.length = 1) (hnr : rs.length = 0) (hi : IntsAt 0 w ai is) (hr : RealsAt 0 w ar rs) : Calls Tryz.prog 30 #[.string ⟨#[115, 104, 114, 105, 110, 107]⟩, .slice ai 1 ci, .slice ar 0 cr] w fun e w' => e = .returned (.int .i64 (paE 25 is rs)) ∧ Below w.heap.size w w' := by
  obtain ⟨i0, his⟩ : ∃ i0, is = [i0] := by match is, hni with | [a0], _ => exact ⟨a0, rfl⟩
  subst his
  have HN := Lib.hid (allN_at ar 0 cr rs w hnr (by decide) hr)
  have HB := Lib.hid (bey_shrink ai ci i0 w hi)
  clear hi hr hni hnr
  cases hA : allNum rs
  case false =>
    rw [paE_form (by decide) hA]
    rw [hA] at HN
    go_enter Tryz.func30, Tryz.ntmps30
    go_wp2_with (first | (go_at_call 54; refine (HN.out).mono ?_; rintro e w1 ⟨rfl, rfl⟩))
    go_ret
    exact ⟨rfl, Below.refl _ _⟩
  case true =>
    rw [hA] at HN
    cases hB : rngK 25 [i0]
    case false =>
      have hE : paE 25 [i0] rs = 3 := by rw [paE_rest (.inr hA), hB]; rfl
      rw [hE]; clear hE
      rw [hB] at HB
      go_enter Tryz.func30, Tryz.ntmps30
      go_wp2_with (first | (go_at_call 54; refine (HN.out).mono ?_; rintro e w1 ⟨rfl, rfl⟩) | (go_at_call 55; refine (HB.out).mono ?_; rintro e w1 ⟨rfl, hb⟩))
      go_ret
      exact ⟨rfl, hb⟩
    case true =>
      have hE : paE 25 [i0] rs = 0 := by rw [paE_rest (.inr hA), hB]; rfl
      rw [hE]; clear hE
      rw [hB] at HB
      go_enter Tryz.func30, Tryz.ntmps30
      go_wp2_with (first | (go_at_call 54; refine (HN.out).mono ?_; rintro e w1 ⟨rfl, rfl⟩) | (go_at_call 55; refine (HB.out).mono ?_; rintro e w1 ⟨rfl, hb⟩))
      go_ret
      exact ⟨rfl, hb⟩
set_option maxRecDepth 100000 in
set_option maxHeartbeats 1600000 in
theorem bey_feather (ai : Option Addr) (ci : Nat) (i0 : Int) (w : World) (hi : IntsAt 0 w ai [i0]) : Calls Tryz.prog 55 #[.string ⟨#[102, 101, 97, 116, 104, 101, 114]⟩, .slice ai 1 ci] w fun e w' => e = .returned (.bool (!rngK 26 [i0])) ∧ Below w.heap.size w w' := by
  obtain ⟨bi, oi, rfl, hc⟩ := ints_at hi (by simp)
  have c0 := hc 0 _ rfl
  have cl := cell_lt c0; simp only at cl
  rw [Nat.add_zero] at c0
  clear hc hi
  cases h0 : inB i0 0 16
  case false =>
    have HE : Hid ((!rngK 26 [i0]) = true) := Lib.hid (by simp [rngK, h0])
    rw [HE.out]
    go_enter Tryz.func55, Tryz.ntmps55
    go_wp2_with (go_at_call 86; refine (outB_any _ _ _ _).mono ?_; rintro e w1 ⟨rfl, rfl⟩)
    go_ret
    exact ⟨rfl, by first | exact Below.refl _ _ | (repeat (first | exact Below.refl _ _ | assumption | (refine Below.setCell ?_ (by first | (simp; done) | (simp; omega) | omega) _) | (refine Below.drew ?_) | (refine below_drewN ?_ _) | (refine Below.alloc ?_ (by first | (simp; done) | (simp; omega) | omega) _) | (refine Below.trans ?_ (Below.mono (by assumption) (by first | (simp; done) | (simp; omega) | omega)))))⟩
  case true =>
    have HE : Hid ((!rngK 26 [i0]) = false) := Lib.hid (by simp [rngK, h0])
    rw [HE.out]
    go_enter Tryz.func55, Tryz.ntmps55
    go_wp2_with (go_at_call 86; refine (outB_any _ _ _ _).mono ?_; rintro e w1 ⟨rfl, rfl⟩)
    go_ret
    exact ⟨rfl, by first | exact Below.refl _ _ | (repeat (first | exact Below.refl _ _ | assumption | (refine Below.setCell ?_ (by first | (simp; done) | (simp; omega) | omega) _) | (refine Below.drew ?_) | (refine below_drewN ?_ _) | (refine Below.alloc ?_ (by first | (simp; done) | (simp; omega) | omega) _) | (refine Below.trans ?_ (Below.mono (by assumption) (by first | (simp; done) | (simp; omega) | omega)))))⟩
set_option maxRecDepth 100000 in
set_option maxHeartbeats 1600000 in
theorem par_feather (ai ar : Option Addr) (ci cr : Nat) (is : List Int) (rs : List Nat) (w : World) (hni : is.length = 1) (hnr : rs.length = 0) (hi : IntsAt 0 w ai is) (hr : RealsAt 0 w ar rs) : Calls Tryz.prog 30 #[.string ⟨#[102, 101, 97, 116, 104, 101, 114]⟩, .slice ai 1 ci, .slice ar 0 cr] w fun e w' => e = .returned (.int .i64 (paE 26 is rs)) ∧ Below w.heap.size w w' := by
  obtain ⟨i0, his⟩ : ∃ i0, is = [i0] := by match is, hni with | [a0], _ => exact ⟨a0, rfl⟩
  subst his
  have HN := Lib.hid (allN_at ar 0 cr rs w hnr (by decide) hr)
  have HB := Lib.hid (bey_feather ai ci i0 w hi)
  clear hi hr hni hnr
  cases hA : allNum rs
  case false =>
    rw [paE_form (by decide) hA]
    rw [hA] at HN
    go_enter Tryz.func30, Tryz.ntmps30
    go_wp2_with (first | (go_at_call 54; refine (HN.out).mono ?_; rintro e w1 ⟨rfl, rfl⟩))
    go_ret
    exact ⟨rfl, Below.refl _ _⟩
  case true =>
    rw [hA] at HN
    cases hB : rngK 26 [i0]
    case false =>
      have hE : paE 26 [i0] rs = 3 := by rw [paE_rest (.inr hA), hB]; rfl
      rw [hE]; clear hE
      rw [hB] at HB
      go_enter Tryz.func30, Tryz.ntmps30
      go_wp2_with (first | (go_at_call 54; refine (HN.out).mono ?_; rintro e w1 ⟨rfl, rfl⟩) | (go_at_call 55; refine (HB.out).mono ?_; rintro e w1 ⟨rfl, hb⟩))
      go_ret
      exact ⟨rfl, hb⟩
    case true =>
      have hE : paE 26 [i0] rs = 0 := by rw [paE_rest (.inr hA), hB]; rfl
      rw [hE]; clear hE
      rw [hB] at HB
      go_enter Tryz.func30, Tryz.ntmps30
      go_wp2_with (first | (go_at_call 54; refine (HN.out).mono ?_; rintro e w1 ⟨rfl, rfl⟩) | (go_at_call 55; refine (HB.out).mono ?_; rintro e w1 ⟨rfl, hb⟩))
      go_ret
      exact ⟨rfl, hb⟩
end Go.Proofs.YtbaocallhnehfaaGreatDoor
