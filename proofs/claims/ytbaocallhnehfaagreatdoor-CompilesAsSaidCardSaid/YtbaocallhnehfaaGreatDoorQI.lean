/- node.parameters at 'hue'. Conditions: the numbers can be read. (with: PgD, GhB) -/
import Derived.Test.YtbaocallhnehfaaGreatDoorQH
import Derived.Test.YtbaocallhnehfaaGreatDoorQG
import Derived.Test.YtbaocallhnehfaaGreatDoorQD
import Derived.Test.YtbaocallhnehfaaGreatDoorQF
import Derived.Test.YtbaocallhnehfaaGreatDoorPgE
namespace Go.Proofs.YtbaocallhnehfaaGreatDoor
open Go Go.RowKit
set_option maxRecDepth 100000 in
set_option maxHeartbeats 3200000 in
theorem par_hue (ai ar : Option Addr) (ci cr : Nat) (hcr : 9 ≤ cr) (hcb : cr ≤ 9223372036854775807) (is : List Int) (rs : List Nat) (w : World) (hni : is.length = 0) (hnr : rs.length = 9) (hi : IntsAt 0 w ai is) (hr : RealsAt 0 w ar rs) : Calls Tryz.prog 30 #[.string ⟨#[104, 117, 101]⟩, .slice ai 0 ci, .slice ar 9 cr] w fun e w' => e = .returned (.int .i64 (paE 20 is rs)) ∧ Below w.heap.size w w' := by
  obtain rfl : is = [] := List.eq_nil_of_length_eq_zero hni
  clear hi
  obtain ⟨r0, r1, r2, r3, r4, r5, r6, r7, r8, hrs⟩ : ∃ r0 r1 r2 r3 r4 r5 r6 r7 r8, rs = [r0, r1, r2, r3, r4, r5, r6, r7, r8] := by match rs, hnr with | [a0, a1, a2, a3, a4, a5, a6, a7, a8], _ => exact ⟨a0, a1, a2, a3, a4, a5, a6, a7, a8, rfl⟩
  subst hrs
  have HN := Lib.hid (allN_at ar 9 cr [r0, r1, r2, r3, r4, r5, r6, r7, r8] w hnr (by decide) hr)
  have HB := Lib.hid (bey_hue ai ci w)
  obtain ⟨br, ro, rfl, hrc⟩ := reals_at hr (by simp)
  have HR := Lib.hid hrc
  clear hrc
  clear hr hni hnr
  cases hA : allNum [r0, r1, r2, r3, r4, r5, r6, r7, r8]
  case false =>
    rw [paE_form (by decide) hA]
    rw [hA] at HN
    go_enter Tryz.func30, Tryz.ntmps30
    go_wp2_with (first | (go_at_call 54; refine (HN.out).mono ?_; rintro e w1 ⟨rfl, rfl⟩))
    go_ret
    exact ⟨rfl, Below.refl _ _⟩
  case true =>
    rw [hA] at HN
    cases hB : rngK 20 []
    case false =>
      exact absurd hB (by simp [rngK])
    case true =>
      have hE : paE 20 [] [r0, r1, r2, r3, r4, r5, r6, r7, r8] = hueE r0 r1 r2 (rampE r3 r4 r5) (rampE r6 r7 r8) := by rw [paE_rest (.inr hA), hB]; rfl
      rw [hE]; clear hE
      rw [hB] at HB
      clear hA hB
      go_enter Tryz.func30, Tryz.ntmps30
      go_wp2_with (first | (go_at_call 54; refine (HN.out).mono ?_; rintro e w1 ⟨rfl, rfl⟩) | (go_at_call 55; refine (HB.out).mono ?_; rintro e w1 ⟨rfl, hb⟩) | (go_at_call 66; refine (mk_hue br ro r0 r1 r2 r3 r4 r5 r6 r7 r8 cr hcr hcb _ (((hb).cell (p := ⟨br, ro, none⟩) (cell_lt (HR.out 0 _ rfl))).trans (HR.out 0 _ rfl)) (((hb).cell (p := ⟨br, ro + 1, none⟩) (cell_lt (HR.out 1 _ rfl))).trans (HR.out 1 _ rfl)) (((hb).cell (p := ⟨br, ro + 2, none⟩) (cell_lt (HR.out 2 _ rfl))).trans (HR.out 2 _ rfl)) (((hb).cell (p := ⟨br, ro + 3, none⟩) (cell_lt (HR.out 3 _ rfl))).trans (HR.out 3 _ rfl)) (((hb).cell (p := ⟨br, ro + 4, none⟩) (cell_lt (HR.out 4 _ rfl))).trans (HR.out 4 _ rfl)) (((hb).cell (p := ⟨br, ro + 5, none⟩) (cell_lt (HR.out 5 _ rfl))).trans (HR.out 5 _ rfl)) (((hb).cell (p := ⟨br, ro + 6, none⟩) (cell_lt (HR.out 6 _ rfl))).trans (HR.out 6 _ rfl)) (((hb).cell (p := ⟨br, ro + 7, none⟩) (cell_lt (HR.out 7 _ rfl))).trans (HR.out 7 _ rfl)) (((hb).cell (p := ⟨br, ro + 8, none⟩) (cell_lt (HR.out 8 _ rfl))).trans (HR.out 8 _ rfl))).mono ?_; rintro e w2 ⟨rfl, hb2⟩) | (go_at_call 45; refine (CheckHue_any _ _ _ _ _ _ _ _ _ _).mono ?_; rintro e w3 ⟨rfl, hb3⟩))
      go_ret
      exact ⟨rfl, hb.trans ((hb2.trans (hb3.mono hb2.size)).mono hb.size)⟩
end Go.Proofs.YtbaocallhnehfaaGreatDoor

namespace Go.Proofs.YtbaocallhnehfaaGreatDoor
open Go Go.RowKit
set_option maxRecDepth 100000 in
set_option maxHeartbeats 3200000 in
theorem dpar_source (ai ar : Option Addr) (ci cr : Nat) (is : List Int) (rs : List Nat) (w : World) (hni : is.length = 1) (hnr : rs.length = 0) (hi : IntsAt 0 w ai is) (hr : RealsAt 0 w ar rs) : Calls Tryz.prog 21 #[.string ⟨#[115, 111, 117, 114, 99, 101]⟩, .slice ai 1 ci, .slice ar 0 cr] w fun e w' => e = .returned (.int .i64 (paE 0 is rs)) ∧ Below w.heap.size w w' := by
  have HR := Lib.hid (And.intro hr hnr)
  obtain ⟨i0, his⟩ : ∃ i0, is = [i0] := by match is, hni with | [a0], _ => exact ⟨a0, rfl⟩
  subst his
  obtain ⟨bi, oi, hai, hic⟩ : ∃ b off, ai = some ⟨b, off, none⟩ ∧ ∀ i v, [i0][i]? = some v → w.cell? ⟨b, off + i, none⟩ = some (.int .i64 v) := by rcases hi with h | ⟨b, off, h, -, -, hc⟩; cases h; exact ⟨b, off, h, hc⟩
  subst hai
  have HI := Lib.hid hic
  clear hi hic hni hr hnr
  obtain rfl : rs = [] := List.eq_nil_of_length_eq_zero HR.out.2
  have hA : allNum [] = true := rfl
  have HB := Lib.hid (Below.refl w.heap.size w)
  have c0 := (HB.out.cell (p := ⟨bi, oi + 0, none⟩) (cell_lt (HI.out 0 _ rfl))).trans (HI.out 0 _ rfl)
  have cl := cell_lt c0; simp only at cl
  rw [Nat.add_zero] at c0
  go_enter Tryz.func21, Tryz.ntmps21
  go_wp2_with fail
  refine wp_loop_rounds 1 ?_
  rw [rounds_succ]
  cases h0 : inB i0 0 7
  case false =>
    have HE : Hid (paE 0 [i0] [] = 3) := Lib.hid (by rw [paE_rest (.inr hA)]; simp [rngK, h0])
    go_wp2_with (first | (go_at_call 38; refine (In_any _ _ _ _).mono ?_; rintro e w' ⟨rfl, rfl⟩) | (go_at_call 18; refine (When_any _ _ _).mono ?_; rintro e w' ⟨rfl, rfl⟩))
    go_ret
    exact ⟨by rw [HE.out]; rfl, HB.out⟩
  case true =>
    have HE : Hid (paE 0 [i0] [] = 0) := Lib.hid (by rw [paE_rest (.inr hA)]; simp [rngK, subK, h0])
    go_wp2_with (first | (go_at_call 38; refine (In_any _ _ _ _).mono ?_; rintro e w' ⟨rfl, rfl⟩) | (go_at_call 18; refine (When_any _ _ _).mono ?_; rintro e w' ⟨rfl, rfl⟩))
    go_ret
    exact ⟨by rw [HE.out]; rfl, HB.out⟩
set_option maxRecDepth 100000 in
set_option maxHeartbeats 3200000 in
theorem dpar_fill (ai ar : Option Addr) (ci cr : Nat) (is : List Int) (rs : List Nat) (w : World) (hni : is.length = 0) (hnr : rs.length = 4) (hi : IntsAt 0 w ai is) (hr : RealsAt 0 w ar rs) : Calls Tryz.prog 21 #[.string ⟨#[102, 105, 108, 108]⟩, .slice ai 0 ci, .slice ar 4 cr] w fun e w' => e = .returned (.int .i64 (paE 1 is rs)) ∧ Below w.heap.size w w' := by
  have HR := Lib.hid (And.intro hr hnr)
  obtain rfl : is = [] := List.eq_nil_of_length_eq_zero hni
  clear hi hni hr hnr
  go_enter Tryz.func21, Tryz.ntmps21
  have HB := Lib.hid (Below.refl w.heap.size w)
  have HE : Hid (paE 1 [] rs = 0) := Lib.hid (by rw [paE_rest (.inl rfl)]; rfl)
  go_wp2_with (first | (go_at_call 38; refine (In_any _ _ _ _).mono ?_; rintro e w' ⟨rfl, rfl⟩) | (go_at_call 18; refine (When_any _ _ _).mono ?_; rintro e w' ⟨rfl, rfl⟩))
  go_ret
  exact ⟨by rw [HE.out]; rfl, HB.out⟩
set_option maxRecDepth 100000 in
set_option maxHeartbeats 3200000 in
theorem dpar_grade (ai ar : Option Addr) (ci cr : Nat) (is : List Int) (rs : List Nat) (w : World) (hni : is.length = 1) (hnr : rs.length = 0) (hi : IntsAt 0 w ai is) (hr : RealsAt 0 w ar rs) : Calls Tryz.prog 21 #[.string ⟨#[103, 114, 97, 100, 101]⟩, .slice ai 1 ci, .slice ar 0 cr] w fun e w' => e = .returned (.int .i64 (paE 2 is rs)) ∧ Below w.heap.size w w' := by
  have HR := Lib.hid (And.intro hr hnr)
  obtain ⟨i0, his⟩ : ∃ i0, is = [i0] := by match is, hni with | [a0], _ => exact ⟨a0, rfl⟩
  subst his
  obtain ⟨bi, oi, hai, hic⟩ : ∃ b off, ai = some ⟨b, off, none⟩ ∧ ∀ i v, [i0][i]? = some v → w.cell? ⟨b, off + i, none⟩ = some (.int .i64 v) := by rcases hi with h | ⟨b, off, h, -, -, hc⟩; cases h; exact ⟨b, off, h, hc⟩
  subst hai
  have HI := Lib.hid hic
  clear hi hic hni hr hnr
  obtain rfl : rs = [] := List.eq_nil_of_length_eq_zero HR.out.2
  have hA : allNum [] = true := rfl
  have HB := Lib.hid (Below.refl w.heap.size w)
  have c0 := (HB.out.cell (p := ⟨bi, oi + 0, none⟩) (cell_lt (HI.out 0 _ rfl))).trans (HI.out 0 _ rfl)
  have cl := cell_lt c0; simp only at cl
  rw [Nat.add_zero] at c0
  go_enter Tryz.func21, Tryz.ntmps21
  go_wp2_with fail
  refine wp_loop_rounds 1 ?_
  rw [rounds_succ]
  cases h0 : inB i0 0 15
  case false =>
    have HE : Hid (paE 2 [i0] [] = 3) := Lib.hid (by rw [paE_rest (.inr hA)]; simp [rngK, h0])
    go_wp2_with (first | (go_at_call 38; refine (In_any _ _ _ _).mono ?_; rintro e w' ⟨rfl, rfl⟩) | (go_at_call 18; refine (When_any _ _ _).mono ?_; rintro e w' ⟨rfl, rfl⟩))
    go_ret
    exact ⟨by rw [HE.out]; rfl, HB.out⟩
  case true =>
    have HE : Hid (paE 2 [i0] [] = 0) := Lib.hid (by rw [paE_rest (.inr hA)]; simp [rngK, subK, h0])
    go_wp2_with (first | (go_at_call 38; refine (In_any _ _ _ _).mono ?_; rintro e w' ⟨rfl, rfl⟩) | (go_at_call 18; refine (When_any _ _ _).mono ?_; rintro e w' ⟨rfl, rfl⟩))
    go_ret
    exact ⟨by rw [HE.out]; rfl, HB.out⟩
set_option maxRecDepth 100000 in
set_option maxHeartbeats 3200000 in
theorem dpar_cube (ai ar : Option Addr) (ci cr : Nat) (is : List Int) (rs : List Nat) (w : World) (hni : is.length = 2) (hnr : rs.length = 0) (hi : IntsAt 0 w ai is) (hr : RealsAt 0 w ar rs) : Calls Tryz.prog 21 #[.string ⟨#[99, 117, 98, 101]⟩, .slice ai 2 ci, .slice ar 0 cr] w fun e w' => e = .returned (.int .i64 (paE 3 is rs)) ∧ Below w.heap.size w w' := by
  have HR := Lib.hid (And.intro hr hnr)
  obtain ⟨i0, i1, his⟩ : ∃ i0 i1, is = [i0, i1] := by match is, hni with | [a0, a1], _ => exact ⟨a0, a1, rfl⟩
  subst his
  obtain ⟨bi, oi, hai, hic⟩ : ∃ b off, ai = some ⟨b, off, none⟩ ∧ ∀ i v, [i0, i1][i]? = some v → w.cell? ⟨b, off + i, none⟩ = some (.int .i64 v) := by rcases hi with h | ⟨b, off, h, -, -, hc⟩; cases h; exact ⟨b, off, h, hc⟩
  subst hai
  have HI := Lib.hid hic
  clear hi hic hni hr hnr
  obtain rfl : rs = [] := List.eq_nil_of_length_eq_zero HR.out.2
  have hA : allNum [] = true := rfl
  have HB := Lib.hid (Below.refl w.heap.size w)
  have c0 := (HB.out.cell (p := ⟨bi, oi + 0, none⟩) (cell_lt (HI.out 0 _ rfl))).trans (HI.out 0 _ rfl)
  have c1 := (HB.out.cell (p := ⟨bi, oi + 1, none⟩) (cell_lt (HI.out 1 _ rfl))).trans (HI.out 1 _ rfl)
  have cl := cell_lt c0; simp only at cl
  rw [Nat.add_zero] at c0
  go_enter Tryz.func21, Tryz.ntmps21
  go_wp2_with fail
  refine wp_loop_rounds 1 ?_
  rw [rounds_succ]
  cases h0 : inB i0 0 15
  case false =>
    have HE : Hid (paE 3 [i0, i1] [] = 3) := Lib.hid (by rw [paE_rest (.inr hA)]; simp [rngK, h0])
    go_wp2_with (first | (go_at_call 38; refine (In_any _ _ _ _).mono ?_; rintro e w' ⟨rfl, rfl⟩) | (go_at_call 18; refine (When_any _ _ _).mono ?_; rintro e w' ⟨rfl, rfl⟩))
    go_ret
    exact ⟨by rw [HE.out]; rfl, HB.out⟩
  case true =>
    cases h1 : inB i1 1 2
    case false =>
      have HE : Hid (paE 3 [i0, i1] [] = 3) := Lib.hid (by rw [paE_rest (.inr hA)]; simp [rngK, h0, h1])
      go_wp2_with (first | (go_at_call 38; refine (In_any _ _ _ _).mono ?_; rintro e w' ⟨rfl, rfl⟩) | (go_at_call 18; refine (When_any _ _ _).mono ?_; rintro e w' ⟨rfl, rfl⟩))
      go_ret
      exact ⟨by rw [HE.out]; rfl, HB.out⟩
    case true =>
      have HE : Hid (paE 3 [i0, i1] [] = 0) := Lib.hid (by rw [paE_rest (.inr hA)]; simp [rngK, subK, h0, h1])
      go_wp2_with (first | (go_at_call 38; refine (In_any _ _ _ _).mono ?_; rintro e w' ⟨rfl, rfl⟩) | (go_at_call 18; refine (When_any _ _ _).mono ?_; rintro e w' ⟨rfl, rfl⟩))
      go_ret
      exact ⟨by rw [HE.out]; rfl, HB.out⟩
set_option maxRecDepth 100000 in
set_option maxHeartbeats 3200000 in
theorem dpar_convert (ai ar : Option Addr) (ci cr : Nat) (is : List Int) (rs : List Nat) (w : World) (hni : is.length = 2) (hnr : rs.length = 0) (hi : IntsAt 0 w ai is) (hr : RealsAt 0 w ar rs) : Calls Tryz.prog 21 #[.string ⟨#[99, 111, 110, 118, 101, 114, 116]⟩, .slice ai 2 ci, .slice ar 0 cr] w fun e w' => e = .returned (.int .i64 (paE 4 is rs)) ∧ Below w.heap.size w w' := by
  have HR := Lib.hid (And.intro hr hnr)
  obtain ⟨i0, i1, his⟩ : ∃ i0 i1, is = [i0, i1] := by match is, hni with | [a0, a1], _ => exact ⟨a0, a1, rfl⟩
  subst his
  obtain ⟨bi, oi, hai, hic⟩ : ∃ b off, ai = some ⟨b, off, none⟩ ∧ ∀ i v, [i0, i1][i]? = some v → w.cell? ⟨b, off + i, none⟩ = some (.int .i64 v) := by rcases hi with h | ⟨b, off, h, -, -, hc⟩; cases h; exact ⟨b, off, h, hc⟩
  subst hai
  have HI := Lib.hid hic
  clear hi hic hni hr hnr
  obtain rfl : rs = [] := List.eq_nil_of_length_eq_zero HR.out.2
  have hA : allNum [] = true := rfl
  have HB := Lib.hid (Below.refl w.heap.size w)
  have c0 := (HB.out.cell (p := ⟨bi, oi + 0, none⟩) (cell_lt (HI.out 0 _ rfl))).trans (HI.out 0 _ rfl)
  have c1 := (HB.out.cell (p := ⟨bi, oi + 1, none⟩) (cell_lt (HI.out 1 _ rfl))).trans (HI.out 1 _ rfl)
  have cl := cell_lt c0; simp only at cl
  rw [Nat.add_zero] at c0
  go_enter Tryz.func21, Tryz.ntmps21
  go_wp2_with fail
  refine wp_loop_rounds 1 ?_
  rw [rounds_succ]
  cases h0 : inB i0 0 5
  case false =>
    have HE : Hid (paE 4 [i0, i1] [] = 3) := Lib.hid (by rw [paE_rest (.inr hA)]; simp [rngK, h0])
    go_wp2_with (first | (go_at_call 38; refine (In_any _ _ _ _).mono ?_; rintro e w' ⟨rfl, rfl⟩) | (go_at_call 18; refine (When_any _ _ _).mono ?_; rintro e w' ⟨rfl, rfl⟩))
    go_ret
    exact ⟨by rw [HE.out]; rfl, HB.out⟩
  case true =>
    cases h1 : inB i1 0 5
    case false =>
      have HE : Hid (paE 4 [i0, i1] [] = 3) := Lib.hid (by rw [paE_rest (.inr hA)]; simp [rngK, h0, h1])
      go_wp2_with (first | (go_at_call 38; refine (In_any _ _ _ _).mono ?_; rintro e w' ⟨rfl, rfl⟩) | (go_at_call 18; refine (When_any _ _ _).mono ?_; rintro e w' ⟨rfl, rfl⟩))
      go_ret
      exact ⟨by rw [HE.out]; rfl, HB.out⟩
    case true =>
      have HE : Hid (paE 4 [i0, i1] [] = 0) := Lib.hid (by rw [paE_rest (.inr hA)]; simp [rngK, subK, h0, h1])
      go_wp2_with (first | (go_at_call 38; refine (In_any _ _ _ _).mono ?_; rintro e w' ⟨rfl, rfl⟩) | (go_at_call 18; refine (When_any _ _ _).mono ?_; rintro e w' ⟨rfl, rfl⟩))
      go_ret
      exact ⟨by rw [HE.out]; rfl, HB.out⟩
set_option maxRecDepth 100000 in
set_option maxHeartbeats 3200000 in
theorem dpar_saturate (ai ar : Option Addr) (ci cr : Nat) (is : List Int) (rs : List Nat) (w : World) (hni : is.length = 0) (hnr : rs.length = 1) (hi : IntsAt 0 w ai is) (hr : RealsAt 0 w ar rs) : Calls Tryz.prog 21 #[.string ⟨#[115, 97, 116, 117, 114, 97, 116, 101]⟩, .slice ai 0 ci, .slice ar 1 cr] w fun e w' => e = .returned (.int .i64 (paE 5 is rs)) ∧ Below w.heap.size w w' := by
  have HR := Lib.hid (And.intro hr hnr)
  obtain rfl : is = [] := List.eq_nil_of_length_eq_zero hni
  clear hi hni hr hnr
  cases hA : allNum rs
  case false =>
    obtain ⟨q, v, g1, g2, g3⟩ := allNum_not hA
    have HQ := Lib.hid (And.intro g1 (And.intro g2 g3))
    have hq : q < 1 := by have := (List.getElem?_eq_some_iff.1 g1).1; have := HR.out.2; omega
    rw [paE_form (by decide) hA]
    clear g1 g2 g3 hA
    go_enter Tryz.func21, Tryz.ntmps21
    go_wp2_with fail
    go_loopw [14] (fun s14 wr => ∃ j : Nat, j ≤ q ∧ s14 = .int .i64 j ∧ Below w.heap.size w wr) (fun s14 _ => 1 - (intOf s14).toNat)
    case atStart => exact ⟨0, Nat.zero_le _, rfl, Below.refl _ _⟩
    case round =>
      obtain ⟨j, hj, rfl, hB⟩ := hrel
      have HB := Lib.hid hB
      have hjm : (j : Int) < 1 := by omega
      obtain ⟨u, hu⟩ : ∃ u, rs[j]? = some u := ⟨_, List.getElem?_eq_getElem (by have := HR.out.2; omega)⟩
      obtain ⟨b, off, rfl, c0⟩ := (HR.out.1.past hB).get hu
      have l0 := cell_lt c0; simp only at l0
      have HU := Lib.hid hu
      clear hB hu
      by_cases e : j = q
      · have hn : isNum .f32 u = false := by have h1 := HU.out; rw [e, HQ.out.1] at h1; cases h1; exact HQ.out.2.1
        clear e
        go_wp2_with (go_at_call 37; refine (IsNumberR_any _ _).mono ?_; rintro e w' ⟨rfl, m, rfl⟩; rw [hn])
        go_ret
        exact ⟨rfl, below_drewN HB.out _⟩
      · have hn : isNum .f32 u = true := HQ.out.2.2 j u (by omega) HU.out
        go_wp2_with (go_at_call 37; refine (IsNumberR_any _ _).mono ?_; rintro e w' ⟨rfl, m, rfl⟩; rw [hn])
        go_roundw
        case rel => exact ⟨j + 1, by omega, by go_num, below_drewN HB.out _⟩
        case measure => simp [intOf]; omega
  case true =>
    have HA := Lib.hid hA
    go_enter Tryz.func21, Tryz.ntmps21
    go_wp2_with fail
    go_loopw [14] (fun s14 wr => ∃ j : Nat, j ≤ 1 ∧ s14 = .int .i64 j ∧ Below w.heap.size w wr) (fun s14 _ => 1 - (intOf s14).toNat)
    case atStart => exact ⟨0, Nat.zero_le _, rfl, Below.refl _ _⟩
    case round =>
      obtain ⟨j, hj, rfl, hB⟩ := hrel
      have HB := Lib.hid hB
      by_cases hjn : j < 1
      · have hjm : (j : Int) < 1 := by omega
        obtain ⟨u, hu⟩ : ∃ u, rs[j]? = some u := ⟨_, List.getElem?_eq_getElem (by have := HR.out.2; omega)⟩
        obtain ⟨b, off, rfl, c0⟩ := (HR.out.1.past hB).get hu
        have l0 := cell_lt c0; simp only at l0
        have hn : isNum .f32 u = true := allNum_get HA.out j u hu
        clear hB hu hA
        go_wp2_with (go_at_call 37; refine (IsNumberR_any _ _).mono ?_; rintro e w' ⟨rfl, m, rfl⟩; rw [hn])
        go_roundw
        case rel => exact ⟨j + 1, by omega, by go_num, below_drewN HB.out _⟩
        case measure => simp [intOf]; omega
      · obtain rfl : j = 1 := by omega
        have hjm : ¬ ((1 : Nat) : Int) < 1 := by omega
        clear hB
        have HE : Hid (paE 5 [] rs = 0) := Lib.hid (by rw [paE_rest (.inr hA)]; rfl)
        go_wp2_with (first | (go_at_call 38; refine (In_any _ _ _ _).mono ?_; rintro e w' ⟨rfl, rfl⟩) | (go_at_call 18; refine (When_any _ _ _).mono ?_; rintro e w' ⟨rfl, rfl⟩))
        go_ret
        exact ⟨by rw [HE.out]; rfl, HB.out⟩
set_option maxRecDepth 100000 in
set_option maxHeartbeats 3200000 in
theorem dpar_turn (ai ar : Option Addr) (ci cr : Nat) (is : List Int) (rs : List Nat) (w : World) (hni : is.length = 0) (hnr : rs.length = 1) (hi : IntsAt 0 w ai is) (hr : RealsAt 0 w ar rs) : Calls Tryz.prog 21 #[.string ⟨#[116, 117, 114, 110]⟩, .slice ai 0 ci, .slice ar 1 cr] w fun e w' => e = .returned (.int .i64 (paE 6 is rs)) ∧ Below w.heap.size w w' := by
  have HR := Lib.hid (And.intro hr hnr)
  obtain rfl : is = [] := List.eq_nil_of_length_eq_zero hni
  clear hi hni hr hnr
  cases hA : allNum rs
  case false =>
    obtain ⟨q, v, g1, g2, g3⟩ := allNum_not hA
    have HQ := Lib.hid (And.intro g1 (And.intro g2 g3))
    have hq : q < 1 := by have := (List.getElem?_eq_some_iff.1 g1).1; have := HR.out.2; omega
    rw [paE_form (by decide) hA]
    clear g1 g2 g3 hA
    go_enter Tryz.func21, Tryz.ntmps21
    go_wp2_with fail
    go_loopw [14] (fun s14 wr => ∃ j : Nat, j ≤ q ∧ s14 = .int .i64 j ∧ Below w.heap.size w wr) (fun s14 _ => 1 - (intOf s14).toNat)
    case atStart => exact ⟨0, Nat.zero_le _, rfl, Below.refl _ _⟩
    case round =>
      obtain ⟨j, hj, rfl, hB⟩ := hrel
      have HB := Lib.hid hB
      have hjm : (j : Int) < 1 := by omega
      obtain ⟨u, hu⟩ : ∃ u, rs[j]? = some u := ⟨_, List.getElem?_eq_getElem (by have := HR.out.2; omega)⟩
      obtain ⟨b, off, rfl, c0⟩ := (HR.out.1.past hB).get hu
      have l0 := cell_lt c0; simp only at l0
      have HU := Lib.hid hu
      clear hB hu
      by_cases e : j = q
      · have hn : isNum .f32 u = false := by have h1 := HU.out; rw [e, HQ.out.1] at h1; cases h1; exact HQ.out.2.1
        clear e
        go_wp2_with (go_at_call 37; refine (IsNumberR_any _ _).mono ?_; rintro e w' ⟨rfl, m, rfl⟩; rw [hn])
        go_ret
        exact ⟨rfl, below_drewN HB.out _⟩
      · have hn : isNum .f32 u = true := HQ.out.2.2 j u (by omega) HU.out
        go_wp2_with (go_at_call 37; refine (IsNumberR_any _ _).mono ?_; rintro e w' ⟨rfl, m, rfl⟩; rw [hn])
        go_roundw
        case rel => exact ⟨j + 1, by omega, by go_num, below_drewN HB.out _⟩
        case measure => simp [intOf]; omega
  case true =>
    have HA := Lib.hid hA
    go_enter Tryz.func21, Tryz.ntmps21
    go_wp2_with fail
    go_loopw [14] (fun s14 wr => ∃ j : Nat, j ≤ 1 ∧ s14 = .int .i64 j ∧ Below w.heap.size w wr) (fun s14 _ => 1 - (intOf s14).toNat)
    case atStart => exact ⟨0, Nat.zero_le _, rfl, Below.refl _ _⟩
    case round =>
      obtain ⟨j, hj, rfl, hB⟩ := hrel
      have HB := Lib.hid hB
      by_cases hjn : j < 1
      · have hjm : (j : Int) < 1 := by omega
        obtain ⟨u, hu⟩ : ∃ u, rs[j]? = some u := ⟨_, List.getElem?_eq_getElem (by have := HR.out.2; omega)⟩
        obtain ⟨b, off, rfl, c0⟩ := (HR.out.1.past hB).get hu
        have l0 := cell_lt c0; simp only at l0
        have hn : isNum .f32 u = true := allNum_get HA.out j u hu
        clear hB hu hA
        go_wp2_with (go_at_call 37; refine (IsNumberR_any _ _).mono ?_; rintro e w' ⟨rfl, m, rfl⟩; rw [hn])
        go_roundw
        case rel => exact ⟨j + 1, by omega, by go_num, below_drewN HB.out _⟩
        case measure => simp [intOf]; omega
      · obtain rfl : j = 1 := by omega
        have hjm : ¬ ((1 : Nat) : Int) < 1 := by omega
        clear hB
        have HE : Hid (paE 6 [] rs = 0) := Lib.hid (by rw [paE_rest (.inr hA)]; rfl)
        go_wp2_with (first | (go_at_call 38; refine (In_any _ _ _ _).mono ?_; rintro e w' ⟨rfl, rfl⟩) | (go_at_call 18; refine (When_any _ _ _).mono ?_; rintro e w' ⟨rfl, rfl⟩))
        go_ret
        exact ⟨by rw [HE.out]; rfl, HB.out⟩
set_option maxRecDepth 100000 in
set_option maxHeartbeats 3200000 in
theorem dpar_expose (ai ar : Option Addr) (ci cr : Nat) (is : List Int) (rs : List Nat) (w : World) (hni : is.length = 0) (hnr : rs.length = 1) (hi : IntsAt 0 w ai is) (hr : RealsAt 0 w ar rs) : Calls Tryz.prog 21 #[.string ⟨#[101, 120, 112, 111, 115, 101]⟩, .slice ai 0 ci, .slice ar 1 cr] w fun e w' => e = .returned (.int .i64 (paE 8 is rs)) ∧ Below w.heap.size w w' := by
  have HR := Lib.hid (And.intro hr hnr)
  obtain rfl : is = [] := List.eq_nil_of_length_eq_zero hni
  clear hi hni hr hnr
  cases hA : allNum rs
  case false =>
    obtain ⟨q, v, g1, g2, g3⟩ := allNum_not hA
    have HQ := Lib.hid (And.intro g1 (And.intro g2 g3))
    have hq : q < 1 := by have := (List.getElem?_eq_some_iff.1 g1).1; have := HR.out.2; omega
    rw [paE_form (by decide) hA]
    clear g1 g2 g3 hA
    go_enter Tryz.func21, Tryz.ntmps21
    go_wp2_with fail
    go_loopw [14] (fun s14 wr => ∃ j : Nat, j ≤ q ∧ s14 = .int .i64 j ∧ Below w.heap.size w wr) (fun s14 _ => 1 - (intOf s14).toNat)
    case atStart => exact ⟨0, Nat.zero_le _, rfl, Below.refl _ _⟩
    case round =>
      obtain ⟨j, hj, rfl, hB⟩ := hrel
      have HB := Lib.hid hB
      have hjm : (j : Int) < 1 := by omega
      obtain ⟨u, hu⟩ : ∃ u, rs[j]? = some u := ⟨_, List.getElem?_eq_getElem (by have := HR.out.2; omega)⟩
      obtain ⟨b, off, rfl, c0⟩ := (HR.out.1.past hB).get hu
      have l0 := cell_lt c0; simp only at l0
      have HU := Lib.hid hu
      clear hB hu
      by_cases e : j = q
      · have hn : isNum .f32 u = false := by have h1 := HU.out; rw [e, HQ.out.1] at h1; cases h1; exact HQ.out.2.1
        clear e
        go_wp2_with (go_at_call 37; refine (IsNumberR_any _ _).mono ?_; rintro e w' ⟨rfl, m, rfl⟩; rw [hn])
        go_ret
        exact ⟨rfl, below_drewN HB.out _⟩
      · have hn : isNum .f32 u = true := HQ.out.2.2 j u (by omega) HU.out
        go_wp2_with (go_at_call 37; refine (IsNumberR_any _ _).mono ?_; rintro e w' ⟨rfl, m, rfl⟩; rw [hn])
        go_roundw
        case rel => exact ⟨j + 1, by omega, by go_num, below_drewN HB.out _⟩
        case measure => simp [intOf]; omega
  case true =>
    have HA := Lib.hid hA
    go_enter Tryz.func21, Tryz.ntmps21
    go_wp2_with fail
    go_loopw [14] (fun s14 wr => ∃ j : Nat, j ≤ 1 ∧ s14 = .int .i64 j ∧ Below w.heap.size w wr) (fun s14 _ => 1 - (intOf s14).toNat)
    case atStart => exact ⟨0, Nat.zero_le _, rfl, Below.refl _ _⟩
    case round =>
      obtain ⟨j, hj, rfl, hB⟩ := hrel
      have HB := Lib.hid hB
      by_cases hjn : j < 1
      · have hjm : (j : Int) < 1 := by omega
        obtain ⟨u, hu⟩ : ∃ u, rs[j]? = some u := ⟨_, List.getElem?_eq_getElem (by have := HR.out.2; omega)⟩
        obtain ⟨b, off, rfl, c0⟩ := (HR.out.1.past hB).get hu
        have l0 := cell_lt c0; simp only at l0
        have hn : isNum .f32 u = true := allNum_get HA.out j u hu
        clear hB hu hA
        go_wp2_with (go_at_call 37; refine (IsNumberR_any _ _).mono ?_; rintro e w' ⟨rfl, m, rfl⟩; rw [hn])
        go_roundw
        case rel => exact ⟨j + 1, by omega, by go_num, below_drewN HB.out _⟩
        case measure => simp [intOf]; omega
      · obtain rfl : j = 1 := by omega
        have hjm : ¬ ((1 : Nat) : Int) < 1 := by omega
        clear hB
        have HE : Hid (paE 8 [] rs = 0) := Lib.hid (by rw [paE_rest (.inr hA)]; rfl)
        go_wp2_with (first | (go_at_call 38; refine (In_any _ _ _ _).mono ?_; rintro e w' ⟨rfl, rfl⟩) | (go_at_call 18; refine (When_any _ _ _).mono ?_; rintro e w' ⟨rfl, rfl⟩))
        go_ret
        exact ⟨by rw [HE.out]; rfl, HB.out⟩
set_option maxRecDepth 100000 in
set_option maxHeartbeats 3200000 in
theorem dpar_blur (ai ar : Option Addr) (ci cr : Nat) (is : List Int) (rs : List Nat) (w : World) (hni : is.length = 1) (hnr : rs.length = 0) (hi : IntsAt 0 w ai is) (hr : RealsAt 0 w ar rs) : Calls Tryz.prog 21 #[.string ⟨#[98, 108, 117, 114]⟩, .slice ai 1 ci, .slice ar 0 cr] w fun e w' => e = .returned (.int .i64 (paE 13 is rs)) ∧ Below w.heap.size w w' := by
  have HR := Lib.hid (And.intro hr hnr)
  obtain ⟨i0, his⟩ : ∃ i0, is = [i0] := by match is, hni with | [a0], _ => exact ⟨a0, rfl⟩
  subst his
  obtain ⟨bi, oi, hai, hic⟩ : ∃ b off, ai = some ⟨b, off, none⟩ ∧ ∀ i v, [i0][i]? = some v → w.cell? ⟨b, off + i, none⟩ = some (.int .i64 v) := by rcases hi with h | ⟨b, off, h, -, -, hc⟩; cases h; exact ⟨b, off, h, hc⟩
  subst hai
  have HI := Lib.hid hic
  clear hi hic hni hr hnr
  obtain rfl : rs = [] := List.eq_nil_of_length_eq_zero HR.out.2
  have hA : allNum [] = true := rfl
  have HB := Lib.hid (Below.refl w.heap.size w)
  have c0 := (HB.out.cell (p := ⟨bi, oi + 0, none⟩) (cell_lt (HI.out 0 _ rfl))).trans (HI.out 0 _ rfl)
  have cl := cell_lt c0; simp only at cl
  rw [Nat.add_zero] at c0
  go_enter Tryz.func21, Tryz.ntmps21
  go_wp2_with fail
  refine wp_loop_rounds 1 ?_
  rw [rounds_succ]
  cases h0 : inB i0 0 16
  case false =>
    have HE : Hid (paE 13 [i0] [] = 3) := Lib.hid (by rw [paE_rest (.inr hA)]; simp [rngK, h0])
    go_wp2_with (first | (go_at_call 38; refine (In_any _ _ _ _).mono ?_; rintro e w' ⟨rfl, rfl⟩) | (go_at_call 18; refine (When_any _ _ _).mono ?_; rintro e w' ⟨rfl, rfl⟩))
    go_ret
    exact ⟨by rw [HE.out]; rfl, HB.out⟩
  case true =>
    have HE : Hid (paE 13 [i0] [] = 0) := Lib.hid (by rw [paE_rest (.inr hA)]; simp [rngK, subK, h0])
    go_wp2_with (first | (go_at_call 38; refine (In_any _ _ _ _).mono ?_; rintro e w' ⟨rfl, rfl⟩) | (go_at_call 18; refine (When_any _ _ _).mono ?_; rintro e w' ⟨rfl, rfl⟩))
    go_ret
    exact ⟨by rw [HE.out]; rfl, HB.out⟩
set_option maxRecDepth 100000 in
set_option maxHeartbeats 3200000 in
theorem dpar_mix (ai ar : Option Addr) (ci cr : Nat) (is : List Int) (rs : List Nat) (w : World) (hni : is.length = 0) (hnr : rs.length = 1) (hi : IntsAt 0 w ai is) (hr : RealsAt 0 w ar rs) : Calls Tryz.prog 21 #[.string ⟨#[109, 105, 120]⟩, .slice ai 0 ci, .slice ar 1 cr] w fun e w' => e = .returned (.int .i64 (paE 14 is rs)) ∧ Below w.heap.size w w' := by
  have HR := Lib.hid (And.intro hr hnr)
  obtain rfl : is = [] := List.eq_nil_of_length_eq_zero hni
  clear hi hni hr hnr
  cases hA : allNum rs
  case false =>
    obtain ⟨q, v, g1, g2, g3⟩ := allNum_not hA
    have HQ := Lib.hid (And.intro g1 (And.intro g2 g3))
    have hq : q < 1 := by have := (List.getElem?_eq_some_iff.1 g1).1; have := HR.out.2; omega
    rw [paE_form (by decide) hA]
    clear g1 g2 g3 hA
    go_enter Tryz.func21, Tryz.ntmps21
    go_wp2_with fail
    go_loopw [14] (fun s14 wr => ∃ j : Nat, j ≤ q ∧ s14 = .int .i64 j ∧ Below w.heap.size w wr) (fun s14 _ => 1 - (intOf s14).toNat)
    case atStart => exact ⟨0, Nat.zero_le _, rfl, Below.refl _ _⟩
    case round =>
      obtain ⟨j, hj, rfl, hB⟩ := hrel
      have HB := Lib.hid hB
      have hjm : (j : Int) < 1 := by omega
      obtain ⟨u, hu⟩ : ∃ u, rs[j]? = some u := ⟨_, List.getElem?_eq_getElem (by have := HR.out.2; omega)⟩
      obtain ⟨b, off, rfl, c0⟩ := (HR.out.1.past hB).get hu
      have l0 := cell_lt c0; simp only at l0
      have HU := Lib.hid hu
      clear hB hu
      by_cases e : j = q
      · have hn : isNum .f32 u = false := by have h1 := HU.out; rw [e, HQ.out.1] at h1; cases h1; exact HQ.out.2.1
        clear e
        go_wp2_with (go_at_call 37; refine (IsNumberR_any _ _).mono ?_; rintro e w' ⟨rfl, m, rfl⟩; rw [hn])
        go_ret
        exact ⟨rfl, below_drewN HB.out _⟩
      · have hn : isNum .f32 u = true := HQ.out.2.2 j u (by omega) HU.out
        go_wp2_with (go_at_call 37; refine (IsNumberR_any _ _).mono ?_; rintro e w' ⟨rfl, m, rfl⟩; rw [hn])
        go_roundw
        case rel => exact ⟨j + 1, by omega, by go_num, below_drewN HB.out _⟩
        case measure => simp [intOf]; omega
  case true =>
    have HA := Lib.hid hA
    go_enter Tryz.func21, Tryz.ntmps21
    go_wp2_with fail
    go_loopw [14] (fun s14 wr => ∃ j : Nat, j ≤ 1 ∧ s14 = .int .i64 j ∧ Below w.heap.size w wr) (fun s14 _ => 1 - (intOf s14).toNat)
    case atStart => exact ⟨0, Nat.zero_le _, rfl, Below.refl _ _⟩
    case round =>
      obtain ⟨j, hj, rfl, hB⟩ := hrel
      have HB := Lib.hid hB
      by_cases hjn : j < 1
      · have hjm : (j : Int) < 1 := by omega
        obtain ⟨u, hu⟩ : ∃ u, rs[j]? = some u := ⟨_, List.getElem?_eq_getElem (by have := HR.out.2; omega)⟩
        obtain ⟨b, off, rfl, c0⟩ := (HR.out.1.past hB).get hu
        have l0 := cell_lt c0; simp only at l0
        have hn : isNum .f32 u = true := allNum_get HA.out j u hu
        clear hB hu hA
        go_wp2_with (go_at_call 37; refine (IsNumberR_any _ _).mono ?_; rintro e w' ⟨rfl, m, rfl⟩; rw [hn])
        go_roundw
        case rel => exact ⟨j + 1, by omega, by go_num, below_drewN HB.out _⟩
        case measure => simp [intOf]; omega
      · obtain rfl : j = 1 := by omega
        have hjm : ¬ ((1 : Nat) : Int) < 1 := by omega
        clear hB
        have HE : Hid (paE 14 [] rs = 0) := Lib.hid (by rw [paE_rest (.inr hA)]; rfl)
        go_wp2_with (first | (go_at_call 38; refine (In_any _ _ _ _).mono ?_; rintro e w' ⟨rfl, rfl⟩) | (go_at_call 18; refine (When_any _ _ _).mono ?_; rintro e w' ⟨rfl, rfl⟩))
        go_ret
        exact ⟨by rw [HE.out]; rfl, HB.out⟩
set_option maxRecDepth 100000 in
set_option maxHeartbeats 3200000 in
theorem dpar_combine (ai ar : Option Addr) (ci cr : Nat) (is : List Int) (rs : List Nat) (w : World) (hni : is.length = 1) (hnr : rs.length = 0) (hi : IntsAt 0 w ai is) (hr : RealsAt 0 w ar rs) : Calls Tryz.prog 21 #[.string ⟨#[99, 111, 109, 98, 105, 110, 101]⟩, .slice ai 1 ci, .slice ar 0 cr] w fun e w' => e = .returned (.int .i64 (paE 15 is rs)) ∧ Below w.heap.size w w' := by
  have HR := Lib.hid (And.intro hr hnr)
  obtain ⟨i0, his⟩ : ∃ i0, is = [i0] := by match is, hni with | [a0], _ => exact ⟨a0, rfl⟩
  subst his
  obtain ⟨bi, oi, hai, hic⟩ : ∃ b off, ai = some ⟨b, off, none⟩ ∧ ∀ i v, [i0][i]? = some v → w.cell? ⟨b, off + i, none⟩ = some (.int .i64 v) := by rcases hi with h | ⟨b, off, h, -, -, hc⟩; cases h; exact ⟨b, off, h, hc⟩
  subst hai
  have HI := Lib.hid hic
  clear hi hic hni hr hnr
  obtain rfl : rs = [] := List.eq_nil_of_length_eq_zero HR.out.2
  have hA : allNum [] = true := rfl
  have HB := Lib.hid (Below.refl w.heap.size w)
  have c0 := (HB.out.cell (p := ⟨bi, oi + 0, none⟩) (cell_lt (HI.out 0 _ rfl))).trans (HI.out 0 _ rfl)
  have cl := cell_lt c0; simp only at cl
  rw [Nat.add_zero] at c0
  go_enter Tryz.func21, Tryz.ntmps21
  go_wp2_with fail
  refine wp_loop_rounds 1 ?_
  rw [rounds_succ]
  cases h0 : inB i0 1 8
  case false =>
    have HE : Hid (paE 15 [i0] [] = 3) := Lib.hid (by rw [paE_rest (.inr hA)]; simp [rngK, h0])
    go_wp2_with (first | (go_at_call 38; refine (In_any _ _ _ _).mono ?_; rintro e w' ⟨rfl, rfl⟩) | (go_at_call 18; refine (When_any _ _ _).mono ?_; rintro e w' ⟨rfl, rfl⟩))
    go_ret
    exact ⟨by rw [HE.out]; rfl, HB.out⟩
  case true =>
    have HE : Hid (paE 15 [i0] [] = 0) := Lib.hid (by rw [paE_rest (.inr hA)]; simp [rngK, subK, h0])
    go_wp2_with (first | (go_at_call 38; refine (In_any _ _ _ _).mono ?_; rintro e w' ⟨rfl, rfl⟩) | (go_at_call 18; refine (When_any _ _ _).mono ?_; rintro e w' ⟨rfl, rfl⟩))
    go_ret
    exact ⟨by rw [HE.out]; rfl, HB.out⟩
set_option maxRecDepth 100000 in
set_option maxHeartbeats 3200000 in
theorem dpar_through (ai ar : Option Addr) (ci cr : Nat) (is : List Int) (rs : List Nat) (w : World) (hni : is.length = 0) (hnr : rs.length = 0) (hi : IntsAt 0 w ai is) (hr : RealsAt 0 w ar rs) : Calls Tryz.prog 21 #[.string ⟨#[116, 104, 114, 111, 117, 103, 104]⟩, .slice ai 0 ci, .slice ar 0 cr] w fun e w' => e = .returned (.int .i64 (paE 16 is rs)) ∧ Below w.heap.size w w' := by
  have HR := Lib.hid (And.intro hr hnr)
  obtain rfl : is = [] := List.eq_nil_of_length_eq_zero hni
  clear hi hni hr hnr
  obtain rfl : rs = [] := List.eq_nil_of_length_eq_zero HR.out.2
  have hA : allNum [] = true := rfl
  have HB := Lib.hid (Below.refl w.heap.size w)
  go_enter Tryz.func21, Tryz.ntmps21
  go_wp2_with fail
  refine wp_loop_rounds 1 ?_
  rw [rounds_succ]
  have HE : Hid (paE 16 [] [] = 0) := Lib.hid (by rw [paE_rest (.inr hA)]; rfl)
  go_wp2_with (first | (go_at_call 38; refine (In_any _ _ _ _).mono ?_; rintro e w' ⟨rfl, rfl⟩) | (go_at_call 18; refine (When_any _ _ _).mono ?_; rintro e w' ⟨rfl, rfl⟩))
  go_ret
  exact ⟨by rw [HE.out]; rfl, HB.out⟩
set_option maxRecDepth 100000 in
set_option maxHeartbeats 3200000 in
theorem dpar_alpha (ai ar : Option Addr) (ci cr : Nat) (is : List Int) (rs : List Nat) (w : World) (hni : is.length = 0) (hnr : rs.length = 0) (hi : IntsAt 0 w ai is) (hr : RealsAt 0 w ar rs) : Calls Tryz.prog 21 #[.string ⟨#[97, 108, 112, 104, 97]⟩, .slice ai 0 ci, .slice ar 0 cr] w fun e w' => e = .returned (.int .i64 (paE 17 is rs)) ∧ Below w.heap.size w w' := by
  have HR := Lib.hid (And.intro hr hnr)
  obtain rfl : is = [] := List.eq_nil_of_length_eq_zero hni
  clear hi hni hr hnr
  obtain rfl : rs = [] := List.eq_nil_of_length_eq_zero HR.out.2
  have hA : allNum [] = true := rfl
  have HB := Lib.hid (Below.refl w.heap.size w)
  go_enter Tryz.func21, Tryz.ntmps21
  go_wp2_with fail
  refine wp_loop_rounds 1 ?_
  rw [rounds_succ]
  have HE : Hid (paE 17 [] [] = 0) := Lib.hid (by rw [paE_rest (.inr hA)]; rfl)
  go_wp2_with (first | (go_at_call 38; refine (In_any _ _ _ _).mono ?_; rintro e w' ⟨rfl, rfl⟩) | (go_at_call 18; refine (When_any _ _ _).mono ?_; rintro e w' ⟨rfl, rfl⟩))
  go_ret
  exact ⟨by rw [HE.out]; rfl, HB.out⟩
set_option maxRecDepth 100000 in
set_option maxHeartbeats 3200000 in
theorem dpar_cover (ai ar : Option Addr) (ci cr : Nat) (is : List Int) (rs : List Nat) (w : World) (hni : is.length = 0) (hnr : rs.length = 0) (hi : IntsAt 0 w ai is) (hr : RealsAt 0 w ar rs) : Calls Tryz.prog 21 #[.string ⟨#[99, 111, 118, 101, 114]⟩, .slice ai 0 ci, .slice ar 0 cr] w fun e w' => e = .returned (.int .i64 (paE 18 is rs)) ∧ Below w.heap.size w w' := by
  have HR := Lib.hid (And.intro hr hnr)
  obtain rfl : is = [] := List.eq_nil_of_length_eq_zero hni
  clear hi hni hr hnr
  obtain rfl : rs = [] := List.eq_nil_of_length_eq_zero HR.out.2
  have hA : allNum [] = true := rfl
  have HB := Lib.hid (Below.refl w.heap.size w)
  go_enter Tryz.func21, Tryz.ntmps21
  go_wp2_with fail
  refine wp_loop_rounds 1 ?_
  rw [rounds_succ]
  have HE : Hid (paE 18 [] [] = 0) := Lib.hid (by rw [paE_rest (.inr hA)]; rfl)
  go_wp2_with (first | (go_at_call 38; refine (In_any _ _ _ _).mono ?_; rintro e w' ⟨rfl, rfl⟩) | (go_at_call 18; refine (When_any _ _ _).mono ?_; rintro e w' ⟨rfl, rfl⟩))
  go_ret
  exact ⟨by rw [HE.out]; rfl, HB.out⟩
set_option maxRecDepth 100000 in
set_option maxHeartbeats 3200000 in
theorem dpar_window (ai ar : Option Addr) (ci cr : Nat) (is : List Int) (rs : List Nat) (w : World) (hni : is.length = 1) (hnr : rs.length = 0) (hi : IntsAt 0 w ai is) (hr : RealsAt 0 w ar rs) : Calls Tryz.prog 21 #[.string ⟨#[119, 105, 110, 100, 111, 119]⟩, .slice ai 1 ci, .slice ar 0 cr] w fun e w' => e = .returned (.int .i64 (paE 21 is rs)) ∧ Below w.heap.size w w' := by
  have HR := Lib.hid (And.intro hr hnr)
  obtain ⟨i0, his⟩ : ∃ i0, is = [i0] := by match is, hni with | [a0], _ => exact ⟨a0, rfl⟩
  subst his
  obtain ⟨bi, oi, hai, hic⟩ : ∃ b off, ai = some ⟨b, off, none⟩ ∧ ∀ i v, [i0][i]? = some v → w.cell? ⟨b, off + i, none⟩ = some (.int .i64 v) := by rcases hi with h | ⟨b, off, h, -, -, hc⟩; cases h; exact ⟨b, off, h, hc⟩
  subst hai
  have HI := Lib.hid hic
  clear hi hic hni hr hnr
  obtain rfl : rs = [] := List.eq_nil_of_length_eq_zero HR.out.2
  have hA : allNum [] = true := rfl
  have HB := Lib.hid (Below.refl w.heap.size w)
  have c0 := (HB.out.cell (p := ⟨bi, oi + 0, none⟩) (cell_lt (HI.out 0 _ rfl))).trans (HI.out 0 _ rfl)
  have cl := cell_lt c0; simp only at cl
  rw [Nat.add_zero] at c0
  go_enter Tryz.func21, Tryz.ntmps21
  go_wp2_with fail
  refine wp_loop_rounds 1 ?_
  rw [rounds_succ]
  cases h0 : inB i0 0 15
  case false =>
    have HE : Hid (paE 21 [i0] [] = 3) := Lib.hid (by rw [paE_rest (.inr hA)]; simp [rngK, h0])
    go_wp2_with (first | (go_at_call 38; refine (In_any _ _ _ _).mono ?_; rintro e w' ⟨rfl, rfl⟩) | (go_at_call 18; refine (When_any _ _ _).mono ?_; rintro e w' ⟨rfl, rfl⟩))
    go_ret
    exact ⟨by rw [HE.out]; rfl, HB.out⟩
  case true =>
    have HE : Hid (paE 21 [i0] [] = 0) := Lib.hid (by rw [paE_rest (.inr hA)]; simp [rngK, subK, h0])
    go_wp2_with (first | (go_at_call 38; refine (In_any _ _ _ _).mono ?_; rintro e w' ⟨rfl, rfl⟩) | (go_at_call 18; refine (When_any _ _ _).mono ?_; rintro e w' ⟨rfl, rfl⟩))
    go_ret
    exact ⟨by rw [HE.out]; rfl, HB.out⟩
set_option maxRecDepth 100000 in
set_option maxHeartbeats 3200000 in
theorem dpar_invert (ai ar : Option Addr) (ci cr : Nat) (is : List Int) (rs : List Nat) (w : World) (hni : is.length = 0) (hnr : rs.length = 0) (hi : IntsAt 0 w ai is) (hr : RealsAt 0 w ar rs) : Calls Tryz.prog 21 #[.string ⟨#[105, 110, 118, 101, 114, 116]⟩, .slice ai 0 ci, .slice ar 0 cr] w fun e w' => e = .returned (.int .i64 (paE 22 is rs)) ∧ Below w.heap.size w w' := by
  have HR := Lib.hid (And.intro hr hnr)
  obtain rfl : is = [] := List.eq_nil_of_length_eq_zero hni
  clear hi hni hr hnr
  obtain rfl : rs = [] := List.eq_nil_of_length_eq_zero HR.out.2
  have hA : allNum [] = true := rfl
  have HB := Lib.hid (Below.refl w.heap.size w)
  go_enter Tryz.func21, Tryz.ntmps21
  go_wp2_with fail
  refine wp_loop_rounds 1 ?_
  rw [rounds_succ]
  have HE : Hid (paE 22 [] [] = 0) := Lib.hid (by rw [paE_rest (.inr hA)]; rfl)
  go_wp2_with (first | (go_at_call 38; refine (In_any _ _ _ _).mono ?_; rintro e w' ⟨rfl, rfl⟩) | (go_at_call 18; refine (When_any _ _ _).mono ?_; rintro e w' ⟨rfl, rfl⟩))
  go_ret
  exact ⟨by rw [HE.out]; rfl, HB.out⟩
set_option maxRecDepth 100000 in
set_option maxHeartbeats 3200000 in
theorem dpar_meet (ai ar : Option Addr) (ci cr : Nat) (is : List Int) (rs : List Nat) (w : World) (hni : is.length = 1) (hnr : rs.length = 0) (hi : IntsAt 0 w ai is) (hr : RealsAt 0 w ar rs) : Calls Tryz.prog 21 #[.string ⟨#[109, 101, 101, 116]⟩, .slice ai 1 ci, .slice ar 0 cr] w fun e w' => e = .returned (.int .i64 (paE 23 is rs)) ∧ Below w.heap.size w w' := by
  have HR := Lib.hid (And.intro hr hnr)
  obtain ⟨i0, his⟩ : ∃ i0, is = [i0] := by match is, hni with | [a0], _ => exact ⟨a0, rfl⟩
  subst his
  obtain ⟨bi, oi, hai, hic⟩ : ∃ b off, ai = some ⟨b, off, none⟩ ∧ ∀ i v, [i0][i]? = some v → w.cell? ⟨b, off + i, none⟩ = some (.int .i64 v) := by rcases hi with h | ⟨b, off, h, -, -, hc⟩; cases h; exact ⟨b, off, h, hc⟩
  subst hai
  have HI := Lib.hid hic
  clear hi hic hni hr hnr
  obtain rfl : rs = [] := List.eq_nil_of_length_eq_zero HR.out.2
  have hA : allNum [] = true := rfl
  have HB := Lib.hid (Below.refl w.heap.size w)
  have c0 := (HB.out.cell (p := ⟨bi, oi + 0, none⟩) (cell_lt (HI.out 0 _ rfl))).trans (HI.out 0 _ rfl)
  have cl := cell_lt c0; simp only at cl
  rw [Nat.add_zero] at c0
  go_enter Tryz.func21, Tryz.ntmps21
  go_wp2_with fail
  refine wp_loop_rounds 1 ?_
  rw [rounds_succ]
  cases h0 : inB i0 1 4
  case false =>
    have HE : Hid (paE 23 [i0] [] = 3) := Lib.hid (by rw [paE_rest (.inr hA)]; simp [rngK, h0])
    go_wp2_with (first | (go_at_call 38; refine (In_any _ _ _ _).mono ?_; rintro e w' ⟨rfl, rfl⟩) | (go_at_call 18; refine (When_any _ _ _).mono ?_; rintro e w' ⟨rfl, rfl⟩))
    go_ret
    exact ⟨by rw [HE.out]; rfl, HB.out⟩
  case true =>
    have HE : Hid (paE 23 [i0] [] = 0) := Lib.hid (by rw [paE_rest (.inr hA)]; simp [rngK, subK, h0])
    go_wp2_with (first | (go_at_call 38; refine (In_any _ _ _ _).mono ?_; rintro e w' ⟨rfl, rfl⟩) | (go_at_call 18; refine (When_any _ _ _).mono ?_; rintro e w' ⟨rfl, rfl⟩))
    go_ret
    exact ⟨by rw [HE.out]; rfl, HB.out⟩
set_option maxRecDepth 100000 in
set_option maxHeartbeats 3200000 in
theorem dpar_spread (ai ar : Option Addr) (ci cr : Nat) (is : List Int) (rs : List Nat) (w : World) (hni : is.length = 1) (hnr : rs.length = 0) (hi : IntsAt 0 w ai is) (hr : RealsAt 0 w ar rs) : Calls Tryz.prog 21 #[.string ⟨#[115, 112, 114, 101, 97, 100]⟩, .slice ai 1 ci, .slice ar 0 cr] w fun e w' => e = .returned (.int .i64 (paE 24 is rs)) ∧ Below w.heap.size w w' := by
  have HR := Lib.hid (And.intro hr hnr)
  obtain ⟨i0, his⟩ : ∃ i0, is = [i0] := by match is, hni with | [a0], _ => exact ⟨a0, rfl⟩
  subst his
  obtain ⟨bi, oi, hai, hic⟩ : ∃ b off, ai = some ⟨b, off, none⟩ ∧ ∀ i v, [i0][i]? = some v → w.cell? ⟨b, off + i, none⟩ = some (.int .i64 v) := by rcases hi with h | ⟨b, off, h, -, -, hc⟩; cases h; exact ⟨b, off, h, hc⟩
  subst hai
  have HI := Lib.hid hic
  clear hi hic hni hr hnr
  obtain rfl : rs = [] := List.eq_nil_of_length_eq_zero HR.out.2
  have hA : allNum [] = true := rfl
  have HB := Lib.hid (Below.refl w.heap.size w)
  have c0 := (HB.out.cell (p := ⟨bi, oi + 0, none⟩) (cell_lt (HI.out 0 _ rfl))).trans (HI.out 0 _ rfl)
  have cl := cell_lt c0; simp only at cl
  rw [Nat.add_zero] at c0
  go_enter Tryz.func21, Tryz.ntmps21
  go_wp2_with fail
  refine wp_loop_rounds 1 ?_
  rw [rounds_succ]
  cases h0 : inB i0 0 16
  case false =>
    have HE : Hid (paE 24 [i0] [] = 3) := Lib.hid (by rw [paE_rest (.inr hA)]; simp [rngK, h0])
    go_wp2_with (first | (go_at_call 38; refine (In_any _ _ _ _).mono ?_; rintro e w' ⟨rfl, rfl⟩) | (go_at_call 18; refine (When_any _ _ _).mono ?_; rintro e w' ⟨rfl, rfl⟩))
    go_ret
    exact ⟨by rw [HE.out]; rfl, HB.out⟩
  case true =>
    have HE : Hid (paE 24 [i0] [] = 0) := Lib.hid (by rw [paE_rest (.inr hA)]; simp [rngK, subK, h0])
    go_wp2_with (first | (go_at_call 38; refine (In_any _ _ _ _).mono ?_; rintro e w' ⟨rfl, rfl⟩) | (go_at_call 18; refine (When_any _ _ _).mono ?_; rintro e w' ⟨rfl, rfl⟩))
    go_ret
    exact ⟨by rw [HE.out]; rfl, HB.out⟩
set_option maxRecDepth 100000 in
set_option maxHeartbeats 3200000 in
theorem dpar_shrink (ai ar : Option Addr) (ci cr : Nat) (is : List Int) (rs : List Nat) (w : World) (hni : is.length = 1) (hnr : rs.length = 0) (hi : IntsAt 0 w ai is) (hr : RealsAt 0 w ar rs) : Calls Tryz.prog 21 #[.string ⟨#[115, 104, 114, 105, 110, 107]⟩, .slice ai 1 ci, .slice ar 0 cr] w fun e w' => e = .returned (.int .i64 (paE 25 is rs)) ∧ Below w.heap.size w w' := by
  have HR := Lib.hid (And.intro hr hnr)
  obtain ⟨i0, his⟩ : ∃ i0, is = [i0] := by match is, hni with | [a0], _ => exact ⟨a0, rfl⟩
  subst his
  obtain ⟨bi, oi, hai, hic⟩ : ∃ b off, ai = some ⟨b, off, none⟩ ∧ ∀ i v, [i0][i]? = some v → w.cell? ⟨b, off + i, none⟩ = some (.int .i64 v) := by rcases hi with h | ⟨b, off, h, -, -, hc⟩; cases h; exact ⟨b, off, h, hc⟩
  subst hai
  have HI := Lib.hid hic
  clear hi hic hni hr hnr
  obtain rfl : rs = [] := List.eq_nil_of_length_eq_zero HR.out.2
  have hA : allNum [] = true := rfl
  have HB := Lib.hid (Below.refl w.heap.size w)
  have c0 := (HB.out.cell (p := ⟨bi, oi + 0, none⟩) (cell_lt (HI.out 0 _ rfl))).trans (HI.out 0 _ rfl)
  have cl := cell_lt c0; simp only at cl
  rw [Nat.add_zero] at c0
  go_enter Tryz.func21, Tryz.ntmps21
  go_wp2_with fail
  refine wp_loop_rounds 1 ?_
  rw [rounds_succ]
  cases h0 : inB i0 0 16
  case false =>
    have HE : Hid (paE 25 [i0] [] = 3) := Lib.hid (by rw [paE_rest (.inr hA)]; simp [rngK, h0])
    go_wp2_with (first | (go_at_call 38; refine (In_any _ _ _ _).mono ?_; rintro e w' ⟨rfl, rfl⟩) | (go_at_call 18; refine (When_any _ _ _).mono ?_; rintro e w' ⟨rfl, rfl⟩))
    go_ret
    exact ⟨by rw [HE.out]; rfl, HB.out⟩
  case true =>
    have HE : Hid (paE 25 [i0] [] = 0) := Lib.hid (by rw [paE_rest (.inr hA)]; simp [rngK, subK, h0])
    go_wp2_with (first | (go_at_call 38; refine (In_any _ _ _ _).mono ?_; rintro e w' ⟨rfl, rfl⟩) | (go_at_call 18; refine (When_any _ _ _).mono ?_; rintro e w' ⟨rfl, rfl⟩))
    go_ret
    exact ⟨by rw [HE.out]; rfl, HB.out⟩
set_option maxRecDepth 100000 in
set_option maxHeartbeats 3200000 in
theorem dpar_feather (ai ar : Option Addr) (ci cr : Nat) (is : List Int) (rs : List Nat) (w : World) (hni : is.length = 1) (hnr : rs.length = 0) (hi : IntsAt 0 w ai is) (hr : RealsAt 0 w ar rs) : Calls Tryz.prog 21 #[.string ⟨#[102, 101, 97, 116, 104, 101, 114]⟩, .slice ai 1 ci, .slice ar 0 cr] w fun e w' => e = .returned (.int .i64 (paE 26 is rs)) ∧ Below w.heap.size w w' := by
  have HR := Lib.hid (And.intro hr hnr)
  obtain ⟨i0, his⟩ : ∃ i0, is = [i0] := by match is, hni with | [a0], _ => exact ⟨a0, rfl⟩
  subst his
  obtain ⟨bi, oi, hai, hic⟩ : ∃ b off, ai = some ⟨b, off, none⟩ ∧ ∀ i v, [i0][i]? = some v → w.cell? ⟨b, off + i, none⟩ = some (.int .i64 v) := by rcases hi with h | ⟨b, off, h, -, -, hc⟩; cases h; exact ⟨b, off, h, hc⟩
  subst hai
  have HI := Lib.hid hic
  clear hi hic hni hr hnr
  obtain rfl : rs = [] := List.eq_nil_of_length_eq_zero HR.out.2
  have hA : allNum [] = true := rfl
  have HB := Lib.hid (Below.refl w.heap.size w)
  have c0 := (HB.out.cell (p := ⟨bi, oi + 0, none⟩) (cell_lt (HI.out 0 _ rfl))).trans (HI.out 0 _ rfl)
  have cl := cell_lt c0; simp only at cl
  rw [Nat.add_zero] at c0
  go_enter Tryz.func21, Tryz.ntmps21
  go_wp2_with fail
  refine wp_loop_rounds 1 ?_
  rw [rounds_succ]
  cases h0 : inB i0 0 16
  case false =>
    have HE : Hid (paE 26 [i0] [] = 3) := Lib.hid (by rw [paE_rest (.inr hA)]; simp [rngK, h0])
    go_wp2_with (first | (go_at_call 38; refine (In_any _ _ _ _).mono ?_; rintro e w' ⟨rfl, rfl⟩) | (go_at_call 18; refine (When_any _ _ _).mono ?_; rintro e w' ⟨rfl, rfl⟩))
    go_ret
    exact ⟨by rw [HE.out]; rfl, HB.out⟩
  case true =>
    have HE : Hid (paE 26 [i0] [] = 0) := Lib.hid (by rw [paE_rest (.inr hA)]; simp [rngK, subK, h0])
    go_wp2_with (first | (go_at_call 38; refine (In_any _ _ _ _).mono ?_; rintro e w' ⟨rfl, rfl⟩) | (go_at_call 18; refine (When_any _ _ _).mono ?_; rintro e w' ⟨rfl, rfl⟩))
    go_ret
    exact ⟨by rw [HE.out]; rfl, HB.out⟩
end Go.Proofs.YtbaocallhnehfaaGreatDoor

namespace Go.Proofs.YtbaocallhnehfaaGreatDoor
open Go Go.RowKit
def formA (f : FormD) (a : Option Addr) (c : Nat) : Value := .agg #[.string (bs f.nm), .slice a f.ins.length c, .int .i64 f.out, .int .i64 f.ints, .int .i64 f.reals, .bool f.area]
theorem op_yes {s : ByteArray} {k : Nat} (hk : opK s.data.toList = some k) (w : World) : Calls Tryz.prog 29 #[.string s] w fun e w' => ∃ a c, e = .returned (.tuple #[.agg #[.string (bs (F k).nm), .slice a (F k).ins.length c, .int .i64 (F k).out, .int .i64 (F k).ints, .int .i64 (F k).reals, .bool (F k).area], .int .i64 0]) ∧ IntsAt 0 w' a (F k).ins ∧ Below w.heap.size w w' := by
  obtain ⟨h1, rfl⟩ := opK_name hk
  exact op_at h1 w
theorem op_no {s : ByteArray} (hk : opK s.data.toList = none) (w : World) : Calls Tryz.prog 29 #[.string s] w fun e w' => e = .returned (.tuple #[.agg #[.string ⟨#[]⟩, .slice none 0 0, .int .i64 0, .int .i64 0, .int .i64 0, .bool false], .int .i64 6]) ∧ Below w.heap.size w w' := by
  have h := opK_none hk
  refine (Op_any s w (fun w' _ => forms_any w')).mono ?_
  rintro e w' ⟨⟨g, v, hg, -⟩ | ⟨-, rfl⟩, hb⟩
  · rw [h] at hg; cases hg
  · exact ⟨rfl, hb⟩
theorem form_yes {s : ByteArray} {k : Nat} (hk : opK s.data.toList = some k) (w : World) (hL : LibW w) : Calls Tryz.prog 20 #[.string s] w fun e w' => ∃ a c, e = .returned (.tuple #[.agg #[.string (bs (F k).nm), .slice a (F k).ins.length c, .int .i64 (F k).out, .int .i64 (F k).ints, .int .i64 (F k).reals, .bool (F k).area], .bool true]) ∧ IntsAt 0 w' a (F k).ins ∧ Below w.heap.size w w' := by
  obtain ⟨h1, rfl⟩ := opK_name hk
  have e1 : opF (bs (F k).nm).data.toList = some (F k) := by rw [bs_data]; exact opF_F h1
  refine (formOf_any _ w hL).mono ?_
  rintro e w' ⟨⟨f, v, hf, rfl, a, c, rfl, hI⟩ | ⟨hf, -⟩, hb⟩
  · rw [e1] at hf
    cases hf
    exact ⟨a, c, rfl, hI, hb⟩
  · rw [e1] at hf
    cases hf
theorem form_no {s : ByteArray} (hk : opK s.data.toList = none) (w : World) (hL : LibW w) : Calls Tryz.prog 20 #[.string s] w fun e w' => e = .returned (.tuple #[.agg #[.string ⟨#[]⟩, .slice none 0 0, .int .i64 0, .int .i64 0, .int .i64 0, .bool false], .bool false]) ∧ Below w.heap.size w w' := by
  have h := opK_none hk
  refine (formOf_any s w hL).mono ?_
  rintro e w' ⟨⟨g, v, hg, -⟩ | ⟨-, rfl⟩, hb⟩
  · rw [h] at hg; cases hg
  · exact ⟨rfl, hb⟩
theorem par_all {s : ByteArray} {k : Nat} (hk : opK s.data.toList = some k) (ai ar : Option Addr) (ci cr : Nat) (is : List Int) (rs : List Nat) (w : World) (hni : (is.length : Int) = (F k).ints) (hnr : (rs.length : Int) = (F k).reals) (hcr : rs.length ≤ cr) (hcb : cr ≤ maxLen) (hi : IntsAt 0 w ai is) (hr : RealsAt 0 w ar rs) : Calls Tryz.prog 30 #[.string s, .slice ai is.length ci, .slice ar rs.length cr] w fun e w' => e = .returned (.int .i64 (paE k is rs)) ∧ Below w.heap.size w w' := by
  obtain ⟨h1, rfl⟩ := opK_name hk
  clear hk
  have hcb' : cr ≤ 9223372036854775807 := by unfold maxLen at hcb; omega
  match k, h1 with
  | 0, _ =>
    have q1 : is.length = 1 := by have h : (is.length : Int) = 1 := hni; omega
    have q2 : rs.length = 0 := by have h : (rs.length : Int) = 0 := hnr; omega
    have h := par_source ai ar ci cr is rs w q1 q2 hi hr
    rw [q1, q2]
    exact h
  | 1, _ =>
    have q1 : is.length = 0 := by have h : (is.length : Int) = 0 := hni; omega
    have q2 : rs.length = 4 := by have h : (rs.length : Int) = 4 := hnr; omega
    have h := par_fill ai ar ci cr is rs w q1 q2 hi hr
    rw [q1, q2]
    exact h
  | 2, _ =>
    have q1 : is.length = 1 := by have h : (is.length : Int) = 1 := hni; omega
    have q2 : rs.length = 0 := by have h : (rs.length : Int) = 0 := hnr; omega
    have h := par_grade ai ar ci cr is rs w q1 q2 hi hr
    rw [q1, q2]
    exact h
  | 3, _ =>
    have q1 : is.length = 2 := by have h : (is.length : Int) = 2 := hni; omega
    have q2 : rs.length = 0 := by have h : (rs.length : Int) = 0 := hnr; omega
    have h := par_cube ai ar ci cr is rs w q1 q2 hi hr
    rw [q1, q2]
    exact h
  | 4, _ =>
    have q1 : is.length = 2 := by have h : (is.length : Int) = 2 := hni; omega
    have q2 : rs.length = 0 := by have h : (rs.length : Int) = 0 := hnr; omega
    have h := par_convert ai ar ci cr is rs w q1 q2 hi hr
    rw [q1, q2]
    exact h
  | 5, _ =>
    have q1 : is.length = 0 := by have h : (is.length : Int) = 0 := hni; omega
    have q2 : rs.length = 1 := by have h : (rs.length : Int) = 1 := hnr; omega
    have h := par_saturate ai ar ci cr is rs w q1 q2 hi hr
    rw [q1, q2]
    exact h
  | 6, _ =>
    have q1 : is.length = 0 := by have h : (is.length : Int) = 0 := hni; omega
    have q2 : rs.length = 1 := by have h : (rs.length : Int) = 1 := hnr; omega
    have h := par_turn ai ar ci cr is rs w q1 q2 hi hr
    rw [q1, q2]
    exact h
  | 7, _ =>
    have q1 : is.length = 1 := by have h : (is.length : Int) = 1 := hni; omega
    have q2 : rs.length = 2 := by have h : (rs.length : Int) = 2 := hnr; omega
    have h := par_tone ai ar ci cr is rs w q1 q2 hi hr
    rw [q1, q2]
    exact h
  | 8, _ =>
    have q1 : is.length = 0 := by have h : (is.length : Int) = 0 := hni; omega
    have q2 : rs.length = 1 := by have h : (rs.length : Int) = 1 := hnr; omega
    have h := par_expose ai ar ci cr is rs w q1 q2 hi hr
    rw [q1, q2]
    exact h
  | 9, _ =>
    have q1 : is.length = 0 := by have h : (is.length : Int) = 0 := hni; omega
    have q2 : rs.length = 1 := by have h : (rs.length : Int) = 1 := hnr; omega
    have h := par_compress ai ar ci cr is rs w q1 q2 hi hr
    rw [q1, q2]
    exact h
  | 10, _ =>
    have q1 : is.length = 3 := by have h : (is.length : Int) = 3 := hni; omega
    have q2 : rs.length = 2 := by have h : (rs.length : Int) = 2 := hnr; omega
    have h := par_grain ai ar ci cr is rs w q1 q2 hi hr
    rw [q1, q2]
    exact h
  | 11, _ =>
    have q1 : is.length = 0 := by have h : (is.length : Int) = 0 := hni; omega
    have q2 : rs.length = 5 := by have h : (rs.length : Int) = 5 := hnr; omega
    have h := par_vignette ai ar ci cr is rs w q1 q2 hi hr
    rw [q1, q2]
    exact h
  | 12, _ =>
    have q1 : is.length = 0 := by have h : (is.length : Int) = 0 := hni; omega
    have q2 : rs.length = 2 := by have h : (rs.length : Int) = 2 := hnr; omega
    have h := par_sharpen ai ar ci cr is rs w q1 q2 hi hr
    rw [q1, q2]
    exact h
  | 13, _ =>
    have q1 : is.length = 1 := by have h : (is.length : Int) = 1 := hni; omega
    have q2 : rs.length = 0 := by have h : (rs.length : Int) = 0 := hnr; omega
    have h := par_blur ai ar ci cr is rs w q1 q2 hi hr
    rw [q1, q2]
    exact h
  | 14, _ =>
    have q1 : is.length = 0 := by have h : (is.length : Int) = 0 := hni; omega
    have q2 : rs.length = 1 := by have h : (rs.length : Int) = 1 := hnr; omega
    have h := par_mix ai ar ci cr is rs w q1 q2 hi hr
    rw [q1, q2]
    exact h
  | 15, _ =>
    have q1 : is.length = 1 := by have h : (is.length : Int) = 1 := hni; omega
    have q2 : rs.length = 0 := by have h : (rs.length : Int) = 0 := hnr; omega
    have h := par_combine ai ar ci cr is rs w q1 q2 hi hr
    rw [q1, q2]
    exact h
  | 16, _ =>
    have q1 : is.length = 0 := by have h : (is.length : Int) = 0 := hni; omega
    have q2 : rs.length = 0 := by have h : (rs.length : Int) = 0 := hnr; omega
    have h := par_through ai ar ci cr is rs w q1 q2 hi hr
    rw [q1, q2]
    exact h
  | 17, _ =>
    have q1 : is.length = 0 := by have h : (is.length : Int) = 0 := hni; omega
    have q2 : rs.length = 0 := by have h : (rs.length : Int) = 0 := hnr; omega
    have h := par_alpha ai ar ci cr is rs w q1 q2 hi hr
    rw [q1, q2]
    exact h
  | 18, _ =>
    have q1 : is.length = 0 := by have h : (is.length : Int) = 0 := hni; omega
    have q2 : rs.length = 0 := by have h : (rs.length : Int) = 0 := hnr; omega
    have h := par_cover ai ar ci cr is rs w q1 q2 hi hr
    rw [q1, q2]
    exact h
  | 19, _ =>
    have q1 : is.length = 0 := by have h : (is.length : Int) = 0 := hni; omega
    have q2 : rs.length = 3 := by have h : (rs.length : Int) = 3 := hnr; omega
    have h := par_luma ai ar ci cr is rs w q1 q2 hi hr
    rw [q1, q2]
    exact h
  | 20, _ =>
    have q1 : is.length = 0 := by have h : (is.length : Int) = 0 := hni; omega
    have q2 : rs.length = 9 := by have h : (rs.length : Int) = 9 := hnr; omega
    have h := par_hue ai ar ci cr (by omega) (by omega) is rs w q1 q2 hi hr
    rw [q1, q2]
    exact h
  | 21, _ =>
    have q1 : is.length = 1 := by have h : (is.length : Int) = 1 := hni; omega
    have q2 : rs.length = 0 := by have h : (rs.length : Int) = 0 := hnr; omega
    have h := par_window ai ar ci cr is rs w q1 q2 hi hr
    rw [q1, q2]
    exact h
  | 22, _ =>
    have q1 : is.length = 0 := by have h : (is.length : Int) = 0 := hni; omega
    have q2 : rs.length = 0 := by have h : (rs.length : Int) = 0 := hnr; omega
    have h := par_invert ai ar ci cr is rs w q1 q2 hi hr
    rw [q1, q2]
    exact h
  | 23, _ =>
    have q1 : is.length = 1 := by have h : (is.length : Int) = 1 := hni; omega
    have q2 : rs.length = 0 := by have h : (rs.length : Int) = 0 := hnr; omega
    have h := par_meet ai ar ci cr is rs w q1 q2 hi hr
    rw [q1, q2]
    exact h
  | 24, _ =>
    have q1 : is.length = 1 := by have h : (is.length : Int) = 1 := hni; omega
    have q2 : rs.length = 0 := by have h : (rs.length : Int) = 0 := hnr; omega
    have h := par_spread ai ar ci cr is rs w q1 q2 hi hr
    rw [q1, q2]
    exact h
  | 25, _ =>
    have q1 : is.length = 1 := by have h : (is.length : Int) = 1 := hni; omega
    have q2 : rs.length = 0 := by have h : (rs.length : Int) = 0 := hnr; omega
    have h := par_shrink ai ar ci cr is rs w q1 q2 hi hr
    rw [q1, q2]
    exact h
  | 26, _ =>
    have q1 : is.length = 1 := by have h : (is.length : Int) = 1 := hni; omega
    have q2 : rs.length = 0 := by have h : (rs.length : Int) = 0 := hnr; omega
    have h := par_feather ai ar ci cr is rs w q1 q2 hi hr
    rw [q1, q2]
    exact h
  | k + 27, h => exact absurd h (by omega)
theorem dpar_all {s : ByteArray} {k : Nat} (hk : opK s.data.toList = some k) (ai ar : Option Addr) (ci cr : Nat) (is : List Int) (rs : List Nat) (w : World) (hni : (is.length : Int) = (F k).ints) (hnr : (rs.length : Int) = (F k).reals) (hcr : rs.length ≤ cr) (hcb : cr ≤ maxLen) (hi : IntsAt 0 w ai is) (hr : RealsAt 0 w ar rs) : Calls Tryz.prog 21 #[.string s, .slice ai is.length ci, .slice ar rs.length cr] w fun e w' => e = .returned (.int .i64 (paE k is rs)) ∧ Below w.heap.size w w' := by
  obtain ⟨h1, rfl⟩ := opK_name hk
  clear hk
  have hcb' : cr ≤ 9223372036854775807 := by unfold maxLen at hcb; omega
  match k, h1 with
  | 0, _ =>
    have q1 : is.length = 1 := by have h : (is.length : Int) = 1 := hni; omega
    have q2 : rs.length = 0 := by have h : (rs.length : Int) = 0 := hnr; omega
    have h := dpar_source ai ar ci cr is rs w q1 q2 hi hr
    rw [q1, q2]
    exact h
  | 1, _ =>
    have q1 : is.length = 0 := by have h : (is.length : Int) = 0 := hni; omega
    have q2 : rs.length = 4 := by have h : (rs.length : Int) = 4 := hnr; omega
    have h := dpar_fill ai ar ci cr is rs w q1 q2 hi hr
    rw [q1, q2]
    exact h
  | 2, _ =>
    have q1 : is.length = 1 := by have h : (is.length : Int) = 1 := hni; omega
    have q2 : rs.length = 0 := by have h : (rs.length : Int) = 0 := hnr; omega
    have h := dpar_grade ai ar ci cr is rs w q1 q2 hi hr
    rw [q1, q2]
    exact h
  | 3, _ =>
    have q1 : is.length = 2 := by have h : (is.length : Int) = 2 := hni; omega
    have q2 : rs.length = 0 := by have h : (rs.length : Int) = 0 := hnr; omega
    have h := dpar_cube ai ar ci cr is rs w q1 q2 hi hr
    rw [q1, q2]
    exact h
  | 4, _ =>
    have q1 : is.length = 2 := by have h : (is.length : Int) = 2 := hni; omega
    have q2 : rs.length = 0 := by have h : (rs.length : Int) = 0 := hnr; omega
    have h := dpar_convert ai ar ci cr is rs w q1 q2 hi hr
    rw [q1, q2]
    exact h
  | 5, _ =>
    have q1 : is.length = 0 := by have h : (is.length : Int) = 0 := hni; omega
    have q2 : rs.length = 1 := by have h : (rs.length : Int) = 1 := hnr; omega
    have h := dpar_saturate ai ar ci cr is rs w q1 q2 hi hr
    rw [q1, q2]
    exact h
  | 6, _ =>
    have q1 : is.length = 0 := by have h : (is.length : Int) = 0 := hni; omega
    have q2 : rs.length = 1 := by have h : (rs.length : Int) = 1 := hnr; omega
    have h := dpar_turn ai ar ci cr is rs w q1 q2 hi hr
    rw [q1, q2]
    exact h
  | 7, _ =>
    have q1 : is.length = 1 := by have h : (is.length : Int) = 1 := hni; omega
    have q2 : rs.length = 2 := by have h : (rs.length : Int) = 2 := hnr; omega
    have h := dpar_tone ai ar ci cr is rs w q1 q2 hi hr
    rw [q1, q2]
    exact h
  | 8, _ =>
    have q1 : is.length = 0 := by have h : (is.length : Int) = 0 := hni; omega
    have q2 : rs.length = 1 := by have h : (rs.length : Int) = 1 := hnr; omega
    have h := dpar_expose ai ar ci cr is rs w q1 q2 hi hr
    rw [q1, q2]
    exact h
  | 9, _ =>
    have q1 : is.length = 0 := by have h : (is.length : Int) = 0 := hni; omega
    have q2 : rs.length = 1 := by have h : (rs.length : Int) = 1 := hnr; omega
    have h := dpar_compress ai ar ci cr is rs w q1 q2 hi hr
    rw [q1, q2]
    exact h
  | 10, _ =>
    have q1 : is.length = 3 := by have h : (is.length : Int) = 3 := hni; omega
    have q2 : rs.length = 2 := by have h : (rs.length : Int) = 2 := hnr; omega
    have h := dpar_grain ai ar ci cr is rs w q1 q2 hi hr
    rw [q1, q2]
    exact h
  | 11, _ =>
    have q1 : is.length = 0 := by have h : (is.length : Int) = 0 := hni; omega
    have q2 : rs.length = 5 := by have h : (rs.length : Int) = 5 := hnr; omega
    have h := dpar_vignette ai ar ci cr is rs w q1 q2 hi hr
    rw [q1, q2]
    exact h
  | 12, _ =>
    have q1 : is.length = 0 := by have h : (is.length : Int) = 0 := hni; omega
    have q2 : rs.length = 2 := by have h : (rs.length : Int) = 2 := hnr; omega
    have h := dpar_sharpen ai ar ci cr is rs w q1 q2 hi hr
    rw [q1, q2]
    exact h
  | 13, _ =>
    have q1 : is.length = 1 := by have h : (is.length : Int) = 1 := hni; omega
    have q2 : rs.length = 0 := by have h : (rs.length : Int) = 0 := hnr; omega
    have h := dpar_blur ai ar ci cr is rs w q1 q2 hi hr
    rw [q1, q2]
    exact h
  | 14, _ =>
    have q1 : is.length = 0 := by have h : (is.length : Int) = 0 := hni; omega
    have q2 : rs.length = 1 := by have h : (rs.length : Int) = 1 := hnr; omega
    have h := dpar_mix ai ar ci cr is rs w q1 q2 hi hr
    rw [q1, q2]
    exact h
  | 15, _ =>
    have q1 : is.length = 1 := by have h : (is.length : Int) = 1 := hni; omega
    have q2 : rs.length = 0 := by have h : (rs.length : Int) = 0 := hnr; omega
    have h := dpar_combine ai ar ci cr is rs w q1 q2 hi hr
    rw [q1, q2]
    exact h
  | 16, _ =>
    have q1 : is.length = 0 := by have h : (is.length : Int) = 0 := hni; omega
    have q2 : rs.length = 0 := by have h : (rs.length : Int) = 0 := hnr; omega
    have h := dpar_through ai ar ci cr is rs w q1 q2 hi hr
    rw [q1, q2]
    exact h
  | 17, _ =>
    have q1 : is.length = 0 := by have h : (is.length : Int) = 0 := hni; omega
    have q2 : rs.length = 0 := by have h : (rs.length : Int) = 0 := hnr; omega
    have h := dpar_alpha ai ar ci cr is rs w q1 q2 hi hr
    rw [q1, q2]
    exact h
  | 18, _ =>
    have q1 : is.length = 0 := by have h : (is.length : Int) = 0 := hni; omega
    have q2 : rs.length = 0 := by have h : (rs.length : Int) = 0 := hnr; omega
    have h := dpar_cover ai ar ci cr is rs w q1 q2 hi hr
    rw [q1, q2]
    exact h
  | 19, _ =>
    have q1 : is.length = 0 := by have h : (is.length : Int) = 0 := hni; omega
    have q2 : rs.length = 3 := by have h : (rs.length : Int) = 3 := hnr; omega
    have h := dpar_luma ai ar ci cr is rs w q1 q2 hi hr
    rw [q1, q2]
    exact h
  | 20, _ =>
    have q1 : is.length = 0 := by have h : (is.length : Int) = 0 := hni; omega
    have q2 : rs.length = 9 := by have h : (rs.length : Int) = 9 := hnr; omega
    have h := dpar_hue ai ar ci cr (by omega) (by omega) is rs w q1 q2 hi hr
    rw [q1, q2]
    exact h
  | 21, _ =>
    have q1 : is.length = 1 := by have h : (is.length : Int) = 1 := hni; omega
    have q2 : rs.length = 0 := by have h : (rs.length : Int) = 0 := hnr; omega
    have h := dpar_window ai ar ci cr is rs w q1 q2 hi hr
    rw [q1, q2]
    exact h
  | 22, _ =>
    have q1 : is.length = 0 := by have h : (is.length : Int) = 0 := hni; omega
    have q2 : rs.length = 0 := by have h : (rs.length : Int) = 0 := hnr; omega
    have h := dpar_invert ai ar ci cr is rs w q1 q2 hi hr
    rw [q1, q2]
    exact h
  | 23, _ =>
    have q1 : is.length = 1 := by have h : (is.length : Int) = 1 := hni; omega
    have q2 : rs.length = 0 := by have h : (rs.length : Int) = 0 := hnr; omega
    have h := dpar_meet ai ar ci cr is rs w q1 q2 hi hr
    rw [q1, q2]
    exact h
  | 24, _ =>
    have q1 : is.length = 1 := by have h : (is.length : Int) = 1 := hni; omega
    have q2 : rs.length = 0 := by have h : (rs.length : Int) = 0 := hnr; omega
    have h := dpar_spread ai ar ci cr is rs w q1 q2 hi hr
    rw [q1, q2]
    exact h
  | 25, _ =>
    have q1 : is.length = 1 := by have h : (is.length : Int) = 1 := hni; omega
    have q2 : rs.length = 0 := by have h : (rs.length : Int) = 0 := hnr; omega
    have h := dpar_shrink ai ar ci cr is rs w q1 q2 hi hr
    rw [q1, q2]
    exact h
  | 26, _ =>
    have q1 : is.length = 1 := by have h : (is.length : Int) = 1 := hni; omega
    have q2 : rs.length = 0 := by have h : (rs.length : Int) = 0 := hnr; omega
    have h := dpar_feather ai ar ci cr is rs w q1 q2 hi hr
    rw [q1, q2]
    exact h
  | k + 27, h => exact absurd h (by omega)
end Go.Proofs.YtbaocallhnehfaaGreatDoor
