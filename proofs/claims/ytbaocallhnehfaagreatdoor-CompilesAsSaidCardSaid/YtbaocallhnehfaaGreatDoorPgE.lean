/- dyelaw2.parameters at the operations with a check of their own. Conditions: the numbers can be read. -/
import Derived.Test.YtbaocallhnehfaaGreatDoorQG
import Derived.Test.YtbaocallhnehfaaGreatDoorQH
import Derived.Test.YtbaocallhnehfaaGreatDoorQB
namespace Go.Proofs.YtbaocallhnehfaaGreatDoor
open Go Go.RowKit
theorem num_16 : isNum .f32 1098907648 = true := by decide +kernel
set_option maxRecDepth 100000 in
set_option maxHeartbeats 6400000 in
theorem dpar_tone (ai ar : Option Addr) (ci cr : Nat) (is : List Int) (rs : List Nat) (w : World) (hni : is.length = 1) (hnr : rs.length = 2) (hi : IntsAt 0 w ai is) (hr : RealsAt 0 w ar rs) : Calls Tryz.prog 21 #[.string ⟨#[116, 111, 110, 101]⟩, .slice ai 1 ci, .slice ar 2 cr] w fun e w' => e = .returned (.int .i64 (paE 7 is rs)) ∧ Below w.heap.size w w' := by
  obtain ⟨i0, his⟩ : ∃ i0, is = [i0] := by match is, hni with | [a0], _ => exact ⟨a0, rfl⟩
  subst his
  obtain ⟨bi, oi, rfl, hic⟩ := ints_at hi (by simp)
  have HI := Lib.hid hic
  clear hic
  obtain ⟨r0, r1, hrs⟩ : ∃ r0 r1, rs = [r0, r1] := by match rs, hnr with | [a0, a1], _ => exact ⟨a0, a1, rfl⟩
  subst hrs
  obtain ⟨br, ro, rfl, hrc⟩ := reals_at hr (by simp)
  have HR := Lib.hid hrc
  clear hrc
  clear hi hr hni hnr
  cases hA : allNum [r0, r1]
  case false =>
    obtain ⟨q, v, g1, g2, g3⟩ := allNum_not hA
    have hq : q < 2 := by have := (List.getElem?_eq_some_iff.1 g1).1; simpa using this
    have HQ := Lib.hid (And.intro g1 (And.intro g2 g3))
    rw [paE_form (by decide) hA]
    clear g1 g2 g3 hA
    go_enter Tryz.func21, Tryz.ntmps21
    go_wp2_with fail
    go_loopw [14] (fun s14 wr => ∃ j : Nat, j ≤ q ∧ s14 = .int .i64 j ∧ Below w.heap.size w wr) (fun s14 _ => 2 - (intOf s14).toNat)
    case atStart => exact ⟨0, Nat.zero_le _, rfl, Below.refl _ _⟩
    case round =>
      obtain ⟨j, hj, rfl, hB⟩ := hrel
      have HB := Lib.hid hB
      have hjm : (j : Int) < 2 := by omega
      obtain ⟨u, hu⟩ : ∃ u, [r0, r1][j]? = some u := ⟨_, List.getElem?_eq_getElem (by simp; omega)⟩
      have c0 := (hB.cell (p := ⟨br, ro + j, none⟩) (cell_lt (HR.out j u hu))).trans (HR.out j u hu)
      have l0 := cell_lt c0; simp only at l0
      have HU := Lib.hid hu
      clear hB hu
      by_cases e : j = q
      · have hn : isNum .f32 u = false := by have h1 := HU.out; rw [e, HQ.out.1] at h1; cases h1; exact HQ.out.2.1
        clear e
        go_wp2_with (go_at_call 37; refine (IsNumberR_any _ _).mono ?_; rintro e w' ⟨rfl, m, rfl⟩; rw [hn])
        go_ret
        exact ⟨rfl, below_drewN HB.out _⟩
      · have hn : isNum .f32 u = true := HQ.out.2.2 j u (by omega) HU.out
        go_wp2_with (go_at_call 37; refine (IsNumberR_any _ _).mono ?_; rintro e w' ⟨rfl, m, rfl⟩; rw [hn])
        go_roundw
        case rel => exact ⟨j + 1, by omega, by go_num, below_drewN HB.out _⟩
        case measure => simp [intOf]; omega
  case true =>
    have HA := Lib.hid hA
    go_enter Tryz.func21, Tryz.ntmps21
    go_wp2_with fail
    go_loopw [14] (fun s14 wr => ∃ j : Nat, j ≤ 2 ∧ s14 = .int .i64 j ∧ Below w.heap.size w wr) (fun s14 _ => 2 - (intOf s14).toNat)
    case atStart => exact ⟨0, Nat.zero_le _, rfl, Below.refl _ _⟩
    case round =>
      obtain ⟨j, hj, rfl, hB⟩ := hrel
      have HB := Lib.hid hB
      by_cases hjn : j < 2
      · have hjm : (j : Int) < 2 := by omega
        obtain ⟨u, hu⟩ : ∃ u, [r0, r1][j]? = some u := ⟨_, List.getElem?_eq_getElem (by simp; omega)⟩
        have c0 := (hB.cell (p := ⟨br, ro + j, none⟩) (cell_lt (HR.out j u hu))).trans (HR.out j u hu)
        have l0 := cell_lt c0; simp only at l0
        have hn : isNum .f32 u = true := allNum_get HA.out j u hu
        clear hB hu hA
        go_wp2_with (go_at_call 37; refine (IsNumberR_any _ _).mono ?_; rintro e w' ⟨rfl, m, rfl⟩; rw [hn])
        go_roundw
        case rel => exact ⟨j + 1, by omega, by go_num, below_drewN HB.out _⟩
        case measure => simp [intOf]; omega
      · obtain rfl : j = 2 := by omega
        have hjm : ¬ ((2 : Nat) : Int) < 2 := by omega
        have c0 := (HB.out.cell (p := ⟨bi, oi, none⟩) (cell_lt (HI.out 0 _ rfl))).trans (HI.out 0 _ rfl)
        have d0 := (HB.out.cell (p := ⟨br, ro, none⟩) (cell_lt (HR.out 0 _ rfl))).trans (HR.out 0 _ rfl)
        have d1 := (HB.out.cell (p := ⟨br, ro + 1, none⟩) (cell_lt (HR.out 1 _ rfl))).trans (HR.out 1 _ rfl)
        have cl := cell_lt c0; simp only at cl
        have dl := cell_lt d0; simp only at dl
        clear hB hA
        cases h0 : inB i0 1 3
        case false =>
          have HE : Hid (paE 7 [i0] [r0, r1] = 3) := Lib.hid (by rw [paE_rest (.inr HA.out)]; simp [rngK, h0])
          go_wp2_with (first | (go_at_call 38; refine (In_any _ _ _ _).mono ?_; rintro e w' ⟨rfl, rfl⟩) | (go_at_call 18; refine (When_any _ _ _).mono ?_; rintro e w' ⟨rfl, rfl⟩))
          go_ret
          exact ⟨by (rw [HE.out] <;> rfl), HB.out⟩
        case true =>
          have HE : Hid (paE 7 [i0] [r0, r1] = toneE i0 r0 r1) := Lib.hid (by rw [paE_rest (.inr HA.out)]; simp [rngK, subK, h0])
          go_upto_region 36 with (first | (go_at_call 38; refine (In_any _ _ _ _).mono ?_; rintro e w' ⟨rfl, rfl⟩) | (go_at_call 18; refine (When_any _ _ _).mono ?_; rintro e w' ⟨rfl, rfl⟩))
          refine wp_world (fun W hW => ?_)
          have HWB : Hid (Below w.heap.size w W) := Lib.hid (by rw [hW]; exact HB.out)
          have HCP : Hid (∀ w', Below W.heap.size W w' → w'.cell? ⟨bi, oi, none⟩ = some (.int .i64 i0) ∧ w'.cell? ⟨br, ro, none⟩ = some (.float .f32 r0) ∧ w'.cell? ⟨br, ro + 1, none⟩ = some (.float .f32 r1)) := Lib.hid (by rw [hW]; exact fun w' h' => ⟨(h'.cell (p := ⟨bi, oi, none⟩) (cell_lt c0)).trans c0, (h'.cell (p := ⟨br, ro, none⟩) (cell_lt d0)).trans d0, (h'.cell (p := ⟨br, ro + 1, none⟩) (cell_lt d1)).trans d1⟩)
          clear hW c0 d0 d1 cl dl
          refine wp_region_C (fun w' => w'.cell? ⟨bi, oi, none⟩ = some (.int .i64 i0) ∧ w'.cell? ⟨br, ro, none⟩ = some (.float .f32 r0) ∧ w'.cell? ⟨br, ro + 1, none⟩ = some (.float .f32 r1)) 10 12 (by kernel_rfl) rfl ?_
          have hC := HCP.out W.drew ((Below.refl _ _).drew)
          refine wpAnyC_take (i := 0) (v := .slice (some ⟨bi, oi, none⟩) 1 ci) rfl (by kernel_rfl) (by kernel_rfl) (fun _ _ _ h => h) (.inl ⟨rfl, fun w' hw' => ?_⟩) hC ?_
          · obtain ⟨k0, k1, k2⟩ := hw'
            go_simp
          refine wpAnyC_act (by rfl) ?_
          simp only [Act.put, List.setIfInBounds_toArray, List.set_cons_zero, List.set_cons_succ]
          refine wpAnyC_take (i := 1) (v := .pointer (some ⟨bi, oi, none⟩)) rfl (by kernel_rfl) (by kernel_rfl) (fun _ _ _ h => h) (.inl ⟨rfl, fun w' hw' => ?_⟩) hC ?_
          · obtain ⟨k0, k1, k2⟩ := hw'
            go_simp
          refine wpAnyC_act (by rfl) ?_
          simp only [Act.put, List.setIfInBounds_toArray, List.set_cons_zero, List.set_cons_succ]
          refine wpAnyC_take (i := 2) (v := .int .i64 i0) rfl (by kernel_rfl) (by kernel_rfl) (fun _ _ _ h => h) (.inl ⟨rfl, fun w' hw' => ?_⟩) hC ?_
          · obtain ⟨k0, k1, k2⟩ := hw'
            go_simp
          refine wpAnyC_act (by rfl) ?_
          simp only [Act.put, List.setIfInBounds_toArray, List.set_cons_zero, List.set_cons_succ]
          refine wpAnyC_take (i := 3) (v := .slice (some ⟨br, ro, none⟩) 2 cr) rfl (by kernel_rfl) (by kernel_rfl) (fun _ _ _ h => h) (.inl ⟨rfl, fun w' hw' => ?_⟩) hC ?_
          · obtain ⟨k0, k1, k2⟩ := hw'
            go_simp
          refine wpAnyC_act (by rfl) ?_
          simp only [Act.put, List.setIfInBounds_toArray, List.set_cons_zero, List.set_cons_succ]
          refine wpAnyC_take (i := 4) (v := .pointer (some ⟨br, ro, none⟩)) rfl (by kernel_rfl) (by kernel_rfl) (fun _ _ _ h => h) (.inl ⟨rfl, fun w' hw' => ?_⟩) hC ?_
          · obtain ⟨k0, k1, k2⟩ := hw'
            go_simp
          refine wpAnyC_act (by rfl) ?_
          simp only [Act.put, List.setIfInBounds_toArray, List.set_cons_zero, List.set_cons_succ]
          refine wpAnyC_take (i := 5) (v := .float .f32 r0) rfl (by kernel_rfl) (by kernel_rfl) (fun _ _ _ h => h) (.inl ⟨rfl, fun w' hw' => ?_⟩) hC ?_
          · obtain ⟨k0, k1, k2⟩ := hw'
            go_simp
          refine wpAnyC_act (by rfl) ?_
          simp only [Act.put, List.setIfInBounds_toArray, List.set_cons_zero, List.set_cons_succ]
          refine wpAnyC_take (i := 6) (v := .slice (some ⟨br, ro, none⟩) 2 cr) rfl (by kernel_rfl) (by kernel_rfl) (fun _ _ _ h => h) (.inl ⟨rfl, fun w' hw' => ?_⟩) hC ?_
          · obtain ⟨k0, k1, k2⟩ := hw'
            go_simp
          refine wpAnyC_act (by rfl) ?_
          simp only [Act.put, List.setIfInBounds_toArray, List.set_cons_zero, List.set_cons_succ]
          refine wpAnyC_take (i := 7) (v := .pointer (some ⟨br, ro + 1, none⟩)) rfl (by kernel_rfl) (by kernel_rfl) (fun _ _ _ h => h) (.inl ⟨rfl, fun w' hw' => ?_⟩) hC ?_
          · obtain ⟨k0, k1, k2⟩ := hw'
            go_simp
          refine wpAnyC_act (by rfl) ?_
          simp only [Act.put, List.setIfInBounds_toArray, List.set_cons_zero, List.set_cons_succ]
          refine wpAnyC_take (i := 8) (v := .float .f32 r1) rfl (by kernel_rfl) (by kernel_rfl) (fun _ _ _ h => h) (.inl ⟨rfl, fun w' hw' => ?_⟩) hC ?_
          · obtain ⟨k0, k1, k2⟩ := hw'
            go_simp
          refine wpAnyC_act (by rfl) ?_
          simp only [Act.put, List.setIfInBounds_toArray, List.set_cons_zero, List.set_cons_succ]
          refine wpAnyC_take (i := 9) (v := .agg #[.int .i64 i0, .float .f32 r0, .float .f32 r1]) rfl (by kernel_rfl) (by kernel_rfl) (fun _ _ _ h => h) (.inl ⟨rfl, fun w' hw' => ?_⟩) hC ?_
          · obtain ⟨k0, k1, k2⟩ := hw'
            go_simp
          refine wpAnyC_act (by rfl) ?_
          simp only [Act.put, List.setIfInBounds_toArray, List.set_cons_zero, List.set_cons_succ]
          refine wpAnyC_one (i := 10) rfl (by kernel_rfl) (fun K hK => ?_)
          go_simp
          refine (ToneError_any _ _ _ _).mono ?_
          rintro e w2 ⟨rfl, hb2⟩
          have HX : Hid (Below w.heap.size w w2) := Lib.hid (HWB.out.trans (((Below.refl W.heap.size W).drew.trans (hb2.mono (by simp))).mono HWB.out.size))
          go_simp
          refine hK _ _ (fun h => by rw [getD_setSelf] at h; cases h) ?_
          clear hK K hb2
          refine wpAnyC_one (i := 11) rfl (by kernel_rfl) (fun K hK => ?_)
          go_simp
          refine hK _ _ (fun h => by rw [getD_setC (by decide), getD_setSelf] at h; cases h) ?_
          clear hK K
          refine wpAnyC_done (by kernel_rfl) ?_
          go_wp2_with fail
          go_ret
          exact ⟨by (rw [HE.out] <;> rfl), HX.out⟩
set_option maxRecDepth 100000 in
set_option maxHeartbeats 6400000 in
theorem dpar_compress (ai ar : Option Addr) (ci cr : Nat) (is : List Int) (rs : List Nat) (w : World) (hni : is.length = 0) (hnr : rs.length = 1) (hi : IntsAt 0 w ai is) (hr : RealsAt 0 w ar rs) : Calls Tryz.prog 21 #[.string ⟨#[99, 111, 109, 112, 114, 101, 115, 115]⟩, .slice ai 0 ci, .slice ar 1 cr] w fun e w' => e = .returned (.int .i64 (paE 9 is rs)) ∧ Below w.heap.size w w' := by
  obtain rfl : is = [] := List.eq_nil_of_length_eq_zero hni
  clear hi
  obtain ⟨r0, hrs⟩ : ∃ r0, rs = [r0] := by match rs, hnr with | [a0], _ => exact ⟨a0, rfl⟩
  subst hrs
  obtain ⟨br, ro, rfl, hrc⟩ := reals_at hr (by simp)
  have HR := Lib.hid hrc
  clear hrc
  clear hr hni hnr
  cases hA : allNum [r0]
  case false =>
    obtain ⟨q, v, g1, g2, g3⟩ := allNum_not hA
    have hq : q < 1 := by have := (List.getElem?_eq_some_iff.1 g1).1; simpa using this
    have HQ := Lib.hid (And.intro g1 (And.intro g2 g3))
    rw [paE_form (by decide) hA]
    clear g1 g2 g3 hA
    go_enter Tryz.func21, Tryz.ntmps21
    go_wp2_with fail
    go_loopw [14] (fun s14 wr => ∃ j : Nat, j ≤ q ∧ s14 = .int .i64 j ∧ Below w.heap.size w wr) (fun s14 _ => 1 - (intOf s14).toNat)
    case atStart => exact ⟨0, Nat.zero_le _, rfl, Below.refl _ _⟩
    case round =>
      obtain ⟨j, hj, rfl, hB⟩ := hrel
      have HB := Lib.hid hB
      have hjm : (j : Int) < 1 := by omega
      obtain ⟨u, hu⟩ : ∃ u, [r0][j]? = some u := ⟨_, List.getElem?_eq_getElem (by simp; omega)⟩
      have c0 := (hB.cell (p := ⟨br, ro + j, none⟩) (cell_lt (HR.out j u hu))).trans (HR.out j u hu)
      have l0 := cell_lt c0; simp only at l0
      have HU := Lib.hid hu
      clear hB hu
      by_cases e : j = q
      · have hn : isNum .f32 u = false := by have h1 := HU.out; rw [e, HQ.out.1] at h1; cases h1; exact HQ.out.2.1
        clear e
        go_wp2_with (go_at_call 37; refine (IsNumberR_any _ _).mono ?_; rintro e w' ⟨rfl, m, rfl⟩; rw [hn])
        go_ret
        exact ⟨rfl, below_drewN HB.out _⟩
      · have hn : isNum .f32 u = true := HQ.out.2.2 j u (by omega) HU.out
        go_wp2_with (go_at_call 37; refine (IsNumberR_any _ _).mono ?_; rintro e w' ⟨rfl, m, rfl⟩; rw [hn])
        go_roundw
        case rel => exact ⟨j + 1, by omega, by go_num, below_drewN HB.out _⟩
        case measure => simp [intOf]; omega
  case true =>
    have HA := Lib.hid hA
    go_enter Tryz.func21, Tryz.ntmps21
    go_wp2_with fail
    go_loopw [14] (fun s14 wr => ∃ j : Nat, j ≤ 1 ∧ s14 = .int .i64 j ∧ Below w.heap.size w wr) (fun s14 _ => 1 - (intOf s14).toNat)
    case atStart => exact ⟨0, Nat.zero_le _, rfl, Below.refl _ _⟩
    case round =>
      obtain ⟨j, hj, rfl, hB⟩ := hrel
      have HB := Lib.hid hB
      by_cases hjn : j < 1
      · have hjm : (j : Int) < 1 := by omega
        obtain ⟨u, hu⟩ : ∃ u, [r0][j]? = some u := ⟨_, List.getElem?_eq_getElem (by simp; omega)⟩
        have c0 := (hB.cell (p := ⟨br, ro + j, none⟩) (cell_lt (HR.out j u hu))).trans (HR.out j u hu)
        have l0 := cell_lt c0; simp only at l0
        have hn : isNum .f32 u = true := allNum_get HA.out j u hu
        clear hB hu hA
        go_wp2_with (go_at_call 37; refine (IsNumberR_any _ _).mono ?_; rintro e w' ⟨rfl, m, rfl⟩; rw [hn])
        go_roundw
        case rel => exact ⟨j + 1, by omega, by go_num, below_drewN HB.out _⟩
        case measure => simp [intOf]; omega
      · obtain rfl : j = 1 := by omega
        have hjm : ¬ ((1 : Nat) : Int) < 1 := by omega
        have d0 := (HB.out.cell (p := ⟨br, ro, none⟩) (cell_lt (HR.out 0 _ rfl))).trans (HR.out 0 _ rfl)
        have dl := cell_lt d0; simp only at dl
        clear hB hA
        have HE : Hid (paE 9 [] [r0] = cmpE r0) := Lib.hid (by rw [paE_rest (.inr HA.out)]; simp [rngK, subK])
        have hn0 : isNum .f32 r0 = true := allNum_get HA.out 0 r0 rfl
        cases g0 : ((FloatKind.f32.format.order r0 0 == some .gt) || (FloatKind.f32.format.order r0 0 == some .eq))
        case false =>
          have HE2 : Hid (cmpE r0 = 3) := Lib.hid (by
            unfold cmpE; rw [hn0]
            obtain ⟨o0, a1, a2, a3⟩ := ord_some hn0 num_01.1
            obtain ⟨o1, b1, b2, b3⟩ := ord_some hn0 num_01.2
            rw [a1, b2, b3]
            rw [a2, a3] at g0
            cases o0 <;> cases o1 <;> simp_all [oLt, oEq, oGt])
          clear hn0
          go_wp2_with (first | (go_at_call 38; refine (In_any _ _ _ _).mono ?_; rintro e w' ⟨rfl, rfl⟩) | (go_at_call 18; refine (When_any _ _ _).mono ?_; rintro e w' ⟨rfl, rfl⟩) | fail)
          go_ret
          exact ⟨by (rw [HE.out, HE2.out] <;> rfl), HB.out⟩
        case true =>
          cases g1 : (FloatKind.f32.format.order r0 1065353216 == some .lt)
          case false =>
            have HE2 : Hid (cmpE r0 = 3) := Lib.hid (by
              unfold cmpE; rw [hn0]
              obtain ⟨o0, a1, a2, a3⟩ := ord_some hn0 num_01.1
              obtain ⟨o1, b1, b2, b3⟩ := ord_some hn0 num_01.2
              rw [a1, b2, b3]
              rw [a2, a3] at g0
              rw [b1] at g1
              cases o0 <;> cases o1 <;> simp_all [oLt, oEq, oGt])
            clear hn0
            go_wp2_with (first | (go_at_call 38; refine (In_any _ _ _ _).mono ?_; rintro e w' ⟨rfl, rfl⟩) | (go_at_call 18; refine (When_any _ _ _).mono ?_; rintro e w' ⟨rfl, rfl⟩) | fail)
            go_ret
            exact ⟨by (rw [HE.out, HE2.out] <;> rfl), HB.out⟩
          case true =>
            have HE2 : Hid (cmpE r0 = 0) := Lib.hid (by
              unfold cmpE; rw [hn0]
              obtain ⟨o0, a1, a2, a3⟩ := ord_some hn0 num_01.1
              obtain ⟨o1, b1, b2, b3⟩ := ord_some hn0 num_01.2
              rw [a1, b2, b3]
              rw [a2, a3] at g0
              rw [b1] at g1
              cases o0 <;> cases o1 <;> simp_all [oLt, oEq, oGt])
            clear hn0
            go_wp2_with (first | (go_at_call 38; refine (In_any _ _ _ _).mono ?_; rintro e w' ⟨rfl, rfl⟩) | (go_at_call 18; refine (When_any _ _ _).mono ?_; rintro e w' ⟨rfl, rfl⟩) | fail)
            go_ret
            exact ⟨by (rw [HE.out, HE2.out] <;> rfl), HB.out⟩
set_option maxRecDepth 100000 in
set_option maxHeartbeats 6400000 in
theorem dpar_grain (ai ar : Option Addr) (ci cr : Nat) (is : List Int) (rs : List Nat) (w : World) (hni : is.length = 3) (hnr : rs.length = 2) (hi : IntsAt 0 w ai is) (hr : RealsAt 0 w ar rs) : Calls Tryz.prog 21 #[.string ⟨#[103, 114, 97, 105, 110]⟩, .slice ai 3 ci, .slice ar 2 cr] w fun e w' => e = .returned (.int .i64 (paE 10 is rs)) ∧ Below w.heap.size w w' := by
  obtain ⟨i0, i1, i2, his⟩ : ∃ i0 i1 i2, is = [i0, i1, i2] := by match is, hni with | [a0, a1, a2], _ => exact ⟨a0, a1, a2, rfl⟩
  subst his
  obtain ⟨bi, oi, rfl, hic⟩ := ints_at hi (by simp)
  have HI := Lib.hid hic
  clear hic
  obtain ⟨r0, r1, hrs⟩ : ∃ r0 r1, rs = [r0, r1] := by match rs, hnr with | [a0, a1], _ => exact ⟨a0, a1, rfl⟩
  subst hrs
  obtain ⟨br, ro, rfl, hrc⟩ := reals_at hr (by simp)
  have HR := Lib.hid hrc
  clear hrc
  clear hi hr hni hnr
  cases hA : allNum [r0, r1]
  case false =>
    obtain ⟨q, v, g1, g2, g3⟩ := allNum_not hA
    have hq : q < 2 := by have := (List.getElem?_eq_some_iff.1 g1).1; simpa using this
    have HQ := Lib.hid (And.intro g1 (And.intro g2 g3))
    rw [paE_form (by decide) hA]
    clear g1 g2 g3 hA
    go_enter Tryz.func21, Tryz.ntmps21
    go_wp2_with fail
    go_loopw [14] (fun s14 wr => ∃ j : Nat, j ≤ q ∧ s14 = .int .i64 j ∧ Below w.heap.size w wr) (fun s14 _ => 2 - (intOf s14).toNat)
    case atStart => exact ⟨0, Nat.zero_le _, rfl, Below.refl _ _⟩
    case round =>
      obtain ⟨j, hj, rfl, hB⟩ := hrel
      have HB := Lib.hid hB
      have hjm : (j : Int) < 2 := by omega
      obtain ⟨u, hu⟩ : ∃ u, [r0, r1][j]? = some u := ⟨_, List.getElem?_eq_getElem (by simp; omega)⟩
      have c0 := (hB.cell (p := ⟨br, ro + j, none⟩) (cell_lt (HR.out j u hu))).trans (HR.out j u hu)
      have l0 := cell_lt c0; simp only at l0
      have HU := Lib.hid hu
      clear hB hu
      by_cases e : j = q
      · have hn : isNum .f32 u = false := by have h1 := HU.out; rw [e, HQ.out.1] at h1; cases h1; exact HQ.out.2.1
        clear e
        go_wp2_with (go_at_call 37; refine (IsNumberR_any _ _).mono ?_; rintro e w' ⟨rfl, m, rfl⟩; rw [hn])
        go_ret
        exact ⟨rfl, below_drewN HB.out _⟩
      · have hn : isNum .f32 u = true := HQ.out.2.2 j u (by omega) HU.out
        go_wp2_with (go_at_call 37; refine (IsNumberR_any _ _).mono ?_; rintro e w' ⟨rfl, m, rfl⟩; rw [hn])
        go_roundw
        case rel => exact ⟨j + 1, by omega, by go_num, below_drewN HB.out _⟩
        case measure => simp [intOf]; omega
  case true =>
    have HA := Lib.hid hA
    go_enter Tryz.func21, Tryz.ntmps21
    go_wp2_with fail
    go_loopw [14] (fun s14 wr => ∃ j : Nat, j ≤ 2 ∧ s14 = .int .i64 j ∧ Below w.heap.size w wr) (fun s14 _ => 2 - (intOf s14).toNat)
    case atStart => exact ⟨0, Nat.zero_le _, rfl, Below.refl _ _⟩
    case round =>
      obtain ⟨j, hj, rfl, hB⟩ := hrel
      have HB := Lib.hid hB
      by_cases hjn : j < 2
      · have hjm : (j : Int) < 2 := by omega
        obtain ⟨u, hu⟩ : ∃ u, [r0, r1][j]? = some u := ⟨_, List.getElem?_eq_getElem (by simp; omega)⟩
        have c0 := (hB.cell (p := ⟨br, ro + j, none⟩) (cell_lt (HR.out j u hu))).trans (HR.out j u hu)
        have l0 := cell_lt c0; simp only at l0
        have hn : isNum .f32 u = true := allNum_get HA.out j u hu
        clear hB hu hA
        go_wp2_with (go_at_call 37; refine (IsNumberR_any _ _).mono ?_; rintro e w' ⟨rfl, m, rfl⟩; rw [hn])
        go_roundw
        case rel => exact ⟨j + 1, by omega, by go_num, below_drewN HB.out _⟩
        case measure => simp [intOf]; omega
      · obtain rfl : j = 2 := by omega
        have hjm : ¬ ((2 : Nat) : Int) < 2 := by omega
        have c0 := (HB.out.cell (p := ⟨bi, oi, none⟩) (cell_lt (HI.out 0 _ rfl))).trans (HI.out 0 _ rfl)
        have c1 := (HB.out.cell (p := ⟨bi, oi + 1, none⟩) (cell_lt (HI.out 1 _ rfl))).trans (HI.out 1 _ rfl)
        have c2 := (HB.out.cell (p := ⟨bi, oi + 2, none⟩) (cell_lt (HI.out 2 _ rfl))).trans (HI.out 2 _ rfl)
        have d0 := (HB.out.cell (p := ⟨br, ro, none⟩) (cell_lt (HR.out 0 _ rfl))).trans (HR.out 0 _ rfl)
        have d1 := (HB.out.cell (p := ⟨br, ro + 1, none⟩) (cell_lt (HR.out 1 _ rfl))).trans (HR.out 1 _ rfl)
        have cl := cell_lt c0; simp only at cl
        have dl := cell_lt d0; simp only at dl
        clear hB hA
        cases h0 : inB i0 0 4294967295
        case false =>
          have HE : Hid (paE 10 [i0, i1, i2] [r0, r1] = 3) := Lib.hid (by rw [paE_rest (.inr HA.out)]; simp [rngK, h0])
          go_wp2_with (first | (go_at_call 38; refine (In_any _ _ _ _).mono ?_; rintro e w' ⟨rfl, rfl⟩) | (go_at_call 18; refine (When_any _ _ _).mono ?_; rintro e w' ⟨rfl, rfl⟩))
          go_ret
          exact ⟨by (rw [HE.out] <;> rfl), HB.out⟩
        case true =>
          cases h1 : inB i2 0 1
          case false =>
            have HE : Hid (paE 10 [i0, i1, i2] [r0, r1] = 3) := Lib.hid (by rw [paE_rest (.inr HA.out)]; simp [rngK, h0, h1])
            go_wp2_with (first | (go_at_call 38; refine (In_any _ _ _ _).mono ?_; rintro e w' ⟨rfl, rfl⟩) | (go_at_call 18; refine (When_any _ _ _).mono ?_; rintro e w' ⟨rfl, rfl⟩))
            go_ret
            exact ⟨by (rw [HE.out] <;> rfl), HB.out⟩
          case true =>
            have HE : Hid (paE 10 [i0, i1, i2] [r0, r1] = graE i1 r0 r1) := Lib.hid (by rw [paE_rest (.inr HA.out)]; simp [rngK, subK, h0, h1])
            go_wp2_with (first | (go_at_call 38; refine (In_any _ _ _ _).mono ?_; rintro e w' ⟨rfl, rfl⟩) | (go_at_call 18; refine (When_any _ _ _).mono ?_; rintro e w' ⟨rfl, rfl⟩) | (go_at_call 41; refine (mk_grainOf bi oi i0 i1 i2 br ro r0 r1 ci cr 3 2 (by decide) (by decide) _ c0 c1 c2 d0 d1).mono ?_; rintro e w2 ⟨rfl, hb2⟩) | (go_at_call 40; refine (GrainError_any _ _ _ _ _ _).mono ?_; rintro e w3 ⟨rfl, hb3⟩))
            go_ret
            exact ⟨by (rw [HE.out] <;> rfl), HB.out.trans ((hb2.trans (hb3.mono hb2.size)).mono HB.out.size)⟩
set_option maxRecDepth 100000 in
set_option maxHeartbeats 6400000 in
theorem dpar_vignette (ai ar : Option Addr) (ci cr : Nat) (is : List Int) (rs : List Nat) (w : World) (hni : is.length = 0) (hnr : rs.length = 5) (hi : IntsAt 0 w ai is) (hr : RealsAt 0 w ar rs) : Calls Tryz.prog 21 #[.string ⟨#[118, 105, 103, 110, 101, 116, 116, 101]⟩, .slice ai 0 ci, .slice ar 5 cr] w fun e w' => e = .returned (.int .i64 (paE 11 is rs)) ∧ Below w.heap.size w w' := by
  obtain rfl : is = [] := List.eq_nil_of_length_eq_zero hni
  clear hi
  obtain ⟨r0, r1, r2, r3, r4, hrs⟩ : ∃ r0 r1 r2 r3 r4, rs = [r0, r1, r2, r3, r4] := by match rs, hnr with | [a0, a1, a2, a3, a4], _ => exact ⟨a0, a1, a2, a3, a4, rfl⟩
  subst hrs
  obtain ⟨br, ro, rfl, hrc⟩ := reals_at hr (by simp)
  have HR := Lib.hid hrc
  clear hrc
  clear hr hni hnr
  cases hA : allNum [r0, r1, r2, r3, r4]
  case false =>
    obtain ⟨q, v, g1, g2, g3⟩ := allNum_not hA
    have hq : q < 5 := by have := (List.getElem?_eq_some_iff.1 g1).1; simpa using this
    have HQ := Lib.hid (And.intro g1 (And.intro g2 g3))
    rw [paE_form (by decide) hA]
    clear g1 g2 g3 hA
    go_enter Tryz.func21, Tryz.ntmps21
    go_wp2_with fail
    go_loopw [14] (fun s14 wr => ∃ j : Nat, j ≤ q ∧ s14 = .int .i64 j ∧ Below w.heap.size w wr) (fun s14 _ => 5 - (intOf s14).toNat)
    case atStart => exact ⟨0, Nat.zero_le _, rfl, Below.refl _ _⟩
    case round =>
      obtain ⟨j, hj, rfl, hB⟩ := hrel
      have HB := Lib.hid hB
      have hjm : (j : Int) < 5 := by omega
      obtain ⟨u, hu⟩ : ∃ u, [r0, r1, r2, r3, r4][j]? = some u := ⟨_, List.getElem?_eq_getElem (by simp; omega)⟩
      have c0 := (hB.cell (p := ⟨br, ro + j, none⟩) (cell_lt (HR.out j u hu))).trans (HR.out j u hu)
      have l0 := cell_lt c0; simp only at l0
      have HU := Lib.hid hu
      clear hB hu
      by_cases e : j = q
      · have hn : isNum .f32 u = false := by have h1 := HU.out; rw [e, HQ.out.1] at h1; cases h1; exact HQ.out.2.1
        clear e
        go_wp2_with (go_at_call 37; refine (IsNumberR_any _ _).mono ?_; rintro e w' ⟨rfl, m, rfl⟩; rw [hn])
        go_ret
        exact ⟨rfl, below_drewN HB.out _⟩
      · have hn : isNum .f32 u = true := HQ.out.2.2 j u (by omega) HU.out
        go_wp2_with (go_at_call 37; refine (IsNumberR_any _ _).mono ?_; rintro e w' ⟨rfl, m, rfl⟩; rw [hn])
        go_roundw
        case rel => exact ⟨j + 1, by omega, by go_num, below_drewN HB.out _⟩
        case measure => simp [intOf]; omega
  case true =>
    have HA := Lib.hid hA
    go_enter Tryz.func21, Tryz.ntmps21
    go_wp2_with fail
    go_loopw [14] (fun s14 wr => ∃ j : Nat, j ≤ 5 ∧ s14 = .int .i64 j ∧ Below w.heap.size w wr) (fun s14 _ => 5 - (intOf s14).toNat)
    case atStart => exact ⟨0, Nat.zero_le _, rfl, Below.refl _ _⟩
    case round =>
      obtain ⟨j, hj, rfl, hB⟩ := hrel
      have HB := Lib.hid hB
      by_cases hjn : j < 5
      · have hjm : (j : Int) < 5 := by omega
        obtain ⟨u, hu⟩ : ∃ u, [r0, r1, r2, r3, r4][j]? = some u := ⟨_, List.getElem?_eq_getElem (by simp; omega)⟩
        have c0 := (hB.cell (p := ⟨br, ro + j, none⟩) (cell_lt (HR.out j u hu))).trans (HR.out j u hu)
        have l0 := cell_lt c0; simp only at l0
        have hn : isNum .f32 u = true := allNum_get HA.out j u hu
        clear hB hu hA
        go_wp2_with (go_at_call 37; refine (IsNumberR_any _ _).mono ?_; rintro e w' ⟨rfl, m, rfl⟩; rw [hn])
        go_roundw
        case rel => exact ⟨j + 1, by omega, by go_num, below_drewN HB.out _⟩
        case measure => simp [intOf]; omega
      · obtain rfl : j = 5 := by omega
        have hjm : ¬ ((5 : Nat) : Int) < 5 := by omega
        have d0 := (HB.out.cell (p := ⟨br, ro, none⟩) (cell_lt (HR.out 0 _ rfl))).trans (HR.out 0 _ rfl)
        have d1 := (HB.out.cell (p := ⟨br, ro + 1, none⟩) (cell_lt (HR.out 1 _ rfl))).trans (HR.out 1 _ rfl)
        have d2 := (HB.out.cell (p := ⟨br, ro + 2, none⟩) (cell_lt (HR.out 2 _ rfl))).trans (HR.out 2 _ rfl)
        have d3 := (HB.out.cell (p := ⟨br, ro + 3, none⟩) (cell_lt (HR.out 3 _ rfl))).trans (HR.out 3 _ rfl)
        have d4 := (HB.out.cell (p := ⟨br, ro + 4, none⟩) (cell_lt (HR.out 4 _ rfl))).trans (HR.out 4 _ rfl)
        have dl := cell_lt d0; simp only at dl
        clear hB hA
        have HE : Hid (paE 11 [] [r0, r1, r2, r3, r4] = vigE r0 r1 r2 r3 r4) := Lib.hid (by rw [paE_rest (.inr HA.out)]; simp [rngK, subK])
        go_upto_region 42 with (first | (go_at_call 38; refine (In_any _ _ _ _).mono ?_; rintro e w' ⟨rfl, rfl⟩) | (go_at_call 18; refine (When_any _ _ _).mono ?_; rintro e w' ⟨rfl, rfl⟩))
        refine wp_world (fun W hW => ?_)
        have HWB : Hid (Below w.heap.size w W) := Lib.hid (by rw [hW]; exact HB.out)
        have HCP : Hid (∀ w', Below W.heap.size W w' → w'.cell? ⟨br, ro, none⟩ = some (.float .f32 r0) ∧ w'.cell? ⟨br, ro + 1, none⟩ = some (.float .f32 r1) ∧ w'.cell? ⟨br, ro + 2, none⟩ = some (.float .f32 r2) ∧ w'.cell? ⟨br, ro + 3, none⟩ = some (.float .f32 r3) ∧ w'.cell? ⟨br, ro + 4, none⟩ = some (.float .f32 r4)) := Lib.hid (by rw [hW]; exact fun w' h' => ⟨(h'.cell (p := ⟨br, ro, none⟩) (cell_lt d0)).trans d0, (h'.cell (p := ⟨br, ro + 1, none⟩) (cell_lt d1)).trans d1, (h'.cell (p := ⟨br, ro + 2, none⟩) (cell_lt d2)).trans d2, (h'.cell (p := ⟨br, ro + 3, none⟩) (cell_lt d3)).trans d3, (h'.cell (p := ⟨br, ro + 4, none⟩) (cell_lt d4)).trans d4⟩)
        clear hW d0 d1 d2 d3 d4 dl
        refine wp_region_C (fun w' => w'.cell? ⟨br, ro, none⟩ = some (.float .f32 r0) ∧ w'.cell? ⟨br, ro + 1, none⟩ = some (.float .f32 r1) ∧ w'.cell? ⟨br, ro + 2, none⟩ = some (.float .f32 r2) ∧ w'.cell? ⟨br, ro + 3, none⟩ = some (.float .f32 r3) ∧ w'.cell? ⟨br, ro + 4, none⟩ = some (.float .f32 r4)) 16 18 (by kernel_rfl) rfl ?_
        have hC := HCP.out W.drew ((Below.refl _ _).drew)
        refine wpAnyC_take (i := 0) (v := .slice (some ⟨br, ro, none⟩) 5 cr) rfl (by kernel_rfl) (by kernel_rfl) (fun _ _ _ h => h) (.inl ⟨rfl, fun w' hw' => ?_⟩) hC ?_
        · obtain ⟨k0, k1, k2, k3, k4⟩ := hw'
          go_simp
        refine wpAnyC_act (by rfl) ?_
        simp only [Act.put, List.setIfInBounds_toArray, List.set_cons_zero, List.set_cons_succ]
        refine wpAnyC_take (i := 1) (v := .pointer (some ⟨br, ro, none⟩)) rfl (by kernel_rfl) (by kernel_rfl) (fun _ _ _ h => h) (.inl ⟨rfl, fun w' hw' => ?_⟩) hC ?_
        · obtain ⟨k0, k1, k2, k3, k4⟩ := hw'
          go_simp
        refine wpAnyC_act (by rfl) ?_
        simp only [Act.put, List.setIfInBounds_toArray, List.set_cons_zero, List.set_cons_succ]
        refine wpAnyC_take (i := 2) (v := .float .f32 r0) rfl (by kernel_rfl) (by kernel_rfl) (fun _ _ _ h => h) (.inl ⟨rfl, fun w' hw' => ?_⟩) hC ?_
        · obtain ⟨k0, k1, k2, k3, k4⟩ := hw'
          go_simp
        refine wpAnyC_act (by rfl) ?_
        simp only [Act.put, List.setIfInBounds_toArray, List.set_cons_zero, List.set_cons_succ]
        refine wpAnyC_take (i := 3) (v := .slice (some ⟨br, ro, none⟩) 5 cr) rfl (by kernel_rfl) (by kernel_rfl) (fun _ _ _ h => h) (.inl ⟨rfl, fun w' hw' => ?_⟩) hC ?_
        · obtain ⟨k0, k1, k2, k3, k4⟩ := hw'
          go_simp
        refine wpAnyC_act (by rfl) ?_
        simp only [Act.put, List.setIfInBounds_toArray, List.set_cons_zero, List.set_cons_succ]
        refine wpAnyC_take (i := 4) (v := .pointer (some ⟨br, ro + 1, none⟩)) rfl (by kernel_rfl) (by kernel_rfl) (fun _ _ _ h => h) (.inl ⟨rfl, fun w' hw' => ?_⟩) hC ?_
        · obtain ⟨k0, k1, k2, k3, k4⟩ := hw'
          go_simp
        refine wpAnyC_act (by rfl) ?_
        simp only [Act.put, List.setIfInBounds_toArray, List.set_cons_zero, List.set_cons_succ]
        refine wpAnyC_take (i := 5) (v := .float .f32 r1) rfl (by kernel_rfl) (by kernel_rfl) (fun _ _ _ h => h) (.inl ⟨rfl, fun w' hw' => ?_⟩) hC ?_
        · obtain ⟨k0, k1, k2, k3, k4⟩ := hw'
          go_simp
        refine wpAnyC_act (by rfl) ?_
        simp only [Act.put, List.setIfInBounds_toArray, List.set_cons_zero, List.set_cons_succ]
        refine wpAnyC_take (i := 6) (v := .slice (some ⟨br, ro, none⟩) 5 cr) rfl (by kernel_rfl) (by kernel_rfl) (fun _ _ _ h => h) (.inl ⟨rfl, fun w' hw' => ?_⟩) hC ?_
        · obtain ⟨k0, k1, k2, k3, k4⟩ := hw'
          go_simp
        refine wpAnyC_act (by rfl) ?_
        simp only [Act.put, List.setIfInBounds_toArray, List.set_cons_zero, List.set_cons_succ]
        refine wpAnyC_take (i := 7) (v := .pointer (some ⟨br, ro + 2, none⟩)) rfl (by kernel_rfl) (by kernel_rfl) (fun _ _ _ h => h) (.inl ⟨rfl, fun w' hw' => ?_⟩) hC ?_
        · obtain ⟨k0, k1, k2, k3, k4⟩ := hw'
          go_simp
        refine wpAnyC_act (by rfl) ?_
        simp only [Act.put, List.setIfInBounds_toArray, List.set_cons_zero, List.set_cons_succ]
        refine wpAnyC_take (i := 8) (v := .float .f32 r2) rfl (by kernel_rfl) (by kernel_rfl) (fun _ _ _ h => h) (.inl ⟨rfl, fun w' hw' => ?_⟩) hC ?_
        · obtain ⟨k0, k1, k2, k3, k4⟩ := hw'
          go_simp
        refine wpAnyC_act (by rfl) ?_
        simp only [Act.put, List.setIfInBounds_toArray, List.set_cons_zero, List.set_cons_succ]
        refine wpAnyC_take (i := 9) (v := .slice (some ⟨br, ro, none⟩) 5 cr) rfl (by kernel_rfl) (by kernel_rfl) (fun _ _ _ h => h) (.inl ⟨rfl, fun w' hw' => ?_⟩) hC ?_
        · obtain ⟨k0, k1, k2, k3, k4⟩ := hw'
          go_simp
        refine wpAnyC_act (by rfl) ?_
        simp only [Act.put, List.setIfInBounds_toArray, List.set_cons_zero, List.set_cons_succ]
        refine wpAnyC_take (i := 10) (v := .pointer (some ⟨br, ro + 3, none⟩)) rfl (by kernel_rfl) (by kernel_rfl) (fun _ _ _ h => h) (.inl ⟨rfl, fun w' hw' => ?_⟩) hC ?_
        · obtain ⟨k0, k1, k2, k3, k4⟩ := hw'
          go_simp
        refine wpAnyC_act (by rfl) ?_
        simp only [Act.put, List.setIfInBounds_toArray, List.set_cons_zero, List.set_cons_succ]
        refine wpAnyC_take (i := 11) (v := .float .f32 r3) rfl (by kernel_rfl) (by kernel_rfl) (fun _ _ _ h => h) (.inl ⟨rfl, fun w' hw' => ?_⟩) hC ?_
        · obtain ⟨k0, k1, k2, k3, k4⟩ := hw'
          go_simp
        refine wpAnyC_act (by rfl) ?_
        simp only [Act.put, List.setIfInBounds_toArray, List.set_cons_zero, List.set_cons_succ]
        refine wpAnyC_take (i := 12) (v := .slice (some ⟨br, ro, none⟩) 5 cr) rfl (by kernel_rfl) (by kernel_rfl) (fun _ _ _ h => h) (.inl ⟨rfl, fun w' hw' => ?_⟩) hC ?_
        · obtain ⟨k0, k1, k2, k3, k4⟩ := hw'
          go_simp
        refine wpAnyC_act (by rfl) ?_
        simp only [Act.put, List.setIfInBounds_toArray, List.set_cons_zero, List.set_cons_succ]
        refine wpAnyC_take (i := 13) (v := .pointer (some ⟨br, ro + 4, none⟩)) rfl (by kernel_rfl) (by kernel_rfl) (fun _ _ _ h => h) (.inl ⟨rfl, fun w' hw' => ?_⟩) hC ?_
        · obtain ⟨k0, k1, k2, k3, k4⟩ := hw'
          go_simp
        refine wpAnyC_act (by rfl) ?_
        simp only [Act.put, List.setIfInBounds_toArray, List.set_cons_zero, List.set_cons_succ]
        refine wpAnyC_take (i := 14) (v := .float .f32 r4) rfl (by kernel_rfl) (by kernel_rfl) (fun _ _ _ h => h) (.inl ⟨rfl, fun w' hw' => ?_⟩) hC ?_
        · obtain ⟨k0, k1, k2, k3, k4⟩ := hw'
          go_simp
        refine wpAnyC_act (by rfl) ?_
        simp only [Act.put, List.setIfInBounds_toArray, List.set_cons_zero, List.set_cons_succ]
        refine wpAnyC_take (i := 15) (v := .agg #[.float .f32 r0, .float .f32 r1, .float .f32 r2, .float .f32 r3, .float .f32 r4]) rfl (by kernel_rfl) (by kernel_rfl) (fun _ _ _ h => h) (.inl ⟨rfl, fun w' hw' => ?_⟩) hC ?_
        · obtain ⟨k0, k1, k2, k3, k4⟩ := hw'
          go_simp
        refine wpAnyC_act (by rfl) ?_
        simp only [Act.put, List.setIfInBounds_toArray, List.set_cons_zero, List.set_cons_succ]
        refine wpAnyC_one (i := 16) rfl (by kernel_rfl) (fun K hK => ?_)
        go_simp
        refine (VignetteError_any _ _ _ _ _ _).mono ?_
        rintro e w2 ⟨rfl, hb2⟩
        have HX : Hid (Below w.heap.size w w2) := Lib.hid (HWB.out.trans (((Below.refl W.heap.size W).drew.trans (hb2.mono (by simp))).mono HWB.out.size))
        go_simp
        refine hK _ _ (fun h => by rw [getD_setSelf] at h; cases h) ?_
        clear hK K hb2
        refine wpAnyC_one (i := 17) rfl (by kernel_rfl) (fun K hK => ?_)
        go_simp
        refine hK _ _ (fun h => by rw [getD_setC (by decide), getD_setSelf] at h; cases h) ?_
        clear hK K
        refine wpAnyC_done (by kernel_rfl) ?_
        go_wp2_with fail
        go_ret
        exact ⟨by (rw [HE.out] <;> rfl), HX.out⟩
set_option maxRecDepth 100000 in
set_option maxHeartbeats 6400000 in
theorem dpar_sharpen (ai ar : Option Addr) (ci cr : Nat) (is : List Int) (rs : List Nat) (w : World) (hni : is.length = 0) (hnr : rs.length = 2) (hi : IntsAt 0 w ai is) (hr : RealsAt 0 w ar rs) : Calls Tryz.prog 21 #[.string ⟨#[115, 104, 97, 114, 112, 101, 110]⟩, .slice ai 0 ci, .slice ar 2 cr] w fun e w' => e = .returned (.int .i64 (paE 12 is rs)) ∧ Below w.heap.size w w' := by
  obtain rfl : is = [] := List.eq_nil_of_length_eq_zero hni
  clear hi
  obtain ⟨r0, r1, hrs⟩ : ∃ r0 r1, rs = [r0, r1] := by match rs, hnr with | [a0, a1], _ => exact ⟨a0, a1, rfl⟩
  subst hrs
  obtain ⟨br, ro, rfl, hrc⟩ := reals_at hr (by simp)
  have HR := Lib.hid hrc
  clear hrc
  clear hr hni hnr
  cases hA : allNum [r0, r1]
  case false =>
    obtain ⟨q, v, g1, g2, g3⟩ := allNum_not hA
    have hq : q < 2 := by have := (List.getElem?_eq_some_iff.1 g1).1; simpa using this
    have HQ := Lib.hid (And.intro g1 (And.intro g2 g3))
    rw [paE_form (by decide) hA]
    clear g1 g2 g3 hA
    go_enter Tryz.func21, Tryz.ntmps21
    go_wp2_with fail
    go_loopw [14] (fun s14 wr => ∃ j : Nat, j ≤ q ∧ s14 = .int .i64 j ∧ Below w.heap.size w wr) (fun s14 _ => 2 - (intOf s14).toNat)
    case atStart => exact ⟨0, Nat.zero_le _, rfl, Below.refl _ _⟩
    case round =>
      obtain ⟨j, hj, rfl, hB⟩ := hrel
      have HB := Lib.hid hB
      have hjm : (j : Int) < 2 := by omega
      obtain ⟨u, hu⟩ : ∃ u, [r0, r1][j]? = some u := ⟨_, List.getElem?_eq_getElem (by simp; omega)⟩
      have c0 := (hB.cell (p := ⟨br, ro + j, none⟩) (cell_lt (HR.out j u hu))).trans (HR.out j u hu)
      have l0 := cell_lt c0; simp only at l0
      have HU := Lib.hid hu
      clear hB hu
      by_cases e : j = q
      · have hn : isNum .f32 u = false := by have h1 := HU.out; rw [e, HQ.out.1] at h1; cases h1; exact HQ.out.2.1
        clear e
        go_wp2_with (go_at_call 37; refine (IsNumberR_any _ _).mono ?_; rintro e w' ⟨rfl, m, rfl⟩; rw [hn])
        go_ret
        exact ⟨rfl, below_drewN HB.out _⟩
      · have hn : isNum .f32 u = true := HQ.out.2.2 j u (by omega) HU.out
        go_wp2_with (go_at_call 37; refine (IsNumberR_any _ _).mono ?_; rintro e w' ⟨rfl, m, rfl⟩; rw [hn])
        go_roundw
        case rel => exact ⟨j + 1, by omega, by go_num, below_drewN HB.out _⟩
        case measure => simp [intOf]; omega
  case true =>
    have HA := Lib.hid hA
    go_enter Tryz.func21, Tryz.ntmps21
    go_wp2_with fail
    go_loopw [14] (fun s14 wr => ∃ j : Nat, j ≤ 2 ∧ s14 = .int .i64 j ∧ Below w.heap.size w wr) (fun s14 _ => 2 - (intOf s14).toNat)
    case atStart => exact ⟨0, Nat.zero_le _, rfl, Below.refl _ _⟩
    case round =>
      obtain ⟨j, hj, rfl, hB⟩ := hrel
      have HB := Lib.hid hB
      by_cases hjn : j < 2
      · have hjm : (j : Int) < 2 := by omega
        obtain ⟨u, hu⟩ : ∃ u, [r0, r1][j]? = some u := ⟨_, List.getElem?_eq_getElem (by simp; omega)⟩
        have c0 := (hB.cell (p := ⟨br, ro + j, none⟩) (cell_lt (HR.out j u hu))).trans (HR.out j u hu)
        have l0 := cell_lt c0; simp only at l0
        have hn : isNum .f32 u = true := allNum_get HA.out j u hu
        clear hB hu hA
        go_wp2_with (go_at_call 37; refine (IsNumberR_any _ _).mono ?_; rintro e w' ⟨rfl, m, rfl⟩; rw [hn])
        go_roundw
        case rel => exact ⟨j + 1, by omega, by go_num, below_drewN HB.out _⟩
        case measure => simp [intOf]; omega
      · obtain rfl : j = 2 := by omega
        have hjm : ¬ ((2 : Nat) : Int) < 2 := by omega
        have d0 := (HB.out.cell (p := ⟨br, ro, none⟩) (cell_lt (HR.out 0 _ rfl))).trans (HR.out 0 _ rfl)
        have d1 := (HB.out.cell (p := ⟨br, ro + 1, none⟩) (cell_lt (HR.out 1 _ rfl))).trans (HR.out 1 _ rfl)
        have dl := cell_lt d0; simp only at dl
        clear hB hA
        have HE : Hid (paE 12 [] [r0, r1] = shE r0 r1) := Lib.hid (by rw [paE_rest (.inr HA.out)]; simp [rngK, subK])
        have hn0 : isNum .f32 r0 = true := allNum_get HA.out 0 r0 rfl
        have hA := HA.out
        cases g0 : ((FloatKind.f32.format.order r0 0 == some .gt) || (FloatKind.f32.format.order r0 0 == some .eq))
        case false =>
          have HE2 : Hid (shE r0 r1 = 3) := Lib.hid (by
            unfold shE shBad; rw [hA]
            obtain ⟨o0, a1, a2, a3⟩ := ord_some hn0 num_01.1
            obtain ⟨o1, b1, b2, b3⟩ := ord_some hn0 num_16
            rw [a1, b3]
            rw [a2, a3] at g0
            cases o0 <;> cases o1 <;> simp_all [oLt, oEq, oGt])
          clear hA
          clear hn0
          go_wp2_with (first | (go_at_call 38; refine (In_any _ _ _ _).mono ?_; rintro e w' ⟨rfl, rfl⟩) | (go_at_call 18; refine (When_any _ _ _).mono ?_; rintro e w' ⟨rfl, rfl⟩) | fail)
          go_ret
          exact ⟨by (rw [HE.out, HE2.out] <;> rfl), HB.out⟩
        case true =>
          cases g1 : ((FloatKind.f32.format.order r0 1098907648 == some .lt) || (FloatKind.f32.format.order r0 1098907648 == some .eq))
          case false =>
            have HE2 : Hid (shE r0 r1 = 3) := Lib.hid (by
              unfold shE shBad; rw [hA]
              obtain ⟨o0, a1, a2, a3⟩ := ord_some hn0 num_01.1
              obtain ⟨o1, b1, b2, b3⟩ := ord_some hn0 num_16
              rw [a1, b3]
              rw [a2, a3] at g0
              rw [b1, b2] at g1
              cases o0 <;> cases o1 <;> simp_all [oLt, oEq, oGt])
            clear hA
            clear hn0
            go_wp2_with (first | (go_at_call 38; refine (In_any _ _ _ _).mono ?_; rintro e w' ⟨rfl, rfl⟩) | (go_at_call 18; refine (When_any _ _ _).mono ?_; rintro e w' ⟨rfl, rfl⟩) | fail)
            go_ret
            exact ⟨by (rw [HE.out, HE2.out] <;> rfl), HB.out⟩
          case true =>
            cases g2 : (FloatKind.f32.format.order r1 0 == some .lt)
            case false =>
              have HE2 : Hid (shE r0 r1 = 0) := Lib.hid (by
                unfold shE shBad; rw [hA]
                obtain ⟨o0, a1, a2, a3⟩ := ord_some hn0 num_01.1
                obtain ⟨o1, b1, b2, b3⟩ := ord_some hn0 num_16
                rw [a1, b3]
                rw [a2, a3] at g0
                rw [b1, b2] at g1
                rw [g2]
                cases o0 <;> cases o1 <;> simp_all [oLt, oEq, oGt])
              clear hA
              clear hn0
              go_wp2_with (first | (go_at_call 38; refine (In_any _ _ _ _).mono ?_; rintro e w' ⟨rfl, rfl⟩) | (go_at_call 18; refine (When_any _ _ _).mono ?_; rintro e w' ⟨rfl, rfl⟩) | fail)
              go_ret
              exact ⟨by (rw [HE.out, HE2.out] <;> rfl), HB.out⟩
            case true =>
              have HE2 : Hid (shE r0 r1 = 3) := Lib.hid (by
                unfold shE shBad; rw [hA]
                obtain ⟨o0, a1, a2, a3⟩ := ord_some hn0 num_01.1
                obtain ⟨o1, b1, b2, b3⟩ := ord_some hn0 num_16
                rw [a1, b3]
                rw [a2, a3] at g0
                rw [b1, b2] at g1
                rw [g2]
                cases o0 <;> cases o1 <;> simp_all [oLt, oEq, oGt])
              clear hA
              clear hn0
              go_wp2_with (first | (go_at_call 38; refine (In_any _ _ _ _).mono ?_; rintro e w' ⟨rfl, rfl⟩) | (go_at_call 18; refine (When_any _ _ _).mono ?_; rintro e w' ⟨rfl, rfl⟩) | fail)
              go_ret
              exact ⟨by (rw [HE.out, HE2.out] <;> rfl), HB.out⟩
set_option maxRecDepth 100000 in
set_option maxHeartbeats 6400000 in
theorem dpar_luma (ai ar : Option Addr) (ci cr : Nat) (is : List Int) (rs : List Nat) (w : World) (hni : is.length = 0) (hnr : rs.length = 3) (hi : IntsAt 0 w ai is) (hr : RealsAt 0 w ar rs) : Calls Tryz.prog 21 #[.string ⟨#[108, 117, 109, 97]⟩, .slice ai 0 ci, .slice ar 3 cr] w fun e w' => e = .returned (.int .i64 (paE 19 is rs)) ∧ Below w.heap.size w w' := by
  obtain rfl : is = [] := List.eq_nil_of_length_eq_zero hni
  clear hi
  obtain ⟨r0, r1, r2, hrs⟩ : ∃ r0 r1 r2, rs = [r0, r1, r2] := by match rs, hnr with | [a0, a1, a2], _ => exact ⟨a0, a1, a2, rfl⟩
  subst hrs
  obtain ⟨br, ro, rfl, hrc⟩ := reals_at hr (by simp)
  have HR := Lib.hid hrc
  clear hrc
  clear hr hni hnr
  cases hA : allNum [r0, r1, r2]
  case false =>
    obtain ⟨q, v, g1, g2, g3⟩ := allNum_not hA
    have hq : q < 3 := by have := (List.getElem?_eq_some_iff.1 g1).1; simpa using this
    have HQ := Lib.hid (And.intro g1 (And.intro g2 g3))
    rw [paE_form (by decide) hA]
    clear g1 g2 g3 hA
    go_enter Tryz.func21, Tryz.ntmps21
    go_wp2_with fail
    go_loopw [14] (fun s14 wr => ∃ j : Nat, j ≤ q ∧ s14 = .int .i64 j ∧ Below w.heap.size w wr) (fun s14 _ => 3 - (intOf s14).toNat)
    case atStart => exact ⟨0, Nat.zero_le _, rfl, Below.refl _ _⟩
    case round =>
      obtain ⟨j, hj, rfl, hB⟩ := hrel
      have HB := Lib.hid hB
      have hjm : (j : Int) < 3 := by omega
      obtain ⟨u, hu⟩ : ∃ u, [r0, r1, r2][j]? = some u := ⟨_, List.getElem?_eq_getElem (by simp; omega)⟩
      have c0 := (hB.cell (p := ⟨br, ro + j, none⟩) (cell_lt (HR.out j u hu))).trans (HR.out j u hu)
      have l0 := cell_lt c0; simp only at l0
      have HU := Lib.hid hu
      clear hB hu
      by_cases e : j = q
      · have hn : isNum .f32 u = false := by have h1 := HU.out; rw [e, HQ.out.1] at h1; cases h1; exact HQ.out.2.1
        clear e
        go_wp2_with (go_at_call 37; refine (IsNumberR_any _ _).mono ?_; rintro e w' ⟨rfl, m, rfl⟩; rw [hn])
        go_ret
        exact ⟨rfl, below_drewN HB.out _⟩
      · have hn : isNum .f32 u = true := HQ.out.2.2 j u (by omega) HU.out
        go_wp2_with (go_at_call 37; refine (IsNumberR_any _ _).mono ?_; rintro e w' ⟨rfl, m, rfl⟩; rw [hn])
        go_roundw
        case rel => exact ⟨j + 1, by omega, by go_num, below_drewN HB.out _⟩
        case measure => simp [intOf]; omega
  case true =>
    have HA := Lib.hid hA
    go_enter Tryz.func21, Tryz.ntmps21
    go_wp2_with fail
    go_loopw [14] (fun s14 wr => ∃ j : Nat, j ≤ 3 ∧ s14 = .int .i64 j ∧ Below w.heap.size w wr) (fun s14 _ => 3 - (intOf s14).toNat)
    case atStart => exact ⟨0, Nat.zero_le _, rfl, Below.refl _ _⟩
    case round =>
      obtain ⟨j, hj, rfl, hB⟩ := hrel
      have HB := Lib.hid hB
      by_cases hjn : j < 3
      · have hjm : (j : Int) < 3 := by omega
        obtain ⟨u, hu⟩ : ∃ u, [r0, r1, r2][j]? = some u := ⟨_, List.getElem?_eq_getElem (by simp; omega)⟩
        have c0 := (hB.cell (p := ⟨br, ro + j, none⟩) (cell_lt (HR.out j u hu))).trans (HR.out j u hu)
        have l0 := cell_lt c0; simp only at l0
        have hn : isNum .f32 u = true := allNum_get HA.out j u hu
        clear hB hu hA
        go_wp2_with (go_at_call 37; refine (IsNumberR_any _ _).mono ?_; rintro e w' ⟨rfl, m, rfl⟩; rw [hn])
        go_roundw
        case rel => exact ⟨j + 1, by omega, by go_num, below_drewN HB.out _⟩
        case measure => simp [intOf]; omega
      · obtain rfl : j = 3 := by omega
        have hjm : ¬ ((3 : Nat) : Int) < 3 := by omega
        have d0 := (HB.out.cell (p := ⟨br, ro, none⟩) (cell_lt (HR.out 0 _ rfl))).trans (HR.out 0 _ rfl)
        have d1 := (HB.out.cell (p := ⟨br, ro + 1, none⟩) (cell_lt (HR.out 1 _ rfl))).trans (HR.out 1 _ rfl)
        have d2 := (HB.out.cell (p := ⟨br, ro + 2, none⟩) (cell_lt (HR.out 2 _ rfl))).trans (HR.out 2 _ rfl)
        have dl := cell_lt d0; simp only at dl
        clear hB hA
        have HE : Hid (paE 19 [] [r0, r1, r2] = rampE r0 r1 r2) := Lib.hid (by rw [paE_rest (.inr HA.out)]; simp [rngK, subK])
        go_wp2_with (first | (go_at_call 38; refine (In_any _ _ _ _).mono ?_; rintro e w' ⟨rfl, rfl⟩) | (go_at_call 18; refine (When_any _ _ _).mono ?_; rintro e w' ⟨rfl, rfl⟩) | (go_at_call 44; refine (mk_rampOf br ro r0 r1 r2 cr 3 (by decide) _ d0 d1 d2).mono ?_; rintro e w2 ⟨rfl, hb2⟩) | (go_at_call 43; refine (CheckRamp_any _ _ _ _).mono ?_; rintro e w3 ⟨rfl, hb3⟩))
        go_ret
        exact ⟨by (rw [HE.out] <;> rfl), HB.out.trans ((hb2.trans (hb3.mono hb2.size)).mono HB.out.size)⟩
set_option maxRecDepth 100000 in
set_option maxHeartbeats 6400000 in
theorem dpar_hue (ai ar : Option Addr) (ci cr : Nat) (hcr : 9 ≤ cr) (hcb : cr ≤ 9223372036854775807) (is : List Int) (rs : List Nat) (w : World) (hni : is.length = 0) (hnr : rs.length = 9) (hi : IntsAt 0 w ai is) (hr : RealsAt 0 w ar rs) : Calls Tryz.prog 21 #[.string ⟨#[104, 117, 101]⟩, .slice ai 0 ci, .slice ar 9 cr] w fun e w' => e = .returned (.int .i64 (paE 20 is rs)) ∧ Below w.heap.size w w' := by
  obtain rfl : is = [] := List.eq_nil_of_length_eq_zero hni
  clear hi
  obtain ⟨r0, r1, r2, r3, r4, r5, r6, r7, r8, hrs⟩ : ∃ r0 r1 r2 r3 r4 r5 r6 r7 r8, rs = [r0, r1, r2, r3, r4, r5, r6, r7, r8] := by match rs, hnr with | [a0, a1, a2, a3, a4, a5, a6, a7, a8], _ => exact ⟨a0, a1, a2, a3, a4, a5, a6, a7, a8, rfl⟩
  subst hrs
  obtain ⟨br, ro, rfl, hrc⟩ := reals_at hr (by simp)
  have HR := Lib.hid hrc
  clear hrc
  clear hr hni hnr
  cases hA : allNum [r0, r1, r2, r3, r4, r5, r6, r7, r8]
  case false =>
    obtain ⟨q, v, g1, g2, g3⟩ := allNum_not hA
    have hq : q < 9 := by have := (List.getElem?_eq_some_iff.1 g1).1; simpa using this
    have HQ := Lib.hid (And.intro g1 (And.intro g2 g3))
    rw [paE_form (by decide) hA]
    clear g1 g2 g3 hA
    go_enter Tryz.func21, Tryz.ntmps21
    go_wp2_with fail
    go_loopw [14] (fun s14 wr => ∃ j : Nat, j ≤ q ∧ s14 = .int .i64 j ∧ Below w.heap.size w wr) (fun s14 _ => 9 - (intOf s14).toNat)
    case atStart => exact ⟨0, Nat.zero_le _, rfl, Below.refl _ _⟩
    case round =>
      obtain ⟨j, hj, rfl, hB⟩ := hrel
      have HB := Lib.hid hB
      have hjm : (j : Int) < 9 := by omega
      obtain ⟨u, hu⟩ : ∃ u, [r0, r1, r2, r3, r4, r5, r6, r7, r8][j]? = some u := ⟨_, List.getElem?_eq_getElem (by simp; omega)⟩
      have c0 := (hB.cell (p := ⟨br, ro + j, none⟩) (cell_lt (HR.out j u hu))).trans (HR.out j u hu)
      have l0 := cell_lt c0; simp only at l0
      have HU := Lib.hid hu
      clear hB hu
      by_cases e : j = q
      · have hn : isNum .f32 u = false := by have h1 := HU.out; rw [e, HQ.out.1] at h1; cases h1; exact HQ.out.2.1
        clear e
        go_wp2_with (go_at_call 37; refine (IsNumberR_any _ _).mono ?_; rintro e w' ⟨rfl, m, rfl⟩; rw [hn])
        go_ret
        exact ⟨rfl, below_drewN HB.out _⟩
      · have hn : isNum .f32 u = true := HQ.out.2.2 j u (by omega) HU.out
        go_wp2_with (go_at_call 37; refine (IsNumberR_any _ _).mono ?_; rintro e w' ⟨rfl, m, rfl⟩; rw [hn])
        go_roundw
        case rel => exact ⟨j + 1, by omega, by go_num, below_drewN HB.out _⟩
        case measure => simp [intOf]; omega
  case true =>
    have HA := Lib.hid hA
    go_enter Tryz.func21, Tryz.ntmps21
    go_wp2_with fail
    go_loopw [14] (fun s14 wr => ∃ j : Nat, j ≤ 9 ∧ s14 = .int .i64 j ∧ Below w.heap.size w wr) (fun s14 _ => 9 - (intOf s14).toNat)
    case atStart => exact ⟨0, Nat.zero_le _, rfl, Below.refl _ _⟩
    case round =>
      obtain ⟨j, hj, rfl, hB⟩ := hrel
      have HB := Lib.hid hB
      by_cases hjn : j < 9
      · have hjm : (j : Int) < 9 := by omega
        obtain ⟨u, hu⟩ : ∃ u, [r0, r1, r2, r3, r4, r5, r6, r7, r8][j]? = some u := ⟨_, List.getElem?_eq_getElem (by simp; omega)⟩
        have c0 := (hB.cell (p := ⟨br, ro + j, none⟩) (cell_lt (HR.out j u hu))).trans (HR.out j u hu)
        have l0 := cell_lt c0; simp only at l0
        have hn : isNum .f32 u = true := allNum_get HA.out j u hu
        clear hB hu hA
        go_wp2_with (go_at_call 37; refine (IsNumberR_any _ _).mono ?_; rintro e w' ⟨rfl, m, rfl⟩; rw [hn])
        go_roundw
        case rel => exact ⟨j + 1, by omega, by go_num, below_drewN HB.out _⟩
        case measure => simp [intOf]; omega
      · obtain rfl : j = 9 := by omega
        have hjm : ¬ ((9 : Nat) : Int) < 9 := by omega
        have d0 := (HB.out.cell (p := ⟨br, ro, none⟩) (cell_lt (HR.out 0 _ rfl))).trans (HR.out 0 _ rfl)
        have d1 := (HB.out.cell (p := ⟨br, ro + 1, none⟩) (cell_lt (HR.out 1 _ rfl))).trans (HR.out 1 _ rfl)
        have d2 := (HB.out.cell (p := ⟨br, ro + 2, none⟩) (cell_lt (HR.out 2 _ rfl))).trans (HR.out 2 _ rfl)
        have d3 := (HB.out.cell (p := ⟨br, ro + 3, none⟩) (cell_lt (HR.out 3 _ rfl))).trans (HR.out 3 _ rfl)
        have d4 := (HB.out.cell (p := ⟨br, ro + 4, none⟩) (cell_lt (HR.out 4 _ rfl))).trans (HR.out 4 _ rfl)
        have d5 := (HB.out.cell (p := ⟨br, ro + 5, none⟩) (cell_lt (HR.out 5 _ rfl))).trans (HR.out 5 _ rfl)
        have d6 := (HB.out.cell (p := ⟨br, ro + 6, none⟩) (cell_lt (HR.out 6 _ rfl))).trans (HR.out 6 _ rfl)
        have d7 := (HB.out.cell (p := ⟨br, ro + 7, none⟩) (cell_lt (HR.out 7 _ rfl))).trans (HR.out 7 _ rfl)
        have d8 := (HB.out.cell (p := ⟨br, ro + 8, none⟩) (cell_lt (HR.out 8 _ rfl))).trans (HR.out 8 _ rfl)
        have dl := cell_lt d0; simp only at dl
        clear hB hA
        have HE : Hid (paE 20 [] [r0, r1, r2, r3, r4, r5, r6, r7, r8] = hueE r0 r1 r2 (rampE r3 r4 r5) (rampE r6 r7 r8)) := Lib.hid (by rw [paE_rest (.inr HA.out)]; simp [rngK, subK])
        go_wp2_with (first | (go_at_call 38; refine (In_any _ _ _ _).mono ?_; rintro e w' ⟨rfl, rfl⟩) | (go_at_call 18; refine (When_any _ _ _).mono ?_; rintro e w' ⟨rfl, rfl⟩) | (go_at_call 46; refine (mk_hueOf br ro r0 r1 r2 r3 r4 r5 r6 r7 r8 cr hcr hcb _ d0 d1 d2 d3 d4 d5 d6 d7 d8).mono ?_; rintro e w2 ⟨rfl, hb2⟩) | (go_at_call 45; refine (CheckHue_any _ _ _ _ _ _ _ _ _ _).mono ?_; rintro e w3 ⟨rfl, hb3⟩))
        go_ret
        exact ⟨by (rw [HE.out] <;> rfl), HB.out.trans ((hb2.trans (hb3.mono hb2.size)).mono HB.out.size)⟩
end Go.Proofs.YtbaocallhnehfaaGreatDoor
