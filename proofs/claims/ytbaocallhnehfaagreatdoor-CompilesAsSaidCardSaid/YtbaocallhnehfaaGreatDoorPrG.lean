/- dyelaw2.idle at any right step. Conditions: its numbers can be read. -/
import Derived.Test.YtbaocallhnehfaaGreatDoorPrD
set_option linter.unusedSimpArgs false
set_option linter.unusedVariables false
namespace Go.Proofs.YtbaocallhnehfaaGreatDoor
open Go Go.RowKit
theorem eqF_ex {v : Nat} (h : eqF v 0 = true) : eqF v 1065353216 = false := by
  unfold eqF at *
  cases hN : isN .f32 v with
  | true => rw [ord_nan_l 0 hN] at h; cases h
  | false =>
    rw [ord_eq hN (by decide)] at h
    rw [ord_eq hN (by decide)]
    rw [decide_eq_true_eq] at h
    rw [h]
    decide
set_option maxRecDepth 100000 in
set_option maxHeartbeats 3200000 in
theorem idle_any (s : StepD) (k : Nat) (w : World) (hk : opK s.op.data.toList = some k) (hni : (s.ints.length : Int) = (F k).ints) (hnr : (s.reals.length : Int) = (F k).reals) (hi : IntsAt 0 w s.na s.ints) (hr : RealsAt 0 w s.ra s.reals) (hb : s.ints.length ≤ s.nc ∧ s.nc ≤ maxLen) (hc : s.reals.length ≤ s.rc ∧ s.rc ≤ maxLen) :
    Calls Tryz.prog 26 #[.string s.op, .slice s.na s.ints.length s.nc, .slice s.ra s.reals.length s.rc] w fun e w' => e = .returned (.int .i64 (idV s)) ∧ w = w' := by
  obtain ⟨hk27, hop⟩ := opK_name hk
  have HE : Hid (idV s = match (if k = 14 then (if eqF (s.reals.getD 0 0) 0 then some 0 else if eqF (s.reals.getD 0 0) 1065353216 then some 1 else none)
    else if k = 8 then (if eqF (s.reals.getD 0 0) 0 then some 0 else none)
    else if k = 13 ∨ k = 24 ∨ k = 25 ∨ k = 26 then (if s.ints.getD 0 0 = 0 then some 0 else none) else none : Option Nat) with | some q => (q : Int) | none => -1) := Lib.hid (by unfold idV idS; first | (rw [hk]; done) | (rw [hk]; rfl) | simp only [hk])
  obtain ⟨nm, op, ins, ints, reals, ia, ic, na, nc, ra, rc⟩ := s
  simp only at hop hni hnr hi hr hb hc HE
  simp only
  have hol : op.toList = (F k).nm := by rw [ByteArray.toList_eq, hop, bs_data]
  have b0 : (op.toList == [109, 105, 120]) = (k == 14) := by rw [hol]; exact nm_mix k hk27
  have b1 : (op.toList == [101, 120, 112, 111, 115, 101]) = (k == 8) := by rw [hol]; exact nm_expose k hk27
  have b2 : (op.toList == [98, 108, 117, 114]) = (k == 13) := by rw [hol]; exact nm_blur k hk27
  have b3 : (op.toList == [115, 112, 114, 101, 97, 100]) = (k == 24) := by rw [hol]; exact nm_spread k hk27
  have b4 : (op.toList == [115, 104, 114, 105, 110, 107]) = (k == 25) := by rw [hol]; exact nm_shrink k hk27
  have b5 : (op.toList == [102, 101, 97, 116, 104, 101, 114]) = (k == 26) := by rw [hol]; exact nm_feather k hk27
  obtain ⟨R, hR⟩ : ∃ R, R = idV ⟨nm, op, ins, ints, reals, ia, ic, na, nc, ra, rc⟩ := ⟨_, rfl⟩
  rw [← hR] at HE
  rw [← hR]
  have HI := Lib.hid hi; have HR := Lib.hid hr
  have hb1 : ints.length ≤ nc := hb.1
  have hb2 : nc ≤ 9223372036854775807 := by have := hb.2; unfold maxLen at this; omega
  have hc1 : reals.length ≤ rc := hc.1
  have hc2 : rc ≤ 9223372036854775807 := by have := hc.2; unfold maxLen at this; omega
  clear hk hol hop hR hi hr hb hc
  by_cases k0 : k = 14
  · subst k0
    have c0 : (op.toList == [109, 105, 120]) = true := b0
    have c1 : (op.toList == [101, 120, 112, 111, 115, 101]) = false := b1
    have c2 : (op.toList == [98, 108, 117, 114]) = false := b2
    have c3 : (op.toList == [115, 112, 114, 101, 97, 100]) = false := b3
    have c4 : (op.toList == [115, 104, 114, 105, 110, 107]) = false := b4
    have c5 : (op.toList == [102, 101, 97, 116, 104, 101, 114]) = false := b5
    clear b0 b1 b2 b3 b4 b5
    obtain ⟨v, rfl⟩ : ∃ v, reals = [v] := by
      have h : (reals.length : Int) = 1 := hnr
      match reals, h with
      | [v], _ => exact ⟨v, rfl⟩
    obtain ⟨b, off, rfl, cv⟩ := HR.out.get (i := 0) (v := v) rfl
    rw [Nat.add_zero] at cv
    have cl := cell_lt cv; simp only at cl
    have hl1 : [v].length = 1 := rfl
    rw [hl1] at hc1
    rw [hl1]
    have HX := Lib.hid (fun h => eqF_ex h : eqF v 0 = true → eqF v 1065353216 = false)
    clear hnr hni HR hl1
    cases g0 : (FloatKind.f32.format.order v 0 == some .eq)
    case true =>
      have g1 : (FloatKind.f32.format.order v 1065353216 == some .eq) = false := HX.out g0
      have HV : Hid (R = 0) := Lib.hid (by rw [HE.out]; simp [eqF, g0])
      go_enter Tryz.func26, Tryz.ntmps26
      go_wp2_with fail
      go_ret
      rw [HV.out]
      exact ⟨rfl, rfl⟩
    case false =>
      cases g1 : (FloatKind.f32.format.order v 1065353216 == some .eq)
      case true =>
        have HV : Hid (R = 1) := Lib.hid (by rw [HE.out]; simp [eqF, g0, g1])
        go_enter Tryz.func26, Tryz.ntmps26
        go_wp2_with fail
        go_ret
        rw [HV.out]
        exact ⟨rfl, rfl⟩
      case false =>
        have HV : Hid (R = -1) := Lib.hid (by rw [HE.out]; simp [eqF, g0, g1])
        go_enter Tryz.func26, Tryz.ntmps26
        go_wp2_with fail
        go_ret
        rw [HV.out]
        exact ⟨rfl, rfl⟩
  by_cases k1 : k = 8
  · subst k1
    have c0 : (op.toList == [109, 105, 120]) = false := b0
    have c1 : (op.toList == [101, 120, 112, 111, 115, 101]) = true := b1
    have c2 : (op.toList == [98, 108, 117, 114]) = false := b2
    have c3 : (op.toList == [115, 112, 114, 101, 97, 100]) = false := b3
    have c4 : (op.toList == [115, 104, 114, 105, 110, 107]) = false := b4
    have c5 : (op.toList == [102, 101, 97, 116, 104, 101, 114]) = false := b5
    clear b0 b1 b2 b3 b4 b5
    obtain ⟨v, rfl⟩ : ∃ v, reals = [v] := by
      have h : (reals.length : Int) = 1 := hnr
      match reals, h with
      | [v], _ => exact ⟨v, rfl⟩
    obtain ⟨b, off, rfl, cv⟩ := HR.out.get (i := 0) (v := v) rfl
    rw [Nat.add_zero] at cv
    have cl := cell_lt cv; simp only at cl
    have hl1 : [v].length = 1 := rfl
    rw [hl1] at hc1
    rw [hl1]
    have HX := Lib.hid (fun h => eqF_ex h : eqF v 0 = true → eqF v 1065353216 = false)
    clear hnr hni HR hl1
    cases g0 : (FloatKind.f32.format.order v 0 == some .eq)
    case true =>
      have g1 : (FloatKind.f32.format.order v 1065353216 == some .eq) = false := HX.out g0
      have HV : Hid (R = 0) := Lib.hid (by rw [HE.out]; simp [eqF, g0])
      go_enter Tryz.func26, Tryz.ntmps26
      go_wp2_with fail
      go_ret
      rw [HV.out]
      exact ⟨rfl, rfl⟩
    case false =>
      have HV : Hid (R = -1) := Lib.hid (by rw [HE.out]; simp [eqF, g0])
      go_enter Tryz.func26, Tryz.ntmps26
      go_wp2_with fail
      go_ret
      rw [HV.out]
      exact ⟨rfl, rfl⟩
  by_cases k2 : k = 13
  · subst k2
    have c0 : (op.toList == [109, 105, 120]) = false := b0
    have c1 : (op.toList == [101, 120, 112, 111, 115, 101]) = false := b1
    have c2 : (op.toList == [98, 108, 117, 114]) = true := b2
    have c3 : (op.toList == [115, 112, 114, 101, 97, 100]) = false := b3
    have c4 : (op.toList == [115, 104, 114, 105, 110, 107]) = false := b4
    have c5 : (op.toList == [102, 101, 97, 116, 104, 101, 114]) = false := b5
    clear b0 b1 b2 b3 b4 b5
    obtain ⟨v, rfl⟩ : ∃ v, ints = [v] := by
      have h : (ints.length : Int) = 1 := hni
      match ints, h with
      | [v], _ => exact ⟨v, rfl⟩
    obtain ⟨b, off, rfl, cv⟩ := HI.out.one (i := 0) (v := v) rfl
    rw [Nat.add_zero] at cv
    have cl := cell_lt cv; simp only at cl
    have hl1 : [v].length = 1 := rfl
    rw [hl1] at hb1
    rw [hl1]
    clear hnr hni HI hl1
    cases g0 : (v == 0)
    case true =>
      have g1 : v = 0 := by simpa using g0
      have HV : Hid (R = 0) := Lib.hid (by rw [HE.out]; simp [g1])
      go_enter Tryz.func26, Tryz.ntmps26
      go_wp2_with fail
      go_ret
      rw [HV.out]
      exact ⟨rfl, rfl⟩
    case false =>
      have g1 : ¬ v = 0 := by simpa using g0
      have HV : Hid (R = -1) := Lib.hid (by rw [HE.out]; simp [g1])
      go_enter Tryz.func26, Tryz.ntmps26
      go_wp2_with fail
      go_ret
      rw [HV.out]
      exact ⟨rfl, rfl⟩
  by_cases k3 : k = 24
  · subst k3
    have c0 : (op.toList == [109, 105, 120]) = false := b0
    have c1 : (op.toList == [101, 120, 112, 111, 115, 101]) = false := b1
    have c2 : (op.toList == [98, 108, 117, 114]) = false := b2
    have c3 : (op.toList == [115, 112, 114, 101, 97, 100]) = true := b3
    have c4 : (op.toList == [115, 104, 114, 105, 110, 107]) = false := b4
    have c5 : (op.toList == [102, 101, 97, 116, 104, 101, 114]) = false := b5
    clear b0 b1 b2 b3 b4 b5
    obtain ⟨v, rfl⟩ : ∃ v, ints = [v] := by
      have h : (ints.length : Int) = 1 := hni
      match ints, h with
      | [v], _ => exact ⟨v, rfl⟩
    obtain ⟨b, off, rfl, cv⟩ := HI.out.one (i := 0) (v := v) rfl
    rw [Nat.add_zero] at cv
    have cl := cell_lt cv; simp only at cl
    have hl1 : [v].length = 1 := rfl
    rw [hl1] at hb1
    rw [hl1]
    clear hnr hni HI hl1
    cases g0 : (v == 0)
    case true =>
      have g1 : v = 0 := by simpa using g0
      have HV : Hid (R = 0) := Lib.hid (by rw [HE.out]; simp [g1])
      go_enter Tryz.func26, Tryz.ntmps26
      go_wp2_with fail
      go_ret
      rw [HV.out]
      exact ⟨rfl, rfl⟩
    case false =>
      have g1 : ¬ v = 0 := by simpa using g0
      have HV : Hid (R = -1) := Lib.hid (by rw [HE.out]; simp [g1])
      go_enter Tryz.func26, Tryz.ntmps26
      go_wp2_with fail
      go_ret
      rw [HV.out]
      exact ⟨rfl, rfl⟩
  by_cases k4 : k = 25
  · subst k4
    have c0 : (op.toList == [109, 105, 120]) = false := b0
    have c1 : (op.toList == [101, 120, 112, 111, 115, 101]) = false := b1
    have c2 : (op.toList == [98, 108, 117, 114]) = false := b2
    have c3 : (op.toList == [115, 112, 114, 101, 97, 100]) = false := b3
    have c4 : (op.toList == [115, 104, 114, 105, 110, 107]) = true := b4
    have c5 : (op.toList == [102, 101, 97, 116, 104, 101, 114]) = false := b5
    clear b0 b1 b2 b3 b4 b5
    obtain ⟨v, rfl⟩ : ∃ v, ints = [v] := by
      have h : (ints.length : Int) = 1 := hni
      match ints, h with
      | [v], _ => exact ⟨v, rfl⟩
    obtain ⟨b, off, rfl, cv⟩ := HI.out.one (i := 0) (v := v) rfl
    rw [Nat.add_zero] at cv
    have cl := cell_lt cv; simp only at cl
    have hl1 : [v].length = 1 := rfl
    rw [hl1] at hb1
    rw [hl1]
    clear hnr hni HI hl1
    cases g0 : (v == 0)
    case true =>
      have g1 : v = 0 := by simpa using g0
      have HV : Hid (R = 0) := Lib.hid (by rw [HE.out]; simp [g1])
      go_enter Tryz.func26, Tryz.ntmps26
      go_wp2_with fail
      go_ret
      rw [HV.out]
      exact ⟨rfl, rfl⟩
    case false =>
      have g1 : ¬ v = 0 := by simpa using g0
      have HV : Hid (R = -1) := Lib.hid (by rw [HE.out]; simp [g1])
      go_enter Tryz.func26, Tryz.ntmps26
      go_wp2_with fail
      go_ret
      rw [HV.out]
      exact ⟨rfl, rfl⟩
  by_cases k5 : k = 26
  · subst k5
    have c0 : (op.toList == [109, 105, 120]) = false := b0
    have c1 : (op.toList == [101, 120, 112, 111, 115, 101]) = false := b1
    have c2 : (op.toList == [98, 108, 117, 114]) = false := b2
    have c3 : (op.toList == [115, 112, 114, 101, 97, 100]) = false := b3
    have c4 : (op.toList == [115, 104, 114, 105, 110, 107]) = false := b4
    have c5 : (op.toList == [102, 101, 97, 116, 104, 101, 114]) = true := b5
    clear b0 b1 b2 b3 b4 b5
    obtain ⟨v, rfl⟩ : ∃ v, ints = [v] := by
      have h : (ints.length : Int) = 1 := hni
      match ints, h with
      | [v], _ => exact ⟨v, rfl⟩
    obtain ⟨b, off, rfl, cv⟩ := HI.out.one (i := 0) (v := v) rfl
    rw [Nat.add_zero] at cv
    have cl := cell_lt cv; simp only at cl
    have hl1 : [v].length = 1 := rfl
    rw [hl1] at hb1
    rw [hl1]
    clear hnr hni HI hl1
    cases g0 : (v == 0)
    case true =>
      have g1 : v = 0 := by simpa using g0
      have HV : Hid (R = 0) := Lib.hid (by rw [HE.out]; simp [g1])
      go_enter Tryz.func26, Tryz.ntmps26
      go_wp2_with fail
      go_ret
      rw [HV.out]
      exact ⟨rfl, rfl⟩
    case false =>
      have g1 : ¬ v = 0 := by simpa using g0
      have HV : Hid (R = -1) := Lib.hid (by rw [HE.out]; simp [g1])
      go_enter Tryz.func26, Tryz.ntmps26
      go_wp2_with fail
      go_ret
      rw [HV.out]
      exact ⟨rfl, rfl⟩
  rw [beq_false_of_ne k0] at b0
  rw [beq_false_of_ne k1] at b1
  rw [beq_false_of_ne k2] at b2
  rw [beq_false_of_ne k3] at b3
  rw [beq_false_of_ne k4] at b4
  rw [beq_false_of_ne k5] at b5
  have HV : Hid (R = -1) := Lib.hid (by rw [HE.out]; simp [k0, k1, k2, k3, k4, k5])
  clear k0 k1 k2 k3 k4 k5
  go_enter Tryz.func26, Tryz.ntmps26
  go_wp2_with fail
  go_ret
  rw [HV.out]
  exact ⟨rfl, rfl⟩
end Go.Proofs.YtbaocallhnehfaaGreatDoor
