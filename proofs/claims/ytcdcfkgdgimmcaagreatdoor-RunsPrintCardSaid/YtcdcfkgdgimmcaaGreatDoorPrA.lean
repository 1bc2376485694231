/- farm.Print: what is written of runs. Conditions: the runs lie in memory; the library's variables read as listed (LibW). -/
import Derived.Test.YtcdcfkgdgimmcaaGreatDoorRnC
import Derived.Test.YtcdcfkgdgimmcaaGreatDoorWsA
namespace Go.Proofs.YtcdcfkgdgimmcaaGreatDoor
open Go Go.RowKit
theorem ixN0 (a b c d : Int) : ∀ w, (Instr.index 51 (.agg #[.int .i64 a, .int .i64 b, .int .i64 c, .int .i64 d]) (.int .i64 0)).run Tryz.prog w = .ok (.int .i64 a) w := fun _ => by kernel_rfl
theorem ixN1 (a b c d : Int) : ∀ w, (Instr.index 51 (.agg #[.int .i64 a, .int .i64 b, .int .i64 c, .int .i64 d]) (.int .i64 1)).run Tryz.prog w = .ok (.int .i64 b) w := fun _ => by kernel_rfl
theorem ixN2 (a b c d : Int) : ∀ w, (Instr.index 51 (.agg #[.int .i64 a, .int .i64 b, .int .i64 c, .int .i64 d]) (.int .i64 2)).run Tryz.prog w = .ok (.int .i64 c) w := fun _ => by kernel_rfl
theorem ixN3 (a b c d : Int) : ∀ w, (Instr.index 51 (.agg #[.int .i64 a, .int .i64 b, .int .i64 c, .int .i64 d]) (.int .i64 3)).run Tryz.prog w = .ok (.int .i64 d) w := fun _ => by kernel_rfl
/-- The first numbers of a line. -/
def pk (r : Ru) : Nat → List UInt8
  | 0 => []
  | 1 => [] ++ (Lib.itoa r.a ++ [32])
  | 2 => ([] ++ (Lib.itoa r.a ++ [32])) ++ (Lib.itoa r.b ++ [32])
  | 3 => (([] ++ (Lib.itoa r.a ++ [32])) ++ (Lib.itoa r.b ++ [32])) ++ (Lib.itoa r.c ++ [32])
  | _ => ((([] ++ (Lib.itoa r.a ++ [32])) ++ (Lib.itoa r.b ++ [32])) ++ (Lib.itoa r.c ++ [32])) ++ (Lib.itoa r.d ++ [32])
theorem pk_len {r : Ru} (h : rE r = 0) (k : Nat) : (pk r k).length ≤ 88 := by
  have b := rE_bd h
  have := itoa_len r.a (by omega); have := itoa_len r.b (by omega); have := itoa_len r.c (by omega); have := itoa_len r.d (by omega)
  unfold pk
  split <;> simp only [List.length_append, List.length_cons, List.length_nil] <;> omega
theorem pk_end (r : Ru) : pk r 4 ++ (endT r.f ++ [10]) = runT r := by
  unfold pk runT lineT
  simp
theorem rsE_take {l : List Ru} (h : rsE l = 0) (k : Nat) : rsE (l.take k) = 0 := by
  induction l generalizing k with
  | nil => simp [rsE]
  | cons r l ih =>
    cases k with
    | zero => simp [rsE]
    | succ k =>
      show (if rE r = 0 then rsE (l.take k) else rE r) = 0
      have h' : (if rE r = 0 then rsE l else rE r) = 0 := h
      by_cases h0 : rE r = 0
      · rw [if_pos h0] at h' ⊢; exact ih h' k
      · rw [if_neg h0] at h' ⊢; exact h'
theorem Print_no (a : Option Addr) (cap : Nat) (rs : List Ru) (w : World) (hn : rs.length ≤ 9223372036854775807) (hz : runsE rs ≠ 0) (hR : RnsIn w a rs) : Calls Tryz.prog 4 #[.slice a rs.length cap] w fun e w' => e = .returned (.tuple #[.string ⟨#[]⟩, .int .i64 (runsE rs)]) ∧ Below w.heap.size w w' := by
  have HC := Lib.hid (checkRuns_any a cap rs w hn hR)
  obtain ⟨E, hE⟩ : ∃ E, E = runsE rs := ⟨_, rfl⟩
  rw [← hE] at hz HC ⊢
  obtain ⟨n, hnn⟩ : ∃ n, n = rs.length := ⟨_, rfl⟩
  rw [← hnn] at HC ⊢
  have hz1 : (E != 0) = true := by simpa using hz
  clear hR hE hnn hn
  go_enter Tryz.func4, Tryz.ntmps4
  go_wp2_with (go_at_call 18; refine HC.out.mono ?_; rintro e w1 ⟨rfl, hb1⟩)
  go_ret2
  exact ⟨rfl, hb1⟩
set_option maxRecDepth 100000 in
set_option maxHeartbeats 6400000 in
theorem Print_yes (a : Option Addr) (cap : Nat) (rs : List Ru) (w : World) (hL : LibW w) (hz : runsE rs = 0) (hR : RnsIn w a rs) : Calls Tryz.prog 4 #[.slice a rs.length cap] w fun e w' => e = .returned (.tuple #[.string ⟨(runsT rs).toArray⟩, .int .i64 0]) ∧ Below w.heap.size w w' := by
  have hlen : rs.length ≤ 200000 := by
    unfold runsE at hz
    by_cases h : 200000 < rs.length
    · rw [if_pos h] at hz; exact absurd hz (by decide)
    · omega
  have HC := Lib.hid (checkRuns_any a cap rs w (by omega) hR)
  rw [hz] at HC
  have hz' : rsE rs = 0 := by unfold runsE at hz; rw [if_neg (by omega)] at hz; exact hz
  obtain ⟨n, hnn⟩ : ∃ n, n = rs.length := ⟨_, rfl⟩
  rw [← hnn] at HC hlen ⊢
  have HN := Lib.hid hnn; have HR := Lib.hid hR; have HZ := Lib.hid hz'; have HL := Lib.hid hL
  clear hR hz hz' hL hnn
  go_enter Tryz.func4, Tryz.ntmps4
  go_upto_region 4 with (go_at_call 18; refine HC.out.mono ?_; rintro e w1 ⟨rfl, hb1⟩; have HB1 := Lib.hid hb1; clear hb1)
  go_upto_region 5 with fail
  refine wp_world (fun W2 hW2 => ?_)
  have HF2 : Hid (BuF W2 w1.heap.size (runsT (rs.take 0))) := Lib.hid (by rw [hW2]; exact BuF.fresh _)
  have HB2 : Hid (Below w.heap.size w W2) := Lib.hid (by rw [hW2]; exact Below.alloc HB1.out HB1.out.size _)
  have hgw : w.heap.size ≤ w1.heap.size := HB1.out.size
  clear hW2 HB1 HC
  generalize w1.heap.size = g at *
  go_wp2_with fail
  go_loopw [17] (fun s17 wr => ∃ k : Nat, k ≤ n ∧ s17 = .int .i64 k ∧ BuF wr g (runsT (rs.take k)) ∧ Below w.heap.size w wr) (fun s17 _ => n - (intOf s17).toNat)
  case atStart => exact ⟨0, Nat.zero_le _, rfl, HF2.out, HB2.out⟩
  case round =>
    obtain ⟨k, hk, rfl, hF, hB⟩ := hrel
    have HF := Lib.hid hF; have HB := Lib.hid hB
    have hbs := hB.size
    have hgl := hF.lt
    clear hF hB HF2 HB2
    by_cases hkm : k < n
    · have hkmi : (k : Int) < (n : Int) := by omega
      have hkl : k < rs.length := by have := HN.out; omega
      obtain ⟨b, off, rfl, hc⟩ := HR.out (by omega)
      have hw := ((hc k hkl).past HB.out)
      have hTs : (runsT (rs.take k)).length ≤ 100 * k := by
        have := runsT_len (rsE_take HZ.out k)
        rw [List.length_take] at this
        omega
      have HTK : Hid (runsT (rs.take (k + 1)) = runsT (rs.take k) ++ runT rs[k]) := Lib.hid (by
        rw [List.take_succ_eq_append_getElem hkl, runsT_app]
        show runsT (rs.take k) ++ (runT rs[k] ++ []) = _
        rw [List.append_nil])
      have hre := rsE_get HZ.out k hkl
      obtain ⟨T, hT⟩ : ∃ T, T = runsT (rs.take k) := ⟨_, rfl⟩
      rw [← hT] at HTK HF hTs
      obtain ⟨K, hK⟩ : ∃ K, K = rs[k] := ⟨_, rfl⟩
      rw [← hK] at hw HTK hre
      have HPE := Lib.hid (pk_end K)
      have HPL := Lib.hid (pk_len hre)
      have HBD := Lib.hid (rE_bd hre)
      have HIX : Hid (∀ j : Nat, j < 4 → ∃ v : Int, (∀ w, (Instr.index 51 (.agg #[.int .i64 K.a, .int .i64 K.b, .int .i64 K.c, .int .i64 K.d]) (.int .i64 j)).run Tryz.prog w = .ok (.int .i64 v) w) ∧ pk K (j + 1) = pk K j ++ (Lib.itoa v ++ [32]) ∧ 0 ≤ v ∧ v ≤ 1099511627776) := Lib.hid (fun j hj => by
        have b := HBD.out
        match j, hj with
        | 0, _ => exact ⟨K.a, ixN0 _ _ _ _, rfl, by omega⟩
        | 1, _ => exact ⟨K.b, ixN1 _ _ _ _, rfl, by omega⟩
        | 2, _ => exact ⟨K.c, ixN2 _ _ _ _, rfl, by omega⟩
        | 3, _ => exact ⟨K.d, ixN3 _ _ _ _, rfl, by omega⟩)
      obtain ⟨ra, rb, rc, rd, rf⟩ := K
      clear hK hT hc hre
      obtain ⟨c0, c1, c2, c3, c4⟩ := hw
      simp only at c0 c1 c2 c3 c4 HIX
      have l0 := cell_lt c0; simp only at l0
      go_upto_region 8 with fail
      refine wp_world (fun W4 hW4 => ?_)
      have HK4 : Hid (W4.heap[wr.heap.size]? = some (.cells #[.int .i64 ra, .int .i64 rb, .int .i64 rc, .int .i64 rd, .bool rf] 34 (0, 0))) := Lib.hid (by rw [hW4]; exact heap_newF _ _ _ _ rfl)
      have hb4 : Below wr.heap.size wr W4 := by rw [hW4]; (repeat (first | exact Below.refl _ _ | assumption | (refine Below.setCell ?_ (by first | (simp; done) | (simp; omega) | omega) _) | (refine Below.drew ?_) | (refine below_drewN ?_ _) | (refine Below.alloc ?_ (by first | (simp; done) | (simp; omega) | omega) _) | (refine Below.trans ?_ (Below.mono (by assumption) (by first | (simp; done) | (simp; omega) | omega)))))
      have HF4 : Hid (BuF W4 g (T ++ pk ⟨ra, rb, rc, rd, rf⟩ 0)) := Lib.hid (by
        show BuF W4 g (T ++ [])
        rw [List.append_nil]; exact HF.out.past hb4)
      have HB4 : Hid (Below w.heap.size w W4) := Lib.hid (HB.out.trans (hb4.mono hbs))
      have hgb : wr.heap.size ≠ g := by omega
      clear hW4 hb4 c0 c1 c2 c3 c4 l0 HF HB
      generalize wr.heap.size = q at *
      have m0 := Lib.cell_of_heap HK4.out 0; have m1 := Lib.cell_of_heap HK4.out 1; have m2 := Lib.cell_of_heap HK4.out 2; have m3 := Lib.cell_of_heap HK4.out 3
      simp only [List.getElem?_toArray, List.getElem?_cons_zero, List.getElem?_cons_succ] at m0 m1 m2 m3
      have ml : q < W4.heap.size := (Array.getElem?_eq_some_iff.1 HK4.out).1
      go_upto_region 9 with fail
      clear m0 m1 m2 m3 ml
      go_loopw [30] (fun s30 wr => ∃ j : Nat, j ≤ 4 ∧ s30 = .int .i64 j ∧ BuF wr g (T ++ pk ⟨ra, rb, rc, rd, rf⟩ j) ∧ wr.heap[q]? = some (.cells #[.int .i64 ra, .int .i64 rb, .int .i64 rc, .int .i64 rd, .bool rf] 34 (0, 0)) ∧ Below w.heap.size w wr) (fun s30 _ => 4 - (intOf s30).toNat)
      case atStart => exact ⟨0, by omega, rfl, HF4.out, HK4.out, HB4.out⟩
      case round =>
        obtain ⟨j, hj, rfl, hF, hK, hB⟩ := hrel
        have HF := Lib.hid hF; have HK := Lib.hid hK; have HB := Lib.hid hB
        have hbs2 := hB.size
        clear hF hK hB HF4 HK4 HB4
        by_cases hj4 : j < 4
        · have hj4i : (j : Int) < 4 := by omega
          have hj0i : (0 : Int) ≤ (j : Int) := by omega
          obtain ⟨v, hix, hpk, hv0, hv1⟩ := HIX.out j hj4
          have HPK := Lib.hid hpk
          have HLW := Lib.hid (HL.out.past HB.out)
          obtain ⟨I, hI⟩ : ∃ I : ByteArray, I = ⟨(Lib.itoa v).toArray⟩ := ⟨_, rfl⟩
          have hIs : I.size ≤ 21 := by rw [hI, Lib.size_eq]; exact itoa_len v ⟨hv0, hv1⟩
          have HID : Hid ((I ++ { data := #[32] }).data.toList = Lib.itoa v ++ [32]) := Lib.hid (by rw [hI]; simp [ByteArray.data_append])
          have HIT : Hid (∀ w', LibW w' → Calls Tryz.prog 20 #[.int .i64 v] w' fun e w'' => e = .returned (.string I) ∧ Below w'.heap.size w' w'') := Lib.hid (fun w' h => by rw [hI]; exact Itoa_any v w' h (by omega) (by omega))
          have q0 : ¬ 9223372036854775807 < I.size + 1 := by omega
          have hpl := HPL.out j
          clear hpk hI hv0 hv1
          go_upto_region 11 with fail
          go_wp2_with (first | (go_at_call 20; refine (HIT.out _ HLW.out).mono ?_; rintro e w5 ⟨rfl, hb5⟩; have HB5 := Lib.hid hb5; clear hb5) | (go_at_call 19; refine (Ws_any g _ _ _ (HF.out.past HB5.out) (by rw [List.length_append, ByteArray.size_append]; simp only [ByteArray.size]; simp; omega)).mono ?_; rintro e w6 ⟨rfl, hf6, hb6, ho6⟩))
          have HF6 : Hid (BuF w6 g (T ++ pk ⟨ra, rb, rc, rd, rf⟩ (j + 1))) := Lib.hid (by rw [HPK.out, ← List.append_assoc, ← HID.out]; exact hf6)
          have HK6 := Lib.hid (oth_at ho6 (show w5.heap[q]? = _ by rw [HB5.out.block q ((Array.getElem?_eq_some_iff.1 HK.out).1)]; exact HK.out) (by decide) hgb)
          have HB6 : Hid (Below w.heap.size w w6) := Lib.hid ((HB.out.trans (HB5.out.mono hbs2)).trans (hb6.mono hgw))
          clear hf6 hb6 ho6
          go_roundw
          case rel => exact ⟨j + 1, by omega, by go_num, HF6.out, HK6.out, HB6.out⟩
          case measure => simp [intOf]; omega
        · have hj4i : ¬ (j : Int) < 4 := by omega
          have hje : j = 4 := by omega
          subst hje
          have m4 := Lib.cell_of_heap HK.out 4
          simp only [List.getElem?_toArray, List.getElem?_cons_zero, List.getElem?_cons_succ] at m4
          have ml : q < wr.heap.size := (Array.getElem?_eq_some_iff.1 HK.out).1
          have hpl := HPL.out 4
          cases rf
          all_goals
            go_wp2_with (go_at_call 19; refine (Ws_any g _ _ _ HF.out (by rw [List.length_append]; simp only [ByteArray.size]; simp; omega)).mono ?_; rintro e w6 ⟨rfl, hf6, hb6, ho6⟩)
            have HF6 : Hid (BuF w6 g (runsT (rs.take (k + 1)))) := Lib.hid (by rw [HTK.out, ← HPE.out, ← List.append_assoc]; exact hf6)
            have HB6 : Hid (Below w.heap.size w w6) := Lib.hid (HB.out.trans (hb6.mono hgw))
            clear hf6 hb6 ho6
            go_roundw
            case rel => exact ⟨k + 1, by omega, by go_num, HF6.out, HB6.out⟩
            case measure => simp [intOf]; omega
    · have hkmi : ¬ (k : Int) < (n : Int) := by omega
      have hke : rs.take k = rs := List.take_of_length_le (by have := HN.out; omega)
      rw [hke] at HF
      go_wp2_with (go_at_call 21; refine (Bs_any g _ _ HF.out).mono ?_; rintro e w6 ⟨rfl, hb6⟩)
      go_ret2
      exact ⟨rfl, HB.out.trans (hb6.mono hgw)⟩
end Go.Proofs.YtcdcfkgdgimmcaaGreatDoor
