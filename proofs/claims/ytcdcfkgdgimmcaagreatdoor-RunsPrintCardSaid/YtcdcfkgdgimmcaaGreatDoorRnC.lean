/- The text of runs, by the document. Conditions: the runs are right; the library's variables read as listed (LibW). -/
import Derived.Test.YtcdcfkgdgimmcaaGreatDoorRnB
namespace Go.Proofs.YtcdcfkgdgimmcaaGreatDoor
open Go Go.RowKit
theorem rsE_get : ∀ {l : List Ru}, rsE l = 0 → ∀ i, (h : i < l.length) → rE l[i] = 0
  | [], _, i, h => by simp at h
  | r :: l, h0, 0, _ => by
    unfold rsE at h0
    by_cases h : rE r = 0
    · exact h
    · rw [if_neg h] at h0; exact absurd h0 h
  | r :: l, h0, i + 1, hi => by
    unfold rsE at h0
    by_cases h : rE r = 0
    · rw [if_pos h] at h0; exact rsE_get h0 i (by simpa using hi)
    · rw [if_neg h] at h0; exact absurd h0 h
theorem rE_bd {r : Ru} (h : rE r = 0) : 0 ≤ r.a ∧ r.a ≤ 1999 ∧ 0 ≤ r.b ∧ r.b ≤ 63 ∧ 0 ≤ r.c ∧ r.c ≤ 1099511627776 ∧ 0 ≤ r.d ∧ r.d ≤ 1099511627776 ∧ r.c ≤ r.d := by
  unfold rE at h
  split at h
  · cases h
  · split at h
    · cases h
    · omega
theorem itoa_len (v : Int) (h : 0 ≤ v ∧ v ≤ 1099511627776) : (Lib.itoa v).length ≤ 21 := Lib.itoa_length_le v (by omega) (by omega)
theorem runT_len {r : Ru} (h : rE r = 0) : (runT r).length ≤ 100 := by
  have b := rE_bd h
  have := itoa_len r.a (by omega); have := itoa_len r.b (by omega); have := itoa_len r.c (by omega); have := itoa_len r.d (by omega)
  have : (endT r.f).length ≤ 6 := by cases r.f <;> decide
  unfold runT lineT
  simp only [List.length_append, List.length_cons, List.length_nil]
  omega
theorem runsT_len : ∀ {l : List Ru}, rsE l = 0 → (runsT l).length ≤ 100 * l.length
  | [], _ => by simp [runsT]
  | r :: l, h0 => by
    have h1 := rsE_get h0 0 (by simp)
    have h2 : rsE l = 0 := by
      unfold rsE at h0
      by_cases h : rE r = 0
      · rwa [if_pos h] at h0
      · rw [if_neg h] at h0; exact absurd h0 h
    have := runsT_len h2
    have := runT_len (r := r) h1
    show (runT r ++ runsT l).length ≤ 100 * (l.length + 1)
    rw [List.length_append]; omega
/-- The end of a line. -/
def endB (f : Bool) : ByteArray := if f then ⟨#[32, 102, 97, 105, 108, 101, 100, 10]⟩ else ⟨#[32, 111, 107, 10]⟩
theorem endB_size (f : Bool) : (endB f).size ≤ 8 := by cases f <;> decide
theorem lineX (T : ByteArray) (r : Ru) : (T ++ (itoaB #[.int .i64 r.a] ++ { data := #[32] } ++ itoaB #[.int .i64 r.b] ++ { data := #[32] } ++ itoaB #[.int .i64 r.c] ++ { data := #[32] } ++ itoaB #[.int .i64 r.d] ++ endB r.f)).data.toList = T.data.toList ++ runT r := by
  rw [itoaB_eq, itoaB_eq, itoaB_eq, itoaB_eq]
  cases h : r.f <;> simp [runT, lineT, endT, okT, faT, endB, h, ByteArray.data_append]
theorem mk_of {T : ByteArray} {l : List UInt8} (h : T.data.toList = l) : T = ⟨l.toArray⟩ := by
  subst h; cases T; simp
set_option maxRecDepth 100000 in
set_option maxHeartbeats 6400000 in
theorem runsText_any (a : Option Addr) (cap : Nat) (rs : List Ru) (w : World) (hL : LibW w) (hn : rs.length ≤ 1000000) (hz : rsE rs = 0) (hR : RnsIn w a rs) : Calls Tryz.prog 7 #[.slice a rs.length cap] w fun e w' => e = .returned (.string ⟨(runsT rs).toArray⟩) ∧ Below w.heap.size w w' := by
  obtain ⟨n, hnn⟩ : ∃ n, n = rs.length := ⟨_, rfl⟩
  have HN := Lib.hid hnn
  have HR := Lib.hid hR
  have HZ := Lib.hid hz
  have HL := Lib.hid hL
  rw [← hnn] at hn ⊢
  clear hR hnn hz hL
  go_enter Tryz.func7, Tryz.ntmps7
  go_wp2_with fail
  go_loopw [9, 3] (fun s9 s3 wr => ∃ (k : Nat) (T : ByteArray), k ≤ n ∧ s9 = .int .i64 k ∧ s3 = .string T ∧ T.data.toList = runsT (rs.take k) ∧ Below w.heap.size w wr) (fun s9 _ _ => n - (intOf s9).toNat)
  case atStart => exact ⟨0, ⟨#[]⟩, Nat.zero_le _, rfl, rfl, rfl, Below.refl _ _⟩
  case round =>
    obtain ⟨k, T, hk, rfl, rfl, hT, hB⟩ := hrel
    have HT := Lib.hid hT; have HB := Lib.hid hB
    have hbs := hB.size
    clear hT hB
    by_cases hkm : k < n
    · have hkmi : (k : Int) < (n : Int) := by omega
      have hkl : k < rs.length := by have := HN.out; omega
      obtain ⟨b, off, rfl, hc⟩ := HR.out (by omega)
      have hw := ((hc k hkl).past HB.out)
      have hzk : rsE (rs.take k) = 0 := by
        cases h : decide (rsE (rs.take k) = 0) with
        | true => exact of_decide_eq_true h
        | false =>
          exfalso
          have e2 : rs = rs.take k ++ rs.drop k := (List.take_append_drop _ _).symm
          have hne := of_decide_eq_false h
          have hz2 := HZ.out
          rw [e2] at hz2
          have : ∀ (l m : List Ru), rsE l ≠ 0 → rsE (l ++ m) ≠ 0 := fun l => by
            induction l with
            | nil => intro m h; exact absurd rfl h
            | cons r l ih =>
              intro m h
              show (if rE r = 0 then rsE (l ++ m) else rE r) ≠ 0
              unfold rsE at h
              by_cases h0 : rE r = 0
              · rw [if_pos h0] at h ⊢; exact ih m h
              · rw [if_neg h0]; exact h0
          exact this _ _ hne hz2
      have hTs : T.size ≤ 100 * k := by
        rw [Lib.size_eq, HT.out]
        have := runsT_len hzk
        rw [List.length_take] at this
        omega
      have HTK : Hid (runsT (rs.take (k + 1)) = T.data.toList ++ runT rs[k]) := Lib.hid (by
        rw [List.take_succ_eq_append_getElem hkl, runsT_app, HT.out]
        show runsT (rs.take k) ++ (runT rs[k] ++ []) = _
        rw [List.append_nil])
      have hbd := rE_bd (rsE_get HZ.out k hkl)
      obtain ⟨K, hK⟩ : ∃ K, K = rs[k] := ⟨_, rfl⟩
      rw [← hK] at hw HTK hbd
      have HLX := Lib.hid (lineX T K)
      obtain ⟨ra, rb, rc, rd, rf⟩ := K
      clear hK hc hzk
      simp only at hbd
      obtain ⟨d0, d1, d2, d3, d4, d5, d6, d7, -⟩ := hbd
      obtain ⟨c0, c1, c2, c3, c4⟩ := hw
      simp only at c0 c1 c2 c3 c4
      have l0 := cell_lt c0; simp only at l0
      go_upto_region 5 with fail
      refine wp_world (fun W4 hW4 => ?_)
      have H4 : Hid (Blk W4 wr.heap.size [.int .i64 ra, .int .i64 rb, .int .i64 rc, .int .i64 rd, .bool rf] ∧ Below w.heap.size w W4) := Lib.hid (by rw [hW4]; exact ⟨Blk.new _ _ _ _ rfl, Below.trans HB.out (Below.mono (show Below wr.heap.size wr _ by (repeat (first | exact Below.refl _ _ | assumption | (refine Below.setCell ?_ (by first | (simp; done) | (simp; omega) | omega) _) | (refine Below.drew ?_) | (refine below_drewN ?_ _) | (refine Below.alloc ?_ (by first | (simp; done) | (simp; omega) | omega) _) | (refine Below.trans ?_ (Below.mono (by assumption) (by first | (simp; done) | (simp; omega) | omega)))))) hbs)⟩)
      clear hW4 c0 c1 c2 c3 c4 l0
      have m0 := H4.out.1.c 0 _ rfl; have m1 := H4.out.1.c 1 _ rfl; have m2 := H4.out.1.c 2 _ rfl; have m3 := H4.out.1.c 3 _ rfl; have m4 := H4.out.1.c 4 _ rfl; have ml := H4.out.1.lt
      have s1 := itoaB_size ra (by omega) (by omega); have s2 := itoaB_size rb (by omega) (by omega); have s3 := itoaB_size rc (by omega) (by omega); have s4 := itoaB_size rd (by omega) (by omega)
      have HLW := Lib.hid (HL.out.past H4.out.2)
      cases rf
      all_goals
        go_upto_region 8 with fail
        have q0 : ¬ 9223372036854775807 < (itoaB #[.int .i64 ra]).size + 1 := by omega
        have q1 : ¬ 9223372036854775807 < (itoaB #[.int .i64 ra]).size + 1 + (itoaB #[.int .i64 rb]).size := by omega
        have q2 : ¬ 9223372036854775807 < (itoaB #[.int .i64 ra]).size + 1 + (itoaB #[.int .i64 rb]).size + 1 := by omega
        have q3 : ¬ 9223372036854775807 < (itoaB #[.int .i64 ra]).size + 1 + (itoaB #[.int .i64 rb]).size + 1 + (itoaB #[.int .i64 rc]).size := by omega
        have q4 : ¬ 9223372036854775807 < (itoaB #[.int .i64 ra]).size + 1 + (itoaB #[.int .i64 rb]).size + 1 + (itoaB #[.int .i64 rc]).size + 1 := by omega
        have q5 : ¬ 9223372036854775807 < (itoaB #[.int .i64 ra]).size + 1 + (itoaB #[.int .i64 rb]).size + 1 + (itoaB #[.int .i64 rc]).size + 1 + (itoaB #[.int .i64 rd]).size := by omega
        have q6 : ¬ 9223372036854775807 < (itoaB #[.int .i64 ra]).size + 1 + (itoaB #[.int .i64 rb]).size + 1 + (itoaB #[.int .i64 rc]).size + 1 + (itoaB #[.int .i64 rd]).size + 4 := by omega
        have q7 : ¬ 9223372036854775807 < (itoaB #[.int .i64 ra]).size + 1 + (itoaB #[.int .i64 rb]).size + 1 + (itoaB #[.int .i64 rc]).size + 1 + (itoaB #[.int .i64 rd]).size + 8 := by omega
        have q8 : ¬ 9223372036854775807 < T.size + ((itoaB #[.int .i64 ra]).size + 1 + (itoaB #[.int .i64 rb]).size + 1 + (itoaB #[.int .i64 rc]).size + 1 + (itoaB #[.int .i64 rd]).size + 4) := by omega
        have q9 : ¬ 9223372036854775807 < T.size + ((itoaB #[.int .i64 ra]).size + 1 + (itoaB #[.int .i64 rb]).size + 1 + (itoaB #[.int .i64 rc]).size + 1 + (itoaB #[.int .i64 rd]).size + 8) := by omega
        refine wp_region_loose 22 (fun f args u => f = 20 ∧ u = .string (itoaB args)) (by kernel_rfl) (by kernel_rfl) ?_
        simp only [List.take_succ_cons, List.take_zero, List.drop_succ_cons, List.drop_zero]
        repeat (refine loose_wanted rfl (fun K hK => ?_); go_simp; refine hK _ ?_; clear hK K)
        refine loose_step rfl (fun K hK => ?_)
        go_simp
        refine ⟨fun p => (Itoa_any _ _ (HLW.out.past p.h) (by omega) (by omega)).mono ?_, ?_⟩
        · rintro e w' ⟨rfl, hb⟩
          exact ⟨_, rfl, rfl, p.h.trans (hb.mono p.h.size)⟩
        refine hK _ ?_
        clear hK K
        repeat (refine loose_wanted rfl (fun K hK => ?_); go_simp; refine hK _ ?_; clear hK K)
        refine loose_step rfl (fun K hK => ?_)
        go_simp
        refine ⟨fun p => (Itoa_any _ _ (HLW.out.past p.h) (by omega) (by omega)).mono ?_, ?_⟩
        · rintro e w' ⟨rfl, hb⟩
          exact ⟨_, rfl, rfl, p.h.trans (hb.mono p.h.size)⟩
        refine hK _ ?_
        clear hK K
        repeat (refine loose_wanted rfl (fun K hK => ?_); go_simp; refine hK _ ?_; clear hK K)
        refine loose_step rfl (fun K hK => ?_)
        go_simp
        refine ⟨fun p => (Itoa_any _ _ (HLW.out.past p.h) (by omega) (by omega)).mono ?_, ?_⟩
        · rintro e w' ⟨rfl, hb⟩
          exact ⟨_, rfl, rfl, p.h.trans (hb.mono p.h.size)⟩
        refine hK _ ?_
        clear hK K
        repeat (refine loose_wanted rfl (fun K hK => ?_); go_simp; refine hK _ ?_; clear hK K)
        refine loose_step rfl (fun K hK => ?_)
        go_simp
        refine ⟨fun p => (Itoa_any _ _ (HLW.out.past p.h) (by omega) (by omega)).mono ?_, ?_⟩
        · rintro e w' ⟨rfl, hb⟩
          exact ⟨_, rfl, rfl, p.h.trans (hb.mono p.h.size)⟩
        refine hK _ ?_
        clear hK K
        repeat (refine loose_wanted rfl (fun K hK => ?_); go_simp; refine hK _ ?_; clear hK K)
        refine loose_nil (fun w2 hb2 => ?_)
        have HB2 := Lib.hid (H4.out.2.trans (hb2.mono H4.out.2.size))
        clear q0 q1 q2 q3 q4 q5 q6 q7 q8 q9 m0 m1 m2 m3 m4 ml s1 s2 s3 s4
        go_wp2_with fail
        go_roundw
        case rel => exact ⟨k + 1, _, by omega, by go_num, rfl, by rw [HTK.out, ← HLX.out]; rfl, HB2.out⟩
        case measure => simp [intOf]; omega
    · have hkmi : ¬ (k : Int) < (n : Int) := by omega
      have HY : Hid (T = ⟨(runsT rs).toArray⟩) := Lib.hid (mk_of (by rw [HT.out, List.take_of_length_le (by have := HN.out; omega)]))
      go_wp2_with fail
      go_ret
      exact ⟨by rw [← HY.out]; rfl, HB.out⟩
end Go.Proofs.YtcdcfkgdgimmcaaGreatDoor
