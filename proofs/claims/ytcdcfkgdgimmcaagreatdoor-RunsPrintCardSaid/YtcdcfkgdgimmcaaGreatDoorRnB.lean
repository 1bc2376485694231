/- The error of runs and their text, by the document. Conditions: what each theorem names. -/
import Derived.Test.YtcdcfkgdgimmcaaGreatDoorRnA
import Derived.Test.YtcdcfkgdgimmcaaGreatDoorItB
namespace Go.Proofs.YtcdcfkgdgimmcaaGreatDoor
open Go Go.RowKit
set_option maxRecDepth 100000 in
set_option maxHeartbeats 6400000 in
theorem runsError_any (a : Option Addr) (cap : Nat) (rs : List Ru) (w : World) (hn : rs.length ≤ 9223372036854775807) (hR : RnsIn w a rs) : Calls Tryz.prog 5 #[.slice a rs.length cap] w fun e w' => e = .returned (.int .i64 (runsE rs)) ∧ Below w.heap.size w w' := by
  obtain ⟨n, hnn⟩ : ∃ n, n = rs.length := ⟨_, rfl⟩
  have HN := Lib.hid hnn
  have HR := Lib.hid hR
  rw [← hnn] at hn ⊢
  clear hR hnn
  by_cases h2 : 200000 < n
  · have h2' : (200000 : Int) < (n : Int) := by omega
    have HE : Hid (runsE rs = 4) := Lib.hid (by unfold runsE; rw [if_pos (by have := HN.out; omega)])
    rw [HE.out]
    go_enter Tryz.func5, Tryz.ntmps5
    go_wp2_with fail
    go_ret
    exact ⟨rfl, by (repeat (first | exact Below.refl _ _ | assumption | (refine Below.setCell ?_ (by first | (simp; done) | (simp; omega) | omega) _) | (refine Below.drew ?_) | (refine below_drewN ?_ _) | (refine Below.alloc ?_ (by first | (simp; done) | (simp; omega) | omega) _) | (refine Below.trans ?_ (Below.mono (by assumption) (by first | (simp; done) | (simp; omega) | omega)))))⟩
  · have h2' : ¬ (200000 : Int) < (n : Int) := by omega
    have HE : Hid (runsE rs = rsE rs) := Lib.hid (by unfold runsE; rw [if_neg (by have := HN.out; omega)])
    rw [HE.out]
    obtain ⟨X, hX⟩ : ∃ X, X = rsE rs := ⟨_, rfl⟩
    rw [← hX]
    have HX := Lib.hid hX
    clear hX
    go_enter Tryz.func5, Tryz.ntmps5
    go_wp2_with fail
    go_loopw [10] (fun s10 wr => ∃ k : Nat, k ≤ n ∧ s10 = .int .i64 k ∧ rsE (rs.take k) = 0 ∧ Below w.heap.size w wr) (fun s10 _ => n - (intOf s10).toNat)
    case atStart => exact ⟨0, Nat.zero_le _, rfl, rfl, Below.refl _ _⟩
    case round =>
      obtain ⟨k, hk, rfl, hz, hB⟩ := hrel
      have HZ := Lib.hid hz; have HB := Lib.hid hB
      have hbs := hB.size
      clear hz hB
      by_cases hkm : k < n
      · have hkmi : (k : Int) < (n : Int) := by omega
        have hkl : k < rs.length := by have := HN.out; omega
        obtain ⟨b, off, rfl, hc⟩ := HR.out (by omega)
        have hw := ((hc k hkl).past HB.out)
        have HS := Lib.hid (rsE_at hkl HZ.out)
        obtain ⟨K, hK⟩ : ∃ K, K = rs[k] := ⟨_, rfl⟩
        rw [← hK] at hw HS
        obtain ⟨ra, rb, rc, rd, rf⟩ := K
        clear hK hc
        obtain ⟨c0, c1, c2, c3, c4⟩ := hw
        simp only at c0 c1 c2 c3 c4
        have l0 := cell_lt c0; simp only at l0
        go_upto_region 6 with fail
        refine wp_world (fun W4 hW4 => ?_)
        have H4 : Hid (Blk W4 wr.heap.size [.int .i64 ra, .int .i64 rb, .int .i64 rc, .int .i64 rd, .bool rf] ∧ Below w.heap.size w W4) := Lib.hid (by rw [hW4]; exact ⟨Blk.new _ _ _ _ rfl, Below.trans HB.out (Below.mono (show Below wr.heap.size wr _ by (repeat (first | exact Below.refl _ _ | assumption | (refine Below.setCell ?_ (by first | (simp; done) | (simp; omega) | omega) _) | (refine Below.drew ?_) | (refine below_drewN ?_ _) | (refine Below.alloc ?_ (by first | (simp; done) | (simp; omega) | omega) _) | (refine Below.trans ?_ (Below.mono (by assumption) (by first | (simp; done) | (simp; omega) | omega)))))) hbs)⟩)
        clear hW4 c0 c1 c2 c3 c4 l0
        have m0 := H4.out.1.c 0 _ rfl; have m1 := H4.out.1.c 1 _ rfl; have m2 := H4.out.1.c 2 _ rfl; have m3 := H4.out.1.c 3 _ rfl; have ml := H4.out.1.lt
        have bad : (inB ra 0 1999 = false ∨ (inB ra 0 1999 = true ∧ inB rb 0 63 = false) ∨ (inB ra 0 1999 = true ∧ inB rb 0 63 = true ∧ inB rc 0 1099511627776 = false) ∨ (inB ra 0 1999 = true ∧ inB rb 0 63 = true ∧ inB rc 0 1099511627776 = true ∧ inB rd 0 1099511627776 = false)) → X = 3 := fun hb => by
          have e : rE ⟨ra, rb, rc, rd, rf⟩ = 3 := rE_bad (by
            simp only
            have t1 := @inB_iff ra 0 1999; have t2 := @inB_iff rb 0 63; have t3 := @inB_iff rc 0 1099511627776; have t4 := @inB_iff rd 0 1099511627776
            rcases hb with h | ⟨-, h⟩ | ⟨-, -, h⟩ | ⟨-, -, -, h⟩
            · rw [h] at t1; simp at t1; omega
            · rw [h] at t2; simp at t2; omega
            · rw [h] at t3; simp at t3; omega
            · rw [h] at t4; simp at t4; omega)
          rw [HX.out, HS.out.2 (by rw [e]; decide), e]
        have HBAD := Lib.hid bad
        clear bad
        cases i1 : inB ra 0 1999
        · have HY := Lib.hid (HBAD.out (.inl i1))
          go_wp2_with (go_at_call 22; refine (In_any _ _ _ _).mono ?_; rintro e w' ⟨rfl, rfl⟩)
          go_ret
          exact ⟨ret_i HY.out.symm, H4.out.2⟩
        · cases i2 : inB rb 0 63
          · have HY := Lib.hid (HBAD.out (.inr (.inl ⟨i1, i2⟩)))
            go_wp2_with (go_at_call 22; refine (In_any _ _ _ _).mono ?_; rintro e w' ⟨rfl, rfl⟩)
            go_ret
            exact ⟨ret_i HY.out.symm, H4.out.2⟩
          · cases i3 : inB rc 0 1099511627776
            · have HY := Lib.hid (HBAD.out (.inr (.inr (.inl ⟨i1, i2, i3⟩))))
              go_wp2_with (go_at_call 22; refine (In_any _ _ _ _).mono ?_; rintro e w' ⟨rfl, rfl⟩)
              go_ret
              exact ⟨ret_i HY.out.symm, H4.out.2⟩
            · cases i4 : inB rd 0 1099511627776
              · have HY := Lib.hid (HBAD.out (.inr (.inr (.inr ⟨i1, i2, i3, i4⟩))))
                go_wp2_with (go_at_call 22; refine (In_any _ _ _ _).mono ?_; rintro e w' ⟨rfl, rfl⟩)
                go_ret
                exact ⟨ret_i HY.out.symm, H4.out.2⟩
              · have HO := Lib.hid (rE_ok (r := ⟨ra, rb, rc, rd, rf⟩) (by
                  simp only
                  have t1 := inB_iff.1 i1; have t2 := inB_iff.1 i2; have t3 := inB_iff.1 i3; have t4 := inB_iff.1 i4
                  omega))
                by_cases hdc : rd < rc
                · have HY : Hid (X = 8) := Lib.hid (by
                    have e : rE ⟨ra, rb, rc, rd, rf⟩ = 8 := by rw [HO.out, if_pos hdc]
                    rw [HX.out, HS.out.2 (by rw [e]; decide), e])
                  go_wp2_with (go_at_call 22; refine (In_any _ _ _ _).mono ?_; rintro e w' ⟨rfl, rfl⟩)
                  go_ret
                  exact ⟨ret_i HY.out.symm, H4.out.2⟩
                · have HY : Hid (rsE (rs.take (k + 1)) = 0) := Lib.hid (HS.out.1 (by rw [HO.out, if_neg hdc]))
                  go_wp2_with (go_at_call 22; refine (In_any _ _ _ _).mono ?_; rintro e w' ⟨rfl, rfl⟩)
                  go_roundw
                  case rel => exact ⟨k + 1, by omega, by go_num, HY.out, H4.out.2⟩
                  case measure => simp [intOf]; omega
      · have hkmi : ¬ (k : Int) < (n : Int) := by omega
        have HY : Hid (X = 0) := Lib.hid (by rw [HX.out, ← HZ.out, List.take_of_length_le (by have := HN.out; omega)])
        go_wp2_with fail
        go_ret
        exact ⟨ret_i HY.out.symm, HB.out⟩
end Go.Proofs.YtcdcfkgdgimmcaaGreatDoor
