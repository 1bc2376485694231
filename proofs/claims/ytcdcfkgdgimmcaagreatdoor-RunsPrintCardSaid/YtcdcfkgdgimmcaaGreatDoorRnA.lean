/- The error of runs, by the program and by the document. Conditions: what each theorem names. -/
import Derived.Test.YtcdcfkgdgimmcaaGreatDoorNtF
import Derived.Test.YtcdcfkgdgimmcaaGreatDoorBG
namespace Go.Proofs.YtcdcfkgdgimmcaaGreatDoor
open Go Go.RowKit
/-- The cells of a run. -/
def rnV (r : Ru) : List Value := [.int .i64 r.a, .int .i64 r.b, .int .i64 r.c, .int .i64 r.d, .bool r.f]
def RnAt (w : World) (g o : Nat) (r : Ru) : Prop := w.cell? ⟨g, o, none⟩ = some (.int .i64 r.a) ∧ w.cell? ⟨g, o + 1, none⟩ = some (.int .i64 r.b) ∧ w.cell? ⟨g, o + 2, none⟩ = some (.int .i64 r.c) ∧ w.cell? ⟨g, o + 3, none⟩ = some (.int .i64 r.d) ∧ w.cell? ⟨g, o + 4, none⟩ = some (.bool r.f)
theorem RnAt.past {w w' : World} {g o : Nat} {r : Ru} (h : RnAt w g o r) (hb : Below w.heap.size w w') : RnAt w' g o r := by
  have hl := cell_lt h.1
  obtain ⟨h0, h1, h2, h3, h4⟩ := h
  exact ⟨by rw [hb.cell (p := ⟨g, o, none⟩) hl]; exact h0, by rw [hb.cell (p := ⟨g, o + 1, none⟩) hl]; exact h1, by rw [hb.cell (p := ⟨g, o + 2, none⟩) hl]; exact h2, by rw [hb.cell (p := ⟨g, o + 3, none⟩) hl]; exact h3, by rw [hb.cell (p := ⟨g, o + 4, none⟩) hl]; exact h4⟩
/-- A slice of runs. -/
def RnsIn (w : World) (a : Option Addr) (rs : List Ru) : Prop := 0 < rs.length → ∃ b off, a = some ⟨b, off, none⟩ ∧ ∀ i, (h : i < rs.length) → RnAt w b (off + i * 5) rs[i]
theorem RnsIn.past {w w' : World} {a : Option Addr} {rs : List Ru} (h : RnsIn w a rs) (hb : Below w.heap.size w w') : RnsIn w' a rs := fun h0 => by
  obtain ⟨b, off, e, hc⟩ := h h0
  exact ⟨b, off, e, fun i hi => (hc i hi).past hb⟩
theorem rE_bad {r : Ru} (h : r.a < 0 ∨ 1999 < r.a ∨ r.b < 0 ∨ 63 < r.b ∨ r.c < 0 ∨ 1099511627776 < r.c ∨ r.d < 0 ∨ 1099511627776 < r.d) : rE r = 3 := by unfold rE; rw [if_pos h]
theorem rE_ok {r : Ru} (h : ¬ (r.a < 0 ∨ 1999 < r.a ∨ r.b < 0 ∨ 63 < r.b ∨ r.c < 0 ∨ 1099511627776 < r.c ∨ r.d < 0 ∨ 1099511627776 < r.d)) : rE r = if r.d < r.c then 8 else 0 := by unfold rE; rw [if_neg h]
theorem rn_ways (a b c d : Int) : a < 0 ∨ (0 ≤ a ∧ 1999 < a) ∨ (0 ≤ a ∧ a ≤ 1999 ∧ b < 0) ∨ (0 ≤ a ∧ a ≤ 1999 ∧ 0 ≤ b ∧ 63 < b) ∨ (0 ≤ a ∧ a ≤ 1999 ∧ 0 ≤ b ∧ b ≤ 63 ∧ c < 0) ∨ (0 ≤ a ∧ a ≤ 1999 ∧ 0 ≤ b ∧ b ≤ 63 ∧ 0 ≤ c ∧ 1099511627776 < c) ∨ (0 ≤ a ∧ a ≤ 1999 ∧ 0 ≤ b ∧ b ≤ 63 ∧ 0 ≤ c ∧ c ≤ 1099511627776 ∧ d < 0) ∨ (0 ≤ a ∧ a ≤ 1999 ∧ 0 ≤ b ∧ b ≤ 63 ∧ 0 ≤ c ∧ c ≤ 1099511627776 ∧ 0 ≤ d ∧ 1099511627776 < d) ∨ (0 ≤ a ∧ a ≤ 1999 ∧ 0 ≤ b ∧ b ≤ 63 ∧ 0 ≤ c ∧ c ≤ 1099511627776 ∧ 0 ≤ d ∧ d ≤ 1099511627776) := by omega
set_option maxRecDepth 100000 in
set_option maxHeartbeats 6400000 in
theorem checkRuns_any (a : Option Addr) (cap : Nat) (rs : List Ru) (w : World) (hn : rs.length ≤ 9223372036854775807) (hR : RnsIn w a rs) : Calls Tryz.prog 18 #[.slice a rs.length cap] w fun e w' => e = .returned (.int .i64 (runsE rs)) ∧ Below w.heap.size w w' := by
  obtain ⟨n, hnn⟩ : ∃ n, n = rs.length := ⟨_, rfl⟩
  have HN := Lib.hid hnn
  have HR := Lib.hid hR
  rw [← hnn] at hn ⊢
  clear hR hnn
  by_cases h2 : 200000 < n
  · have h2' : (200000 : Int) < (n : Int) := by omega
    have HE : Hid (runsE rs = 4) := Lib.hid (by unfold runsE; rw [if_pos (by have := HN.out; omega)])
    rw [HE.out]
    go_enter Tryz.func18, Tryz.ntmps18
    go_wp2_with fail
    go_ret
    exact ⟨rfl, by (repeat (first | exact Below.refl _ _ | assumption | (refine Below.setCell ?_ (by first | (simp; done) | (simp; omega) | omega) _) | (refine Below.drew ?_) | (refine below_drewN ?_ _) | (refine Below.alloc ?_ (by first | (simp; done) | (simp; omega) | omega) _) | (refine Below.trans ?_ (Below.mono (by assumption) (by first | (simp; done) | (simp; omega) | omega)))))⟩
  · have h2' : ¬ (200000 : Int) < (n : Int) := by omega
    have HE : Hid (runsE rs = rsE rs) := Lib.hid (by unfold runsE; rw [if_neg (by have := HN.out; omega)])
    rw [HE.out]
    obtain ⟨X, hX⟩ : ∃ X, X = rsE rs := ⟨_, rfl⟩
    rw [← hX]
    have HX := Lib.hid hX
    clear hX
    go_enter Tryz.func18, Tryz.ntmps18
    go_wp2_with fail
    go_loopw [10] (fun s10 wr => ∃ k : Nat, k ≤ n ∧ s10 = .int .i64 k ∧ rsE (rs.take k) = 0 ∧ Below w.heap.size w wr) (fun s10 _ => n - (intOf s10).toNat)
    case atStart => exact ⟨0, Nat.zero_le _, rfl, rfl, Below.refl _ _⟩
    case round =>
      obtain ⟨k, hk, rfl, hz, hB⟩ := hrel
      have HZ := Lib.hid hz; have HB := Lib.hid hB
      have hbs := hB.size
      clear hz hB
      by_cases hkm : k < n
      · have hkmi : (k : Int) < (n : Int) := by omega
        have hkl : k < rs.length := by have := HN.out; omega
        obtain ⟨b, off, rfl, hc⟩ := HR.out (by omega)
        have hw := ((hc k hkl).past HB.out)
        have HS := Lib.hid (rsE_at hkl HZ.out)
        obtain ⟨K, hK⟩ : ∃ K, K = rs[k] := ⟨_, rfl⟩
        rw [← hK] at hw HS
        obtain ⟨ra, rb, rc, rd, rf⟩ := K
        clear hK hc
        obtain ⟨c0, c1, c2, c3, c4⟩ := hw
        simp only at c0 c1 c2 c3 c4
        have l0 := cell_lt c0; simp only at l0
        go_upto_region 6 with fail
        refine wp_world (fun W4 hW4 => ?_)
        have H4 : Hid (Blk W4 wr.heap.size [.int .i64 ra, .int .i64 rb, .int .i64 rc, .int .i64 rd, .bool rf] ∧ Below w.heap.size w W4) := Lib.hid (by rw [hW4]; exact ⟨Blk.new _ _ _ _ rfl, Below.trans HB.out (Below.mono (show Below wr.heap.size wr _ by (repeat (first | exact Below.refl _ _ | assumption | (refine Below.setCell ?_ (by first | (simp; done) | (simp; omega) | omega) _) | (refine Below.drew ?_) | (refine below_drewN ?_ _) | (refine Below.alloc ?_ (by first | (simp; done) | (simp; omega) | omega) _) | (refine Below.trans ?_ (Below.mono (by assumption) (by first | (simp; done) | (simp; omega) | omega)))))) hbs)⟩)
        clear hW4 c0 c1 c2 c3 c4 l0
        have m0 := H4.out.1.c 0 _ rfl; have m1 := H4.out.1.c 1 _ rfl; have m2 := H4.out.1.c 2 _ rfl; have m3 := H4.out.1.c 3 _ rfl; have ml := H4.out.1.lt
        rcases rn_ways ra rb rc rd with g | ⟨g0, g⟩ | ⟨g0, g1, g⟩ | ⟨g0, g1, g2, g⟩ | ⟨g0, g1, g2, g3, g⟩ | ⟨g0, g1, g2, g3, g4, g⟩ | ⟨g0, g1, g2, g3, g4, g5, g⟩ | ⟨g0, g1, g2, g3, g4, g5, g6, g⟩ | ⟨g0, g1, g2, g3, g4, g5, g6, g7⟩
        case inr.inr.inr.inr.inr.inr.inr.inr =>
          have HO := Lib.hid (rE_ok (r := ⟨ra, rb, rc, rd, rf⟩) (by simp only; omega))
          by_cases hdc : rd < rc
          · have HY : Hid (X = 8) := Lib.hid (by
              have e : rE ⟨ra, rb, rc, rd, rf⟩ = 8 := by rw [HO.out, if_pos hdc]
              rw [HX.out, HS.out.2 (by rw [e]; decide), e])
            go_wp2_with fail
            go_ret
            exact ⟨ret_i HY.out.symm, H4.out.2⟩
          · have HY : Hid (rsE (rs.take (k + 1)) = 0) := Lib.hid (HS.out.1 (by rw [HO.out, if_neg hdc]))
            go_wp2_with fail
            go_roundw
            case rel => exact ⟨k + 1, by omega, by go_num, HY.out, H4.out.2⟩
            case measure => simp [intOf]; omega
        all_goals
          have HY : Hid (X = 3) := Lib.hid (by
            have e : rE ⟨ra, rb, rc, rd, rf⟩ = 3 := rE_bad (by simp only; omega)
            rw [HX.out, HS.out.2 (by rw [e]; decide), e])
          go_wp2_with fail
          go_ret
          exact ⟨ret_i HY.out.symm, H4.out.2⟩
      · have hkmi : ¬ (k : Int) < (n : Int) := by omega
        have HY : Hid (X = 0) := Lib.hid (by rw [HX.out, ← HZ.out, List.take_of_length_le (by have := HN.out; omega)])
        go_wp2_with fail
        go_ret
        exact ⟨ret_i HY.out.symm, HB.out⟩
end Go.Proofs.YtcdcfkgdgimmcaaGreatDoor
