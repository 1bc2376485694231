/- dyelaw2.SimulationsMatch returns true for every input. No condition. -/
import Derived.Test.YtkadinjhfldokaaSnC
import Derived.Test.YtkadinjhfldokaaSX
import Derived.Test.YtkadinjhfldokaaFZ
import Derived.Test.YtkadinjhfldokaaMcB
namespace Go.Proofs.Ytkadinjhfldokaa
open Go Go.RowKit
theorem eq_out {D : SimD} (g : GoodD D) {lo lo' : Nat} {w w' : World} {rv rv' : Value} (h : SimOut D lo w rv) (h' : DocOut D lo' w' rv') (hB : Below w.heap.size w w') :
    Calls Try.prog 14 #[rv, rv'] w' fun e w'' => e = .returned (.bool true) ∧ Below w'.heap.size w' w'' := by
  rcases out_eq g h h' with ⟨a, c, a', c', rfl, rfl⟩ | ⟨k, b, c, b', c', q, q', rfl, rfl, k1, k2, k3, k4, k5, k6⟩
  · exact EqVr_nil a a' c c' w'
  · exact EqVr_yes b b' k c c' q q' w' k1 k2 k3 (k4.block hB.size (hB.block b k4.lt)) k5 k6
section
variable {aw : Option Addr} {cw : Nat} {am : Option Addr} {cm : Nat} {D : SimD}
set_option maxRecDepth 100000 in
set_option maxHeartbeats 6400000 in
theorem sim_err (w : World) (E : Int) (hE : E ≠ 0) (hW : IsWorks w aw D.nw cw D.W) (hM : IsMachines w am D.nm cm D.M) (h : Calls Try.prog 5 #[.slice aw D.nw cw, .slice am D.nm cm, .int .i64 D.tr] w fun e w' => e = .returned (.tuple #[.slice none 0 0, .int .i64 E]) ∧ Below w.heap.size w w')
    (hF : firstE (wkErr D.nw D.W) (firstE (mcErr D.nm D.M) (whenE (!inB D.tr 1 10) 3)) = E) :
    Calls Try.prog 3 #[.slice aw D.nw cw, .slice am D.nm cm, .int .i64 D.tr] w fun e w' => e = .returned (.bool true) ∧ Below w.heap.size w w' := by
  have HS := Lib.hid h
  have hb : (E != 0) = true := by simpa using hE
  have HCW := Lib.hid (fun (wy : World) (hy : Below w.heap.size w wy) => CheckWork_any aw D.nw cw D.W wy (hW.below hy))
  have HEW := Lib.hid (fun (wy : World) (hy : Below w.heap.size w wy) => workError_any aw D.nw cw D.W wy (hW.below hy))
  have HCM := Lib.hid (fun (wy : World) (hy : Below w.heap.size w wy) => CheckMachines_any am D.nm cm D.M wy (hM.below hy))
  have HEM := Lib.hid (fun (wy : World) (hy : Below w.heap.size w wy) => machinesError_any am D.nm cm D.M wy (hM.below hy))
  have HF := Lib.hid hF
  generalize wkErr D.nw D.W = A at *
  generalize mcErr D.nm D.M = B at *
  clear h hE hW hM hF
  go_enter Try.func3, Try.ntmps3
  go_upto_region 6 with (first | (go_at_call 5; refine (HS.out).mono ?_; rintro e w1 ⟨rfl, hB⟩; have HB1 := Lib.hid hB; clear hB) | (go_at_call 6; refine (HEW.out _ HB1.out).mono ?_; rintro e w2 ⟨rfl, hB⟩; have HB2 := Lib.hid (HB1.out.trans (hB.mono HB1.out.size)); have HC2 := Lib.hid hB; clear hB) | (go_at_call 7; refine (HEM.out _ HB2.out).mono ?_; rintro e w3 ⟨rfl, hB⟩; have HB3 := Lib.hid (HB2.out.trans (hB.mono HB2.out.size)); have HC3 := Lib.hid (HC2.out.trans (hB.mono HC2.out.size)); clear hB) | (go_at_call 8; refine (farms_any _).mono ?_; rintro e w4 ⟨rfl, hB⟩; have HB4 := Lib.hid (HB3.out.trans (hB.mono HB3.out.size)); have HC4 := Lib.hid (HC3.out.trans (hB.mono HC3.out.size)); clear hB) | (go_at_call 9; refine (HCW.out _ HB4.out).mono ?_; rintro e w5 ⟨rfl, hB⟩; have HB5 := Lib.hid (HB4.out.trans (hB.mono HB4.out.size)); have HC5 := Lib.hid (HC4.out.trans (hB.mono HC4.out.size)); clear hB) | (go_at_call 10; refine (HCM.out _ HB5.out).mono ?_; rintro e w6 ⟨rfl, hB⟩; have HB6 := Lib.hid (HB5.out.trans (hB.mono HB5.out.size)); have HC6 := Lib.hid (HC5.out.trans (hB.mono HC5.out.size)); clear hB) | (go_at_call 13; refine (In_any _ _ _ _).mono ?_; rintro e w' ⟨rfl, rfl⟩) | (go_at_call 12; refine (When_any _ _ _).mono ?_; rintro e w' ⟨rfl, rfl⟩) | (go_at_call 11; refine (First3_new _ _ _ _ _ _ (heap_new _ _ _ (by simp))).mono ?_; rintro e w' ⟨rfl, rfl⟩))
  rw [HF.out]
  go_wp2_with fail
  go_ret
  have B6 := HB6.out
  have hs6 := B6.size
  exact ⟨rfl, B6.alloc hs6 _⟩
set_option maxRecDepth 100000 in
set_option maxHeartbeats 6400000 in
theorem sim_yes (w : World) (hW : IsWorks w aw D.nw cw D.W) (hM : IsMachines w am D.nm cm D.M) (g : GoodD D) :
    Calls Try.prog 3 #[.slice aw D.nw cw, .slice am D.nm cm, .int .i64 D.tr] w fun e w' => e = .returned (.bool true) ∧ Below w.heap.size w w' := by
  have HS := Lib.hid (Simulate_yes w hW hM g)
  have HG := Lib.hid g
  have HCW := Lib.hid (fun (wy : World) (hy : Below w.heap.size w wy) => CheckWork_any aw D.nw cw D.W wy (hW.below hy))
  have HEW := Lib.hid (fun (wy : World) (hy : Below w.heap.size w wy) => workError_any aw D.nw cw D.W wy (hW.below hy))
  have HCM := Lib.hid (fun (wy : World) (hy : Below w.heap.size w wy) => CheckMachines_any am D.nm cm D.M wy (hM.below hy))
  have HEM := Lib.hid (fun (wy : World) (hy : Below w.heap.size w wy) => machinesError_any am D.nm cm D.M wy (hM.below hy))
  have HSD := Lib.hid (fun (wy : World) (hy : Below w.heap.size w wy) => simulated_any wy (hW.below hy) (hM.below hy) g)
  rw [g.w] at HCW HEW
  rw [g.m] at HCM HEM
  have hin : inB D.tr 1 10 = true := by have := g.t; unfold inB; simp; omega
  have hn1 : D.nw ≤ 2000 := g.work.1
  clear hW hM g
  go_enter Try.func3, Try.ntmps3
  go_wp2_with fail
  refine (HS.out).mono ?_
  rintro e w1 ⟨⟨rv, rfl, hO⟩, hB⟩
  have HB1 := Lib.hid hB; have HO := Lib.hid hO
  clear hB hO
  go_upto_region 8 with (first | (go_at_call 6; refine (HEW.out _ HB1.out).mono ?_; rintro e w2 ⟨rfl, hB⟩; have HB2 := Lib.hid (HB1.out.trans (hB.mono HB1.out.size)); have HC2 := Lib.hid hB; clear hB) | (go_at_call 7; refine (HEM.out _ HB2.out).mono ?_; rintro e w3 ⟨rfl, hB⟩; have HB3 := Lib.hid (HB2.out.trans (hB.mono HB2.out.size)); have HC3 := Lib.hid (HC2.out.trans (hB.mono HC2.out.size)); clear hB) | (go_at_call 8; refine (farms_any _).mono ?_; rintro e w4 ⟨rfl, hB⟩; have HB4 := Lib.hid (HB3.out.trans (hB.mono HB3.out.size)); have HC4 := Lib.hid (HC3.out.trans (hB.mono HC3.out.size)); clear hB) | (go_at_call 9; refine (HCW.out _ HB4.out).mono ?_; rintro e w5 ⟨rfl, hB⟩; have HB5 := Lib.hid (HB4.out.trans (hB.mono HB4.out.size)); have HC5 := Lib.hid (HC4.out.trans (hB.mono HC4.out.size)); clear hB) | (go_at_call 10; refine (HCM.out _ HB5.out).mono ?_; rintro e w6 ⟨rfl, hB⟩; have HB6 := Lib.hid (HB5.out.trans (hB.mono HB5.out.size)); have HC6 := Lib.hid (HC5.out.trans (hB.mono HC5.out.size)); clear hB) | (go_at_call 13; refine (In_any _ _ _ _).mono ?_; rintro e w' ⟨rfl, rfl⟩) | (go_at_call 12; refine (When_any _ _ _).mono ?_; rintro e w' ⟨rfl, rfl⟩) | (go_at_call 11; refine (First3_new _ _ _ _ _ _ (heap_new _ _ _ (by simp))).mono ?_; rintro e w' ⟨rfl, rfl⟩))
  refine wp_world (fun W hW => ?_)
  have HBW := Lib.hid (show Below w1.heap.size w1 W by rw [hW]; exact HC6.out.alloc HC6.out.size _)
  clear hW
  by_cases h60 : D.nw ≤ 60
  · have h60i : ¬ (60 : Int) < (D.nw : Int) := by omega
    go_upto_region 9 with (first | (go_at_call 15; refine (HSD.out _ (HB1.out.trans (HBW.out.mono HB1.out.size))).mono ?_; rintro e w7 ⟨⟨rv2, rfl, hO2⟩, hB7⟩; have HB7 := Lib.hid hB7; have HEQ := Lib.hid (eq_out HG.out HO.out hO2 (HBW.out.trans (HB7.out.mono HBW.out.size))); clear hB7 hO2) | (go_at_call 14; refine (HEQ.out).mono ?_; rintro e w8 ⟨rfl, hB8⟩; have HB8 := Lib.hid hB8; clear hB8))
    go_ret
    exact ⟨rfl, HB1.out.trans ((HBW.out.trans ((HB7.out.trans (HB8.out.mono HB7.out.size)).mono HBW.out.size)).mono HB1.out.size)⟩
  · have h60i : (60 : Int) < (D.nw : Int) := by omega
    go_wp2_with fail
    go_ret
    exact ⟨rfl, HB1.out.trans (HBW.out.mono HB1.out.size)⟩
end
theorem si_walk (a : Option Addr) (n c : Nat) (ks : Nat → Wk) (a2 : Option Addr) (m c2 : Nat) (ms : Nat → Mc) (t : Int) (w : World) (h : IsWorks w a n c ks) (h2 : IsMachines w a2 m c2 ms) (_ht : -9223372036854775808 ≤ t ∧ t ≤ 9223372036854775807) :
    Calls Try.prog 3 #[.slice a n c, .slice a2 m c2, .int .i64 t] w fun e w' => e = .returned (.bool true) ∧ Below w.heap.size w w' := by
  by_cases hE : wkErr n ks = 0
  · by_cases hF : mcErr m ms = 0
    · by_cases ht : t < 1 ∨ 10 < t
      · exact sim_err (D := ⟨n, ks, m, ms, t⟩) w 3 (by decide) h h2 (Simulate_no3 (D := ⟨n, ks, m, ms, t⟩) t w h h2 hE hF ht) (by
          show firstE (wkErr n ks) (firstE (mcErr m ms) (whenE (!inB t 1 10) 3)) = 3
          rw [hE, hF]
          have : inB t 1 10 = false := by unfold inB; simp; omega
          rw [this]; rfl)
      · exact sim_yes (D := ⟨n, ks, m, ms, t⟩) w h h2 ⟨hE, hF, by show 1 ≤ t ∧ t ≤ 10; omega⟩
    · exact sim_err (D := ⟨n, ks, m, ms, t⟩) w _ hF h h2 (Simulate_no2 (D := ⟨n, ks, m, ms, t⟩) (.int .i64 t) w h h2 hE hF) (by
        show firstE (wkErr n ks) (firstE (mcErr m ms) _) = mcErr m ms
        rw [hE]
        unfold firstE
        rw [if_pos rfl, if_neg hF])
  · exact sim_err (D := ⟨n, ks, m, ms, t⟩) w _ hE h h2 (Simulate_no1 (D := ⟨n, ks, m, ms, t⟩) (.int .i64 t) w h hE) (by
      show firstE (wkErr n ks) _ = wkErr n ks
      unfold firstE
      rw [if_neg hE])
end Go.Proofs.Ytkadinjhfldokaa
