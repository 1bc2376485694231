/- dyelaw2.LibrariesMatch: walked. Conditions: the library can be read; what nodes() needs. -/
import Derived.Test.YthlomgbchmhjiaaGreatDoorLbS
import Derived.Test.YthlomgbchmhjiaaGreatDoorLbId
import Derived.Test.YthlomgbchmhjiaaGreatDoorLbB
import Derived.Test.YthlomgbchmhjiaaGreatDoorQE
set_option linter.unusedSimpArgs false
set_option linter.unusedVariables false
namespace Go.Proofs.YthlomgbchmhjiaaGreatDoor
open Go Go.RowKit
set_option maxRecDepth 100000 in
set_option maxHeartbeats 3200000 in
theorem lb_walk (ag : Option Addr) (cg : Nat) (ac : Option Addr) (cc : Nat) (aw : Option Addr) (cw : Nat) (L : LibD) (FD : Nat → Nat → KeyD) (w : World) (hL : LibN w) (hF : LibFull w ag cg ac cc aw cw L FD) :
    Calls Tryz.prog 3 #[.agg #[.slice ag L.gn cg, .slice ac L.cn cc, .slice aw L.wn cw]] w fun e w' => e = .returned (.bool true) ∧ Below w.heap.size w w' := by
  have HG : Hid (∀ w', Below w.heap.size w w' → ∀ i j, i < L.gn → j < L.gl i → ∀ w'', Below w'.heap.size w' w'' → Calls Tryz.prog 14 #[gradeV (L.g i j)] w'' fun e w3 => e = .returned (.int .i64 (grE (L.g i j))) ∧ Below w''.heap.size w'' w3) := Lib.hid (fun w' hb i j hi hj w'' hb2 => CheckGrade_any (L.g i j) w'' (fun q hq => ((hF.gg i hi j hj q hq).past hb).past hb2))
  have HW : Hid (∀ w', Below w.heap.size w w' → ∀ i, i < L.wn → ∀ w'', Below w'.heap.size w' w'' → Calls Tryz.prog 15 #[.slice (L.wa i) (L.wl i) (L.wc i)] w'' fun e w3 => e = .returned (.int .i64 (weE (L.wl i) (FD i))) ∧ Below w''.heap.size w'' w3) := Lib.hid (fun w' hb i hi w'' hb2 => CheckFrames_any (L.wa i) (L.wl i) (L.wc i) (FD i) w'' (((hF.ww i hi).past hb).past hb2) (fun j hj => RowS.past (RowS.past (hF.wp i hi j hj) hb) hb2))
  have HCK : Hid (∀ w', Below w.heap.size w w' → Calls Tryz.prog 7 #[.agg #[.slice ag L.gn cg, .slice ac L.cn cc, .slice aw L.wn cw]] w' fun e w'' => e = .returned (.int .i64 (lbE L (fun i j => grE (L.g i j)) (fun i => weE (L.wl i) (FD i)))) ∧ Below w'.heap.size w' w'') := Lib.hid (fun w' hb => CheckLibrary_any ag ac aw cg cc cw L (fun i j => grE (L.g i j)) (fun i => weE (L.wl i) (FD i)) w' (hF.a.past hb) (HG.out w' hb) (HW.out w' hb))
  have HLE : Hid (∀ w', Below w.heap.size w w' → Calls Tryz.prog 8 #[.agg #[.slice ag L.gn cg, .slice ac L.cn cc, .slice aw L.wn cw]] w' fun e w'' => e = .returned (.int .i64 (lbE L (fun i j => grE (L.g i j)) (fun i => weE (L.wl i) (FD i)))) ∧ Below w'.heap.size w' w'') := Lib.hid (fun w' hb => libraryError_any ag ac aw cg cc cw L (fun i j => grE (L.g i j)) (fun i => weE (L.wl i) (FD i)) w' (hF.a.past hb) (HG.out w' hb) (HW.out w' hb))
  have HND : Hid (∀ w', Below w.heap.size w w' → Calls Tryz.prog 6 #[] w' fun e w'' => e = .returned (.bool true) ∧ Below w'.heap.size w' w'') := Lib.hid (fun w' hb => nodes_any w' (hL.past hb))
  obtain ⟨E, hE⟩ : ∃ E, E = lbE L (fun i j => grE (L.g i j)) (fun i => weE (L.wl i) (FD i)) := ⟨_, rfl⟩
  rw [← hE] at HCK HLE
  have HC := Lib.hid hF.a.c
  obtain ⟨gn, hgn⟩ : ∃ gn, gn = L.gn := ⟨_, rfl⟩
  obtain ⟨cn, hcn⟩ : ∃ cn, cn = L.cn := ⟨_, rfl⟩
  obtain ⟨wn, hwn⟩ : ∃ wn, wn = L.wn := ⟨_, rfl⟩
  have hc3 : cn ≤ cc := by rw [hcn]; exact hF.a.c.lc
  have hc4 : cc ≤ 9223372036854775807 := by have h2 := hF.a.c.lm; unfold maxLen at h2; omega
  rw [← hgn, ← hcn, ← hwn] at HCK HLE
  rw [← hgn, ← hcn, ← hwn]
  rw [← hcn] at HC
  clear hF hL HG HW hgn hcn hwn hE
  have hEE : (E == E) = true := by simp
  go_enter Tryz.func3, Tryz.ntmps3
  go_upto_region 1 with fail
  refine wp_world (fun W hW => ?_)
  have HWp : Blk W w.heap.size [.slice ag gn cg, .slice ac cn cc, .slice aw wn cw] ∧ Below w.heap.size w W := by rw [hW]; exact ⟨Blk.new _ _ _ _ rfl, by (repeat (first | exact Below.refl _ _ | assumption | (refine Below.setCell ?_ (by first | (simp; done) | (simp; omega) | omega) _) | (refine Below.drew ?_) | (refine below_drewN ?_ _) | (refine Below.alloc ?_ (by first | (simp; done) | (simp; omega) | omega) _) | (refine Below.trans ?_ (Below.mono (by assumption) (by first | (simp; done) | (simp; omega) | omega)))))⟩
  obtain ⟨pl, hpl⟩ : ∃ pl, pl = w.heap.size := ⟨_, rfl⟩
  have HWK : Hid (Blk W pl [.slice ag gn cg, .slice ac cn cc, .slice aw wn cw] ∧ Below w.heap.size w W) := Lib.hid (by rw [hpl]; exact HWp)
  rw [← hpl]
  clear hW HWp hpl
  have m1 := HWK.out.1.c 1 _ rfl; have ml := HWK.out.1.lt
  go_wp2_with fail
  clear m1 ml
  go_loopw [8] (fun s8 wr => ∃ i : Nat, i ≤ cn ∧ s8 = .int .i64 i ∧ Below W.heap.size W wr) (fun s8 _ => cn - (intOf s8).toNat)
  case atStart => exact ⟨0, by omega, rfl, Below.refl _ _⟩
  case round =>
    obtain ⟨i, hi, rfl, hq⟩ := hrel
    have HQ := Lib.hid hq
    have HQB := Lib.hid (HWK.out.2.trans (hq.mono HWK.out.2.size))
    have HK := Lib.hid (HWK.out.1.past hq)
    clear hq
    by_cases hic : i < cn
    · have hici : (i : Int) < (cn : Int) := by omega
      obtain ⟨b, off, rfl, hc⟩ := (HC.out.past HQB.out).get hic
      have c0 := hc 0 _ rfl; have c1 := hc 1 _ rfl; have c2 := hc 2 _ rfl; have c3 := hc 3 _ rfl
      rw [Nat.add_zero] at c0
      have cl := cell_lt c0; simp only at cl
      obtain ⟨s, hs⟩ : ∃ s, s = L.cs i := ⟨_, rfl⟩
      obtain ⟨lo, hlo⟩ : ∃ s, s = L.cl i := ⟨_, rfl⟩
      obtain ⟨hi', hhi⟩ : ∃ s, s = L.ch i := ⟨_, rfl⟩
      obtain ⟨ca, hca⟩ : ∃ s, s = L.ca i := ⟨_, rfl⟩
      obtain ⟨cv, hcv⟩ : ∃ s, s = L.cv i := ⟨_, rfl⟩
      obtain ⟨cx, hcx⟩ : ∃ s, s = L.cc i := ⟨_, rfl⟩
      rw [← hs] at c0; rw [← hlo] at c1; rw [← hhi] at c2; rw [← hca, ← hcv, ← hcx] at c3
      clear hc hs hlo hhi hca hcv hcx
      go_upto_region 4 with fail
      refine wp_world (fun WB hWB => ?_)
      have KBp : Blk WB wr.heap.size [.int .i64 s, .float .f32 lo, .float .f32 hi', .slice ca cv cx] ∧ Below wr.heap.size wr WB := by rw [hWB]; exact ⟨Blk.new _ _ _ _ rfl, by (repeat (first | exact Below.refl _ _ | assumption | (refine Below.setCell ?_ (by first | (simp; done) | (simp; omega) | omega) _) | (refine Below.drew ?_) | (refine below_drewN ?_ _) | (refine Below.alloc ?_ (by first | (simp; done) | (simp; omega) | omega) _) | (refine Below.trans ?_ (Below.mono (by assumption) (by first | (simp; done) | (simp; omega) | omega)))))⟩
      obtain ⟨pb, hpb⟩ : ∃ pb, pb = wr.heap.size := ⟨_, rfl⟩
      have KB : Hid (Blk WB pb [.int .i64 s, .float .f32 lo, .float .f32 hi', .slice ca cv cx]) := Lib.hid (by rw [hpb]; exact KBp.1)
      have HQ2 := Lib.hid (HQ.out.trans (KBp.2.mono HQ.out.size))
      rw [← hpb]
      clear hWB KBp hpb c0 c1 c2 c3 cl HK
      have d0 := KB.out.c 0 _ rfl; have d1 := KB.out.c 1 _ rfl; have d2 := KB.out.c 2 _ rfl; have d3 := KB.out.c 3 _ rfl; have dl := KB.out.lt
      have hne : (cubErr s lo hi' cv != cubErr s lo hi' cv) = false := by simp
      refine wp_region_loose 4 (fun _ _ u => u = .int .i64 (cubErr s lo hi' cv)) (by kernel_rfl) (by kernel_rfl) ?_
      simp only [List.take_succ_cons, List.take_zero, List.drop_succ_cons, List.drop_zero]
      iterate 1 (refine loose_wanted rfl (fun K hK => ?_); go_simp; refine hK _ ?_; clear hK K)
      refine loose_wanted rfl (fun K1 hK => ?_)
      go_simp
      refine ⟨fun p => (CuCheck_any _ _ _ _ _ _ p.w).mono ?_, ?_⟩
      · rintro e w' ⟨rfl, hb⟩
        exact ⟨_, rfl, by first | rfl | simp, p.h.trans (hb.mono p.h.size)⟩
      refine hK _ ?_
      clear hK K1
      iterate 1 (refine loose_wanted rfl (fun K hK => ?_); go_simp; refine hK _ ?_; clear hK K)
      refine loose_wanted rfl (fun K1 hK => ?_)
      go_simp
      refine ⟨fun p => (CubeError_any _ _ _ _ _ _ p.w).mono ?_, ?_⟩
      · rintro e w' ⟨rfl, hb⟩
        exact ⟨_, rfl, by first | rfl | simp, p.h.trans (hb.mono p.h.size)⟩
      refine hK _ ?_
      clear hK K1
      refine loose_nil (fun w5 hb5 => ?_)
      have HQ5 := Lib.hid (HQ2.out.trans (hb5.mono HQ2.out.size))
      clear hb5 d0 d1 d2 d3 dl
      go_wp2_with fail
      go_roundw
      case rel => exact ⟨i + 1, by omega, by go_num, HQ5.out⟩
      case measure => simp [intOf] <;> omega
    · have hici : ¬ (i : Int) < (cn : Int) := by omega
      go_upto_region 7 with fail
      have n0 := HK.out.c 0 _ rfl; have n1 := HK.out.c 1 _ rfl; have n2 := HK.out.c 2 _ rfl; have nl := HK.out.lt
      refine wp_region_loose 8 (fun f _ u => (f = 6 ∧ u = .bool true) ∨ (f = 7 ∧ u = .int .i64 E) ∨ (f = 8 ∧ u = .int .i64 E)) (by kernel_rfl) (by kernel_rfl) ?_
      simp only [List.take_succ_cons, List.take_zero, List.drop_succ_cons, List.drop_zero]
      refine loose_wanted rfl (fun K1 hK => ?_)
      go_simp
      refine ⟨fun p => (HND.out p.w (HQB.out.trans (p.h.mono HQB.out.size))).mono ?_, ?_⟩
      · rintro e w' ⟨rfl, hb⟩
        exact ⟨_, rfl, by first | rfl | simp, p.h.trans (hb.mono p.h.size)⟩
      refine hK _ ?_
      clear hK K1
      iterate 2 (refine loose_wanted rfl (fun K hK => ?_); go_simp; refine hK _ ?_; clear hK K)
      refine loose_wanted rfl (fun K1 hK => ?_)
      go_simp
      refine ⟨fun p => (HCK.out p.w (HQB.out.trans (p.h.mono HQB.out.size))).mono ?_, ?_⟩
      · rintro e w' ⟨rfl, hb⟩
        exact ⟨_, rfl, by first | rfl | simp, p.h.trans (hb.mono p.h.size)⟩
      refine hK _ ?_
      clear hK K1
      iterate 1 (refine loose_wanted rfl (fun K hK => ?_); go_simp; refine hK _ ?_; clear hK K)
      refine loose_wanted rfl (fun K1 hK => ?_)
      go_simp
      refine ⟨fun p => (HLE.out p.w (HQB.out.trans (p.h.mono HQB.out.size))).mono ?_, ?_⟩
      · rintro e w' ⟨rfl, hb⟩
        exact ⟨_, rfl, by first | rfl | simp, p.h.trans (hb.mono p.h.size)⟩
      refine hK _ ?_
      clear hK K1
      iterate 2 (refine loose_wanted rfl (fun K hK => ?_); go_simp; refine hK _ ?_; clear hK K)
      refine loose_nil (fun w5 hb5 => ?_)
      have HQ5 := Lib.hid (HQB.out.trans (hb5.mono HQB.out.size))
      clear hb5 n0 n1 n2 nl
      go_wp2_with fail
      go_ret
      exact ⟨rfl, HQ5.out⟩
end Go.Proofs.YthlomgbchmhjiaaGreatDoor
