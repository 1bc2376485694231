/- CubesApply: the statement's own closure. Conditions: the cube and the frame are right, the place within it. -/
import Derived.Test.YtkmjboffjhcoaaaCaD
import Derived.Test.YtkmjboffjhcoaaaCaE
namespace Go.Proofs.Ytkmjboffjhcoaaa
open Go Go.RowKit
/-- Where the pixel of a place stands. -/
theorem spot_inA {x y v h : Int} {i j : Nat} (r1 : 1 ≤ v) (hi : (i : Int) < v) (hj : (j : Int) < h) : 4 * ((y + (j : Int) - y) * v + (x + (i : Int)) - x) = ((4 * (v.toNat * j + i) : Nat) : Int) ∧ (((v.toNat * j + i : Nat) : Int) % v = i) ∧ (((v.toNat * j + i : Nat) : Int) / v = j) ∧ ((v.toNat * j + i : Nat) : Int) < v * h := by
  obtain ⟨V, rfl⟩ : ∃ V : Nat, v = V := ⟨v.toNat, by omega⟩
  obtain ⟨H, rfl⟩ : ∃ H : Nat, h = H := ⟨h.toNat, by omega⟩
  have e1 : y + (j : Int) - y = j := by omega
  have e2 : (j : Int) * (V : Int) = (V : Int) * j := Int.mul_comm _ _
  simp only [Int.toNat_natCast]
  refine ⟨?_, ?_, ?_, ?_⟩
  · rw [e1, e2]; simp only [Int.natCast_mul, Int.natCast_add]; generalize (V : Int) * (j : Int) = z; simp; omega
  · rw [Int.natCast_add, Int.natCast_mul, Int.mul_add_emod_self_left]; exact Int.emod_eq_of_lt (by omega) hi
  · rw [Int.natCast_add, Int.natCast_mul, Int.mul_add_ediv_left _ _ (by omega), Int.ediv_eq_zero_of_lt (by omega) hi, Int.add_zero]
  · have h1 : V * (j + 1) ≤ V * H := Nat.mul_le_mul_left V (by omega)
    have h2 : V * j + i < V * H := by rw [Nat.mul_add] at h1; omega
    have h3 := Int.ofNat_lt.2 h2
    rw [Int.natCast_mul V H] at h3
    exact h3
set_option maxRecDepth 100000 in
set_option maxHeartbeats 1600000 in
theorem ca_tetra (S lo hi bc offc nc capc : Nat) (fc : Nat → Nat) (x y v h : Int) (b off n cap : Nat) (fs : Nat → Nat) (ph pc pf : Nat) (i j : Nat) (w : World) (he : cubErr S lo hi nc = 0) (hc : Row w bc offc nc fc) (hr : regErr x y v h = 0) (hl : (n : Int) = 4 * v * h) (hcap : n ≤ cap) (hcb : cap ≤ 9223372036854775807)
    (hi' : (i : Int) < v) (hj : (j : Int) < h) (hcell : Row w b off n fs) (hH : w.cell? ⟨ph, 0, none⟩ = some (.int .i64 1)) (hC : Blk w pc (cubV S lo hi bc offc nc capc)) (hF : Blk w pf [.int .i64 x, .int .i64 y, .int .i64 v, .int .i64 h, .slice (some ⟨b, off, none⟩) n cap]) :
    Calls Try.prog 112 #[.int .i64 (x + i), .int .i64 (y + j), .pointer (some ⟨ph, 0, none⟩), .pointer (some ⟨pc, 0, none⟩), .pointer (some ⟨pf, 0, none⟩)] w fun e w' =>
      (∃ q : Nat → Nat, e = .returned (.agg #[.float .f32 (q 0), .float .f32 (q 1), .float .f32 (q 2), .float .f32 (q 3)]) ∧ q = apG tetF S lo hi fc fs (v.toNat * j + i)) ∧ Below w.heap.size w w' := by
  obtain ⟨hS, hS0, hnc, hpos, hnb⟩ := cub_ok_nat he
  obtain ⟨r1, -⟩ := regErr_ok hr
  obtain ⟨k1, k2, k3, k4⟩ := spot_inA (x := x) (y := y) (h := h) r1 hi' hj
  obtain ⟨K, hK⟩ : ∃ K, K = v.toNat * j + i := ⟨_, rfl⟩
  rw [← hK] at k1 k2 k3 k4 ⊢
  have hKn : 4 * K + 4 ≤ n := by rw [Int.mul_assoc] at hl; omega
  obtain ⟨p, hp⟩ : ∃ p, p = p4 (fs (4 * K)) (fs (4 * K + 1)) (fs (4 * K + 2)) (fs (4 * K + 3)) := ⟨_, rfl⟩
  obtain ⟨q, hq⟩ : ∃ q : Nat → Nat, q = tetF S lo hi fc p := ⟨_, rfl⟩
  have HQ := Lib.hid (show q = apG tetF S lo hi fc fs K by rw [hq, hp]; rfl)
  have C0 : w.cell? ⟨b, off + 4 * K, none⟩ = some (.float .f32 (p 0)) := by rw [hp]; exact hcell (4 * K) (by omega)
  have C1 : w.cell? ⟨b, off + 4 * K + 1, none⟩ = some (.float .f32 (p 1)) := by rw [hp]; exact hcell (4 * K + 1) (by omega)
  have C2 : w.cell? ⟨b, off + 4 * K + 2, none⟩ = some (.float .f32 (p 2)) := by rw [hp]; exact hcell (4 * K + 2) (by omega)
  have C3 : w.cell? ⟨b, off + 4 * K + 3, none⟩ = some (.float .f32 (p 3)) := by rw [hp]; exact hcell (4 * K + 3) (by omega)
  have hbw : b < w.heap.size := cell_lt C0
  have hbc : bc < w.heap.size := hc.lt (by omega)
  have HPA := Lib.hid (fun pw hb => PixelAt_in x y v h b off n cap (x + i) (y + j) (4 * K) (p 0) (p 1) (p 2) (p 3) pw hr hl (by omega) (by omega) k1 hKn hcap hcb ((hb.cell (p := ⟨b, off + 4 * K, none⟩) hbw).trans C0) ((hb.cell (p := ⟨b, off + 4 * K + 1, none⟩) hbw).trans C1) ((hb.cell (p := ⟨b, off + 4 * K + 2, none⟩) hbw).trans C2) ((hb.cell (p := ⟨b, off + 4 * K + 3, none⟩) hbw).trans C3) : ∀ pw, Below w.heap.size w pw → _)
  have HTO : Hid (∀ pw, Below w.heap.size w pw → Calls Try.prog 95 #[.agg #[.int .i64 S, .float .f32 lo, .float .f32 hi, .slice (some ⟨bc, offc, none⟩) nc capc], .agg #[.float .f32 (p 0), .float .f32 (p 1), .float .f32 (p 2), .float .f32 (p 3)]] pw fun e w' => e = .returned (.agg #[.float .f32 (q 0), .float .f32 (q 1), .float .f32 (q 2), .float .f32 (q 3)]) ∧ Below pw.heap.size pw w') := fun pw hb => by rw [hq]; exact TetraOf_any S lo hi bc offc nc capc fc p pw ⟨hS0, hS⟩ hnc (hc.below hb hbc)
  have g0 := hC.c 0 _ rfl; have g1 := hC.c 1 _ rfl; have g2 := hC.c 2 _ rfl; have g3 := hC.c 3 _ rfl
  have f0 := hF.c 0 _ rfl; have f1 := hF.c 1 _ rfl; have f2 := hF.c 2 _ rfl; have f3 := hF.c 3 _ rfl; have f4 := hF.c 4 _ rfl
  have lv := hC.lt; have lf := hF.lt; have lh := cell_lt hH; simp only at lh
  have HV := Lib.hid hC; have HF := Lib.hid hF; have HH := Lib.hid hH
  clear hC hF hH hr hl hcap hcb hcell hc he hS hS0 hnc hpos hnb hp hq C0 C1 C2 C3 k1 k2 k3 k4 hK r1 hi' hj hKn hbw hbc g0 g1 g2 g3 f0 f1 f2 f3 f4
  go_enter Try.func112, Try.ntmps112
  go_upto_region 1 with fail
  refine wp_world (fun W hW => ?_)
  have B0 : Below w.heap.size w W := by rw [hW]; (repeat (first | exact Below.refl _ _ | assumption | (refine Below.setCell ?_ (by first | (simp; done) | (simp; omega) | omega) _) | (refine Below.drew ?_) | (refine below_drewN ?_ _) | (refine Below.alloc ?_ (by first | (simp; done) | (simp; omega) | omega) _) | (refine Below.trans ?_ (Below.mono (by assumption) (by first | (simp; done) | (simp; omega) | omega)))))
  have R0 : Blk W w.heap.size [.float .f32 0, .float .f32 0, .float .f32 0, .float .f32 0] := by rw [hW]; exact Blk.new _ _ _ _ rfl
  have VV := HV.out.past B0; have FF := HF.out.past B0
  have h0 := (B0.cell (p := ⟨ph, 0, none⟩) lh).trans HH.out
  have g0 := VV.c 0 _ rfl; have g1 := VV.c 1 _ rfl; have g2 := VV.c 2 _ rfl; have g3 := VV.c 3 _ rfl
  have f0 := FF.c 0 _ rfl; have f1 := FF.c 1 _ rfl; have f2 := FF.c 2 _ rfl; have f3 := FF.c 3 _ rfl; have f4 := FF.c 4 _ rfl
  have l1 := VV.lt; have l2 := FF.lt; have l3 := cell_lt h0; simp only at l3
  have R := Lib.hid R0; have B := Lib.hid B0
  clear hW R0 B0 VV FF lv lf lh
  go_wp2_with fail
  refine wp_region_loose 6 (fun f _ u => (f = 65 ∧ u = .agg #[.float .f32 (p 0), .float .f32 (p 1), .float .f32 (p 2), .float .f32 (p 3)]) ∨ (f = 95 ∧ u = .agg #[.float .f32 (q 0), .float .f32 (q 1), .float .f32 (q 2), .float .f32 (q 3)])) (by kernel_rfl) (by kernel_rfl) ?_
  simp only [List.take_succ_cons, List.take_zero, List.drop_succ_cons, List.drop_zero]
  iterate 4 (refine loose_wanted rfl (fun K hK => ?_); go_simp; refine hK _ ?_; clear hK K)
  refine loose_wanted rfl (fun K1 hK => ?_)
  go_simp
  refine ⟨fun p => (HPA.out p.w (B.out.trans (p.h.mono B.out.size))).mono ?_, ?_⟩
  · rintro e w' ⟨rfl, hb⟩
    exact ⟨_, rfl, by first | rfl | simp, p.h.trans (hb.mono p.h.size)⟩
  refine hK _ ?_
  clear hK K1
  refine loose_wanted rfl (fun K1 hK => ?_)
  go_simp
  refine ⟨fun p => (HTO.out p.w (B.out.trans (p.h.mono B.out.size))).mono ?_, ?_⟩
  · rintro e w' ⟨rfl, hb⟩
    exact ⟨_, rfl, by first | rfl | simp, p.h.trans (hb.mono p.h.size)⟩
  refine hK _ ?_
  clear hK K1
  refine loose_nil (fun w5 hb5 => ?_)
  have R5 := R.out.past hb5
  have B5 := B.out.trans (hb5.mono B.out.size)
  clear hb5 g0 g1 g2 g3 f0 f1 f2 f3 f4 h0
  have d0 := R5.c 0 _ rfl; have d1 := R5.c 1 _ rfl; have d2 := R5.c 2 _ rfl; have d3 := R5.c 3 _ rfl; have df := R5.f
  have dl := R5.lt
  clear R5
  go_wp2_with fail
  refine bodyPost_ret (v := .agg #[.float .f32 (q 0), .float .f32 (q 1), .float .f32 (q 2), .float .f32 (q 3)]) (by simp [results, Try.results112, go_sem, d0, d1, d2, d3]) rfl ⟨⟨q, rfl, HQ.out⟩, ?_⟩
  exact (((B5.setCell (by first | (simp; done) | (simp; omega) | omega) _).setCell (by first | (simp; done) | (simp; omega) | omega) _).setCell (by first | (simp; done) | (simp; omega) | omega) _).setCell (by first | (simp; done) | (simp; omega) | omega) _
set_option maxRecDepth 100000 in
set_option maxHeartbeats 1600000 in
theorem ca_linear (S lo hi bc offc nc capc : Nat) (fc : Nat → Nat) (x y v h : Int) (b off n cap : Nat) (fs : Nat → Nat) (ph pc pf : Nat) (i j : Nat) (w : World) (he : cubErr S lo hi nc = 0) (hc : Row w bc offc nc fc) (hr : regErr x y v h = 0) (hl : (n : Int) = 4 * v * h) (hcap : n ≤ cap) (hcb : cap ≤ 9223372036854775807)
    (hi' : (i : Int) < v) (hj : (j : Int) < h) (hcell : Row w b off n fs) (hH : w.cell? ⟨ph, 0, none⟩ = some (.int .i64 2)) (hC : Blk w pc (cubV S lo hi bc offc nc capc)) (hF : Blk w pf [.int .i64 x, .int .i64 y, .int .i64 v, .int .i64 h, .slice (some ⟨b, off, none⟩) n cap]) :
    Calls Try.prog 112 #[.int .i64 (x + i), .int .i64 (y + j), .pointer (some ⟨ph, 0, none⟩), .pointer (some ⟨pc, 0, none⟩), .pointer (some ⟨pf, 0, none⟩)] w fun e w' =>
      (∃ q : Nat → Nat, e = .returned (.agg #[.float .f32 (q 0), .float .f32 (q 1), .float .f32 (q 2), .float .f32 (q 3)]) ∧ q = apG linF S lo hi fc fs (v.toNat * j + i)) ∧ Below w.heap.size w w' := by
  obtain ⟨hS, hS0, hnc, hpos, hnb⟩ := cub_ok_nat he
  obtain ⟨r1, -⟩ := regErr_ok hr
  obtain ⟨k1, k2, k3, k4⟩ := spot_inA (x := x) (y := y) (h := h) r1 hi' hj
  obtain ⟨K, hK⟩ : ∃ K, K = v.toNat * j + i := ⟨_, rfl⟩
  rw [← hK] at k1 k2 k3 k4 ⊢
  have hKn : 4 * K + 4 ≤ n := by rw [Int.mul_assoc] at hl; omega
  obtain ⟨p, hp⟩ : ∃ p, p = p4 (fs (4 * K)) (fs (4 * K + 1)) (fs (4 * K + 2)) (fs (4 * K + 3)) := ⟨_, rfl⟩
  obtain ⟨q, hq⟩ : ∃ q : Nat → Nat, q = linF S lo hi fc p := ⟨_, rfl⟩
  have HQ := Lib.hid (show q = apG linF S lo hi fc fs K by rw [hq, hp]; rfl)
  have C0 : w.cell? ⟨b, off + 4 * K, none⟩ = some (.float .f32 (p 0)) := by rw [hp]; exact hcell (4 * K) (by omega)
  have C1 : w.cell? ⟨b, off + 4 * K + 1, none⟩ = some (.float .f32 (p 1)) := by rw [hp]; exact hcell (4 * K + 1) (by omega)
  have C2 : w.cell? ⟨b, off + 4 * K + 2, none⟩ = some (.float .f32 (p 2)) := by rw [hp]; exact hcell (4 * K + 2) (by omega)
  have C3 : w.cell? ⟨b, off + 4 * K + 3, none⟩ = some (.float .f32 (p 3)) := by rw [hp]; exact hcell (4 * K + 3) (by omega)
  have hbw : b < w.heap.size := cell_lt C0
  have hbc : bc < w.heap.size := hc.lt (by omega)
  have HPA := Lib.hid (fun pw hb => PixelAt_in x y v h b off n cap (x + i) (y + j) (4 * K) (p 0) (p 1) (p 2) (p 3) pw hr hl (by omega) (by omega) k1 hKn hcap hcb ((hb.cell (p := ⟨b, off + 4 * K, none⟩) hbw).trans C0) ((hb.cell (p := ⟨b, off + 4 * K + 1, none⟩) hbw).trans C1) ((hb.cell (p := ⟨b, off + 4 * K + 2, none⟩) hbw).trans C2) ((hb.cell (p := ⟨b, off + 4 * K + 3, none⟩) hbw).trans C3) : ∀ pw, Below w.heap.size w pw → _)
  have HTO : Hid (∀ pw, Below w.heap.size w pw → Calls Try.prog 96 #[.agg #[.int .i64 S, .float .f32 lo, .float .f32 hi, .slice (some ⟨bc, offc, none⟩) nc capc], .agg #[.float .f32 (p 0), .float .f32 (p 1), .float .f32 (p 2), .float .f32 (p 3)]] pw fun e w' => e = .returned (.agg #[.float .f32 (q 0), .float .f32 (q 1), .float .f32 (q 2), .float .f32 (q 3)]) ∧ Below pw.heap.size pw w') := fun pw hb => by rw [hq]; exact LinearOf_any S lo hi bc offc nc capc fc p pw ⟨hS0, hS⟩ hnc (hc.below hb hbc)
  have g0 := hC.c 0 _ rfl; have g1 := hC.c 1 _ rfl; have g2 := hC.c 2 _ rfl; have g3 := hC.c 3 _ rfl
  have f0 := hF.c 0 _ rfl; have f1 := hF.c 1 _ rfl; have f2 := hF.c 2 _ rfl; have f3 := hF.c 3 _ rfl; have f4 := hF.c 4 _ rfl
  have lv := hC.lt; have lf := hF.lt; have lh := cell_lt hH; simp only at lh
  have HV := Lib.hid hC; have HF := Lib.hid hF; have HH := Lib.hid hH
  clear hC hF hH hr hl hcap hcb hcell hc he hS hS0 hnc hpos hnb hp hq C0 C1 C2 C3 k1 k2 k3 k4 hK r1 hi' hj hKn hbw hbc g0 g1 g2 g3 f0 f1 f2 f3 f4
  go_enter Try.func112, Try.ntmps112
  go_upto_region 1 with fail
  refine wp_world (fun W hW => ?_)
  have B0 : Below w.heap.size w W := by rw [hW]; (repeat (first | exact Below.refl _ _ | assumption | (refine Below.setCell ?_ (by first | (simp; done) | (simp; omega) | omega) _) | (refine Below.drew ?_) | (refine below_drewN ?_ _) | (refine Below.alloc ?_ (by first | (simp; done) | (simp; omega) | omega) _) | (refine Below.trans ?_ (Below.mono (by assumption) (by first | (simp; done) | (simp; omega) | omega)))))
  have R0 : Blk W w.heap.size [.float .f32 0, .float .f32 0, .float .f32 0, .float .f32 0] := by rw [hW]; exact Blk.new _ _ _ _ rfl
  have VV := HV.out.past B0; have FF := HF.out.past B0
  have h0 := (B0.cell (p := ⟨ph, 0, none⟩) lh).trans HH.out
  have g0 := VV.c 0 _ rfl; have g1 := VV.c 1 _ rfl; have g2 := VV.c 2 _ rfl; have g3 := VV.c 3 _ rfl
  have f0 := FF.c 0 _ rfl; have f1 := FF.c 1 _ rfl; have f2 := FF.c 2 _ rfl; have f3 := FF.c 3 _ rfl; have f4 := FF.c 4 _ rfl
  have l1 := VV.lt; have l2 := FF.lt; have l3 := cell_lt h0; simp only at l3
  have R := Lib.hid R0; have B := Lib.hid B0
  clear hW R0 B0 VV FF lv lf lh
  go_wp2_with fail
  refine wp_region_loose 6 (fun f _ u => (f = 65 ∧ u = .agg #[.float .f32 (p 0), .float .f32 (p 1), .float .f32 (p 2), .float .f32 (p 3)]) ∨ (f = 96 ∧ u = .agg #[.float .f32 (q 0), .float .f32 (q 1), .float .f32 (q 2), .float .f32 (q 3)])) (by kernel_rfl) (by kernel_rfl) ?_
  simp only [List.take_succ_cons, List.take_zero, List.drop_succ_cons, List.drop_zero]
  iterate 4 (refine loose_wanted rfl (fun K hK => ?_); go_simp; refine hK _ ?_; clear hK K)
  refine loose_wanted rfl (fun K1 hK => ?_)
  go_simp
  refine ⟨fun p => (HPA.out p.w (B.out.trans (p.h.mono B.out.size))).mono ?_, ?_⟩
  · rintro e w' ⟨rfl, hb⟩
    exact ⟨_, rfl, by first | rfl | simp, p.h.trans (hb.mono p.h.size)⟩
  refine hK _ ?_
  clear hK K1
  refine loose_wanted rfl (fun K1 hK => ?_)
  go_simp
  refine ⟨fun p => (HTO.out p.w (B.out.trans (p.h.mono B.out.size))).mono ?_, ?_⟩
  · rintro e w' ⟨rfl, hb⟩
    exact ⟨_, rfl, by first | rfl | simp, p.h.trans (hb.mono p.h.size)⟩
  refine hK _ ?_
  clear hK K1
  refine loose_nil (fun w5 hb5 => ?_)
  have R5 := R.out.past hb5
  have B5 := B.out.trans (hb5.mono B.out.size)
  clear hb5 g0 g1 g2 g3 f0 f1 f2 f3 f4 h0
  have d0 := R5.c 0 _ rfl; have d1 := R5.c 1 _ rfl; have d2 := R5.c 2 _ rfl; have d3 := R5.c 3 _ rfl; have df := R5.f
  have dl := R5.lt
  clear R5
  go_wp2_with fail
  refine bodyPost_ret (v := .agg #[.float .f32 (q 0), .float .f32 (q 1), .float .f32 (q 2), .float .f32 (q 3)]) (by simp [results, Try.results112, go_sem, d0, d1, d2, d3]) rfl ⟨⟨q, rfl, HQ.out⟩, ?_⟩
  exact (((B5.setCell (by first | (simp; done) | (simp; omega) | omega) _).setCell (by first | (simp; done) | (simp; omega) | omega) _).setCell (by first | (simp; done) | (simp; omega) | omega) _).setCell (by first | (simp; done) | (simp; omega) | omega) _
end Go.Proofs.Ytkmjboffjhcoaaa
