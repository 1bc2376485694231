/- VignettesMatch: the statement's own closure. Conditions: the frame is right, the place within it. -/
import Derived.Test.YtalgepfammpmbaaVgF
namespace Go.Proofs.Ytalgepfammpmbaa
open Go.RowKit
set_option maxHeartbeats 800000 in
theorem few_anyV (x y v h : Int) (a : Option Addr) (n cap : Nat) (w : World) : Calls Try.prog 24 #[.agg #[.int .i64 x, .int .i64 y, .int .i64 v, .int .i64 h, .slice a n cap]] w fun e w' => e = .returned (.bool (decide ((n : Int) ≤ 400))) ∧ Below w.heap.size w w' := by
  go_enter Try.func24, Try.ntmps24
  go_wp2
  go_ret
  refine ⟨rfl, ?_⟩
  (repeat (first | exact Below.refl _ _ | assumption | (refine Below.setCell ?_ (by first | (simp; done) | (simp; omega) | omega) _) | (refine Below.drew ?_) | (refine below_drewN ?_ _) | (refine Below.alloc ?_ (by first | (simp; done) | (simp; omega) | omega) _) | (refine Below.trans ?_ (Below.mono (by assumption) (by first | (simp; done) | (simp; omega) | omega)))))
/-- Where the pixel of a place stands. -/
theorem spot_inV {x y v h : Int} {i j : Nat} (r1 : 1 ≤ v) (hi : (i : Int) < v) (hj : (j : Int) < h) : 4 * ((y + (j : Int) - y) * v + (x + (i : Int)) - x) = ((4 * (v.toNat * j + i) : Nat) : Int) ∧ (((v.toNat * j + i : Nat) : Int) % v = i) ∧ (((v.toNat * j + i : Nat) : Int) / v = j) ∧ ((v.toNat * j + i : Nat) : Int) < v * h := by
  obtain ⟨V, rfl⟩ : ∃ V : Nat, v = V := ⟨v.toNat, by omega⟩
  obtain ⟨H, rfl⟩ : ∃ H : Nat, h = H := ⟨h.toNat, by omega⟩
  have e1 : y + (j : Int) - y = j := by omega
  have e2 : (j : Int) * (V : Int) = (V : Int) * j := Int.mul_comm _ _
  simp only [Int.toNat_natCast]
  refine ⟨?_, ?_, ?_, ?_⟩
  · rw [e1, e2]; simp only [Int.natCast_mul, Int.natCast_add]; generalize (V : Int) * (j : Int) = z; simp; omega
  · rw [Int.natCast_add, Int.natCast_mul, Int.mul_add_emod_self_left]; exact Int.emod_eq_of_lt (by omega) hi
  · rw [Int.natCast_add, Int.natCast_mul, Int.mul_add_ediv_left _ _ (by omega), Int.ediv_eq_zero_of_lt (by omega) hi, Int.add_zero]
  · have h1 : V * (j + 1) ≤ V * H := Nat.mul_le_mul_left V (by omega)
    have h2 : V * j + i < V * H := by rw [Nat.mul_add] at h1; omega
    have h3 := Int.ofNat_lt.2 h2
    rw [Int.natCast_mul V H] at h3
    exact h3
set_option maxRecDepth 100000 in
set_option maxHeartbeats 1600000 in
theorem vl_closure (x y v h : Int) (b off n cap : Nat) (fs : Nat → Nat) (vx vy vi vo vd : Nat) (pv pf : Nat) (i j : Nat) (w : World) (hr : regErr x y v h = 0) (hl : (n : Int) = 4 * v * h) (hcap : n ≤ cap) (hcb : cap ≤ 9223372036854775807)
    (hi : (i : Int) < v) (hj : (j : Int) < h) (hcell : Row w b off n fs) (hfs : ∀ i, i < n → fs i < 2 ^ FloatKind.f32.format.width)
    (hv : Blk w pv (vigL vx vy vi vo vd)) (hF : Blk w pf [.int .i64 x, .int .i64 y, .int .i64 v, .int .i64 h, .slice (some ⟨b, off, none⟩) n cap]) :
    Calls Try.prog 27 #[.int .i64 (x + i), .int .i64 (y + j), .pointer (some ⟨pv, 0, none⟩), .pointer (some ⟨pf, 0, none⟩)] w fun e w' =>
      (∃ q : Nat → Nat, e = .returned (.agg #[.float .f32 (q 0), .float .f32 (q 1), .float .f32 (q 2), .float .f32 (q 3)]) ∧ q = vgG x y v fs vx vy vi vo vd (v.toNat * j + i)) ∧ Below w.heap.size w w' := by
  obtain ⟨r1, r2, r3, r4, r5, r6, r7, r8, r9, r10⟩ := regErr_ok hr
  obtain ⟨k1, k2, k3, k4⟩ := spot_inV (x := x) (y := y) (h := h) r1 hi hj
  obtain ⟨K, hK⟩ : ∃ K, K = v.toNat * j + i := ⟨_, rfl⟩
  rw [← hK] at k1 k2 k3 k4 ⊢
  have hKn : 4 * K + 4 ≤ n := by rw [Int.mul_assoc] at hl; omega
  obtain ⟨q, hq⟩ : ∃ q, q = vgG x y v fs vx vy vi vo vd K := ⟨_, rfl⟩
  rw [← hq]
  have C0 := hcell (4 * K) (by omega)
  have C1 := hcell (4 * K + 1) (by omega)
  have C2 := hcell (4 * K + 2) (by omega)
  have C3 := hcell (4 * K + 3) (by omega)
  have hPA : ∀ p : World, Below w.heap.size w p → Calls Try.prog 29 #[.agg #[.int .i64 x, .int .i64 y, .int .i64 v, .int .i64 h, .slice (some ⟨b, off, none⟩) n cap], .int .i64 (x + i), .int .i64 (y + j)] p fun e w' => e = .returned (.agg #[.float .f32 (fs (4 * K)), .float .f32 (fs (4 * K + 1)), .float .f32 (fs (4 * K + 2)), .float .f32 (fs (4 * K + 3))]) ∧ Below p.heap.size p w' := fun p hb => by
    have hbw : b < w.heap.size := cell_lt C0
    exact PixelAt_in x y v h b off n cap (x + i) (y + j) (4 * K) _ _ _ _ p hr hl (by omega) (by omega) k1 hKn hcap hcb ((hb.cell (p := ⟨b, off + 4 * K, none⟩) hbw).trans C0) ((hb.cell (p := ⟨b, off + 4 * K + 1, none⟩) hbw).trans C1) ((hb.cell (p := ⟨b, off + 4 * K + 2, none⟩) hbw).trans C2) ((hb.cell (p := ⟨b, off + 4 * K + 3, none⟩) hbw).trans C3)
  have HPA := Lib.hid hPA
  have hDO : ∀ p : World, Calls Try.prog 28 #[.agg #[.float .f32 vx, .float .f32 vy, .float .f32 vi, .float .f32 vo, .float .f32 vd], .int .i64 (x + i), .int .i64 (y + j), .agg #[.float .f32 (fs (4 * K)), .float .f32 (fs (4 * K + 1)), .float .f32 (fs (4 * K + 2)), .float .f32 (fs (4 * K + 3))]] p fun e w' => (∃ q' : Nat → Nat, e = .returned (.agg #[.float .f32 (q' 0), .float .f32 (q' 1), .float .f32 (q' 2), .float .f32 (q' 3)]) ∧ q' = q) ∧ Below p.heap.size p w' := fun p => by
    refine (DarkOf_any vx vy vi vo vd (x + i) (y + j) (fun c => fs (4 * K + c)) p (fun c hc => hfs _ (by omega))).mono ?_
    rintro e w' ⟨⟨q', rfl, hq'⟩, hb⟩
    exact ⟨⟨q', rfl, by rw [hq', hq]; unfold vgG; rw [k2, k3]⟩, hb⟩
  have HDO := Lib.hid hDO
  have g0 := hv.c 0 _ rfl; have g1 := hv.c 1 _ rfl; have g2 := hv.c 2 _ rfl; have g3 := hv.c 3 _ rfl; have g4 := hv.c 4 _ rfl
  have f0 := hF.c 0 _ rfl; have f1 := hF.c 1 _ rfl; have f2 := hF.c 2 _ rfl; have f3 := hF.c 3 _ rfl; have f4 := hF.c 4 _ rfl
  have lv := hv.lt; have lf := hF.lt
  have HV := Lib.hid hv; have HF := Lib.hid hF
  clear hv hF hr hl hcap hcb hcell hPA hDO hq C0 C1 C2 C3 k1 k2 k3 k4 hK r1 r2 r3 r4 r5 r6 r7 r8 r9 r10 hi hj hKn hfs
  generalize fs (4 * K) = v0 at *
  generalize fs (4 * K + 1) = v1 at *
  generalize fs (4 * K + 2) = v2 at *
  generalize fs (4 * K + 3) = v3 at *
  go_enter Try.func27, Try.ntmps27
  go_wp2_with fail
  clear g0 g1 g2 g3 g4 f0 f1 f2 f3 f4
  refine wp_world (fun W hW => ?_)
  have B0 : Below w.heap.size w W := by rw [hW]; (repeat (first | exact Below.refl _ _ | assumption | (refine Below.setCell ?_ (by first | (simp; done) | (simp; omega) | omega) _) | (refine Below.drew ?_) | (refine below_drewN ?_ _) | (refine Below.alloc ?_ (by first | (simp; done) | (simp; omega) | omega) _) | (refine Below.trans ?_ (Below.mono (by assumption) (by first | (simp; done) | (simp; omega) | omega)))))
  have R0 : Blk W w.heap.size [.float .f32 0, .float .f32 0, .float .f32 0, .float .f32 0] := by rw [hW]; exact Blk.new _ _ _ _ rfl
  have VV := HV.out.past B0; have FF := HF.out.past B0
  have g0 := VV.c 0 _ rfl; have g1 := VV.c 1 _ rfl; have g2 := VV.c 2 _ rfl; have g3 := VV.c 3 _ rfl; have g4 := VV.c 4 _ rfl
  have f0 := FF.c 0 _ rfl; have f1 := FF.c 1 _ rfl; have f2 := FF.c 2 _ rfl; have f3 := FF.c 3 _ rfl; have f4 := FF.c 4 _ rfl
  have l1 := VV.lt; have l2 := FF.lt
  have R := Lib.hid R0; have B := Lib.hid B0
  clear hW R0 B0 VV FF lv lf
  refine wp_region_loose 8 (fun f _ u => (f = 29 ∧ u = .agg #[.float .f32 v0, .float .f32 v1, .float .f32 v2, .float .f32 v3]) ∨ (f = 28 ∧ u = .agg #[.float .f32 (q 0), .float .f32 (q 1), .float .f32 (q 2), .float .f32 (q 3)])) (by kernel_rfl) (by kernel_rfl) ?_
  simp only [List.take_succ_cons, List.take_zero, List.drop_succ_cons, List.drop_zero]
  iterate 6 (refine loose_wanted rfl (fun K hK => ?_); go_simp; refine hK _ ?_; clear hK K)
  refine loose_wanted rfl (fun K1 hK => ?_)
  go_simp
  refine ⟨fun p => (HPA.out p.w (B.out.trans (p.h.mono B.out.size))).mono ?_, ?_⟩
  · rintro e w' ⟨rfl, hb⟩
    exact ⟨_, rfl, by first | rfl | simp, p.h.trans (hb.mono p.h.size)⟩
  refine hK _ ?_
  clear hK K1
  refine loose_wanted rfl (fun K1 hK => ?_)
  go_simp
  refine ⟨fun p => (HDO.out p.w).mono ?_, ?_⟩
  · rintro e w' ⟨⟨q', rfl, rfl⟩, hb⟩
    exact ⟨_, rfl, by first | rfl | simp, p.h.trans (hb.mono p.h.size)⟩
  refine hK _ ?_
  clear hK K1
  refine loose_nil (fun w5 hb5 => ?_)
  have R5 := R.out.past hb5
  have B5 := B.out.trans (hb5.mono B.out.size)
  clear hb5 g0 g1 g2 g3 g4 f0 f1 f2 f3 f4
  have d0 := R5.c 0 _ rfl; have d1 := R5.c 1 _ rfl; have d2 := R5.c 2 _ rfl; have d3 := R5.c 3 _ rfl; have df := R5.f
  have dl := R5.lt
  clear R5
  go_wp2_with fail
  refine bodyPost_ret (v := .agg #[.float .f32 (q 0), .float .f32 (q 1), .float .f32 (q 2), .float .f32 (q 3)]) (by simp [results, Try.results27, go_sem, d0, d1, d2, d3]) rfl ⟨⟨q, rfl, rfl⟩, ?_⟩
  exact (((B5.setCell (by first | (simp; done) | (simp; omega) | omega) _).setCell (by first | (simp; done) | (simp; omega) | omega) _).setCell (by first | (simp; done) | (simp; omega) | omega) _).setCell (by first | (simp; done) | (simp; omega) | omega) _
end Go.Proofs.Ytalgepfammpmbaa
