/- GrainsMatch: the statement's own closure. Conditions: the frame is right, the place within it. -/
import Derived.Test.YtmnmcmmhnbnndaaGrH
import Derived.Test.YtmnmcmmhnbnndaaGrG
namespace Go.Proofs.Ytmnmcmmhnbnndaa
open Go.RowKit
def PixPsi (g g' : Nat → Nat) (f : FuncId) (_ : Array Value) (u : Value) : Prop :=
  (f = 72 ∧ u = .agg #[.float .f32 (g 0), .float .f32 (g 1), .float .f32 (g 2), .float .f32 (g 3)]) ∨ (f ≠ 72 ∧ u = .agg #[.float .f32 (g' 0), .float .f32 (g' 1), .float .f32 (g' 2), .float .f32 (g' 3)])
theorem pix_at {g g' : Nat → Nat} {args : Array Value} {u : Value} (h : PixPsi g g' 72 args u) : u = .agg #[.float .f32 (g 0), .float .f32 (g 1), .float .f32 (g 2), .float .f32 (g 3)] := by
  rcases h with ⟨-, h⟩ | ⟨h, -⟩
  · exact h
  · exact absurd rfl h
theorem pix_of {f : FuncId} (hf : f ≠ 72) {g g' : Nat → Nat} {args : Array Value} {u : Value} (h : PixPsi g g' f args u) : u = .agg #[.float .f32 (g' 0), .float .f32 (g' 1), .float .f32 (g' 2), .float .f32 (g' 3)] := by
  rcases h with ⟨h, -⟩ | ⟨-, h⟩
  · exact absurd h hf
  · exact h
/-- Where the pixel of a place stands. -/
theorem spot_in {x y v h : Int} {i j : Nat} (r1 : 1 ≤ v) (hi : (i : Int) < v) (hj : (j : Int) < h) : 4 * ((y + (j : Int) - y) * v + (x + (i : Int)) - x) = ((4 * (v.toNat * j + i) : Nat) : Int) ∧ (((v.toNat * j + i : Nat) : Int) % v = i) ∧ (((v.toNat * j + i : Nat) : Int) / v = j) ∧ ((v.toNat * j + i : Nat) : Int) < v * h := by
  obtain ⟨V, rfl⟩ : ∃ V : Nat, v = V := ⟨v.toNat, by omega⟩
  obtain ⟨H, rfl⟩ : ∃ H : Nat, h = H := ⟨h.toNat, by omega⟩
  have e1 : y + (j : Int) - y = j := by omega
  have e2 : (j : Int) * (V : Int) = (V : Int) * j := Int.mul_comm _ _
  simp only [Int.toNat_natCast]
  refine ⟨?_, ?_, ?_, ?_⟩
  · rw [e1, e2]; simp only [Int.natCast_mul, Int.natCast_add]; generalize (V : Int) * (j : Int) = z; simp; omega
  · rw [Int.natCast_add, Int.natCast_mul, Int.mul_add_emod_self_left]; exact Int.emod_eq_of_lt (by omega) hi
  · rw [Int.natCast_add, Int.natCast_mul, Int.mul_add_ediv_left _ _ (by omega), Int.ediv_eq_zero_of_lt (by omega) hi, Int.add_zero]
  · have h1 : V * (j + 1) ≤ V * H := Nat.mul_le_mul_left V (by omega)
    have h2 : V * j + i < V * H := by rw [Nat.mul_add] at h1; omega
    have h3 := Int.ofNat_lt.2 h2
    rw [Int.natCast_mul V H] at h3
    exact h3
set_option maxRecDepth 100000 in
set_option maxHeartbeats 1600000 in
theorem gl_closure (x y v h : Int) (b off n cap : Nat) (fs : Nat → Nat) (seed size : Int) (s f : Nat) (mono : Bool) (num : Int) (pg pn pf : Nat) (i j : Nat) (w : World) (hr : regErr x y v h = 0) (hl : (n : Int) = 4 * v * h) (hcap : n ≤ cap) (hcb : cap ≤ 9223372036854775807) (hs : 1 ≤ size ∧ size ≤ 16)
    (hi : (i : Int) < v) (hj : (j : Int) < h)
    (hcell : ∀ k, k < n → w.cell? ⟨b, off + k, none⟩ = some (.float .f32 (fs k)))
    (g0 : w.cell? ⟨pg, 0, none⟩ = some (.int .u32 seed)) (g1 : w.cell? ⟨pg, 1, none⟩ = some (.int .i64 size)) (g2 : w.cell? ⟨pg, 2, none⟩ = some (.float .f32 s)) (g3 : w.cell? ⟨pg, 3, none⟩ = some (.float .f32 f)) (g4 : w.cell? ⟨pg, 4, none⟩ = some (.bool mono))
    (hn : w.cell? ⟨pn, 0, none⟩ = some (.int .i64 num)) (hF : FrameC w pf x y v h (.slice (some ⟨b, off, none⟩) n cap)) :
    Calls Try.prog 86 #[.int .i64 (x + i), .int .i64 (y + j), .pointer (some ⟨pg, 0, none⟩), .pointer (some ⟨pn, 0, none⟩), .pointer (some ⟨pf, 0, none⟩)] w fun e w' =>
      (∃ q : Nat → Nat, e = .returned (.agg #[.float .f32 (q 0), .float .f32 (q 1), .float .f32 (q 2), .float .f32 (q 3)]) ∧ q = grnG (bits .xor .u32 seed (num % 4294967296)) x y v size mono s f fs (v.toNat * j + i)) ∧ Below w.heap.size w w' := by
  obtain ⟨r1, r2, r3, r4, r5, r6, r7, r8, r9, r10⟩ := regErr_ok hr
  obtain ⟨k1, k2, k3, k4⟩ := spot_in (x := x) (y := y) (h := h) r1 hi hj
  obtain ⟨K, hK⟩ : ∃ K, K = v.toNat * j + i := ⟨_, rfl⟩
  rw [← hK] at k1 k2 k3 k4 ⊢
  have hKn : 4 * K + 4 ≤ n := by rw [Int.mul_assoc] at hl; omega
  obtain ⟨q, hq⟩ : ∃ q, q = grnG (bits .xor .u32 seed (num % 4294967296)) x y v size mono s f fs K := ⟨_, rfl⟩
  rw [← hq]
  have HQ := Lib.hid hq
  have ex : (x + (i : Int)) / size = (x + (K : Int) % v) / size := by rw [k2]
  have ey : (y + (j : Int)) / size = (y + (K : Int) / v) / size := by rw [k3]
  have C0 := hcell (4 * K) (by omega)
  have C1 := hcell (4 * K + 1) (by omega)
  have C2 := hcell (4 * K + 2) (by omega)
  have C3 := hcell (4 * K + 3) (by omega)
  have hPA : ∀ p : Past (w.alloc (.cells #[.float .f32 0, .float .f32 0, .float .f32 0, .float .f32 0] 55)), Calls Try.prog 72 #[.agg #[.int .i64 x, .int .i64 y, .int .i64 v, .int .i64 h, .slice (some ⟨b, off, none⟩) n cap], .int .i64 (x + i), .int .i64 (y + j)] p.w fun e w' => e = .returned (.agg #[.float .f32 (fs (4 * K)), .float .f32 (fs (4 * K + 1)), .float .f32 (fs (4 * K + 2)), .float .f32 (fs (4 * K + 3))]) ∧ Below p.w.heap.size p.w w' := fun p => by
    have hb := Below.trans ((Below.refl w.heap.size w).alloc (Nat.le_refl _) _) (p.h.mono (by simp))
    have hbw : b < w.heap.size := cell_lt C0
    exact PixelAt_in x y v h b off n cap (x + i) (y + j) (4 * K) _ _ _ _ p.w hr hl (by omega) (by omega) k1 hKn hcap hcb ((hb.cell (p := ⟨b, off + 4 * K, none⟩) hbw).trans C0) ((hb.cell (p := ⟨b, off + 4 * K + 1, none⟩) hbw).trans C1) ((hb.cell (p := ⟨b, off + 4 * K + 2, none⟩) hbw).trans C2) ((hb.cell (p := ⟨b, off + 4 * K + 3, none⟩) hbw).trans C3)
  have HPA := Lib.hid hPA
  have hGO : ∀ p : World, Calls Try.prog 85 #[.agg #[.int .u32 seed, .int .i64 size, .float .f32 s, .float .f32 f, .bool mono], .int .i64 num, .int .i64 (x + i), .int .i64 (y + j), .agg #[.float .f32 (fs (4 * K)), .float .f32 (fs (4 * K + 1)), .float .f32 (fs (4 * K + 2)), .float .f32 (fs (4 * K + 3))]] p fun e w' => (∃ q' : Nat → Nat, e = .returned (.agg #[.float .f32 (q' 0), .float .f32 (q' 1), .float .f32 (q' 2), .float .f32 (q' 3)]) ∧ q' = q) ∧ Below p.heap.size p w' := fun p => by
    refine (GrainedOf_any seed size s f mono num (x + i) (y + j) (fun c => fs (4 * K + c)) p hs (by omega) (by omega)).mono ?_
    rintro e w' ⟨⟨q', rfl, hq'⟩, hb⟩
    exact ⟨⟨q', rfl, by rw [hq', hq, ex, ey]; rfl⟩, hb⟩
  have HGO := Lib.hid hGO
  have lg := cell_lt g0; have ln := cell_lt hn; have lf := hF.lt
  simp only at lg ln
  obtain ⟨f0, f1, f2, f3, f4, -⟩ := hF
  clear hr hl hcap hcb hs hcell hPA hGO ex ey hq C0 C1 C2 C3 k1 k2 k3 k4 hK r1 r2 r3 r4 r5 r6 r7 r8 r9 r10 hi hj hKn
  generalize fs (4 * K) = v0 at *
  generalize fs (4 * K + 1) = v1 at *
  generalize fs (4 * K + 2) = v2 at *
  generalize fs (4 * K + 3) = v3 at *
  go_enter Try.func86, Try.ntmps86
  go_wp2_with fail
  obtain ⟨W, hW⟩ : ∃ W, W = w.alloc (.cells #[.float .f32 0, .float .f32 0, .float .f32 0, .float .f32 0] 55) := ⟨_, rfl⟩
  have B0 : Below w.heap.size w W := by rw [hW]; (repeat (first | exact Below.refl _ _ | assumption | (refine Below.setCell ?_ (by first | (simp; done) | (simp; omega) | omega) _) | (refine Below.drew ?_) | (refine below_drewN ?_ _) | (refine Below.alloc ?_ (by first | (simp; done) | (simp; omega) | omega) _) | (refine Below.trans ?_ (Below.mono (by assumption) (by first | (simp; done) | (simp; omega) | omega)))))
  have R0 : Pix4 W w.heap.size 0 0 0 0 := by rw [hW]; exact Pix4.new w 0 0 0 0 _
  have sW : W.heap.size = w.heap.size + 1 := by rw [hW]; simp
  rw [← hW] at HPA ⊢
  have F : ∀ a o, a < w.heap.size → W.cell? ⟨a, o, none⟩ = w.cell? ⟨a, o, none⟩ := fun a o ha => B0.cell (p := ⟨a, o, none⟩) ha
  rw [← F pg _ lg] at g0 g1 g2 g3 g4
  rw [← F pn _ ln] at hn
  rw [← F pf _ lf] at f0 f1 f2 f3 f4
  have l1 : pg < W.heap.size := by omega
  have l2 : pn < W.heap.size := by omega
  have l3 : pf < W.heap.size := by omega
  have R := Lib.hid R0; have B := Lib.hid B0; have S := Lib.hid sW
  clear F hW R0 B0 sW lg ln lf
  refine wp_region_loose 9 (PixPsi (pick4 v0 v1 v2 v3) q) (by kernel_rfl) (by kernel_rfl) ?_
  simp only [List.take_succ_cons, List.take_zero, List.drop_succ_cons, List.drop_zero]
  iterate 7 (refine loose_wanted rfl (fun K hK => ?_); go_simp; refine hK _ ?_; clear hK K)
  refine loose_wanted rfl (fun K1 hK => ?_)
  go_simp
  refine ⟨fun p => (HPA.out p).mono ?_, ?_⟩
  · rintro e w' ⟨rfl, hb⟩
    exact ⟨_, rfl, .inl ⟨rfl, rfl⟩, p.h.trans (hb.mono p.h.size)⟩
  intro u hu
  obtain rfl := pix_at hu
  refine hK _ ?_
  clear hK K1 hu
  simp only [pick4]
  refine loose_wanted rfl (fun K1 hK => ?_)
  go_simp
  refine ⟨fun p => (HGO.out p.w).mono ?_, ?_⟩
  · rintro e w' ⟨⟨q', rfl, rfl⟩, hb⟩
    exact ⟨_, rfl, .inr ⟨by decide, rfl⟩, p.h.trans (hb.mono p.h.size)⟩
  intro u hu
  obtain rfl := pix_of (by decide) hu
  refine hK _ ?_
  clear hK K1 hu
  refine loose_nil (fun w5 hb5 => ?_)
  have s := S.out
  have R5 := R.out.below hb5 (by omega)
  have B5 := B.out.trans (hb5.mono (by omega))
  clear hb5 g0 g1 g2 g3 g4 hn f0 f1 f2 f3 f4
  obtain ⟨d0, d1, d2, d3, df⟩ := R5
  go_wp2_with fail
  refine bodyPost_ret (v := .agg #[.float .f32 (q 0), .float .f32 (q 1), .float .f32 (q 2), .float .f32 (q 3)]) (by simp [results, Try.results86, go_sem, d0, d1, d2, d3]) rfl ⟨⟨q, rfl, rfl⟩, ?_⟩
  exact (((B5.setCell (by first | (simp; done) | (simp; omega) | omega) _).setCell (by first | (simp; done) | (simp; omega) | omega) _).setCell (by first | (simp; done) | (simp; omega) | omega) _).setCell (by first | (simp; done) | (simp; omega) | omega) _
end Go.Proofs.Ytmnmcmmhnbnndaa
