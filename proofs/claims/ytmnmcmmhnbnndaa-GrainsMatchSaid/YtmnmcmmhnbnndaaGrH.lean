/- Grain of a frame: finish.Grain. Conditions: the frame's singles are known. -/
import Derived.Test.YtmnmcmmhnbnndaaGrF
import Derived.Test.YtmnmcmmhnbnndaaOpenB
namespace Go.Proofs.Ytmnmcmmhnbnndaa
open Go.RowKit
/-- Frames' errors come first. -/
theorem fraErr_ok {x y v h : Int} {len : Nat} (he : fraErr x y v h len = 0) : regErr x y v h = 0 ∧ (len : Int) = 4 * v * h := by
  unfold fraErr at he
  by_cases h1 : regErr x y v h = 0
  · rw [if_pos h1] at he
    by_cases h2 : (len : Int) = 4 * v * h
    · exact ⟨h1, h2⟩
    · rw [if_neg h2] at he; cases he
  · rw [if_neg h1] at he; exact absurd he h1
theorem place_in {x v : Int} {k : Nat} {h y : Int} (r1 : 1 ≤ v) (r2 : v ≤ 256) (r4 : h ≤ 256) (r7 : -1048576 ≤ x) (r8 : x ≤ 1048576 - v) (r9 : -1048576 ≤ y) (r10 : y ≤ 1048576 - h) (hk : (k : Int) < v * h) :
    (-9223372036854775808 ≤ x + (k : Int) % v ∧ x + (k : Int) % v ≤ 9223372036854775807) ∧ (-9223372036854775808 ≤ y + (k : Int) / v ∧ y + (k : Int) / v ≤ 9223372036854775807) := by
  have m0 : 0 ≤ (k : Int) % v := Int.emod_nonneg _ (by omega)
  have m1 : (k : Int) % v < v := Int.emod_lt_of_pos _ (by omega)
  have m2 : 0 ≤ (k : Int) / v := Int.ediv_nonneg (by omega) (by omega)
  have m3 : (k : Int) / v < h := Int.ediv_lt_of_lt_mul (by omega) (by rw [Int.mul_comm]; exact hk)
  omega
/-- A frame with grain, pixel by pixel. -/
def grnG (sd x y v size : Int) (mono : Bool) (s f : Nat) (fs : Nat → Nat) (k : Nat) : Nat → Nat := grnP sd ((x + (k : Int) % v) / size) ((y + (k : Int) / v) / size) mono s f (fun c => fs (4 * k + c))
theorem grnP_cn {sd a b : Int} {mono : Bool} {s f : Nat} {p : Nat → Nat} {c : Nat} : cn .f32 (grnP sd a b mono s f p c) = grnP sd a b mono s f p c := by
  unfold grnP
  split
  · exact cn_fop _ _ _ _
  · exact cn_fop _ _ _ _
  · exact cn_fop _ _ _ _
  · exact cn_cn _ _
set_option maxRecDepth 100000 in
set_option maxHeartbeats 1600000 in
theorem Grain_closure (seed size : Int) (s f : Nat) (mono : Bool) (num x y : Int) (p : Nat → Nat) (pg pn : Nat) (w : World) (hs : 1 ≤ size ∧ size ≤ 16) (hx : -9223372036854775808 ≤ x ∧ x ≤ 9223372036854775807) (hy : -9223372036854775808 ≤ y ∧ y ≤ 9223372036854775807)
    (hp : ∀ c, c < 4 → p c < 2 ^ FloatKind.f32.format.width)
    (g0 : w.cell? ⟨pg, 0, none⟩ = some (.int .u32 seed)) (g1 : w.cell? ⟨pg, 1, none⟩ = some (.int .i64 size)) (g2 : w.cell? ⟨pg, 2, none⟩ = some (.float .f32 s)) (g3 : w.cell? ⟨pg, 3, none⟩ = some (.float .f32 f)) (g4 : w.cell? ⟨pg, 4, none⟩ = some (.bool mono))
    (hn : w.cell? ⟨pn, 0, none⟩ = some (.int .i64 num)) :
    Calls Try.prog 171 #[.int .i64 x, .int .i64 y, .agg #[.float .f32 (p 0), .float .f32 (p 1), .float .f32 (p 2), .float .f32 (p 3)], .pointer (some ⟨pg, 0, none⟩), .pointer (some ⟨pn, 0, none⟩)] w fun e w' =>
      (∃ q : Nat → Nat, e = .returned (.agg #[.float .f32 (q 0), .float .f32 (q 1), .float .f32 (q 2), .float .f32 (q 3)]) ∧ q = grnP (bits .xor .u32 seed (num % 4294967296)) (x / size) (y / size) mono s f p) ∧ Below w.heap.size w w' := by
  have h0 := hp 0 (by omega); have h1 := hp 1 (by omega); have h2 := hp 2 (by omega)
  have H := Lib.hid (And.intro hs (And.intro hx (And.intro hy (And.intro h0 (And.intro h1 h2)))))
  have lg := cell_lt g0; have ln := cell_lt hn
  simp only at lg ln
  clear hs hx hy h0 h1 h2 hp
  go_enter Try.func171, Try.ntmps171
  go_wp2_with fail
  obtain ⟨W, hW⟩ : ∃ W, W = (w.alloc (.cells #[.float .f32 (p 0), .float .f32 (p 1), .float .f32 (p 2), .float .f32 (p 3)] 55)).alloc (.cells #[.float .f32 0, .float .f32 0, .float .f32 0, .float .f32 0] 55) := ⟨_, rfl⟩
  have R1 : Pix4 W (w.heap.size + 1) 0 0 0 0 := by rw [hW]; exact ⟨by simp [go_sem], by simp [go_sem], by simp [go_sem], by simp [go_sem], fun o => by simp [go_sem]⟩
  have B1 : Below w.heap.size w W := by rw [hW]; (repeat (first | exact Below.refl _ _ | assumption | (refine Below.setCell ?_ (by first | (simp; done) | (simp; omega) | omega) _) | (refine Below.drew ?_) | (refine below_drewN ?_ _) | (refine Below.alloc ?_ (by first | (simp; done) | (simp; omega) | omega) _) | (refine Below.trans ?_ (Below.mono (by assumption) (by first | (simp; done) | (simp; omega) | omega)))))
  have sW : W.heap.size = w.heap.size + 1 + 1 := by rw [hW]; simp
  rw [← hW]
  clear hW
  refine (grained_any seed size s f mono num x y _ _ _ _ W H.out.1 H.out.2.1 H.out.2.2.1 H.out.2.2.2.1 H.out.2.2.2.2.1 H.out.2.2.2.2.2).mono ?_
  rintro e w2 ⟨he, hb2⟩
  obtain ⟨q, hq⟩ : ∃ q, q = grnP (bits .xor .u32 seed (num % 4294967296)) (x / size) (y / size) mono s f p := ⟨_, rfl⟩
  have he2 : e = .returned (.agg #[.float .f32 (q 0), .float .f32 (q 1), .float .f32 (q 2), .float .f32 (q 3)]) := by rw [he, hq]; rfl
  clear he
  subst he2
  have HQ := Lib.hid hq; clear hq
  have R2 := R1.below hb2 (by omega)
  have B2 := B1.trans (hb2.mono (by omega))
  clear R1 B1 hb2 g0 g1 g2 g3 g4 hn
  obtain ⟨d0, d1, d2, d3, df⟩ := R2
  go_wp2_with fail
  refine bodyPost_ret (v := .agg #[.float .f32 (q 0), .float .f32 (q 1), .float .f32 (q 2), .float .f32 (q 3)]) (by simp [results, Try.results171, go_sem, d0, d1, d2, d3]) rfl ⟨⟨q, rfl, HQ.out⟩, ?_⟩
  exact (((B2.setCell (by first | (simp; done) | (simp; omega) | omega) _).setCell (by first | (simp; done) | (simp; omega) | omega) _).setCell (by first | (simp; done) | (simp; omega) | omega) _).setCell (by first | (simp; done) | (simp; omega) | omega) _
set_option maxRecDepth 100000 in
set_option maxHeartbeats 1600000 in
theorem Grain_yes (x y v h : Int) (b off n cap : Nat) (fs : Nat → Nat) (seed size : Int) (s f : Nat) (mono : Bool) (num : Int) (w : World) (he : fraErr x y v h n = 0) (hE : graE size s f = 0) (hcap : n ≤ cap) (hcb : cap ≤ 9223372036854775807)
    (hcell : ∀ i, i < n → w.cell? ⟨b, off + i, none⟩ = some (.float .f32 (fs i))) (hfs : ∀ i, i < n → fs i < 2 ^ FloatKind.f32.format.width) :
    Calls Try.prog 81 #[.agg #[.int .i64 x, .int .i64 y, .int .i64 v, .int .i64 h, .slice (some ⟨b, off, none⟩) n cap], .agg #[.int .u32 seed, .int .i64 size, .float .f32 s, .float .f32 f, .bool mono], .int .i64 num] w fun e w' =>
      (∃ g, e = .returned (.tuple #[.agg #[.int .i64 x, .int .i64 y, .int .i64 v, .int .i64 h, .slice (some ⟨g, 0, none⟩) n n], .int .i64 0]) ∧ w.heap.size ≤ g ∧ g < w'.heap.size ∧ ∀ i, i < n → w'.cell? ⟨g, i, none⟩ = some (.float .f32 (grnG (bits .xor .u32 seed (num % 4294967296)) x y v size mono s f fs (i / 4) (i % 4)))) ∧ Below w.heap.size w w' := by
  obtain ⟨hr, hl⟩ := fraErr_ok he
  obtain ⟨r1, r2, r3, r4, r5, r6, r7, r8, r9, r10⟩ := regErr_ok hr
  have hs := graE_size hE
  have hn0 : 0 < n := by have : 4 ≤ 4 * v * h := by { rw [Int.mul_assoc]; omega }; omega
  have hbw : b < w.heap.size := cell_lt (hcell 0 hn0)
  have HC := Lib.hid (And.intro hcell hfs)
  have HR := Lib.hid (And.intro hr (And.intro hl (And.intro hcap (And.intro hcb hs))))
  have HP := Lib.hid (And.intro r1 (And.intro r2 (And.intro r4 (And.intro r7 (And.intro r8 (And.intro r9 r10))))))
  clear hcell hfs hr hl hcap hcb hs r1 r2 r3 r4 r5 r6 r7 r8 r9 r10
  go_enter Try.func81, Try.ntmps81
  go_wp2_with (first | (go_at_call 160; refine (FCheck_any _ _ _ _ _ _ _ _).mono ?_; rintro e w1 ⟨rfl, hb1⟩; obtain ⟨hc1, hf1, hs1⟩ := bcell hb1; simp at hs1; have hq0 : w.heap.size < w1.heap.size := (by omega); have hq1 : w.heap.size + 1 < w1.heap.size := (by omega); have hq2 : w.heap.size + 1 + 1 < w1.heap.size := (by omega); have hq3 : w.heap.size + 1 + 1 + 1 < w1.heap.size := (by omega); rw [he]) | (go_at_call 83; refine (CheckGrain_any _ _ _ _ _ _).mono ?_; rintro e w2 ⟨rfl, hb2⟩; obtain ⟨hc2, hf2, hs2⟩ := bcell hb2; have hq0' : w.heap.size < w2.heap.size := (by omega); have hq1' : w.heap.size + 1 < w2.heap.size := (by omega); have hq2' : w.heap.size + 1 + 1 < w2.heap.size := (by omega); have hq3' : w.heap.size + 1 + 1 + 1 < w2.heap.size := (by omega); rw [hE]))
  have B2 : Below w.heap.size w w2 := by (repeat (first | exact Below.refl _ _ | assumption | (refine Below.setCell ?_ (by first | (simp; done) | (simp; omega) | omega) _) | (refine Below.drew ?_) | (refine below_drewN ?_ _) | (refine Below.alloc ?_ (by first | (simp; done) | (simp; omega) | omega) _) | (refine Below.trans ?_ (Below.mono (by assumption) (by first | (simp; done) | (simp; omega) | omega)))))
  have g0 : w2.cell? ⟨w.heap.size + 1, 0, none⟩ = some (.int .u32 seed) := by rw [hc2 _ _ hq1, hc1 _ _ (by first | (simp; done) | (simp; omega) | omega)]; simp [go_sem]
  have g1 : w2.cell? ⟨w.heap.size + 1, 1, none⟩ = some (.int .i64 size) := by rw [hc2 _ _ hq1, hc1 _ _ (by first | (simp; done) | (simp; omega) | omega)]; simp [go_sem]
  have g2 : w2.cell? ⟨w.heap.size + 1, 2, none⟩ = some (.float .f32 s) := by rw [hc2 _ _ hq1, hc1 _ _ (by first | (simp; done) | (simp; omega) | omega)]; simp [go_sem]
  have g3 : w2.cell? ⟨w.heap.size + 1, 3, none⟩ = some (.float .f32 f) := by rw [hc2 _ _ hq1, hc1 _ _ (by first | (simp; done) | (simp; omega) | omega)]; simp [go_sem]
  have g4 : w2.cell? ⟨w.heap.size + 1, 4, none⟩ = some (.bool mono) := by rw [hc2 _ _ hq1, hc1 _ _ (by first | (simp; done) | (simp; omega) | omega)]; simp [go_sem]
  have gn : w2.cell? ⟨w.heap.size + 1 + 1, 0, none⟩ = some (.int .i64 num) := by rw [hc2 _ _ hq2, hc1 _ _ (by first | (simp; done) | (simp; omega) | omega)]; simp [go_sem]
  have ZF : FrameC w2 (w.heap.size + 1 + 1 + 1) 0 0 0 0 (.slice none 0 0) := by
    refine ⟨?_, ?_, ?_, ?_, ?_, fun o => ?_⟩
    all_goals first | (rw [hc2 _ _ hq3, hc1 _ _ (by first | (simp; done) | (simp; omega) | omega)]; simp [go_sem]; done) | (rw [hf2 _ _ hq3, hf1 _ _ (by first | (simp; done) | (simp; omega) | omega)]; simp [go_sem]; done)
  obtain ⟨hr, hl, hcap, hcb, hs⟩ := HR.out
  clear hc1 hf1 hc2 hf2 hb1 hb2
  refine (mapped_any 171 #[.pointer (some ⟨w.heap.size + 1, 0, none⟩), .pointer (some ⟨w.heap.size + 1 + 1, 0, none⟩)] x y v h b off n cap fs (grnG (bits .xor .u32 seed (num % 4294967296)) x y v size mono s f fs) w2 hr hl hcap hcb (fun i hi => (B2.cell (p := ⟨b, off + i, none⟩) hbw).trans (HC.out.1 i hi)) (body_enters Try.func171 (by kernel_rfl) rfl) (fun k w' hk hb' => ?_)).mono ?_
  · obtain ⟨r1, r2, r4, r7, r8, r9, r10⟩ := HP.out
    have hkv : (k : Int) < v * h := by have h1 := hl; rw [Int.mul_assoc] at h1; omega
    obtain ⟨px, py⟩ := place_in (x := x) (y := y) r1 r2 r4 r7 r8 r9 r10 hkv
    refine (Grain_closure seed size s f mono num (x + (k : Int) % v) (y + (k : Int) / v) (fun c => fs (4 * k + c)) (w.heap.size + 1) (w.heap.size + 1 + 1) w' hs px py (fun c hc => HC.out.2 _ (by omega)) ((hb'.cell (p := ⟨w.heap.size + 1, 0, none⟩) hq1').trans g0) ((hb'.cell (p := ⟨w.heap.size + 1, 1, none⟩) hq1').trans g1) ((hb'.cell (p := ⟨w.heap.size + 1, 2, none⟩) hq1').trans g2) ((hb'.cell (p := ⟨w.heap.size + 1, 3, none⟩) hq1').trans g3) ((hb'.cell (p := ⟨w.heap.size + 1, 4, none⟩) hq1').trans g4) ((hb'.cell (p := ⟨w.heap.size + 1 + 1, 0, none⟩) hq2').trans gn)).mono ?_
    rintro e w'' ⟨⟨q, rfl, hq⟩, hb⟩
    exact ⟨⟨q, rfl, fun c _ => by rw [hq]; exact grnP_cn⟩, hb⟩
  · rintro e w3 ⟨g, rfl, hg, hgc, hb3⟩
    have Z3 := ZF.below hb3 hq3'
    have B3 := B2.trans (hb3.mono (by omega))
    have hgl : g < w3.heap.size := cell_lt (hgc 0 hn0)
    have HG := Lib.hid hgc
    clear hgc hb3 ZF B2 g0 g1 g2 g3 g4 gn
    obtain ⟨z0, z1, z2, z3, z4, zf⟩ := Z3
    go_wp2_with fail
    refine bodyPost_ret (v := .tuple #[.agg #[.int .i64 x, .int .i64 y, .int .i64 v, .int .i64 h, .slice (some ⟨g, 0, none⟩) n n], .int .i64 0]) (by simp [results, Try.results81, go_sem, z0, z1, z2, z3, z4]) rfl ⟨⟨g, rfl, by omega, by simp; omega, fun i hi => ?_⟩, ?_⟩
    · rw [← HG.out i hi]
      simp [go_sem]
    · exact ((((B3.setCell (by first | (simp; done) | (simp; omega) | omega) _).setCell (by first | (simp; done) | (simp; omega) | omega) _).setCell (by first | (simp; done) | (simp; omega) | omega) _).setCell (by first | (simp; done) | (simp; omega) | omega) _).setCell (by first | (simp; done) | (simp; omega) | omega) _
set_option maxRecDepth 100000 in
set_option maxHeartbeats 1600000 in
theorem Grain_no (x y v h : Int) (a : Option Addr) (n cap : Nat) (seed size : Int) (s f : Nat) (mono : Bool) (num : Int) (w : World) (hE : firstE (fraErr x y v h n) (graE size s f) ≠ 0) :
    Calls Try.prog 81 #[.agg #[.int .i64 x, .int .i64 y, .int .i64 v, .int .i64 h, .slice a n cap], .agg #[.int .u32 seed, .int .i64 size, .float .f32 s, .float .f32 f, .bool mono], .int .i64 num] w fun e w' =>
      e = .returned (.tuple #[.agg #[.int .i64 0, .int .i64 0, .int .i64 0, .int .i64 0, .slice none 0 0], .int .i64 (firstE (fraErr x y v h n) (graE size s f))]) ∧ Below w.heap.size w w' := by
  by_cases he : fraErr x y v h n = 0
  · have eW : firstE (fraErr x y v h n) (graE size s f) = graE size s f := by rw [he]; rfl
    rw [eW] at hE ⊢
    have hc : (graE size s f != 0) = true := by simpa using hE
    clear hE eW
    go_enter Try.func81, Try.ntmps81
    go_wp2_with (first | (go_at_call 160; refine (FCheck_any _ _ _ _ _ _ _ _).mono ?_; rintro e w1 ⟨rfl, hb1⟩; obtain ⟨hc1, hf1, hs1⟩ := bcell hb1; simp at hs1; have hq0 : w.heap.size < w1.heap.size := (by omega); have hq1 : w.heap.size + 1 < w1.heap.size := (by omega); have hq2 : w.heap.size + 1 + 1 < w1.heap.size := (by omega); have hq3 : w.heap.size + 1 + 1 + 1 < w1.heap.size := (by omega); rw [he]) | (go_at_call 83; refine (CheckGrain_any _ _ _ _ _ _).mono ?_; rintro e w2 ⟨rfl, hb2⟩; obtain ⟨hc2, hf2, hs2⟩ := bcell hb2; have hq3' : w.heap.size + 1 + 1 + 1 < w2.heap.size := (by omega)))
    refine bodyPost_ret (v := .tuple #[.agg #[.int .i64 0, .int .i64 0, .int .i64 0, .int .i64 0, .slice none 0 0], .int .i64 (graE size s f)]) (by simp [results, Try.results81, go_sem, *]) rfl ⟨rfl, ?_⟩
    (repeat (first | exact Below.refl _ _ | assumption | (refine Below.setCell ?_ (by first | (simp; done) | (simp; omega) | omega) _) | (refine Below.drew ?_) | (refine below_drewN ?_ _) | (refine Below.alloc ?_ (by first | (simp; done) | (simp; omega) | omega) _) | (refine Below.trans ?_ (Below.mono (by assumption) (by first | (simp; done) | (simp; omega) | omega)))))
  · have eW : firstE (fraErr x y v h n) (graE size s f) = fraErr x y v h n := firstE_of _ he
    rw [eW]
    have hc : (fraErr x y v h n != 0) = true := by simpa using he
    clear hE eW he
    go_enter Try.func81, Try.ntmps81
    go_wp2_with (first | (go_at_call 160; refine (FCheck_any _ _ _ _ _ _ _ _).mono ?_; rintro e w1 ⟨rfl, hb1⟩; obtain ⟨hc1, hf1, hs1⟩ := bcell hb1; simp at hs1; have hq3 : w.heap.size + 1 + 1 + 1 < w1.heap.size := (by omega)))
    refine bodyPost_ret (v := .tuple #[.agg #[.int .i64 0, .int .i64 0, .int .i64 0, .int .i64 0, .slice none 0 0], .int .i64 (fraErr x y v h n)]) (by simp [results, Try.results81, go_sem, *]) rfl ⟨rfl, ?_⟩
    (repeat (first | exact Below.refl _ _ | assumption | (refine Below.setCell ?_ (by first | (simp; done) | (simp; omega) | omega) _) | (refine Below.drew ?_) | (refine below_drewN ?_ _) | (refine Below.alloc ?_ (by first | (simp; done) | (simp; omega) | omega) _) | (refine Below.trans ?_ (Below.mono (by assumption) (by first | (simp; done) | (simp; omega) | omega)))))
end Go.Proofs.Ytmnmcmmhnbnndaa
