/- GrainsMatch: the walk of the statement, whole. No condition. -/
import Derived.Test.YtmnmcmmhnbnndaaLawGr
namespace Go.Proofs.Ytmnmcmmhnbnndaa
open Go.RowKit
theorem gr_maker {w V W : World} {seed size : Int} {s f : Nat} {mono : Bool} {num : Int} {p q : Nat → Nat} {x y v h : Int} {b off len cap qb hb : Nat} {x' y' v' h' : Int} {sl' : Value} {fs : Nat → Nat}
    (k : GrSt w V seed size s f mono num p q x y v h (.slice (some ⟨b, off, none⟩) len cap) qb hb x' y' v' h' sl') (hW : Below V.heap.size V W) (hr : regErr x y v h = 0) (hl : (len : Int) = 4 * v * h) (hcap : len ≤ cap) (hcb : cap ≤ 9223372036854775807) (hs : 1 ≤ size ∧ size ≤ 16)
    (hbw : b < w.heap.size) (hcell : ∀ i, i < len → w.cell? ⟨b, off + i, none⟩ = some (.float .f32 (fs i))) :
    MakerOK 86 #[.pointer (some ⟨w.heap.size, 0, none⟩), .pointer (some ⟨w.heap.size + 1, 0, none⟩), .pointer (some ⟨w.heap.size + 1 + 1 + 1, 0, none⟩)] W x y v h (grnG (bits .xor .u32 seed (num % 4294967296)) x y v size mono s f fs) := fun i j w' hi hj hb' => by
  have k' := (k.past hW).past hb'
  refine (gl_closure x y v h b off len cap fs seed size s f mono num w.heap.size (w.heap.size + 1) (w.heap.size + 1 + 1 + 1) i j w' hr hl hcap hcb hs hi hj (fun a ha => (k'.b.cell (p := ⟨b, off + a, none⟩) hbw).trans (hcell a ha)) k'.g.c0 k'.g.c1 k'.g.c2 k'.g.c3 k'.g.c4 k'.n k'.f).mono ?_
  rintro e w'' ⟨⟨q, rfl, hq⟩, hb⟩
  exact ⟨⟨q, rfl, fun c _ => by rw [hq]; exact grnP_cn⟩, hb⟩
/-- What the last statement reads. -/
theorem gr_keep {w V W : World} {seed size : Int} {s f : Nat} {mono : Bool} {num : Int} {p q : Nat → Nat} {x y v h : Int} {sl : Value} {qb hb : Nat} {x' y' v' h' : Int} {sl' : Value}
    (k : GrSt w V seed size s f mono num p q x y v h sl qb hb x' y' v' h' sl') (hW : Below V.heap.size V W) :
    W.cell? ⟨w.heap.size + 1 + 1 + 1, 0, none⟩ = some (.int .i64 x) ∧ W.cell? ⟨w.heap.size + 1 + 1 + 1, 1, none⟩ = some (.int .i64 y) ∧ W.cell? ⟨w.heap.size + 1 + 1 + 1, 2, none⟩ = some (.int .i64 v) ∧ W.cell? ⟨w.heap.size + 1 + 1 + 1, 3, none⟩ = some (.int .i64 h) ∧ W.cell? ⟨w.heap.size + 1 + 1 + 1, 4, none⟩ = some sl ∧
    W.cell? ⟨hb, 0, none⟩ = some (.int .i64 x') ∧ W.cell? ⟨hb, 1, none⟩ = some (.int .i64 y') ∧ W.cell? ⟨hb, 2, none⟩ = some (.int .i64 v') ∧ W.cell? ⟨hb, 3, none⟩ = some (.int .i64 h') ∧ W.cell? ⟨hb, 4, none⟩ = some sl' := by
  have k := k.past hW
  exact ⟨k.f.c0, k.f.c1, k.f.c2, k.f.c3, k.f.c4, k.h.c0, k.h.c1, k.h.c2, k.h.c3, k.h.c4⟩
set_option maxRecDepth 100000 in
set_option maxHeartbeats 4000000 in
theorem gr_yes (seed size : Int) (s f : Nat) (mono : Bool) (num px py : Int) (p : Nat → Nat) (x y v h : Int) (b off len cap : Nat) (fs : Nat → Nat) (w : World)
    (hpx : -9223372036854775808 ≤ px ∧ px ≤ 9223372036854775807) (hpy : -9223372036854775808 ≤ py ∧ py ≤ 9223372036854775807) (hp : ∀ c, c < 4 → p c < 2 ^ FloatKind.f32.format.width)
    (hx : -9223372036854775808 ≤ x ∧ x ≤ 9223372036854775807) (hy : -9223372036854775808 ≤ y ∧ y ≤ 9223372036854775807) (hFE : fraErr x y v h len = 0) (hE : graE size s f = 0) (hcap : len ≤ cap) (hcb : cap ≤ 9223372036854775807)
    (hcell : ∀ i, i < len → w.cell? ⟨b, off + i, none⟩ = some (.float .f32 (fs i))) (hfs : ∀ i, i < len → fs i < 2 ^ FloatKind.f32.format.width) :
    Calls Try.prog 12 #[.agg #[.int .u32 seed, .int .i64 size, .float .f32 s, .float .f32 f, .bool mono], .int .i64 num, .int .i64 px, .int .i64 py, .agg #[.float .f32 (p 0), .float .f32 (p 1), .float .f32 (p 2), .float .f32 (p 3)], .agg #[.int .i64 x, .int .i64 y, .int .i64 v, .int .i64 h, .slice (some ⟨b, off, none⟩) len cap]] w fun e w' => e = .returned (.bool true) ∧ Below w.heap.size w w' := by
  have HX := Lib.hid (And.intro hpx (And.intro hpy (And.intro hp (And.intro hx hy))))
  obtain ⟨hr, hl⟩ := fraErr_ok hFE
  obtain ⟨r1, r2, r3, r4, r5, r6, r7, r8, r9, r10⟩ := regErr_ok hr
  have hn0 : 0 < len := by have : 4 ≤ 4 * v * h := by { rw [Int.mul_assoc]; omega }; omega
  have hn6 : len ≤ 65536 := by have : 4 * v * h ≤ 65536 := by { rw [Int.mul_assoc]; omega }; omega
  have hbw : b < w.heap.size := cell_lt (hcell 0 hn0)
  have HFA := Lib.hid (And.intro hFE (And.intro hE (And.intro hcap hcb)))
  have HC := Lib.hid (And.intro hcell hfs)
  have HR := Lib.hid (And.intro hr (And.intro hl (graE_size hE)))
  have hWb : (firstE (fraErr x y v h len) (graE size s f) != 0) = false := by rw [hFE, hE]; rfl
  clear hpx hpy hp hx hy hcap hcb hcell hfs hr hl hFE hE r1 r2 r3 r4 r5 r6 r7 r8 r9 r10
  go_enter Try.func12, Try.ntmps12
  go_upto_region 2 with (first | (go_at_call 80; refine (Grained_any _ _ _ _ _ _ _ _ p _ HX.out.1 HX.out.2.1 HX.out.2.2.1).mono ?_; rintro e w1 ⟨⟨q, rfl, hq0, hq1⟩, hb1⟩; obtain ⟨hc1, hf1, hs1⟩ := bcell hb1; simp at hs1; have z0 : w.heap.size < w1.heap.size := (by omega); have z1 : w.heap.size + 1 < w1.heap.size := (by omega); have z2 : w.heap.size + 1 + 1 < w1.heap.size := (by omega); have z3 : w.heap.size + 1 + 1 + 1 < w1.heap.size := (by omega)))
  have Bw1 : Below w.heap.size w w1 := by (repeat (first | exact Below.refl _ _ | assumption | (refine Below.setCell ?_ (by first | (simp; done) | (simp; omega) | omega) _) | (refine Below.drew ?_) | (refine below_drewN ?_ _) | (refine Below.alloc ?_ (by first | (simp; done) | (simp; omega) | omega) _) | (refine Below.trans ?_ (Below.mono (by assumption) (by first | (simp; done) | (simp; omega) | omega)))))
  go_upto_region 3 with (first | (go_at_call 81; refine (Grain_yes _ _ _ _ b off len cap fs _ _ _ _ _ _ _ HFA.out.1 HFA.out.2.1 HFA.out.2.2.1 HFA.out.2.2.2 (fun i hi => ((Bw1.alloc (by omega) _).cell (p := ⟨b, off + i, none⟩) hbw).trans (HC.out.1 i hi)) HC.out.2).mono ?_; rintro e w2 ⟨⟨g, rfl, hg1, hg2, hg3⟩, hb2⟩))
  obtain ⟨V, hV⟩ : ∃ V, V = w2.alloc (.cells #[.int .i64 x, .int .i64 y, .int .i64 v, .int .i64 h, .slice (some ⟨g, 0, none⟩) len len] 27) := ⟨_, rfl⟩
  have S : GrSt w V seed size s f mono num p q x y v h (.slice (some ⟨b, off, none⟩) len cap) w1.heap.size w2.heap.size x y v h (.slice (some ⟨g, 0, none⟩) len len) := by
    rw [hV]
    have sz := hb2.size
    simp at sz
    have bb2 : Below (w1.heap.size + 1) (w1.alloc (.cells #[.float .f32 (q 0), .float .f32 (q 1), .float .f32 (q 2), .float .f32 (q 3)] 55)) (w2.alloc (.cells #[.int .i64 x, .int .i64 y, .int .i64 v, .int .i64 h, .slice (some ⟨g, 0, none⟩) len len] 27)) := (by simpa using hb2 : Below (w1.heap.size + 1) _ w2).alloc (by omega) _
    have bb1 : Below (w.heap.size + 1 + 1 + 1 + 1) _ (w2.alloc (.cells #[.int .i64 x, .int .i64 y, .int .i64 v, .int .i64 h, .slice (some ⟨g, 0, none⟩) len len] 27)) := ((by simpa using hb1 : Below (w.heap.size + 1 + 1 + 1 + 1) _ w1).alloc (by omega) _).trans (bb2.mono (by omega))
    refine ⟨GrnC.below ⟨by simp [go_sem], by simp [go_sem], by simp [go_sem], by simp [go_sem], by simp [go_sem]⟩ bb1 (by omega), (bb1.cell (p := ⟨w.heap.size + 1, 0, none⟩) (by show w.heap.size + 1 < _; omega)).trans (by simp [go_sem]), Pix4.below ⟨by simp [go_sem], by simp [go_sem], by simp [go_sem], by simp [go_sem], fun o => by simp [go_sem]⟩ bb1 (by omega), FrameC.below ⟨by simp [go_sem], by simp [go_sem], by simp [go_sem], by simp [go_sem], by simp [go_sem], fun o => by simp [go_sem]⟩ bb1 (by omega),
      Pix4.below (Pix4.new w1 _ _ _ _ _) bb2 (by omega), ⟨by simp [go_sem], by simp [go_sem], by simp [go_sem], by simp [go_sem], by simp [go_sem], fun o => by simp [go_sem]⟩, ⟨by simp; omega, by simp; omega, by simp⟩, ?_⟩
    exact Below.trans (((((Below.refl _ _).alloc (Nat.le_refl _) _).alloc (by simp) _).alloc (by simp; omega) _).alloc (by simp; omega) _) (bb1.mono (by omega))
  have gV : g < V.heap.size := by rw [hV]; simp; omega
  have HGC := Lib.hid (fun i hi => by rw [hV, World.cell?_alloc_past _ _ _ hg2]; exact hg3 i hi : ∀ i, i < len → V.cell? ⟨g, i, none⟩ = some (.float .f32 (grnG (bits .xor .u32 seed (num % 4294967296)) x y v size mono s f fs (i / 4) (i % 4))))
  rw [← hV]
  clear hV hc1 hf1 hb1 hb2 z0 z1 z2 z3 hs1 hg1 hg2 hg3 Bw1
  generalize w1.heap.size = qb at *
  generalize w2.heap.size = hh at *
  have SS := Lib.hid S
  obtain ⟨⟨g0, g1, g2, g3, g4⟩, gn, ⟨p0, p1, p2, p3, -⟩, ⟨f0, f1, f2, f3, f4, -⟩, ⟨q0, q1, q2, q3, -⟩, ⟨h0, h1, h2, h3, h4, -⟩, ⟨l1, l2, l3⟩, -⟩ := S
  have l4 : w.heap.size < V.heap.size := by omega
  have l5 : w.heap.size + 1 < V.heap.size := by omega
  have l6 : w.heap.size + 1 + 1 < V.heap.size := by omega
  have HQ := Lib.hid (And.intro hq0 hq1)
  clear hq0 hq1
  go_upto_region 7 with (first | (go_at_call 22; refine (finishes_any _).mono ?_; rintro e w' ⟨n, rfl, rfl⟩) | (go_at_call 82; refine (GrainError_any _ _ _ _ _ _).mono ?_; rintro e w3 ⟨rfl, hb3⟩; obtain ⟨hc3, hf3, hs3⟩ := bcell hb3) | (go_at_call 83; refine (CheckGrain_any _ _ _ _ _ _).mono ?_; rintro e w4 ⟨rfl, hb4⟩; obtain ⟨hc4, hf4, hs4⟩ := bcell hb4; simp at hs4) | (go_at_call 84; refine (placed_any _ _ _).mono ?_; rintro e w' ⟨rfl, rfl⟩) | (go_at_call 18; refine (First2_new _ _ _ _ _ (heap_new _ _ _ (by simp))).mono ?_; rintro e w' ⟨rfl, rfl⟩))
  · go_cut [82] from 52 to 81 (fun s82 wx => s82 = .bool false ∧ Below V.heap.size V wx)
    case first =>
      have ze := pix_zero
      refine wp_named (fun Wc hWc => ?_)
      have BC : Below V.heap.size V Wc := by rw [hWc]; (repeat (first | exact Below.refl _ _ | assumption | (refine Below.setCell ?_ (by first | (simp; done) | (simp; omega) | omega) _) | (refine Below.drew ?_) | (refine below_drewN ?_ _) | (refine Below.alloc ?_ (by first | (simp; done) | (simp; omega) | omega) _) | (refine Below.trans ?_ (Below.mono (by assumption) (by first | (simp; done) | (simp; omega) | omega)))))
      clear hWc hc3 hf3 hc4 hf4 hb3 hb4 hs3 hs4
      have SC := SS.out.past BC
      clear g0 g1 g2 g3 g4 gn p0 p1 p2 p3 f0 f1 f2 f3 f4 q0 q1 q2 q3 h0 h1 h2 h3 h4 l1 l2 l3 l4 l5 l6
      obtain ⟨⟨g0, g1, g2, g3, g4⟩, gn, ⟨p0, p1, p2, p3, -⟩, ⟨f0, f1, f2, f3, f4, -⟩, ⟨q0, q1, q2, q3, -⟩, ⟨h0, h1, h2, h3, h4, -⟩, ⟨l1, l2, l3⟩, -⟩ := SC
      have l4 : w.heap.size < Wc.heap.size := by omega
      have l5 : w.heap.size + 1 < Wc.heap.size := by omega
      have l6 : w.heap.size + 1 + 1 < Wc.heap.size := by omega
      obtain ⟨hq0, hq1⟩ := HQ.out
      obtain ⟨G, hG⟩ : ∃ G, G = grnP (bits .xor .u32 seed (num % 4294967296)) (px / size) (py / size) mono s f p := ⟨_, rfl⟩
      rw [← hG] at hq1
      have HG := Lib.hid hG; clear hG
      by_cases hW1 : firstE (graE size s f) (plaE px py) = 0
      · obtain rfl := hq1 hW1
        have hE : graE size s f = 0 := by
          by_cases h : graE size s f = 0
          · exact h
          · rw [firstE_of _ h] at hW1; exact hW1
        have HS := Lib.hid (graE_size hE)
        have n1 : (firstE (graE size s f) (plaE px py) == 0) = true := by simpa using hW1
        have n2 : (firstE (graE size s f) (plaE px py) != 0) = false := by simpa using hW1
        generalize firstE (graE size s f) (plaE px py) = E1 at *
        clear hq0 hq1 hW1 hE
        refine wp_region_loose 30 (GrPsi q) (by kernel_rfl) (by kernel_rfl) ?_
        simp only [List.take_succ_cons, List.take_zero, List.drop_succ_cons, List.drop_zero]
        iterate 3 (refine loose_wanted rfl (fun K hK => ?_); go_simp; refine hK _ ?_; clear hK K)
        iterate 8 ((with_reducible refine loose_pass (by kernel_rfl) (fun K hK => ?_)); go_simp; refine hK _ ?_; clear hK K)
        iterate 14 (refine loose_wanted rfl (fun K hK => ?_); go_simp; refine hK _ ?_; clear hK K)
        refine loose_wanted rfl (fun K hK => ?_)
        go_simp
        refine ⟨fun p' => (GrainedOf_any seed size s f mono num px py p p'.w HS.out HX.out.1 HX.out.2.1).mono ?_, ?_⟩
        · rintro e w' ⟨⟨q', rfl, hq'⟩, hb⟩
          rw [← HG.out] at hq'
          subst hq'
          exact ⟨_, rfl, .inl ⟨rfl, rfl⟩, p'.h.trans (hb.mono p'.h.size)⟩
        intro u hu
        obtain rfl := gr_psi1 hu
        refine hK _ ?_
        clear hK K hu
        refine loose_wanted rfl (fun K hK => ?_)
        go_simp
        refine ⟨fun p' => (samePixel_any _ _ _ _ _ _ _ _ p'.w).mono ?_, ?_⟩
        · rintro e w' ⟨rfl, hb⟩
          exact ⟨_, rfl, .inr ⟨by decide, by simp⟩, p'.h.trans (hb.mono p'.h.size)⟩
        intro u hu
        obtain rfl := gr_psi2 hu
        refine hK _ ?_
        clear hK K hu
        iterate 3 (refine loose_wanted rfl (fun K hK => ?_); go_simp; refine hK _ ?_; clear hK K)
        refine loose_nil (fun w5 hb5 => ?_)
        go_wp2_with fail
        go_meet
        exact ⟨rfl, BC.trans (hb5.mono BC.size)⟩
      · obtain rfl := hq0 hW1
        have n1 : (firstE (graE size s f) (plaE px py) == 0) = false := by simpa using hW1
        have n2 : (firstE (graE size s f) (plaE px py) != 0) = true := by simpa using hW1
        generalize firstE (graE size s f) (plaE px py) = E1 at *
        clear hq0 hq1 hW1
        refine wp_region_loose 30 (GrPsi G) (by kernel_rfl) (by kernel_rfl) ?_
        simp only [List.take_succ_cons, List.take_zero, List.drop_succ_cons, List.drop_zero]
        iterate 16 (refine loose_wanted rfl (fun K hK => ?_); go_simp; refine hK _ ?_; clear hK K)
        iterate 13 ((with_reducible refine loose_pass (by kernel_rfl) (fun K hK => ?_)); go_simp; refine hK _ ?_; clear hK K)
        iterate 1 (refine loose_wanted rfl (fun K hK => ?_); go_simp; refine hK _ ?_; clear hK K)
        refine loose_nil (fun w5 hb5 => ?_)
        go_wp2_with fail
        go_meet
        exact ⟨rfl, BC.trans (hb5.mono BC.size)⟩
    case rest =>
      obtain ⟨rfl, B⟩ := hcut
      have SC := SS.out.past B
      clear g0 g1 g2 g3 g4 gn p0 p1 p2 p3 f0 f1 f2 f3 f4 q0 q1 q2 q3 h0 h1 h2 h3 h4 l1 l2 l3 l4 l5 l6 hc3 hf3 hc4 hf4 hb3 hb4 hs3 hs4
      have SX := Lib.hid SC; have BB := Lib.hid B
      obtain ⟨-, -, -, ⟨f0, f1, f2, f3, f4, -⟩, -, ⟨h0, h1, h2, h3, h4, -⟩, ⟨l1, -, l3⟩, BW⟩ := SC
      clear B
      go_upto_region 12 with (first | (go_at_call 70; refine (FrameError_any _ _ _ _ _ _ _ _ HX.out.2.2.2.1 HX.out.2.2.2.2).mono ?_; rintro e w6 ⟨rfl, hb6⟩; obtain ⟨hc6, hf6, hs6⟩ := bcell hb6; have l1' : w.heap.size + 1 + 1 + 1 < w6.heap.size := (by omega); have l3' : hh < w6.heap.size := (by omega)) | (go_at_call 18; refine (First2_new _ _ _ _ _ (heap_new _ _ _ (by simp))).mono ?_; rintro e w' ⟨rfl, rfl⟩))
      refine wp_named (fun Wc hWc => ?_)
      have bbs := BB.out.size
      have BC : Below V.heap.size V Wc := BB.out.trans (by rw [hWc]; (repeat (first | exact Below.refl _ _ | assumption | (refine Below.setCell ?_ (by first | (simp; done) | (simp; omega) | omega) _) | (refine Below.drew ?_) | (refine below_drewN ?_ _) | (refine Below.alloc ?_ (by first | (simp; done) | (simp; omega) | omega) _) | (refine Below.trans ?_ (Below.mono (by assumption) (by first | (simp; done) | (simp; omega) | omega))))))
      clear hWc bbs f0 f1 f2 f3 f4 h0 h1 h2 h3 h4 l1 l3 BW SX BB hc6 hf6 hb6 l1' l3' hs6
      have SC := SS.out.past BC
      have SX := Lib.hid SC
      obtain ⟨⟨g0, g1, g2, g3, g4⟩, gn, -, ⟨f0, f1, f2, f3, f4, -⟩, -, ⟨h0, h1, h2, h3, h4, -⟩, ⟨l1, -, l3⟩, BW⟩ := SC
      have l4 : w.heap.size < Wc.heap.size := by omega
      have l5 : w.heap.size + 1 < Wc.heap.size := by omega
      have gW : g < Wc.heap.size := by have := BC.size; omega
      have HGW := Lib.hid (fun i hi => (BC.cell (p := ⟨g, i, none⟩) gV).trans (HGC.out i hi) : ∀ i, i < len → Wc.cell? ⟨g, i, none⟩ = some (.float .f32 (grnG (bits .xor .u32 seed (num % 4294967296)) x y v size mono s f fs (i / 4) (i % 4))))
      have BCH := Lib.hid BC; have BWH := Lib.hid BW
      clear BC BW
      by_cases h4 : (len : Int) ≤ 400
      · have h4b : decide ((len : Int) ≤ 400) = true := by simpa using h4
        clear g0 g1 g2 g3 g4 gn f0 f1 f2 f3 f4 h0 h1 h2 h3
        have hcw := BCH.out.size
        go_region_held3 (fun W => W.cell? ⟨w.heap.size + 1 + 1 + 1, 0, none⟩ = some (.int .i64 x) ∧ W.cell? ⟨w.heap.size + 1 + 1 + 1, 1, none⟩ = some (.int .i64 y) ∧ W.cell? ⟨w.heap.size + 1 + 1 + 1, 2, none⟩ = some (.int .i64 v) ∧ W.cell? ⟨w.heap.size + 1 + 1 + 1, 3, none⟩ = some (.int .i64 h) ∧ W.cell? ⟨w.heap.size + 1 + 1 + 1, 4, none⟩ = some (.slice (some ⟨b, off, none⟩) len cap) ∧ W.cell? ⟨hh, 0, none⟩ = some (.int .i64 x) ∧ W.cell? ⟨hh, 1, none⟩ = some (.int .i64 y) ∧ W.cell? ⟨hh, 2, none⟩ = some (.int .i64 v) ∧ W.cell? ⟨hh, 3, none⟩ = some (.int .i64 h) ∧ W.cell? ⟨hh, 4, none⟩ = some (.slice (some ⟨g, 0, none⟩) len len))
          (first | exact gr_keep SS.out BCH.out.drew | exact gr_keep SS.out B8.out | exact gr_keep SS.out B9.out | exact gr_keep SS.out B10.out)
          (first | (go_at_call 73; refine (few_any _ _ _ _ _ _ _ _).mono ?_; rintro e w8 ⟨rfl, hb8⟩; have B8 : Hid (Below V.heap.size V w8) := BCH.out.drew.trans (hb8.mono (by simp; omega)); rw [h4b]) | (go_at_call 75; refine (Made_any 86 #[.pointer (some ⟨w.heap.size, 0, none⟩), .pointer (some ⟨w.heap.size + 1, 0, none⟩), .pointer (some ⟨w.heap.size + 1 + 1 + 1, 0, none⟩)] x y v h (grnG (bits .xor .u32 seed (num % 4294967296)) x y v size mono s f fs) _ HR.out.1 (body_enters Try.func86 (by kernel_rfl) rfl) (gr_maker SS.out B8.out HR.out.1 HR.out.2.1 HFA.out.2.2.1 HFA.out.2.2.2 HR.out.2.2 hbw HC.out.1)).mono ?_; rintro e w9 ⟨g9, n9, cap9, hn9, rfl, hg9, hgl9, hc9, hb9⟩; have B9 : Hid (Below V.heap.size V w9) := B8.out.trans (hb9.mono (B8.out.size)); obtain rfl : len = n9 := (by have := HR.out.2.1; omega); have H9 := Lib.hid hc9; clear hc9) | (go_at_call 74; refine (SameFrame_yes x y v h g 0 g9 0 len len cap9 (fun i => grnG (bits .xor .u32 seed (num % 4294967296)) x y v size mono s f fs (i / 4) (i % 4)) _ hn6 (by have := B9.out.size; omega) hgl9 (fun i hi => by rw [Nat.zero_add]; exact (B9.out.cell (p := ⟨g, i, none⟩) gV).trans (HGC.out i hi)) (fun i hi => by rw [Nat.zero_add]; exact H9.out i hi)).mono ?_; rintro e w10 ⟨rfl, hb10⟩; have B10 : Hid (Below V.heap.size V w10) := B9.out.trans (hb10.mono (B9.out.size))))
        go_wp2_with fail
        go_ret
        exact ⟨rfl, (SS.out.past B10.out).b⟩
      · have h4b : decide ((len : Int) ≤ 400) = false := by simpa using h4
        refine wp_region_loose 15 (fun _ _ u => u = .bool false) (by kernel_rfl) (by kernel_rfl) ?_
        simp only [List.take_succ_cons, List.take_zero, List.drop_succ_cons, List.drop_zero]
        iterate 1 (refine loose_wanted rfl (fun K hK => ?_); go_simp; refine hK _ ?_; clear hK K)
        refine loose_wanted rfl (fun K hK => ?_)
        go_simp
        refine ⟨fun p' => (few_any _ _ _ _ _ _ _ p'.w).mono ?_, ?_⟩
        · rintro e w' ⟨rfl, hb⟩
          exact ⟨_, rfl, by rw [h4b], p'.h.trans (hb.mono p'.h.size)⟩
        refine hK _ ?_
        clear hK K
        iterate 2 (refine loose_wanted rfl (fun K hK => ?_); go_simp; refine hK _ ?_; clear hK K)
        iterate 10 ((with_reducible refine loose_pass (by kernel_rfl) (fun K hK => ?_)); go_simp; refine hK _ ?_; clear hK K)
        iterate 1 (refine loose_wanted rfl (fun K hK => ?_); go_simp; refine hK _ ?_; clear hK K)
        refine loose_nil (fun w5 hb5 => ?_)
        go_wp2_with fail
        go_ret
        exact ⟨rfl, BWH.out.trans (hb5.mono (by omega))⟩
theorem gr_walk (seed size : Int) (s f : Nat) (mono : Bool) (num px py : Int) (p0 p1 p2 p3 : Nat) (x y v h : Int) (a : Option Addr) (len cap : Nat) (fs : Nat → Nat) (w : World)
    (_ : IntKind.u32.min ≤ seed ∧ seed ≤ IntKind.u32.max) (_ : IntKind.i64.min ≤ size ∧ size ≤ IntKind.i64.max) (_ : s < 2 ^ FloatKind.f32.format.width) (_ : f < 2 ^ FloatKind.f32.format.width) (_ : IntKind.i64.min ≤ num ∧ num ≤ IntKind.i64.max)
    (hpx : IntKind.i64.min ≤ px ∧ px ≤ IntKind.i64.max) (hpy : IntKind.i64.min ≤ py ∧ py ≤ IntKind.i64.max) (h0 : p0 < 2 ^ FloatKind.f32.format.width) (h1 : p1 < 2 ^ FloatKind.f32.format.width) (h2 : p2 < 2 ^ FloatKind.f32.format.width) (h3 : p3 < 2 ^ FloatKind.f32.format.width)
    (hx : IntKind.i64.min ≤ x ∧ x ≤ IntKind.i64.max) (hy : IntKind.i64.min ≤ y ∧ y ≤ IntKind.i64.max) (_ : IntKind.i64.min ≤ v ∧ v ≤ IntKind.i64.max) (_ : IntKind.i64.min ≤ h ∧ h ≤ IntKind.i64.max) (hf : IsFloats w a len cap fs) :
    Calls Try.prog 12 #[.agg #[.int .u32 seed, .int .i64 size, .float .f32 s, .float .f32 f, .bool mono], .int .i64 num, .int .i64 px, .int .i64 py, .agg #[.float .f32 p0, .float .f32 p1, .float .f32 p2, .float .f32 p3], .agg #[.int .i64 x, .int .i64 y, .int .i64 v, .int .i64 h, .slice a len cap]] w fun e w' => e = .returned (.bool true) ∧ Below w.heap.size w w' := by
  have hp : ∀ c, c < 4 → pick4 p0 p1 p2 p3 c < 2 ^ FloatKind.f32.format.width := fun c hc => by
    rcases (show c = 0 ∨ c = 1 ∨ c = 2 ∨ c = 3 by omega) with rfl | rfl | rfl | rfl
    · exact h0
    · exact h1
    · exact h2
    · exact h3
  by_cases hW : firstE (fraErr x y v h len) (graE size s f) = 0
  · have hFE : fraErr x y v h len = 0 := by
      by_cases hz : fraErr x y v h len = 0
      · exact hz
      · rw [firstE_of _ hz] at hW; exact hW
    have hE : graE size s f = 0 := by rw [hFE] at hW; exact hW
    obtain ⟨hr, hl⟩ := fraErr_ok hFE
    obtain ⟨r1, r2, r3, r4, r5, r6, -⟩ := regErr_ok hr
    have hn0 : 0 < len := by have : 4 ≤ 4 * v * h := by { rw [Int.mul_assoc]; omega }; omega
    rcases hf with ⟨hz, -⟩ | ⟨b, off, rfl, -, hcap, hm, hcell⟩
    · omega
    · exact gr_yes seed size s f mono num px py (pick4 p0 p1 p2 p3) x y v h b off len cap fs w hpx hpy hp hx hy hFE hE hcap hm (fun i hi => (hcell i (by omega)).1) (fun i hi => (hcell i (by omega)).2)
  · exact gr_no seed size s f mono num px py (pick4 p0 p1 p2 p3) x y v h a len cap w hpx hpy hp hx hy hW
end Go.Proofs.Ytmnmcmmhnbnndaa
