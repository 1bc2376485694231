/- Grain of a pixel with its errors: finish.Grained, whole. Conditions: numbers of 64 bits. -/
import Derived.Test.YtmnmcmmhnbnndaaGrE
namespace Go.Proofs.Ytmnmcmmhnbnndaa
open Go.RowKit
/-- The error of a place. -/
def plaE (x y : Int) : Int := if -1048576 ≤ x ∧ x ≤ 1048576 ∧ -1048576 ≤ y ∧ y ≤ 1048576 then 0 else 5
theorem graE_size {size : Int} {s f : Nat} (h : graE size s f = 0) : 1 ≤ size ∧ size ≤ 16 := by
  unfold graE at h
  cases hi : inB size 1 16 with
  | true => exact inB_iff.1 hi
  | false => rw [hi] at h; simp at h
/-- A pixel with grain. -/
def grnP (sd a b : Int) (mono : Bool) (s f : Nat) (p : Nat → Nat) : Nat → Nat
  | 0 => grnF sd a b (chanZ mono 0) s f (p 0)
  | 1 => grnF sd a b (chanZ mono 1) s f (p 1)
  | 2 => grnF sd a b (chanZ mono 2) s f (p 2)
  | _ => cn .f32 (p 3)
set_option maxRecDepth 100000 in
set_option maxHeartbeats 1600000 in
theorem Grained_any (seed size : Int) (s f : Nat) (mono : Bool) (num x y : Int) (p : Nat → Nat) (w : World) (hx : -9223372036854775808 ≤ x ∧ x ≤ 9223372036854775807) (hy : -9223372036854775808 ≤ y ∧ y ≤ 9223372036854775807)
    (hp : ∀ c, c < 4 → p c < 2 ^ FloatKind.f32.format.width) :
    Calls Try.prog 80 #[.agg #[.int .u32 seed, .int .i64 size, .float .f32 s, .float .f32 f, .bool mono], .int .i64 num, .int .i64 x, .int .i64 y, .agg #[.float .f32 (p 0), .float .f32 (p 1), .float .f32 (p 2), .float .f32 (p 3)]] w fun e w' =>
      (∃ q : Nat → Nat, e = .returned (.tuple #[.agg #[.float .f32 (q 0), .float .f32 (q 1), .float .f32 (q 2), .float .f32 (q 3)], .int .i64 (firstE (graE size s f) (plaE x y))]) ∧ (firstE (graE size s f) (plaE x y) ≠ 0 → q = fun _ => 0) ∧
        (firstE (graE size s f) (plaE x y) = 0 → q = grnP (bits .xor .u32 seed (num % 4294967296)) (x / size) (y / size) mono s f p)) ∧ Below w.heap.size w w' := by
  by_cases hE : graE size s f = 0
  · have hsz := graE_size hE
    by_cases hpl : -1048576 ≤ x ∧ x ≤ 1048576 ∧ -1048576 ≤ y ∧ y ≤ 1048576
    · have eW : firstE (graE size s f) (plaE x y) = 0 := by unfold plaE; rw [hE, if_pos hpl]; rfl
      rw [eW]
      have h0 := hp 0 (by omega); have h1 := hp 1 (by omega); have h2 := hp 2 (by omega)
      have H := Lib.hid (And.intro hsz (And.intro hx (And.intro hy (And.intro h0 (And.intro h1 h2)))))
      obtain ⟨x1, x2, y1, y2⟩ := hpl
      clear eW hsz hx hy h0 h1 h2 hp
      go_enter Try.func80, Try.ntmps80
      go_wp2_with (first | (go_at_call 83; refine (CheckGrain_any _ _ _ _ _ _).mono ?_; rintro e w1 ⟨rfl, hb1⟩; obtain ⟨hc1, hf1, hs1⟩ := bcell hb1; simp at hs1; have hq0 : w.heap.size < w1.heap.size := (by omega); have hq1 : w.heap.size + 1 < w1.heap.size := (by omega); have hq2 : w.heap.size + 1 + 1 < w1.heap.size := (by omega); rw [hE]))
      have R1 : Pix4 w1 (w.heap.size + 1 + 1) 0 0 0 0 := by
        refine Pix4.below (n := w.heap.size + 1 + 1 + 1) (W := ((w.alloc (.cells #[.int .u32 seed, .int .i64 size, .float .f32 s, .float .f32 f, .bool mono] 113)).alloc (.cells #[.float .f32 (p 0), .float .f32 (p 1), .float .f32 (p 2), .float .f32 (p 3)] 55)).alloc (.cells #[.float .f32 0, .float .f32 0, .float .f32 0, .float .f32 0] 55)) ⟨by simp [go_sem], by simp [go_sem], by simp [go_sem], by simp [go_sem], fun o => by simp [go_sem]⟩ (by simpa using hb1) (by omega)
      have B1 : Below w.heap.size w w1 := by (repeat (first | exact Below.refl _ _ | assumption | (refine Below.setCell ?_ (by first | (simp; done) | (simp; omega) | omega) _) | (refine Below.drew ?_) | (refine below_drewN ?_ _) | (refine Below.alloc ?_ (by first | (simp; done) | (simp; omega) | omega) _) | (refine Below.trans ?_ (Below.mono (by assumption) (by first | (simp; done) | (simp; omega) | omega)))))
      clear hc1 hf1 hb1
      refine (grained_any seed size s f mono num x y _ _ _ _ w1 H.out.1 H.out.2.1 H.out.2.2.1 H.out.2.2.2.1 H.out.2.2.2.2.1 H.out.2.2.2.2.2).mono ?_
      rintro e w2 ⟨he, hb2⟩
      obtain ⟨q, hq⟩ : ∃ q, q = grnP (bits .xor .u32 seed (num % 4294967296)) (x / size) (y / size) mono s f p := ⟨_, rfl⟩
      have he2 : e = .returned (.agg #[.float .f32 (q 0), .float .f32 (q 1), .float .f32 (q 2), .float .f32 (q 3)]) := by rw [he, hq]; rfl
      clear he
      subst he2
      have HQ := Lib.hid hq; clear hq
      have R2 := R1.below hb2 (by omega)
      have B2 := B1.trans (hb2.mono (by omega))
      clear R1 B1 hb2
      obtain ⟨d0, d1, d2, d3, df⟩ := R2
      go_wp2_with fail
      refine bodyPost_ret (v := .tuple #[.agg #[.float .f32 (q 0), .float .f32 (q 1), .float .f32 (q 2), .float .f32 (q 3)], .int .i64 0]) (by simp [results, Try.results80, go_sem, d0, d1, d2, d3]) rfl ⟨⟨q, rfl, fun h => absurd rfl h, fun _ => HQ.out⟩, ?_⟩
      exact (((B2.setCell (by first | (simp; done) | (simp; omega) | omega) _).setCell (by first | (simp; done) | (simp; omega) | omega) _).setCell (by first | (simp; done) | (simp; omega) | omega) _).setCell (by first | (simp; done) | (simp; omega) | omega) _
    · have eW : firstE (graE size s f) (plaE x y) = 5 := by unfold plaE; rw [hE, if_neg hpl]; rfl
      rw [eW]
      have hcase : x < -1048576 ∨ (-1048576 ≤ x ∧ 1048576 < x) ∨ (-1048576 ≤ x ∧ x ≤ 1048576 ∧ y < -1048576) ∨ (-1048576 ≤ x ∧ x ≤ 1048576 ∧ -1048576 ≤ y ∧ 1048576 < y) := by omega
      clear eW hsz hx hy hp hpl
      rcases hcase with k1 | ⟨k1, k2⟩ | ⟨k1, k2, k3⟩ | ⟨k1, k2, k3, k4⟩
      all_goals
        go_enter Try.func80, Try.ntmps80
        go_wp2_with (first | (go_at_call 83; refine (CheckGrain_any _ _ _ _ _ _).mono ?_; rintro e w1 ⟨rfl, hb1⟩; obtain ⟨hc1, hf1, hs1⟩ := bcell hb1; simp at hs1; have hq0 : w.heap.size < w1.heap.size := (by omega); have hq1 : w.heap.size + 1 < w1.heap.size := (by omega); have hq2 : w.heap.size + 1 + 1 < w1.heap.size := (by omega); rw [hE]))
        refine bodyPost_ret (v := .tuple #[.agg #[.float .f32 0, .float .f32 0, .float .f32 0, .float .f32 0], .int .i64 5]) (by simp [results, Try.results80, go_sem, *]) rfl ⟨⟨fun _ => 0, rfl, fun _ => rfl, fun h => absurd h (by decide)⟩, ?_⟩
        (repeat (first | exact Below.refl _ _ | assumption | (refine Below.setCell ?_ (by first | (simp; done) | (simp; omega) | omega) _) | (refine Below.drew ?_) | (refine below_drewN ?_ _) | (refine Below.alloc ?_ (by first | (simp; done) | (simp; omega) | omega) _) | (refine Below.trans ?_ (Below.mono (by assumption) (by first | (simp; done) | (simp; omega) | omega)))))
  · have eW : firstE (graE size s f) (plaE x y) = graE size s f := firstE_of _ hE
    rw [eW]
    have hc : (graE size s f != 0) = true := by simpa using hE
    have hE' := Lib.hid hE; clear hE eW hx hy hp
    go_enter Try.func80, Try.ntmps80
    go_wp2_with (first | (go_at_call 83; refine (CheckGrain_any _ _ _ _ _ _).mono ?_; rintro e w1 ⟨rfl, hb1⟩; obtain ⟨hc1, hf1, hs1⟩ := bcell hb1; simp at hs1; have hq0 : w.heap.size < w1.heap.size := (by omega); have hq1 : w.heap.size + 1 < w1.heap.size := (by omega); have hq2 : w.heap.size + 1 + 1 < w1.heap.size := (by omega)))
    refine bodyPost_ret (v := .tuple #[.agg #[.float .f32 0, .float .f32 0, .float .f32 0, .float .f32 0], .int .i64 (graE size s f)]) (by simp [results, Try.results80, go_sem, *]) rfl ⟨⟨fun _ => 0, rfl, fun _ => rfl, fun h => absurd h hE'.out⟩, ?_⟩
    (repeat (first | exact Below.refl _ _ | assumption | (refine Below.setCell ?_ (by first | (simp; done) | (simp; omega) | omega) _) | (refine Below.drew ?_) | (refine below_drewN ?_ _) | (refine Below.alloc ?_ (by first | (simp; done) | (simp; omega) | omega) _) | (refine Below.trans ?_ (Below.mono (by assumption) (by first | (simp; done) | (simp; omega) | omega)))))
end Go.Proofs.Ytmnmcmmhnbnndaa
