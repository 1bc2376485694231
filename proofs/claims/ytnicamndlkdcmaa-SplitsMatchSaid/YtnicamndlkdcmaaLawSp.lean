/- SplitsMatch: the walk of the statement. No condition. -/
import Derived.Test.YtnicamndlkdcmaaSpF
import Derived.Test.YtnicamndlkdcmaaFaF
import Derived.Test.YtnicamndlkdcmaaBO
namespace Go.Proofs.Ytnicamndlkdcmaa
open Go Go.RowKit
set_option maxRecDepth 100000 in
set_option maxHeartbeats 1600000 in
theorem sp_err (X Y W H s first last : Int) (w : World) (hx : -9223372036854775808 ≤ X ∧ X ≤ 9223372036854775807) (hy : -9223372036854775808 ≤ Y ∧ Y ≤ 9223372036854775807) (hE : spE (regErr X Y W H) s first last ≠ 0) (f1 f2 : Bool) (hf1 : inB first 0 16777216 = f1) (hf2 : inB last 0 16777216 = f2) :
    Calls Try.prog 6 #[.agg #[.int .i64 X, .int .i64 Y, .int .i64 W, .int .i64 H], .int .i64 s, .int .i64 first, .int .i64 last] w fun e w' => e = .returned (.bool true) ∧ Below w.heap.size w w' := by
  have hS := Lib.hid (fun w' => Split_no X Y W H s first last w' hE : ∀ w', _)
  obtain ⟨F, hF⟩ : ∃ F, F = regErr X Y W H := ⟨_, rfl⟩
  rw [← hF] at hE hS
  obtain ⟨E, hEE⟩ : ∃ E, E = spE F s first last := ⟨_, rfl⟩
  rw [← hEE] at hE hS
  have hb : (E != 0) = true := by simpa using hE
  have HX := Lib.hid (And.intro hx hy); have HF := Lib.hid hF; have HE := Lib.hid hEE
  clear hE hEE hF hx hy
  cases f1 <;> cases f2
  · have hfst := Lib.hid (show firstE F (firstE (whenE (!inB s 1 256) 3) (firstE 3 (whenE (decide (last < first)) 8))) = E by rw [HE.out]; unfold spE; rw [hf1, hf2]; rfl)
    go_enter Try.func6, Try.ntmps6
    go_upto_region 1 with fail
    refine wp_world (fun V hV => ?_)
    have A0 : Blk V w.heap.size [.int .i64 X, .int .i64 Y, .int .i64 W, .int .i64 H] := by rw [hV]; exact Blk.new _ _ _ _ rfl
    have BW : Below w.heap.size w V := by rw [hV]; (repeat (first | exact Below.refl _ _ | assumption | (refine Below.setCell ?_ (by first | (simp; done) | (simp; omega) | omega) _) | (refine Below.drew ?_) | (refine below_drewN ?_ _) | (refine Below.alloc ?_ (by first | (simp; done) | (simp; omega) | omega) _) | (refine Below.trans ?_ (Below.mono (by assumption) (by first | (simp; done) | (simp; omega) | omega)))))
    have H0 := Lib.hid (And.intro A0 BW)
    have a0 := A0.c 0 _ rfl; have a1 := A0.c 1 _ rfl; have a2 := A0.c 2 _ rfl; have a3 := A0.c 3 _ rfl; have al := A0.lt
    clear hV A0 BW
    go_wp2_with fail
    refine (hS.out _).mono ?_
    rintro e w2 ⟨rfl, hbb⟩
    have H1 := Lib.hid (And.intro (H0.out.1.past hbb) (H0.out.2.trans (hbb.mono H0.out.2.size)))
    clear a0 a1 a2 a3 al hbb hS H0
    have a0 := H1.out.1.c 0 _ rfl; have a1 := H1.out.1.c 1 _ rfl; have a2 := H1.out.1.c 2 _ rfl; have a3 := H1.out.1.c 3 _ rfl; have al := H1.out.1.lt
    go_upto_region 3 with (first | (go_at_call 16; refine (In_any _ _ _ _).mono ?_; rintro e w' ⟨rfl, rfl⟩) | (go_at_call 15; refine (When_any _ _ _).mono ?_; rintro e w' ⟨rfl, rfl⟩) | (go_at_call 28; refine (RegionError_any _ _ _ _ _ HX.out.1 HX.out.2).mono ?_; rintro e w4 ⟨rfl, hbb⟩; rw [← HF.out]; have B4 := Lib.hid (H1.out.2.trans (hbb.mono H1.out.2.size)); clear hbb a0 a1 a2 a3 al H1) | (go_at_call 14; refine (First4_new _ _ _ _ _ _ _ (heap_new _ _ _ (by simp))).mono ?_; rintro e w' ⟨rfl, rfl⟩; rw [hfst.out]))
    refine wp_world (fun W5 hW5 => ?_)
    have B5 := Lib.hid (B4.out.trans (show Below w.heap.size w4 W5 by rw [hW5]; have := B4.out.size; (repeat (first | exact Below.refl _ _ | assumption | (refine Below.setCell ?_ (by first | (simp; done) | (simp; omega) | omega) _) | (refine Below.drew ?_) | (refine below_drewN ?_ _) | (refine Below.alloc ?_ (by first | (simp; done) | (simp; omega) | omega) _) | (refine Below.trans ?_ (Below.mono (by assumption) (by first | (simp; done) | (simp; omega) | omega)))))))
    clear hW5 B4
    go_wp2_with (first | (go_at_call 11; refine (farms_any _).mono ?_; rintro e w6 ⟨rfl, hbb⟩; have B6 := Lib.hid (B5.out.trans (hbb.mono B5.out.size)); clear hbb B5) | (go_at_call 11; refine (farms_any _).mono ?_; rintro e w7 ⟨rfl, hbb⟩; have B7 := Lib.hid (B6.out.trans (hbb.mono B6.out.size)); clear hbb B6))
    go_ret
    exact ⟨by simp, B7.out⟩
  · have hfst := Lib.hid (show firstE F (firstE (whenE (!inB s 1 256) 3) (firstE 3 (whenE (decide (last < first)) 8))) = E by rw [HE.out]; unfold spE; rw [hf1, hf2]; rfl)
    go_enter Try.func6, Try.ntmps6
    go_upto_region 1 with fail
    refine wp_world (fun V hV => ?_)
    have A0 : Blk V w.heap.size [.int .i64 X, .int .i64 Y, .int .i64 W, .int .i64 H] := by rw [hV]; exact Blk.new _ _ _ _ rfl
    have BW : Below w.heap.size w V := by rw [hV]; (repeat (first | exact Below.refl _ _ | assumption | (refine Below.setCell ?_ (by first | (simp; done) | (simp; omega) | omega) _) | (refine Below.drew ?_) | (refine below_drewN ?_ _) | (refine Below.alloc ?_ (by first | (simp; done) | (simp; omega) | omega) _) | (refine Below.trans ?_ (Below.mono (by assumption) (by first | (simp; done) | (simp; omega) | omega)))))
    have H0 := Lib.hid (And.intro A0 BW)
    have a0 := A0.c 0 _ rfl; have a1 := A0.c 1 _ rfl; have a2 := A0.c 2 _ rfl; have a3 := A0.c 3 _ rfl; have al := A0.lt
    clear hV A0 BW
    go_wp2_with fail
    refine (hS.out _).mono ?_
    rintro e w2 ⟨rfl, hbb⟩
    have H1 := Lib.hid (And.intro (H0.out.1.past hbb) (H0.out.2.trans (hbb.mono H0.out.2.size)))
    clear a0 a1 a2 a3 al hbb hS H0
    have a0 := H1.out.1.c 0 _ rfl; have a1 := H1.out.1.c 1 _ rfl; have a2 := H1.out.1.c 2 _ rfl; have a3 := H1.out.1.c 3 _ rfl; have al := H1.out.1.lt
    go_upto_region 3 with (first | (go_at_call 16; refine (In_any _ _ _ _).mono ?_; rintro e w' ⟨rfl, rfl⟩) | (go_at_call 15; refine (When_any _ _ _).mono ?_; rintro e w' ⟨rfl, rfl⟩) | (go_at_call 28; refine (RegionError_any _ _ _ _ _ HX.out.1 HX.out.2).mono ?_; rintro e w4 ⟨rfl, hbb⟩; rw [← HF.out]; have B4 := Lib.hid (H1.out.2.trans (hbb.mono H1.out.2.size)); clear hbb a0 a1 a2 a3 al H1) | (go_at_call 14; refine (First4_new _ _ _ _ _ _ _ (heap_new _ _ _ (by simp))).mono ?_; rintro e w' ⟨rfl, rfl⟩; rw [hfst.out]))
    refine wp_world (fun W5 hW5 => ?_)
    have B5 := Lib.hid (B4.out.trans (show Below w.heap.size w4 W5 by rw [hW5]; have := B4.out.size; (repeat (first | exact Below.refl _ _ | assumption | (refine Below.setCell ?_ (by first | (simp; done) | (simp; omega) | omega) _) | (refine Below.drew ?_) | (refine below_drewN ?_ _) | (refine Below.alloc ?_ (by first | (simp; done) | (simp; omega) | omega) _) | (refine Below.trans ?_ (Below.mono (by assumption) (by first | (simp; done) | (simp; omega) | omega)))))))
    clear hW5 B4
    go_wp2_with (first | (go_at_call 11; refine (farms_any _).mono ?_; rintro e w6 ⟨rfl, hbb⟩; have B6 := Lib.hid (B5.out.trans (hbb.mono B5.out.size)); clear hbb B5) | (go_at_call 11; refine (farms_any _).mono ?_; rintro e w7 ⟨rfl, hbb⟩; have B7 := Lib.hid (B6.out.trans (hbb.mono B6.out.size)); clear hbb B6))
    go_ret
    exact ⟨by simp, B7.out⟩
  · have hfst := Lib.hid (show firstE F (firstE (whenE (!inB s 1 256) 3) (firstE 3 (whenE (decide (last < first)) 8))) = E by rw [HE.out]; unfold spE; rw [hf1, hf2]; rfl)
    go_enter Try.func6, Try.ntmps6
    go_upto_region 1 with fail
    refine wp_world (fun V hV => ?_)
    have A0 : Blk V w.heap.size [.int .i64 X, .int .i64 Y, .int .i64 W, .int .i64 H] := by rw [hV]; exact Blk.new _ _ _ _ rfl
    have BW : Below w.heap.size w V := by rw [hV]; (repeat (first | exact Below.refl _ _ | assumption | (refine Below.setCell ?_ (by first | (simp; done) | (simp; omega) | omega) _) | (refine Below.drew ?_) | (refine below_drewN ?_ _) | (refine Below.alloc ?_ (by first | (simp; done) | (simp; omega) | omega) _) | (refine Below.trans ?_ (Below.mono (by assumption) (by first | (simp; done) | (simp; omega) | omega)))))
    have H0 := Lib.hid (And.intro A0 BW)
    have a0 := A0.c 0 _ rfl; have a1 := A0.c 1 _ rfl; have a2 := A0.c 2 _ rfl; have a3 := A0.c 3 _ rfl; have al := A0.lt
    clear hV A0 BW
    go_wp2_with fail
    refine (hS.out _).mono ?_
    rintro e w2 ⟨rfl, hbb⟩
    have H1 := Lib.hid (And.intro (H0.out.1.past hbb) (H0.out.2.trans (hbb.mono H0.out.2.size)))
    clear a0 a1 a2 a3 al hbb hS H0
    have a0 := H1.out.1.c 0 _ rfl; have a1 := H1.out.1.c 1 _ rfl; have a2 := H1.out.1.c 2 _ rfl; have a3 := H1.out.1.c 3 _ rfl; have al := H1.out.1.lt
    go_upto_region 3 with (first | (go_at_call 16; refine (In_any _ _ _ _).mono ?_; rintro e w' ⟨rfl, rfl⟩) | (go_at_call 15; refine (When_any _ _ _).mono ?_; rintro e w' ⟨rfl, rfl⟩) | (go_at_call 28; refine (RegionError_any _ _ _ _ _ HX.out.1 HX.out.2).mono ?_; rintro e w4 ⟨rfl, hbb⟩; rw [← HF.out]; have B4 := Lib.hid (H1.out.2.trans (hbb.mono H1.out.2.size)); clear hbb a0 a1 a2 a3 al H1) | (go_at_call 14; refine (First4_new _ _ _ _ _ _ _ (heap_new _ _ _ (by simp))).mono ?_; rintro e w' ⟨rfl, rfl⟩; rw [hfst.out]))
    refine wp_world (fun W5 hW5 => ?_)
    have B5 := Lib.hid (B4.out.trans (show Below w.heap.size w4 W5 by rw [hW5]; have := B4.out.size; (repeat (first | exact Below.refl _ _ | assumption | (refine Below.setCell ?_ (by first | (simp; done) | (simp; omega) | omega) _) | (refine Below.drew ?_) | (refine below_drewN ?_ _) | (refine Below.alloc ?_ (by first | (simp; done) | (simp; omega) | omega) _) | (refine Below.trans ?_ (Below.mono (by assumption) (by first | (simp; done) | (simp; omega) | omega)))))))
    clear hW5 B4
    go_wp2_with (first | (go_at_call 11; refine (farms_any _).mono ?_; rintro e w6 ⟨rfl, hbb⟩; have B6 := Lib.hid (B5.out.trans (hbb.mono B5.out.size)); clear hbb B5) | (go_at_call 11; refine (farms_any _).mono ?_; rintro e w7 ⟨rfl, hbb⟩; have B7 := Lib.hid (B6.out.trans (hbb.mono B6.out.size)); clear hbb B6))
    go_ret
    exact ⟨by simp, B7.out⟩
  · have hfst := Lib.hid (show firstE F (firstE (whenE (!inB s 1 256) 3) (firstE 0 (whenE (decide (last < first)) 8))) = E by rw [HE.out]; unfold spE; rw [hf1, hf2]; rfl)
    go_enter Try.func6, Try.ntmps6
    go_upto_region 1 with fail
    refine wp_world (fun V hV => ?_)
    have A0 : Blk V w.heap.size [.int .i64 X, .int .i64 Y, .int .i64 W, .int .i64 H] := by rw [hV]; exact Blk.new _ _ _ _ rfl
    have BW : Below w.heap.size w V := by rw [hV]; (repeat (first | exact Below.refl _ _ | assumption | (refine Below.setCell ?_ (by first | (simp; done) | (simp; omega) | omega) _) | (refine Below.drew ?_) | (refine below_drewN ?_ _) | (refine Below.alloc ?_ (by first | (simp; done) | (simp; omega) | omega) _) | (refine Below.trans ?_ (Below.mono (by assumption) (by first | (simp; done) | (simp; omega) | omega)))))
    have H0 := Lib.hid (And.intro A0 BW)
    have a0 := A0.c 0 _ rfl; have a1 := A0.c 1 _ rfl; have a2 := A0.c 2 _ rfl; have a3 := A0.c 3 _ rfl; have al := A0.lt
    clear hV A0 BW
    go_wp2_with fail
    refine (hS.out _).mono ?_
    rintro e w2 ⟨rfl, hbb⟩
    have H1 := Lib.hid (And.intro (H0.out.1.past hbb) (H0.out.2.trans (hbb.mono H0.out.2.size)))
    clear a0 a1 a2 a3 al hbb hS H0
    have a0 := H1.out.1.c 0 _ rfl; have a1 := H1.out.1.c 1 _ rfl; have a2 := H1.out.1.c 2 _ rfl; have a3 := H1.out.1.c 3 _ rfl; have al := H1.out.1.lt
    go_upto_region 3 with (first | (go_at_call 16; refine (In_any _ _ _ _).mono ?_; rintro e w' ⟨rfl, rfl⟩) | (go_at_call 15; refine (When_any _ _ _).mono ?_; rintro e w' ⟨rfl, rfl⟩) | (go_at_call 28; refine (RegionError_any _ _ _ _ _ HX.out.1 HX.out.2).mono ?_; rintro e w4 ⟨rfl, hbb⟩; rw [← HF.out]; have B4 := Lib.hid (H1.out.2.trans (hbb.mono H1.out.2.size)); clear hbb a0 a1 a2 a3 al H1) | (go_at_call 14; refine (First4_new _ _ _ _ _ _ _ (heap_new _ _ _ (by simp))).mono ?_; rintro e w' ⟨rfl, rfl⟩; rw [hfst.out]))
    refine wp_world (fun W5 hW5 => ?_)
    have B5 := Lib.hid (B4.out.trans (show Below w.heap.size w4 W5 by rw [hW5]; have := B4.out.size; (repeat (first | exact Below.refl _ _ | assumption | (refine Below.setCell ?_ (by first | (simp; done) | (simp; omega) | omega) _) | (refine Below.drew ?_) | (refine below_drewN ?_ _) | (refine Below.alloc ?_ (by first | (simp; done) | (simp; omega) | omega) _) | (refine Below.trans ?_ (Below.mono (by assumption) (by first | (simp; done) | (simp; omega) | omega)))))))
    clear hW5 B4
    go_wp2_with (first | (go_at_call 11; refine (farms_any _).mono ?_; rintro e w6 ⟨rfl, hbb⟩; have B6 := Lib.hid (B5.out.trans (hbb.mono B5.out.size)); clear hbb B5) | (go_at_call 11; refine (farms_any _).mono ?_; rintro e w7 ⟨rfl, hbb⟩; have B7 := Lib.hid (B6.out.trans (hbb.mono B6.out.size)); clear hbb B6))
    go_ret
    exact ⟨by simp, B7.out⟩
/-- What stands of the statement's variables. -/
structure SpR (w W : World) (La : List Value) (g K : Nat) (f : Nat → List Value) : Prop where
  a : Blk W w.heap.size La
  l : ∀ q j v, q < K → (f q)[j]? = some v → W.cell? ⟨g, 5 * q + j, none⟩ = some v
  gl : g < W.heap.size
  w : Below w.heap.size w W
theorem SpR.past {w W V : World} {La : List Value} {g K : Nat} {f : Nat → List Value} (k : SpR w W La g K f) (h : Below W.heap.size W V) : SpR w V La g K f :=
  ⟨k.a.past h, fun q j v hq hv => (h.cell (p := ⟨g, 5 * q + j, none⟩) k.gl).trans (k.l q j v hq hv), Nat.lt_of_lt_of_le k.gl h.size, k.w.trans (h.mono k.w.size)⟩
theorem sp_ok {F s first last : Int} (h : spE F s first last = 0) : F = 0 ∧ (1 ≤ s ∧ s ≤ 256) ∧ (0 ≤ first ∧ first ≤ 16777216) ∧ (0 ≤ last ∧ last ≤ 16777216) ∧ first ≤ last := by
  have hz : ∀ {a b : Int}, firstE a b = 0 → a = 0 ∧ b = 0 := by
    intro a b h
    unfold firstE at h
    split at h
    · rename_i h0; exact ⟨h0, h⟩
    · rename_i h0; exact absurd h h0
  unfold spE at h
  obtain ⟨h1, h2⟩ := hz h
  obtain ⟨h3, h4⟩ := hz h2
  obtain ⟨h5, h6⟩ := hz h4
  have hs : 1 ≤ s ∧ s ≤ 256 := by
    cases hi : inB s 1 256
    · rw [hi] at h3; cases h3
    · exact inB_iff.1 hi
  have hf : 0 ≤ first ∧ first ≤ 16777216 := by
    cases hi : inB first 0 16777216
    · rw [hi] at h5; cases h5
    · exact inB_iff.1 hi
  have hl : 0 ≤ last ∧ last ≤ 16777216 := by
    cases hi : inB last 0 16777216
    · rw [hi, inB_t hf] at h5; cases h5
    · exact inB_iff.1 hi
  refine ⟨h1, hs, hf, hl, ?_⟩
  by_cases hlt : last < first
  · rw [decide_eq_true hlt] at h6; cases h6
  · omega
set_option maxRecDepth 100000 in
set_option maxHeartbeats 1600000 in
theorem sp_large (X Y W H s first last : Int) (w : World) (hx : -9223372036854775808 ≤ X ∧ X ≤ 9223372036854775807) (hy : -9223372036854775808 ≤ Y ∧ Y ≤ 9223372036854775807) (he : regErr X Y W H = 0) (hs : 1 ≤ s ∧ s ≤ 256) (hf : 0 ≤ first ∧ first ≤ 16777216) (hl : 0 ≤ last ∧ last ≤ 16777216) (hfl : first ≤ last) (hK : 2000 < ((tlN X W s * tlN Y H s : Nat) : Int) * (last - first + 1)) :
    Calls Try.prog 6 #[.agg #[.int .i64 X, .int .i64 Y, .int .i64 W, .int .i64 H], .int .i64 s, .int .i64 first, .int .i64 last] w fun e w' => e = .returned (.bool true) ∧ Below w.heap.size w w' := by
  have hS := Lib.hid (fun w' => Split_large X Y W H s first last w' he hs ⟨hf.1, hl.2⟩ hfl hK : ∀ w', _)
  have hT := Lib.hid (fun w' => Tiles_yes X Y W H s w' he hs : ∀ w', _)
  obtain ⟨r1, r2, r3, r4, r5, r6, r7, r8, r9, r10⟩ := regErr_ok he
  obtain ⟨n1, n2⟩ := tlN_bd (X := X) hs.1 ⟨r1, r2⟩
  obtain ⟨m1, m2⟩ := tlN_bd (X := Y) hs.1 ⟨r3, r4⟩
  obtain ⟨N, hN⟩ : ∃ N, N = tlN X W s * tlN Y H s := ⟨_, rfl⟩
  have hN0 : 0 < N := by rw [hN]; exact Nat.mul_pos (by omega) (by omega)
  have hN1 : N ≤ 262144 := by rw [hN]; exact Nat.le_trans (Nat.mul_le_mul n2 m2) (by decide)
  rw [← hN] at hT hK
  obtain ⟨K, hKK⟩ : ∃ K, K = (N : Int) * (last - first + 1) := ⟨_, rfl⟩
  rw [← hKK] at hK
  have hK2 : K ≤ 262144 * 16777217 := by rw [hKK]; exact Int.mul_le_mul (by omega) (by omega) (by omega) (by omega)
  have wK : IntKind.i64.wrap ((N : Int) * (last - first + 1)) = K := by rw [← hKK, IntKind.wrap_i64]; omega
  have HX := Lib.hid (And.intro hx hy); have HE := Lib.hid he; have HN0 := Lib.hid hN0
  have i1 := inB_t hs; have i2 := inB_t hf; have i3 := inB_t hl
  have i4 : decide (last < first) = false := decide_eq_false (by omega)
  clear r1 r2 r3 r4 r5 r6 r7 r8 r9 r10 n1 n2 m1 m2 hN hKK he hs hx hy
  go_enter Try.func6, Try.ntmps6
  go_upto_region 1 with fail
  refine wp_world (fun V hV => ?_)
  have A0 : Blk V w.heap.size [.int .i64 X, .int .i64 Y, .int .i64 W, .int .i64 H] := by rw [hV]; exact Blk.new _ _ _ _ rfl
  have BW : Below w.heap.size w V := by rw [hV]; (repeat (first | exact Below.refl _ _ | assumption | (refine Below.setCell ?_ (by first | (simp; done) | (simp; omega) | omega) _) | (refine Below.drew ?_) | (refine below_drewN ?_ _) | (refine Below.alloc ?_ (by first | (simp; done) | (simp; omega) | omega) _) | (refine Below.trans ?_ (Below.mono (by assumption) (by first | (simp; done) | (simp; omega) | omega)))))
  have H0 := Lib.hid (And.intro A0 BW)
  have a0 := A0.c 0 _ rfl; have a1 := A0.c 1 _ rfl; have a2 := A0.c 2 _ rfl; have a3 := A0.c 3 _ rfl; have al := A0.lt
  clear hV A0 BW
  go_wp2_with fail
  refine (hS.out _).mono ?_
  rintro e w2 ⟨rfl, hbb⟩
  have H1 := Lib.hid (And.intro (H0.out.1.past hbb) (H0.out.2.trans (hbb.mono H0.out.2.size)))
  clear a0 a1 a2 a3 al hbb hS H0
  have a0 := H1.out.1.c 0 _ rfl; have a1 := H1.out.1.c 1 _ rfl; have a2 := H1.out.1.c 2 _ rfl; have a3 := H1.out.1.c 3 _ rfl; have al := H1.out.1.lt
  go_upto_region 3 with (first | (go_at_call 16; refine (In_any _ _ _ _).mono ?_; rintro e w' ⟨rfl, rfl⟩) | (go_at_call 15; refine (When_any _ _ _).mono ?_; rintro e w' ⟨rfl, rfl⟩) | (go_at_call 28; refine (RegionError_any _ _ _ _ _ HX.out.1 HX.out.2).mono ?_; rintro e w4 ⟨rfl, hbb⟩; rw [HE.out]; have H4 := Lib.hid (And.intro (H1.out.1.past hbb) (H1.out.2.trans (hbb.mono H1.out.2.size))); clear hbb a0 a1 a2 a3 al H1) | (go_at_call 14; refine (First4_new _ _ _ _ _ _ _ (heap_new _ _ _ (by simp))).mono ?_; rintro e w' ⟨rfl, rfl⟩))
  refine wp_world (fun W5 hW5 => ?_)
  have B5 : Below w4.heap.size w4 W5 := by rw [hW5]; (repeat (first | exact Below.refl _ _ | assumption | (refine Below.setCell ?_ (by first | (simp; done) | (simp; omega) | omega) _) | (refine Below.drew ?_) | (refine below_drewN ?_ _) | (refine Below.alloc ?_ (by first | (simp; done) | (simp; omega) | omega) _) | (refine Below.trans ?_ (Below.mono (by assumption) (by first | (simp; done) | (simp; omega) | omega)))))
  have H5 := Lib.hid (And.intro (H4.out.1.past B5) (H4.out.2.trans (B5.mono H4.out.2.size)))
  clear hW5 H4 B5
  go_upto_region 5 with (first | (go_at_call 11; refine (farms_any _).mono ?_; rintro e w6 ⟨rfl, hbb⟩; have H6 := Lib.hid (And.intro (H5.out.1.past hbb) (H5.out.2.trans (hbb.mono H5.out.2.size))); clear hbb H5))
  have a0 := H6.out.1.c 0 _ rfl; have a1 := H6.out.1.c 1 _ rfl; have a2 := H6.out.1.c 2 _ rfl; have a3 := H6.out.1.c 3 _ rfl; have al := H6.out.1.lt
  go_wp2_with fail
  refine (hT.out _).mono ?_
  rintro e w7 ⟨u2, rfl, hTT⟩
  obtain ⟨gt, ct, rfl, -, -, -⟩ := own_cells (f := fun p => tlV X Y W H s (p % tlN X W s) (p / tlN X W s)) (m := 4) (by rw [← tlL_acc]; exact hTT.own) (fun _ => rfl) HN0.out
  have HB := Lib.hid (H6.out.2.trans (hTT.bel.mono H6.out.2.size))
  clear a0 a1 a2 a3 al hTT hT H6
  go_wp2_with fail
  go_ret
  exact ⟨by simp, HB.out⟩
set_option maxRecDepth 100000 in
set_option maxHeartbeats 3200000 in
theorem sp_yes (X Y W H s first last : Int) (D : Nat) (w : World) (hx : -9223372036854775808 ≤ X ∧ X ≤ 9223372036854775807) (hy : -9223372036854775808 ≤ Y ∧ Y ≤ 9223372036854775807) (he : regErr X Y W H = 0) (hs : 1 ≤ s ∧ s ≤ 256) (hf : 0 ≤ first ∧ first ≤ 16777216) (hl : 0 ≤ last ∧ last ≤ 16777216) (hD : last - first + 1 = (D : Int)) (hD1 : 1 ≤ D) (hK : tlN X W s * tlN Y H s * D ≤ 2000) :
    Calls Try.prog 6 #[.agg #[.int .i64 X, .int .i64 Y, .int .i64 W, .int .i64 H], .int .i64 s, .int .i64 first, .int .i64 last] w fun e w' => e = .returned (.bool true) ∧ Below w.heap.size w w' := by
  obtain ⟨r1, r2, r3, r4, r5, r6, r7, r8, r9, r10⟩ := regErr_ok he
  obtain ⟨n1, n2⟩ := tlN_bd (X := X) hs.1 ⟨r1, r2⟩
  obtain ⟨m1, m2⟩ := tlN_bd (X := Y) hs.1 ⟨r3, r4⟩
  obtain ⟨N, hN⟩ : ∃ N, N = tlN X W s * tlN Y H s := ⟨_, rfl⟩
  have hN0 : 0 < N := by rw [hN]; exact Nat.mul_pos (by omega) (by omega)
  have hN1 : N ≤ 262144 := by rw [hN]; exact Nat.le_trans (Nat.mul_le_mul n2 m2) (by decide)
  rw [← hN] at hK
  have hS := Lib.hid (fun w' => Split_yes X Y W H s first last D N w' he hs ⟨hf.1, hl.2⟩ hD hD1 hN hK : ∀ w', _)
  have hT := Lib.hid (fun w' => Tiles_yes X Y W H s w' he hs : ∀ w', _)
  rw [← hN] at hT
  obtain ⟨K, hKK⟩ : ∃ K, K = N * D := ⟨_, rfl⟩
  rw [← hKK] at hK hS
  have hK0 : 0 < K := by rw [hKK]; exact Nat.mul_pos hN0 (by omega)
  have hKi : ((N : Int) * (D : Int)) = (K : Int) := by rw [hKK]; simp
  have wK : IntKind.i64.wrap ((N : Int) * (last - first + 1)) = (K : Int) := by rw [hD, hKi, IntKind.wrap_i64]; omega
  have hK2 : ¬ (2000 : Int) < (K : Int) := by omega
  obtain ⟨i0, hi0, hz0, hz1, hz2⟩ := info_parts infoTask
  have HX := Lib.hid (And.intro hx hy); have HE := Lib.hid he; have HN0 := Lib.hid (And.intro hN0 hK0)
  have HN := Lib.hid (And.intro hN (And.intro hD hKK))
  have i1 := inB_t hs; have i2 := inB_t hf; have i3 := inB_t hl
  have i4 : decide (last < first) = false := decide_eq_false (by omega)
  clear r1 r2 r3 r4 r5 r6 r7 r8 r9 r10 n1 n2 m1 m2 hN hKK he hx hy hD hKi
  go_enter Try.func6, Try.ntmps6
  go_upto_region 1 with fail
  refine wp_world (fun V hV => ?_)
  have A0 : Blk V w.heap.size [.int .i64 X, .int .i64 Y, .int .i64 W, .int .i64 H] := by rw [hV]; exact Blk.new _ _ _ _ rfl
  have BW : Below w.heap.size w V := by rw [hV]; (repeat (first | exact Below.refl _ _ | assumption | (refine Below.setCell ?_ (by first | (simp; done) | (simp; omega) | omega) _) | (refine Below.drew ?_) | (refine below_drewN ?_ _) | (refine Below.alloc ?_ (by first | (simp; done) | (simp; omega) | omega) _) | (refine Below.trans ?_ (Below.mono (by assumption) (by first | (simp; done) | (simp; omega) | omega)))))
  have H0 := Lib.hid (And.intro A0 BW)
  have a0 := A0.c 0 _ rfl; have a1 := A0.c 1 _ rfl; have a2 := A0.c 2 _ rfl; have a3 := A0.c 3 _ rfl; have al := A0.lt
  clear hV A0 BW
  go_wp2_with fail
  refine (hS.out _).mono ?_
  rintro e w2 ⟨u, wb, rfl, hwb, hA, hbb⟩
  obtain ⟨gl, cl, rfl, hgl1, hgl2, hcl⟩ := hA.cells (fun _ => rfl) HN0.out.2
  have H1 := Lib.hid (SpR.mk (H0.out.1.past hbb) hcl hgl2 (H0.out.2.trans (hbb.mono H0.out.2.size)))
  clear a0 a1 a2 a3 al hbb hS H0 hwb hA hgl1 hgl2 hcl
  have a0 := H1.out.a.c 0 _ rfl; have a1 := H1.out.a.c 1 _ rfl; have a2 := H1.out.a.c 2 _ rfl; have a3 := H1.out.a.c 3 _ rfl; have al := H1.out.a.lt
  go_upto_region 3 with (first | (go_at_call 16; refine (In_any _ _ _ _).mono ?_; rintro e w' ⟨rfl, rfl⟩) | (go_at_call 15; refine (When_any _ _ _).mono ?_; rintro e w' ⟨rfl, rfl⟩) | (go_at_call 28; refine (RegionError_any _ _ _ _ _ HX.out.1 HX.out.2).mono ?_; rintro e w4 ⟨rfl, hbb⟩; rw [HE.out]; have H4 := Lib.hid (H1.out.past hbb); clear hbb a0 a1 a2 a3 al H1) | (go_at_call 14; refine (First4_new _ _ _ _ _ _ _ (heap_new _ _ _ (by simp))).mono ?_; rintro e w' ⟨rfl, rfl⟩))
  refine wp_world (fun W5 hW5 => ?_)
  have B5 : Below w4.heap.size w4 W5 := by rw [hW5]; (repeat (first | exact Below.refl _ _ | assumption | (refine Below.setCell ?_ (by first | (simp; done) | (simp; omega) | omega) _) | (refine Below.drew ?_) | (refine below_drewN ?_ _) | (refine Below.alloc ?_ (by first | (simp; done) | (simp; omega) | omega) _) | (refine Below.trans ?_ (Below.mono (by assumption) (by first | (simp; done) | (simp; omega) | omega)))))
  have H5 := Lib.hid (H4.out.past B5)
  clear hW5 H4 B5
  go_upto_region 5 with (first | (go_at_call 11; refine (farms_any _).mono ?_; rintro e w6 ⟨rfl, hbb⟩; have H6 := Lib.hid (H5.out.past hbb); clear hbb H5))
  have a0 := H6.out.a.c 0 _ rfl; have a1 := H6.out.a.c 1 _ rfl; have a2 := H6.out.a.c 2 _ rfl; have a3 := H6.out.a.c 3 _ rfl; have al := H6.out.a.lt
  go_wp2_with fail
  refine (hT.out _).mono ?_
  rintro e w7 ⟨u2, rfl, hTT⟩
  obtain ⟨gt, ct, rfl, -, hgt, hcell⟩ := own_cells (f := fun p => tlV X Y W H s (p % tlN X W s) (p / tlN X W s)) (m := 4) (by rw [← tlL_acc]; exact hTT.own) (fun _ => rfl) HN0.out.1
  have HC := Lib.hid hcell; have HG := Lib.hid hgt
  have H7 := Lib.hid (H6.out.past hTT.bel)
  clear a0 a1 a2 a3 al hTT hT H6 hcell hgt
  go_wp2_with fail
  clear wK hK2
  go_loopw [14, 15, 17] (fun s14 s15 _ wr => ∃ (m : Nat) (u : Value) (nv : Int), m ≤ D ∧ u = s14 ∧ s15 = .int .i64 nv ∧ nv = first + m ∧ AcR 69 5 w7 wr u (tkV X Y W H s first N) (N * m)) (fun _ s15 _ _ => (last + 1 - intOf s15).toNat)
  case atStart => exact ⟨0, _, _, Nat.zero_le _, rfl, rfl, by simp, AcR.nil _ _ _ _⟩
  case round =>
    obtain ⟨m, u, nv, hm, rfl, rfl, hnv, hM⟩ := hrel
    have HM := Lib.hid hM
    have HNV := Lib.hid hnv
    have hnb : 0 ≤ nv ∧ nv ≤ 16777217 := by have := HN.out.2.1; omega
    clear hM
    by_cases hmD : m < D
    · have hnl : nv ≤ last := by have := HN.out.2.1; omega
      have HMD := Lib.hid (show N * m + N ≤ K by
        have h1 : N * (m + 1) ≤ N * D := Nat.mul_le_mul_left _ hmD
        rw [Nat.mul_add, Nat.mul_one] at h1
        rw [HN.out.2.2]; exact h1)
      clear hnv
      go_wp2_with fail
      go_loopw [14, 17, 95] (fun s14 _ s95 wr => ∃ (i : Nat) (u : Value), i ≤ N ∧ u = s14 ∧ s95 = .int .i64 i ∧ AcR 69 5 w7 wr u (tkV X Y W H s first N) (N * m + i)) (fun _ _ s95 _ => N - (intOf s95).toNat)
      case atStart => exact ⟨0, _, Nat.zero_le _, rfl, rfl, HM.out⟩
      case round =>
        obtain ⟨i, u, hi, rfl, rfl, hM⟩ := hrel
        have HM2 := Lib.hid hM
        clear hM HM
        by_cases hin : i < N
        · have hini : (i : Int) < (N : Int) := by omega
          have hbs := HM2.out.bel.size
          have hgt := HG.out
          have l0 : gt < wr.heap.size := by omega
          have hcc : ∀ j v, (tlV X Y W H s (i % tlN X W s) (i / tlN X W s))[j]? = some v → wr.cell? ⟨gt, 4 * i + j, none⟩ = some v := fun j v hj => (HM2.out.bel.cell (p := ⟨gt, 4 * i + j, none⟩) HG.out).trans (HC.out i j v hin hj)
          obtain ⟨v0, v1, v2, v3, hv⟩ : ∃ v0 v1 v2 v3 : Int, tlV X Y W H s (i % tlN X W s) (i / tlN X W s) = [.int .i64 v0, .int .i64 v1, .int .i64 v2, .int .i64 v3] := ⟨_, _, _, _, rfl⟩
          rw [hv] at hcc
          have t0 : wr.cell? ⟨gt, i * 4, none⟩ = some (.int .i64 v0) := by have h := hcc 0 _ rfl; rw [Nat.mul_comm] at h; exact h
          have t1 : wr.cell? ⟨gt, i * 4 + 1, none⟩ = some (.int .i64 v1) := by have h := hcc 1 _ rfl; rw [Nat.mul_comm] at h; exact h
          have t2 : wr.cell? ⟨gt, i * 4 + 2, none⟩ = some (.int .i64 v2) := by have h := hcc 2 _ rfl; rw [Nat.mul_comm] at h; exact h
          have t3 : wr.cell? ⟨gt, i * 4 + 3, none⟩ = some (.int .i64 v3) := by have h := hcc 3 _ rfl; rw [Nat.mul_comm] at h; exact h
          have HV := Lib.hid (show [Value.int .i64 nv, .int .i64 v0, .int .i64 v1, .int .i64 v2, .int .i64 v3] = tkV X Y W H s first N (N * m + i) by
            unfold tkV
            rw [Nat.mul_add_mod, Nat.mod_eq_of_lt hin, Nat.mul_add_div (by omega), Nat.div_eq_of_lt hin, Nat.add_zero, hv, HNV.out])
          clear hcc hv
          go_upto_region 17 with fail
          refine wp_world (fun V6 hV6 => ?_)
          have B6 : Below wr.heap.size wr V6 := by rw [hV6]; (repeat (first | exact Below.refl _ _ | assumption | (refine Below.setCell ?_ (by first | (simp; done) | (simp; omega) | omega) _) | (refine Below.drew ?_) | (refine below_drewN ?_ _) | (refine Below.alloc ?_ (by first | (simp; done) | (simp; omega) | omega) _) | (refine Below.trans ?_ (Below.mono (by assumption) (by first | (simp; done) | (simp; omega) | omega)))))
          have N6 : Blk V6 wr.heap.size [.int .i64 v0, .int .i64 v1, .int .i64 v2, .int .i64 v3] := by rw [hV6]; exact Blk.new _ _ _ _ rfl
          have H6 := Lib.hid (HM2.out.past B6)
          have b0 := N6.c 0 _ rfl; have b1 := N6.c 1 _ rfl; have b2 := N6.c 2 _ rfl; have b3 := N6.c 3 _ rfl; have bl := N6.lt
          obtain ⟨q, hqe⟩ : ∃ q, q = N * m + i := ⟨_, rfl⟩
          rw [← hqe] at HV H6
          have hq : q < 2000 := by have := HMD.out; omega
          have HQ := Lib.hid hqe
          clear hV6 B6 N6 HM2 t0 t1 t2 t3 l0 hbs hgt hqe
          have hbs := H6.out.bel.size
          go_wp2_with (first | (at_builtin; refine wpList_append_lies _ rfl _ _ _ rfl w7.heap.size 69 i0 (.agg #[.int .i64 0, .int .i64 0, .int .i64 0, .int .i64 0, .int .i64 0]) 5 40 Try.underlying61 hi0 hz0 hz1 hz2 rfl (by decide) u q (accL (tkV X Y W H s first N) q) rfl (own_past H6.out.own (by (repeat (first | exact Below.refl _ _ | assumption | (refine Below.setCell ?_ (by first | (simp; done) | (simp; omega) | omega) _) | (refine Below.drew ?_) | (refine below_drewN ?_ _) | (refine Below.alloc ?_ (by first | (simp; done) | (simp; omega) | omega) _) | (refine Below.trans ?_ (Below.mono (by assumption) (by first | (simp; done) | (simp; omega) | omega))))))) ⟨V6.heap.size, 0, none⟩ 1 1 [.int .i64 nv, .int .i64 v0, .int .i64 v1, .int .i64 v2, .int .i64 v3] rfl rfl (by intro j u hj; match j, hj with | 0, hj => (simp at hj; subst hj; simp [Addr.add]) | 1, hj => (simp at hj; subst hj; simp [Addr.add]) | 2, hj => (simp at hj; subst hj; simp [Addr.add]) | 3, hj => (simp at hj; subst hj; simp [Addr.add]) | 4, hj => (simp at hj; subst hj; simp [Addr.add])) (by intro u hu; simp at hu; rcases hu with rfl | rfl | rfl | rfl | rfl <;> rfl) (by decide) (by unfold maxLen; omega) (by omega) (by simp; omega) _ rfl ?_; intro g cap w8 hown hgrow hat hlt))
          have HN7 := Lib.hid (AcR.app H6.out (by (repeat (first | exact Below.refl _ _ | assumption | (refine Below.setCell ?_ (by first | (simp; done) | (simp; omega) | omega) _) | (refine Below.drew ?_) | (refine below_drewN ?_ _) | (refine Below.alloc ?_ (by first | (simp; done) | (simp; omega) | omega) _) | (refine Below.trans ?_ (Below.mono (by assumption) (by first | (simp; done) | (simp; omega) | omega)))))) HV.out hown hgrow)
          clear hown hgrow hat hlt
          go_roundw
          case rel =>
            refine ⟨i + 1, _, by omega, rfl, by go_num, ?_⟩
            rw [show N * m + (i + 1) = q + 1 by rw [HQ.out]; omega]
            exact HN7.out
          case measure => simp [intOf]; omega
        · have hini : ¬ (i : Int) < (N : Int) := by omega
          have hie : i = N := by omega
          have HN7 := Lib.hid (show AcR 69 5 w7 wr u (tkV X Y W H s first N) (N * (m + 1)) by have h := HM2.out; rw [hie] at h; rw [Nat.mul_add, Nat.mul_one]; exact h)
          go_wp2_with fail
          go_roundw
          case rel =>
            refine ⟨m + 1, _, _, by omega, rfl, rfl, ?_, HN7.out⟩
            rw [HNV.out]; simp; omega
          case measure => simp [intOf]; omega
    · have hnl : ¬ nv ≤ last := by have := HN.out.2.1; omega
      have hme : m = D := by omega
      have HA := Lib.hid (show AcR 69 5 w7 wr u (tkV X Y W H s first N) K by have h := HM.out; rw [hme, ← HN.out.2.2] at h; exact h)
      obtain ⟨ga, ca, rfl, -, hga, hca⟩ := HA.out.cells (fun _ => rfl) HN0.out.2
      have HR := Lib.hid (H7.out.past HA.out.bel)
      have HEQ := Lib.hid (EqT_yes gl ga K cl ca (tkV X Y W H s first N) wr (fun q => ⟨_, _, _, _, _, rfl⟩) (by omega) HR.out.gl hga HR.out.l hca)
      clear hnv hga hca
      go_wp2_with fail
      refine (HEQ.out).mono ?_
      rintro e w9 ⟨rfl, hbb⟩
      have HB9 := Lib.hid (HR.out.w.trans (hbb.mono HR.out.w.size))
      clear hbb HEQ HR
      go_wp2_with fail
      go_ret
      exact ⟨by simp, HB9.out⟩
theorem sp_walk (X Y W H s first last : Int) (w : World) (hx : IntKind.i64.min ≤ X ∧ X ≤ IntKind.i64.max) (hy : IntKind.i64.min ≤ Y ∧ Y ≤ IntKind.i64.max) (_ : IntKind.i64.min ≤ W ∧ W ≤ IntKind.i64.max) (_ : IntKind.i64.min ≤ H ∧ H ≤ IntKind.i64.max) (_ : IntKind.i64.min ≤ s ∧ s ≤ IntKind.i64.max) (_ : IntKind.i64.min ≤ first ∧ first ≤ IntKind.i64.max) (_ : IntKind.i64.min ≤ last ∧ last ≤ IntKind.i64.max) :
    Calls Try.prog 6 #[.agg #[.int .i64 X, .int .i64 Y, .int .i64 W, .int .i64 H], .int .i64 s, .int .i64 first, .int .i64 last] w fun e w' => e = .returned (.bool true) ∧ Below w.heap.size w w' := by
  by_cases hE : spE (regErr X Y W H) s first last = 0
  · obtain ⟨he, hs, hf, hl, hfl⟩ := sp_ok hE
    by_cases hK : 2000 < ((tlN X W s * tlN Y H s : Nat) : Int) * (last - first + 1)
    · exact sp_large X Y W H s first last w hx hy he hs hf hl hfl hK
    · obtain ⟨D, hD⟩ : ∃ D : Nat, last - first + 1 = D := ⟨(last - first + 1).toNat, by omega⟩
      refine sp_yes X Y W H s first last D w hx hy he hs hf hl hD (by omega) ?_
      rw [hD, ← Int.natCast_mul] at hK
      omega
  · exact sp_err X Y W H s first last w hx hy hE _ _ rfl rfl
end Go.Proofs.Ytnicamndlkdcmaa
