/- Tasks of frames: farm.Split, where it refuses. Conditions: what each theorem names. -/
import Derived.Test.YtnicamndlkdcmaaSpE
namespace Go.Proofs.Ytnicamndlkdcmaa
open Go Go.RowKit
/-- Too many tasks. -/
theorem Split_large (X Y W H s first last : Int) (w : World) (he : regErr X Y W H = 0) (hs : 1 ≤ s ∧ s ≤ 256) (hf : 0 ≤ first ∧ last ≤ 16777216) (hl : first ≤ last) (hK : 2000 < ((tlN X W s * tlN Y H s : Nat) : Int) * (last - first + 1)) :
    Calls Try.prog 27 #[.agg #[.int .i64 X, .int .i64 Y, .int .i64 W, .int .i64 H], .int .i64 s, .int .i64 first, .int .i64 last] w fun e w' => e = .returned (.tuple #[.slice none 0 0, .int .i64 4]) ∧ Below w.heap.size w w' := by
  obtain ⟨r1, r2, r3, r4, r5, r6, r7, r8, r9, r10⟩ := regErr_ok he
  obtain ⟨n1, n2⟩ := tlN_bd (X := X) hs.1 ⟨r1, r2⟩
  obtain ⟨m1, m2⟩ := tlN_bd (X := Y) hs.1 ⟨r3, r4⟩
  have hT := Lib.hid (fun w' => Tiles_yes X Y W H s w' he hs : ∀ w', _)
  obtain ⟨N, hN⟩ : ∃ N, N = tlN X W s * tlN Y H s := ⟨_, rfl⟩
  have hN0 : 0 < N := by rw [hN]; exact Nat.mul_pos (by omega) (by omega)
  have hN1 : N ≤ 262144 := by rw [hN]; exact Nat.le_trans (Nat.mul_le_mul n2 m2) (by decide)
  rw [← hN] at hT hK
  obtain ⟨K, hKK⟩ : ∃ K, K = (N : Int) * (last - first + 1) := ⟨_, rfl⟩
  rw [← hKK] at hK
  have hK2 : K ≤ 262144 * 16777217 := by rw [hKK]; exact Int.mul_le_mul (by omega) (by omega) (by omega) (by omega)
  have wK : IntKind.i64.wrap ((N : Int) * (last - first + 1)) = K := by rw [← hKK, IntKind.wrap_i64]; omega
  have HK := Lib.hid hKK
  have q1 : ¬ first < 0 := by omega
  have q2 : ¬ 16777216 < first := by omega
  have q3 : ¬ last < 0 := by omega
  have q4 : ¬ 16777216 < last := by omega
  have q5 : ¬ last < first := by omega
  clear r1 r2 r3 r4 r5 r6 r7 r8 r9 r10 n1 n2 m1 m2 hN hKK he hs
  go_enter Try.func27, Try.ntmps27
  go_upto_region 1 with fail
  refine wp_world (fun V hV => ?_)
  have A0 : Blk V w.heap.size [.int .i64 X, .int .i64 Y, .int .i64 W, .int .i64 H] := by rw [hV]; exact Blk.new _ _ _ _ rfl
  have BW : Below w.heap.size w V := by rw [hV]; (repeat (first | exact Below.refl _ _ | assumption | (refine Below.setCell ?_ (by first | (simp; done) | (simp; omega) | omega) _) | (refine Below.drew ?_) | (refine below_drewN ?_ _) | (refine Below.alloc ?_ (by first | (simp; done) | (simp; omega) | omega) _) | (refine Below.trans ?_ (Below.mono (by assumption) (by first | (simp; done) | (simp; omega) | omega)))))
  have HB0 := Lib.hid BW
  have a0 := A0.c 0 _ rfl; have a1 := A0.c 1 _ rfl; have a2 := A0.c 2 _ rfl; have a3 := A0.c 3 _ rfl; have al := A0.lt
  clear hV A0 BW
  go_wp2_with fail
  refine (hT.out _).mono ?_
  rintro e w2 ⟨u2, rfl, hTl⟩
  obtain ⟨gt, ct, rfl, -, -, -⟩ := own_cells (f := fun p => tlV X Y W H s (p % tlN X W s) (p / tlN X W s)) (m := 4) (by rw [← tlL_acc]; exact hTl.own) (fun _ => rfl) hN0
  have HB2 := Lib.hid (HB0.out.trans (hTl.bel.mono HB0.out.size))
  clear a0 a1 a2 a3 al hTl hT HB0
  go_wp2_with fail
  go_ret2
  exact ⟨rfl, HB2.out⟩
theorem Split_no (X Y W H s first last : Int) (w : World) (hE : spE (regErr X Y W H) s first last ≠ 0) :
    Calls Try.prog 27 #[.agg #[.int .i64 X, .int .i64 Y, .int .i64 W, .int .i64 H], .int .i64 s, .int .i64 first, .int .i64 last] w fun e w' => e = .returned (.tuple #[.slice none 0 0, .int .i64 (spE (regErr X Y W H) s first last)]) ∧ Below w.heap.size w w' := by
  by_cases hT : firstE (regErr X Y W H) (whenE (!inB s 1 256) 3) = 0
  · have hreg : regErr X Y W H = 0 := by
      unfold firstE at hT
      split at hT
      · rename_i h; exact h
      · rename_i h; exact absurd hT h
    have hsi : 1 ≤ s ∧ s ≤ 256 := by
      rw [hreg] at hT
      cases hi : inB s 1 256
      · rw [hi] at hT; cases hT
      · exact inB_iff.1 hi
    have hTl := Lib.hid (fun w' => Tiles_yes X Y W H s w' hreg hsi : ∀ w', _)
    have e0 : spE (regErr X Y W H) s first last = firstE (whenE (!inB first 0 16777216 || !inB last 0 16777216) 3) (whenE (decide (last < first)) 8) := by
      unfold spE; rw [hreg, inB_t hsi]; rfl
    rw [e0] at hE ⊢
    obtain ⟨n1, n2⟩ := tlN_bd (X := X) hsi.1 ⟨(regErr_ok hreg).1, (regErr_ok hreg).2.1⟩
    obtain ⟨m1, m2⟩ := tlN_bd (X := Y) hsi.1 ⟨(regErr_ok hreg).2.2.1, (regErr_ok hreg).2.2.2.1⟩
    have hN0 : 0 < tlN X W s * tlN Y H s := Nat.mul_pos (by omega) (by omega)
    have HN0 := Lib.hid hN0
    clear e0 hreg hT n1 n2 m1 m2 hN0
    have key : ∀ E : Int, (∀ w2 : World, Below w.heap.size w w2 → True) → E = firstE (whenE (!inB first 0 16777216 || !inB last 0 16777216) 3) (whenE (decide (last < first)) 8) → (first < 0 ∧ E = 3 ∨ (¬ first < 0 ∧ 16777216 < first) ∧ E = 3 ∨ (¬ first < 0 ∧ ¬ 16777216 < first ∧ last < 0) ∧ E = 3 ∨ (¬ first < 0 ∧ ¬ 16777216 < first ∧ ¬ last < 0 ∧ 16777216 < last) ∧ E = 3 ∨ (¬ first < 0 ∧ ¬ 16777216 < first ∧ ¬ last < 0 ∧ ¬ 16777216 < last ∧ last < first) ∧ E = 8) := by
      intro E _ h
      rcases inB_cases first 0 16777216 with ⟨i1, i2, i3⟩ | ⟨i1, i2⟩ | ⟨i1, i2, i3⟩ <;> rcases inB_cases last 0 16777216 with ⟨j1, j2, j3⟩ | ⟨j1, j2⟩ | ⟨j1, j2, j3⟩ <;> rw [i1, j1] at h hE
      · by_cases hlt : last < first
        · rw [decide_eq_true hlt] at h
          have : E = 8 := h
          omega
        · rw [decide_eq_false hlt] at hE
          exact absurd rfl hE
      all_goals (have : E = 3 := h; omega)
    obtain ⟨E, hEE⟩ : ∃ E, E = firstE (whenE (!inB first 0 16777216 || !inB last 0 16777216) 3) (whenE (decide (last < first)) 8) := ⟨_, rfl⟩
    have hk := key E (fun _ _ => trivial) hEE
    rw [← hEE]
    clear key hEE hE hsi
    rcases hk with ⟨q1, rfl⟩ | ⟨⟨q1, q2⟩, rfl⟩ | ⟨⟨q1, q2, q3⟩, rfl⟩ | ⟨⟨q1, q2, q3, q4⟩, rfl⟩ | ⟨⟨q1, q2, q3, q4, q5⟩, rfl⟩
    all_goals
      go_enter Try.func27, Try.ntmps27
      go_upto_region 1 with fail
      refine wp_world (fun V hV => ?_)
      have A0 : Blk V w.heap.size [.int .i64 X, .int .i64 Y, .int .i64 W, .int .i64 H] := by rw [hV]; exact Blk.new _ _ _ _ rfl
      have BW : Below w.heap.size w V := by rw [hV]; (repeat (first | exact Below.refl _ _ | assumption | (refine Below.setCell ?_ (by first | (simp; done) | (simp; omega) | omega) _) | (refine Below.drew ?_) | (refine below_drewN ?_ _) | (refine Below.alloc ?_ (by first | (simp; done) | (simp; omega) | omega) _) | (refine Below.trans ?_ (Below.mono (by assumption) (by first | (simp; done) | (simp; omega) | omega)))))
      have HB0 := Lib.hid BW
      have a0 := A0.c 0 _ rfl; have a1 := A0.c 1 _ rfl; have a2 := A0.c 2 _ rfl; have a3 := A0.c 3 _ rfl; have al := A0.lt
      clear hV A0 BW
      go_wp2_with fail
      refine (hTl.out _).mono ?_
      rintro e w2 ⟨u2, rfl, hTT⟩
      obtain ⟨gt, ct, rfl, -, -, -⟩ := own_cells (f := fun p => tlV X Y W H s (p % tlN X W s) (p / tlN X W s)) (m := 4) (by rw [← tlL_acc]; exact hTT.own) (fun _ => rfl) HN0.out
      have HB2 := Lib.hid (HB0.out.trans (hTT.bel.mono HB0.out.size))
      clear a0 a1 a2 a3 al hTT hTl HB0
      go_wp2_with fail
      go_ret2
      exact ⟨rfl, HB2.out⟩
  · have e0 : spE (regErr X Y W H) s first last = firstE (regErr X Y W H) (whenE (!inB s 1 256) 3) := by
      unfold spE
      by_cases h : regErr X Y W H = 0
      · rw [h] at hT ⊢
        cases hi : inB s 1 256
        · rfl
        · rw [hi] at hT; exact absurd rfl hT
      · rw [firstE_of _ h, firstE_of _ h]
    rw [e0]
    have hTl := Lib.hid (fun w' => Tiles_no X Y W H s w' hT : ∀ w', _)
    generalize firstE (regErr X Y W H) (whenE (!inB s 1 256) 3) = E at *
    have hb : (E != 0) = true := by simpa using hT
    clear hT e0 hE
    go_enter Try.func27, Try.ntmps27
    go_upto_region 1 with fail
    refine wp_world (fun V hV => ?_)
    have A0 : Blk V w.heap.size [.int .i64 X, .int .i64 Y, .int .i64 W, .int .i64 H] := by rw [hV]; exact Blk.new _ _ _ _ rfl
    have BW : Below w.heap.size w V := by rw [hV]; (repeat (first | exact Below.refl _ _ | assumption | (refine Below.setCell ?_ (by first | (simp; done) | (simp; omega) | omega) _) | (refine Below.drew ?_) | (refine below_drewN ?_ _) | (refine Below.alloc ?_ (by first | (simp; done) | (simp; omega) | omega) _) | (refine Below.trans ?_ (Below.mono (by assumption) (by first | (simp; done) | (simp; omega) | omega)))))
    have HB0 := Lib.hid BW
    have a0 := A0.c 0 _ rfl; have a1 := A0.c 1 _ rfl; have a2 := A0.c 2 _ rfl; have a3 := A0.c 3 _ rfl; have al := A0.lt
    clear hV A0 BW
    go_wp2_with fail
    refine (hTl.out _).mono ?_
    rintro e w2 ⟨rfl, hbb⟩
    have HB2 := Lib.hid (HB0.out.trans (hbb.mono HB0.out.size))
    clear a0 a1 a2 a3 al hbb hTl HB0
    go_wp2_with fail
    go_ret2
    exact ⟨rfl, HB2.out⟩
end Go.Proofs.Ytnicamndlkdcmaa
