/- Levels lie in range; finish.Levels where the frame, the kind or the depth is wrong. Conditions: what each theorem names. -/
import Derived.Test.YtcdcfkgdgimmcaaDoorLvA
import Derived.Test.YtcdcfkgdgimmcaaDoorLvC
namespace Go.Proofs.YtcdcfkgdgimmcaaDoor
open Go Go.RowKit
theorem near_in0 (v : Nat) {hi : Int} (h0 : 0 ≤ hi) (hh : hi.natAbs ≤ 2 ^ 24) : 0 ≤ (nearOf v 0 hi).1 ∧ (nearOf v 0 hi).1 ≤ hi := by
  unfold nearOf
  cases hN : isN .f32 v with
  | true => simp; exact h0
  | false =>
    simp only [Bool.false_eq_true, if_false]
    cases h1 : (ford .f64 (fwhole .even (fcv .f32 .f64 v)) (floatOfInt .f64 0) == some .lt) with
    | true => simp; exact h0
    | false =>
      simp only [Bool.false_eq_true, if_false]
      cases h2 : (ford .f64 (fwhole .even (fcv .f32 .f64 v)) (floatOfInt .f64 hi) == some .gt) with
      | true => simp; exact h0
      | false =>
        simp only [Bool.false_eq_true, if_false]
        have hn : isN .f64 (fwhole .even (fcv .f32 .f64 v)) = false := by
          have o : (FloatKind.f32.format.order v v != some .eq) = false := by rw [ord_self_ne]; exact hN
          cases hx : isN .f64 (fwhole .even (fcv .f32 .f64 v)) with
          | false => rfl
          | true =>
            exfalso
            have : isN .f64 (fwhole .even (fcv .f32 .f64 v)) = false := by rw [isN_fwhole, isN_fcv]; exact hN
            rw [this] at hx; cases hx
        obtain ⟨x1, x2, x3, -⟩ := near_some (x := fwhole .even (fcv .f32 .f64 v)) (lo := 0) (hi := hi) hn (by decide) hh h1 h2
        generalize fwhole .even (fcv .f32 .f64 v) = X at *
        have z : ((0 : Int) : Rat) = 0 := rfl
        rw [z] at x2
        have hi24 : (hi : Rat) ≤ ((2 ^ 62 : Nat) : Rat) := by
          have := Rat.intCast_le_intCast.2 (show hi ≤ ((2 ^ 62 : Nat) : Int) by omega)
          rwa [Rat.intCast_natCast] at this
        have hv := vq_absB (q := (hi : Rat)) x3 (by grind)
        obtain ⟨q, f1, f2, f3⟩ := f2i_some x1 (by grind)
        rw [f1]
        have hq : (q : Rat) ≤ (hi : Rat) := by grind
        have hq2 : (q : Int) ≤ hi := by
          rw [← Rat.intCast_natCast] at hq
          exact Rat.intCast_le_intCast.1 hq
        cases hs : sgn FloatKind.f64.format X with
        | false => simp; omega
        | true =>
          have hz : q = 0 := by
            rcases Nat.eq_zero_or_pos q with h | h
            · exact h
            · exfalso
              rw [val_sg, hs] at x2
              unfold sg at x2
              have : (1 : Rat) ≤ (q : Rat) := by have := Rat.natCast_le_natCast.2 (show 1 ≤ q from h); simpa using this
              simp at x2
              grind
          subst hz
          simp; exact h0
theorem lvZ_in (how s x y : Int) (V : Nat) (fs : Nat → Nat) {d : Int} (hd : 1 ≤ d ∧ d ≤ 16) (k : Nat) : 0 ≤ lvZ how s x y V fs d k ∧ lvZ how s x y V fs d k ≤ 2 ^ d.toNat - 1 := by
  have hb := pow_bd hd
  unfold lvZ levelOf
  exact near_in0 _ (by omega) (by omega)
set_option maxRecDepth 100000 in
set_option maxHeartbeats 1600000 in
theorem Levels_no (x y v h how s d : Int) (a : Option Addr) (n cap : Nat) (w : World) (hE : levE how d (fraErr x y v h n) ≠ 0) :
    Calls Tryd.prog 68 #[.agg #[.int .i64 x, .int .i64 y, .int .i64 v, .int .i64 h, .slice a n cap], .int .i64 how, .int .u32 s, .int .i64 d] w fun e w' => e = .returned (.tuple #[.slice none 0 0, .int .i64 (levE how d (fraErr x y v h n))]) ∧ Below w.heap.size w w' := by
  obtain ⟨F, hF⟩ : ∃ F, F = fraErr x y v h n := ⟨_, rfl⟩
  rw [← hF] at hE ⊢
  have HF := Lib.hid hF
  clear hF
  by_cases h1 : F = 0
  · subst h1
    have e0 : levE how d 0 = firstE (whenE (!inB how 0 2) 1) (whenE (!inB d 1 16) 3) := rfl
    rw [e0] at hE ⊢
    by_cases h2 : 0 ≤ how ∧ how ≤ 2
    · rw [inB_t h2] at hE ⊢
      have hd : inB d 1 16 = false := by
        cases h : inB d 1 16
        · rfl
        · rw [h] at hE; exact absurd rfl hE
      rw [hd]
      have hp0 : ¬ how < 0 := by omega
      have hp2 : ¬ 2 < how := by omega
      clear hE h2 e0
      go_enter Tryd.func68, Tryd.ntmps68
      go_wp2_with (first | (go_at_call 91; refine (FCheck_any _ _ _ _ _ _ _ _).mono ?_; rintro e w2 ⟨rfl, hb2⟩; rw [← HF.out]; have hs2 := hb2.size) | (go_at_call 99; refine (deep_any _ _).mono ?_; rintro e w' ⟨rfl, rfl⟩))
      refine bodyPost_ret (v := .tuple #[.slice none 0 0, .int .i64 3]) (by simp [results, Tryd.results68, go_sem]) rfl ⟨rfl, ?_⟩
      (repeat (first | exact Below.refl _ _ | assumption | (refine Below.setCell ?_ (by first | (simp; done) | (simp; omega) | omega) _) | (refine Below.drew ?_) | (refine below_drewN ?_ _) | (refine Below.alloc ?_ (by first | (simp; done) | (simp; omega) | omega) _) | (refine Below.trans ?_ (Below.mono (by assumption) (by first | (simp; done) | (simp; omega) | omega)))))
    · have hi : inB how 0 2 = false := by
        cases h : inB how 0 2
        · rfl
        · exact absurd (inB_iff.1 h) h2
      rw [hi]
      clear hE e0
      by_cases h3 : how < 0
      · clear h2
        go_enter Tryd.func68, Tryd.ntmps68
        go_wp2_with (first | (go_at_call 91; refine (FCheck_any _ _ _ _ _ _ _ _).mono ?_; rintro e w2 ⟨rfl, hb2⟩; rw [← HF.out]; have hs2 := hb2.size) | (go_at_call 99; refine (deep_any _ _).mono ?_; rintro e w' ⟨rfl, rfl⟩))
        refine bodyPost_ret (v := .tuple #[.slice none 0 0, .int .i64 1]) (by simp [results, Tryd.results68, go_sem]) rfl ⟨rfl, ?_⟩
        (repeat (first | exact Below.refl _ _ | assumption | (refine Below.setCell ?_ (by first | (simp; done) | (simp; omega) | omega) _) | (refine Below.drew ?_) | (refine below_drewN ?_ _) | (refine Below.alloc ?_ (by first | (simp; done) | (simp; omega) | omega) _) | (refine Below.trans ?_ (Below.mono (by assumption) (by first | (simp; done) | (simp; omega) | omega)))))
      · have h4 : 2 < how := by omega
        clear h2
        go_enter Tryd.func68, Tryd.ntmps68
        go_wp2_with (first | (go_at_call 91; refine (FCheck_any _ _ _ _ _ _ _ _).mono ?_; rintro e w2 ⟨rfl, hb2⟩; rw [← HF.out]; have hs2 := hb2.size) | (go_at_call 99; refine (deep_any _ _).mono ?_; rintro e w' ⟨rfl, rfl⟩))
        refine bodyPost_ret (v := .tuple #[.slice none 0 0, .int .i64 1]) (by simp [results, Tryd.results68, go_sem]) rfl ⟨rfl, ?_⟩
        (repeat (first | exact Below.refl _ _ | assumption | (refine Below.setCell ?_ (by first | (simp; done) | (simp; omega) | omega) _) | (refine Below.drew ?_) | (refine below_drewN ?_ _) | (refine Below.alloc ?_ (by first | (simp; done) | (simp; omega) | omega) _) | (refine Below.trans ?_ (Below.mono (by assumption) (by first | (simp; done) | (simp; omega) | omega)))))
  · have e1 : levE how d F = F := firstE_of _ h1
    rw [e1]
    have hb : (F != 0) = true := by simpa using h1
    clear hE h1 e1
    go_enter Tryd.func68, Tryd.ntmps68
    go_wp2_with (first | (go_at_call 91; refine (FCheck_any _ _ _ _ _ _ _ _).mono ?_; rintro e w2 ⟨rfl, hb2⟩; rw [← HF.out]; have hs2 := hb2.size) | (go_at_call 99; refine (deep_any _ _).mono ?_; rintro e w' ⟨rfl, rfl⟩))
    refine bodyPost_ret (v := .tuple #[.slice none 0 0, .int .i64 F]) (by simp [results, Tryd.results68, go_sem]) rfl ⟨rfl, ?_⟩
    (repeat (first | exact Below.refl _ _ | assumption | (refine Below.setCell ?_ (by first | (simp; done) | (simp; omega) | omega) _) | (refine Below.drew ?_) | (refine below_drewN ?_ _) | (refine Below.alloc ?_ (by first | (simp; done) | (simp; omega) | omega) _) | (refine Below.trans ?_ (Below.mono (by assumption) (by first | (simp; done) | (simp; omega) | omega)))))
end Go.Proofs.YtcdcfkgdgimmcaaDoor
