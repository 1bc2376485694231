/- colour.CheckPrimaries of any primaries. No condition. -/
import Derived.Test.YtfmdnibfeckmaaaDoorTcF
namespace Go.Proofs.YtfmdnibfeckmaaaDoor
open Go Go.RowKit
/-- The first of n errors. -/
def fstE (f : Nat → Int) : Nat → Int
  | 0 => 0
  | n + 1 => if fstE f n = 0 then f n else fstE f n
theorem fst_zero {f : Nat → Int} : ∀ {n : Nat}, (∀ i, i < n → f i = 0) → fstE f n = 0
  | 0, _ => rfl
  | n + 1, h => by unfold fstE; rw [fst_zero (n := n) fun i hi => h i (by omega), if_pos rfl]; exact h n (by omega)
theorem fst_at {f : Nat → Int} {k : Nat} (hk : ∀ i, i < k → f i = 0) (h : f k ≠ 0) : ∀ {n : Nat}, k < n → fstE f n = f k
  | 0, hn => by omega
  | n + 1, hn => by
    unfold fstE
    by_cases e : k = n
    · subst e; rw [fst_zero hk, if_pos rfl]
    · rw [fst_at hk h (n := n) (by omega), if_neg h]
def spK (p : Nat → Nat) (i : Nat) : Int := spoE (p (2 * i)) (p (2 * i + 1))
def prE (p : Nat → Nat) : Int := fstE (spK p) 4
abbrev prV (p : Nat → Nat) : Value := .agg #[.float .f32 (p 0), .float .f32 (p 1), .float .f32 (p 2), .float .f32 (p 3), .float .f32 (p 4), .float .f32 (p 5), .float .f32 (p 6), .float .f32 (p 7)]
theorem idxS4 (p : Nat → Nat) (k : Nat) (hk : k < 4) (w : World) : (Instr.index 60 (prV p) (.int .i64 (k : Int))).run Tryd.prog w = .ok (spV (p (2 * k)) (p (2 * k + 1))) w := by
  rcases (show k = 0 ∨ k = 1 ∨ k = 2 ∨ k = 3 by omega) with rfl | rfl | rfl | rfl <;> kernel_rfl
set_option maxRecDepth 100000 in
set_option maxHeartbeats 3200000 in
theorem CheckPrimaries_any (p : Nat → Nat) (w : World) : Calls Tryd.prog 14 #[prV p] w (IntIs (prE p) w.heap.size w) := by
  go_enter Tryd.func14, Tryd.ntmps14
  go_wp2_with fail
  refine wp_world (fun W hW => ?_)
  have HB : Hid (Below w.heap.size w W) := Lib.hid (by rw [hW]; (repeat (first | exact Below.refl _ _ | assumption | (refine Below.setCell ?_ (by first | (simp; done) | (simp; omega) | omega) _) | (refine Below.drew ?_) | (refine below_drewN ?_ _) | (refine Below.alloc ?_ (by first | (simp; done) | (simp; omega) | omega) _) | (refine Below.trans ?_ (Below.mono (by assumption) (by first | (simp; done) | (simp; omega) | omega))))))
  clear hW
  go_loopw [15] (fun s15 wr => ∃ k : Nat, k ≤ 4 ∧ s15 = .int .i64 k ∧ (∀ i, i < k → spK p i = 0) ∧ Below w.heap.size w wr) (fun s15 _ => 4 - (intOf s15).toNat)
  case atStart => exact ⟨0, by omega, rfl, fun i hi => by omega, HB.out⟩
  case round =>
    obtain ⟨k, hk, rfl, hok, hb⟩ := hrel
    have HK := Lib.hid hok; have HBR := Lib.hid hb
    clear hok hb HB
    by_cases hk4 : k < 4
    · have hk4' : (k : Int) < 4 := by omega
      have ix := idxS4 p k hk4
      have HS : Hid (spoE (p (2 * k)) (p (2 * k + 1)) = spK p k) := Lib.hid rfl
      have HC := Lib.hid (fun w' => checkSpot_any (p (2 * k)) (p (2 * k + 1)) w' : ∀ w', _)
      rw [HS.out] at HC
      clear HS
      generalize p (2 * k) = x at *
      generalize p (2 * k + 1) = y at *
      obtain ⟨E, hE⟩ : ∃ E, E = spK p k := ⟨_, rfl⟩
      rw [← hE] at HC
      have HE := Lib.hid hE
      clear hE
      by_cases h0 : E = 0
      · have n2 : (E != 0) = false := by simpa using h0
        have H0 := Lib.hid h0
        clear h0
        go_wp2_with (go_at_call 28; refine (HC.out _).mono ?_; rintro e w1 ⟨rfl, hb1⟩)
        go_roundw
        case rel =>
          refine ⟨k + 1, by omega, by go_num, fun i hi => ?_, HBR.out.trans ?_⟩
          · rcases (show i < k ∨ i = k by omega) with h | rfl
            · exact HK.out i h
            · rw [← HE.out]; exact H0.out
          · exact (Below.mono (by (repeat (first | exact Below.refl _ _ | assumption | (refine Below.setCell ?_ (by first | (simp; done) | (simp; omega) | omega) _) | (refine Below.drew ?_) | (refine below_drewN ?_ _) | (refine Below.alloc ?_ (by first | (simp; done) | (simp; omega) | omega) _) | (refine Below.trans ?_ (Below.mono (by assumption) (by first | (simp; done) | (simp; omega) | omega)))))) HBR.out.size : Below w.heap.size wr w1)
        case measure => simp [intOf]; omega
      · have n2 : (E != 0) = true := by simpa using h0
        have H0 := Lib.hid h0
        clear h0
        go_wp2_with (go_at_call 28; refine (HC.out _).mono ?_; rintro e w1 ⟨rfl, hb1⟩)
        go_ret
        refine ⟨?_, HBR.out.trans (Below.mono (by (repeat (first | exact Below.refl _ _ | assumption | (refine Below.setCell ?_ (by first | (simp; done) | (simp; omega) | omega) _) | (refine Below.drew ?_) | (refine below_drewN ?_ _) | (refine Below.alloc ?_ (by first | (simp; done) | (simp; omega) | omega) _) | (refine Below.trans ?_ (Below.mono (by assumption) (by first | (simp; done) | (simp; omega) | omega)))))) HBR.out.size)⟩
        have hp : prE p = E := by rw [HE.out]; exact fst_at HK.out (by rw [← HE.out]; exact H0.out) hk4
        rw [hp]; rfl
    · have hk4' : ¬ (k : Int) < 4 := by omega
      go_wp2_with fail
      go_ret
      refine ⟨?_, HBR.out⟩
      have hp : prE p = 0 := fst_zero fun i hi => HK.out i (by omega)
      rw [hp]; rfl
end Go.Proofs.YtfmdnibfeckmaaaDoor
