/- Roughness: dyeref2.RoughOf, and that it is cube.Rough's. Conditions: what each theorem names. -/
import Derived.Test.YtmckkgbdlgldbaaCmeE
namespace Go.Proofs.Ytmckkgbdlgldbaa
open Go Go.RowKit
theorem most_iff {g : Nat → Nat} {z : Nat} : ∀ {k : Nat}, mostF g k ≤ z ↔ ∀ i, i < k → g i ≤ z := by
  intro k
  induction k with
  | zero => exact ⟨fun _ i h => by omega, fun _ => Nat.zero_le _⟩
  | succ k ih =>
    rw [show mostF g (k + 1) = max (mostF g k) (g k) from rfl, Nat.max_le, ih]
    refine ⟨fun h i hi => ?_, fun h => ⟨fun i hi => h i (by omega), h k (by omega)⟩⟩
    rcases (show i < k ∨ i = k by omega) with h1 | rfl
    · exact h.1 i h1
    · exact h.2
theorem le_most {g : Nat → Nat} {k i : Nat} (h : i < k) : g i ≤ mostF g k := most_iff.1 (Nat.le_refl _) i h
theorem next_at (S : Nat) (fc : Nat → Nat) (N m x : Nat) (hm : m < 3) : nextG (3 * S ^ x) S fc (3 * N + m) = if N / S ^ x % S + 1 < S then gapF (fc (3 * N + m)) (fc (3 * (N + S ^ x) + m)) else 0 := by
  unfold nextG
  rw [← Nat.div_div_eq_div_mul, show (3 * N + m) / 3 = N by omega, show 3 * N + m + 3 * S ^ x = 3 * (N + S ^ x) + m by rw [Nat.mul_add]; omega]
theorem rough_eq {S n : Nat} (fc : Nat → Nat) (hn : n = 3 * (S * S * S)) : roughF S fc n = mostF (roN S fc) (S * S * S) := by
  refine Nat.le_antisymm (most_iff.2 fun x hx => most_iff.2 fun k hk => ?_) (most_iff.2 fun N hN => most_iff.2 fun x hx => ?_)
  · have hk3 : 3 * (k / 3) + k % 3 = k := Nat.div_add_mod _ _
    refine Nat.le_trans ?_ (le_most (g := roN S fc) (i := k / 3) (by omega))
    refine Nat.le_trans ?_ (le_most (g := roC S fc (k / 3)) (i := x) hx)
    have h := next_at S fc (k / 3) (k % 3) x (by omega)
    rw [hk3] at h
    rw [h]
    unfold roC
    split
    · refine Nat.le_trans ?_ (le_most (g := fun m => gapF (fc (3 * (k / 3) + m)) (fc (3 * (k / 3 + S ^ x) + m))) (i := k % 3) (by omega))
      rw [hk3]; exact Nat.le_refl _
    · exact Nat.zero_le _
  · unfold roC
    split
    · rename_i hin
      refine most_iff.2 fun m hm => ?_
      refine Nat.le_trans ?_ (le_most (g := fun x => mostF (nextG (3 * S ^ x) S fc) n) (i := x) hx)
      refine Nat.le_trans ?_ (le_most (g := nextG (3 * S ^ x) S fc) (i := 3 * N + m) (by omega))
      rw [next_at S fc N m x hm, if_pos hin]; exact Nat.le_refl _
    · exact Nat.zero_le _
theorem roN_le (S : Nat) (fc : Nat → Nat) (N : Nat) : roN S fc N ≤ 2139095040 := mostF_le (roC_le S fc N) _
set_option maxRecDepth 100000 in
set_option maxHeartbeats 3200000 in
theorem RoughOf_yes (S lo hi b off n cap : Nat) (fc : Nat → Nat) (w : World) (he : cubErr S lo hi n = 0) (hc : Row w b off n fc) :
    Calls Try.prog 59 #[.agg #[.int .i64 S, .float .f32 lo, .float .f32 hi, .slice (some ⟨b, off, none⟩) n cap]] w fun e w' =>
      e = .returned (.float .f32 (roughF S fc n)) ∧ Below w.heap.size w w' := by
  obtain ⟨hS, hS0, hn, hpos, hnb⟩ := cub_ok_nat he
  rw [rough_eq fc hn]
  have HS := Lib.hid (And.intro hS hS0)
  have HK : Hid (∀ m v, m < S * S * S → RoR w v [.int .i64 S, .float .f32 lo, .float .f32 hi, .slice (some ⟨b, off, none⟩) n cap] (mostF (roN S fc) m) → Calls Try.prog 147 (#[.int .i64 m, .int .i64 (m % S : Nat), .int .i64 (m / S % S : Nat), .int .i64 (m / S / S : Nat)] ++ #[.pointer (some ⟨w.heap.size, 0, none⟩), .pointer (some ⟨w.heap.size + 1, 0, none⟩)]) v fun e w' =>
      e = .returned (.tuple #[]) ∧ RoR w w' [.int .i64 S, .float .f32 lo, .float .f32 hi, .slice (some ⟨b, off, none⟩) n cap] (mostF (roN S fc) (m + 1))) := fun m v hm hR => by
    obtain ⟨e1, e2, e3, e4⟩ := enI_of (by omega) hm
    have h := RoughOf_c S (m % S) (m / S % S) (m / S / S) lo hi b off n cap fc (.int .i64 m) (mostF (roN S fc) m) w v hS e1 e2 e3 hn hc (mostF_le (roN_le S fc) _) hR
    rw [e4] at h
    exact h
  clear he hc hS hS0 hn hpos hnb
  go_enter Try.func59, Try.ntmps59
  go_upto_region 2 with fail
  refine wp_world (fun W hW => ?_)
  have R0 : RoR w W [.int .i64 S, .float .f32 lo, .float .f32 hi, .slice (some ⟨b, off, none⟩) n cap] (mostF (roN S fc) 0) := by
    rw [hW]
    exact ⟨(Blk.new _ _ _ _ rfl).alloc _, Blk.new _ _ _ _ (by simp), by (repeat (first | exact Below.refl _ _ | assumption | (refine Below.setCell ?_ (by first | (simp; done) | (simp; omega) | omega) _) | (refine Below.drew ?_) | (refine below_drewN ?_ _) | (refine Below.alloc ?_ (by first | (simp; done) | (simp; omega) | omega) _) | (refine Below.trans ?_ (Below.mono (by assumption) (by first | (simp; done) | (simp; omega) | omega)))))⟩
  have HR0 := Lib.hid R0
  have a0 := R0.a.c 0 _ rfl; have al := R0.a.lt
  clear hW R0
  go_wp2_with fail
  refine (Places_any 147 _ S (fun m wr => RoR w wr [.int .i64 S, .float .f32 lo, .float .f32 hi, .slice (some ⟨b, off, none⟩) n cap] (mostF (roN S fc) m)) W HS.out.1 (by have := HS.out.2; omega) (body_enters Try.func147 (by kernel_rfl) rfl) HR0.out (fun m a b h hb => h.past hb) (fun m v hm hR => HK.out m v hm hR)).mono ?_
  rintro e w3 ⟨rfl, M⟩
  have m0 := M.m.c 0 _ rfl; have ml := M.m.lt
  have HBW := Lib.hid M.w
  clear M a0 al HR0
  go_wp2_with fail
  go_ret
  exact ⟨rfl, HBW.out⟩
end Go.Proofs.Ytmckkgbdlgldbaa
