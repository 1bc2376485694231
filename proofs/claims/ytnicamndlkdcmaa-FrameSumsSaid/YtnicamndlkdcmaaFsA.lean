/- The sum of a frame: farm.Sum. Conditions: what each theorem names. -/
import Derived.Test.YtnicamndlkdcmaaBG
namespace Go.Proofs.Ytnicamndlkdcmaa
open Go Go.RowKit
/-- One byte more: the first sum. -/
def adS (a y : Int) : Int := (wrap64 (a + wrap64 (bits .and .u32 y 255))).tmod 65521
/-- .. the second. -/
def bdS (b a : Int) : Int := (wrap64 (b + a)).tmod 65521
/-- Four bytes more. -/
def wordS (p : Int × Int) (x : Int) : Int × Int :=
  (adS (adS (adS (adS p.1 (x / 16777216)) (x / 65536)) (x / 256)) x,
   bdS (bdS (bdS (bdS p.2 (adS p.1 (x / 16777216))) (adS (adS p.1 (x / 16777216)) (x / 65536))) (adS (adS (adS p.1 (x / 16777216)) (x / 65536)) (x / 256))) (adS (adS (adS (adS p.1 (x / 16777216)) (x / 65536)) (x / 256)) x))
/-- The sums behind k values. -/
def sumS (fs : Nat → Nat) : Nat → Int × Int
  | 0 => (1, 0)
  | k + 1 => wordS (sumS fs k) (cn .f32 (fs k) : Nat)
/-- The number of both. -/
def sumZ (p : Int × Int) : Int := wrap64 (wrap64 (p.2 * 65536) + p.1)
set_option maxRecDepth 100000 in
set_option maxHeartbeats 1600000 in
theorem Sum_yes (x0 y v h : Int) (b0 off n cap : Nat) (fs : Nat → Nat) (w : World) (he : fraErr x0 y v h n = 0) (hc : Row w b0 off n fs) :
    Calls Try.prog 19 #[.agg #[.int .i64 x0, .int .i64 y, .int .i64 v, .int .i64 h, .slice (some ⟨b0, off, none⟩) n cap]] w fun e w' => e = .returned (.tuple #[.int .i64 (sumZ (sumS fs n)), .int .i64 0]) ∧ Below w.heap.size w w' := by
  obtain ⟨hr, hl⟩ := fraErr_ok he
  obtain ⟨r1, r2, r3, r4, r5, r6, r7, r8, r9, r10⟩ := regErr_ok hr
  have hlt : 4 * v * h ≤ 65536 := by rw [Int.mul_assoc]; omega
  have hlt1 : 4 ≤ 4 * v * h := by rw [Int.mul_assoc]; omega
  have hn6 : n ≤ 65536 := by omega
  have hn0 : 0 < n := by omega
  have hbw : b0 < w.heap.size := hc.lt hn0
  have HE := Lib.hid he
  have HC := Lib.hid (fun (w' : World) (hb : Below w.heap.size w w') => hc.below hb hbw : ∀ w', Below w.heap.size w w' → _)
  clear he hl hlt hlt1 hr r1 r2 r3 r4 r5 r6 r7 r8 r9 r10 hc hbw
  go_enter Try.func19, Try.ntmps19
  go_upto_region 1 with fail
  refine wp_world (fun W hW => ?_)
  have A0 : Blk W w.heap.size [.int .i64 x0, .int .i64 y, .int .i64 v, .int .i64 h, .slice (some ⟨b0, off, none⟩) n cap] := by rw [hW]; exact Blk.new _ _ _ _ rfl
  have BW : Below w.heap.size w W := by rw [hW]; (repeat (first | exact Below.refl _ _ | assumption | (refine Below.setCell ?_ (by first | (simp; done) | (simp; omega) | omega) _) | (refine Below.drew ?_) | (refine below_drewN ?_ _) | (refine Below.alloc ?_ (by first | (simp; done) | (simp; omega) | omega) _) | (refine Below.trans ?_ (Below.mono (by assumption) (by first | (simp; done) | (simp; omega) | omega)))))
  have H0 := Lib.hid (And.intro A0 BW)
  have a0 := A0.c 0 _ rfl; have a1 := A0.c 1 _ rfl; have a2 := A0.c 2 _ rfl; have a3 := A0.c 3 _ rfl; have a4 := A0.c 4 _ rfl; have al := A0.lt
  clear hW A0 BW
  go_wp2_with fail
  refine (FCheck_any _ _ _ _ _ _ _ _).mono ?_
  rintro e w1 ⟨rfl, hb1⟩
  rw [HE.out]
  have H1 := Lib.hid (And.intro (H0.out.1.past hb1) (H0.out.2.trans (hb1.mono H0.out.2.size)))
  clear a0 a1 a2 a3 a4 al hb1 H0
  have a4 := H1.out.1.c 4 _ rfl; have al := H1.out.1.lt
  go_wp2_with fail
  clear a4 al
  go_loopw [5, 6, 8, 9, 10, 19] (fun s5 s6 _ _ _ s19 wr => ∃ (a b : Int) (k : Nat), k ≤ n ∧ s19 = .int .i64 k ∧ s5 = .int .i64 a ∧ s6 = .int .i64 b ∧ (a, b) = sumS fs k ∧ wr = w1) (fun _ _ _ _ _ s19 _ => n - (intOf s19).toNat)
  case atStart => exact ⟨1, 0, 0, Nat.zero_le _, rfl, rfl, rfl, rfl, rfl⟩
  case round =>
    obtain ⟨a, b, k, hk, rfl, rfl, rfl, hab, rfl⟩ := hrel
    have HAB := Lib.hid hab
    clear hab
    by_cases hkn : k < n
    · have hkn' : (k : Int) < (n : Int) := by omega
      have c0 := HC.out _ H1.out.2 k hkn
      obtain ⟨u, hu⟩ : ∃ u, u = fs k := ⟨_, rfl⟩
      rw [← hu] at c0
      have HU := Lib.hid hu
      clear hu
      have l0 := cell_lt c0; simp only at l0
      go_wp2_with (first | (go_at_call 53; refine (Bits_any _ _).mono ?_; rintro e w' ⟨rfl, rfl⟩))
      refine wp_loop_rounds 5 ?_
      go_wp2_with (simp only [rounds_succ])
      go_roundw
      case rel =>
        refine ⟨_, _, k + 1, by omega, by go_num, rfl, rfl, ?_, by trivial⟩
        show _ = wordS (sumS fs k) (cn .f32 (fs k) : Nat)
        rw [← HAB.out, ← HU.out]
        rfl
      case measure => simp [intOf]; omega
    · have hkk : ¬ (k : Int) < (n : Int) := by omega
      have hkn2 : k = n := by omega
      go_wp2_with fail
      go_ret2
      refine ⟨?_, H1.out.2⟩
      rw [← hkn2, ← HAB.out]
      rfl
end Go.Proofs.Ytnicamndlkdcmaa
