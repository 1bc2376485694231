/- FrameSums: the walk of the statement. No condition. -/
import Derived.Test.YtnicamndlkdcmaaFsA
import Derived.Test.YtnicamndlkdcmaaFaF
import Derived.Test.YtnicamndlkdcmaaBO
namespace Go.Proofs.Ytnicamndlkdcmaa
open Go Go.RowKit
theorem Sum_no (x y v h : Int) (a : Option Addr) (n cap : Nat) (w : World) (hE : fraErr x y v h n ≠ 0) :
    Calls Try.prog 19 #[.agg #[.int .i64 x, .int .i64 y, .int .i64 v, .int .i64 h, .slice a n cap]] w fun e w' => e = .returned (.tuple #[.int .i64 0, .int .i64 (fraErr x y v h n)]) ∧ Below w.heap.size w w' := by
  obtain ⟨F, hF⟩ : ∃ F, F = fraErr x y v h n := ⟨_, rfl⟩
  rw [← hF] at hE ⊢
  have HF := Lib.hid hF
  have hb : (F != 0) = true := by simpa using hE
  clear hF hE
  go_enter Try.func19, Try.ntmps19
  go_wp2_with (first | (go_at_call 52; refine (FCheck_any _ _ _ _ _ _ _ _).mono ?_; rintro e w2 ⟨rfl, hb2⟩; rw [← HF.out]; have hs2 := hb2.size))
  go_ret2
  refine ⟨rfl, ?_⟩
  (repeat (first | exact Below.refl _ _ | assumption | (refine Below.setCell ?_ (by first | (simp; done) | (simp; omega) | omega) _) | (refine Below.drew ?_) | (refine below_drewN ?_ _) | (refine Below.alloc ?_ (by first | (simp; done) | (simp; omega) | omega) _) | (refine Below.trans ?_ (Below.mono (by assumption) (by first | (simp; done) | (simp; omega) | omega)))))
set_option maxRecDepth 100000 in
set_option maxHeartbeats 1600000 in
theorem fs_err (x y v h : Int) (a : Option Addr) (n cap : Nat) (w : World) (hx : -9223372036854775808 ≤ x ∧ x ≤ 9223372036854775807) (hy : -9223372036854775808 ≤ y ∧ y ≤ 9223372036854775807) (hE : fraErr x y v h n ≠ 0) :
    Calls Try.prog 4 #[.agg #[.int .i64 x, .int .i64 y, .int .i64 v, .int .i64 h, .slice a n cap]] w fun e w' => e = .returned (.bool true) ∧ Below w.heap.size w w' := by
  have hS := Lib.hid (fun w' => Sum_no x y v h a n cap w' hE : ∀ w', _)
  obtain ⟨F, hF⟩ : ∃ F, F = fraErr x y v h n := ⟨_, rfl⟩
  rw [← hF] at hE hS
  have HF := Lib.hid hF
  have hb : (F != 0) = true := by simpa using hE
  have HX := Lib.hid (And.intro hx hy)
  clear hF hE hx hy
  go_enter Try.func4, Try.ntmps4
  go_upto_region 1 with fail
  refine wp_world (fun W hW => ?_)
  have A0 : Blk W w.heap.size [.int .i64 x, .int .i64 y, .int .i64 v, .int .i64 h, .slice a n cap] := by rw [hW]; exact Blk.new _ _ _ _ rfl
  have BW : Below w.heap.size w W := by rw [hW]; (repeat (first | exact Below.refl _ _ | assumption | (refine Below.setCell ?_ (by first | (simp; done) | (simp; omega) | omega) _) | (refine Below.drew ?_) | (refine below_drewN ?_ _) | (refine Below.alloc ?_ (by first | (simp; done) | (simp; omega) | omega) _) | (refine Below.trans ?_ (Below.mono (by assumption) (by first | (simp; done) | (simp; omega) | omega)))))
  have H0 := Lib.hid (And.intro A0 BW)
  have a0 := A0.c 0 _ rfl; have a1 := A0.c 1 _ rfl; have a2 := A0.c 2 _ rfl; have a3 := A0.c 3 _ rfl; have a4 := A0.c 4 _ rfl; have al := A0.lt
  clear hW A0 BW
  go_wp2_with fail
  refine (hS.out _).mono ?_
  rintro e w2 ⟨rfl, hb2⟩
  have H1 := Lib.hid (And.intro (H0.out.1.past hb2) (H0.out.2.trans (hb2.mono H0.out.2.size)))
  clear hb2 a0 a1 a2 a3 a4 al H0
  have a0 := H1.out.1.c 0 _ rfl; have a1 := H1.out.1.c 1 _ rfl; have a2 := H1.out.1.c 2 _ rfl; have a3 := H1.out.1.c 3 _ rfl; have a4 := H1.out.1.c 4 _ rfl; have al := H1.out.1.lt
  go_wp2_with (first | (go_at_call 20; refine (FrameError_any _ _ _ _ _ _ _ _ HX.out.1 HX.out.2).mono ?_; rintro e w4 ⟨rfl, hb⟩; rw [← HF.out]; have B4 := Lib.hid (H1.out.2.trans (hb.mono H1.out.2.size)); clear hb a0 a1 a2 a3 a4 al H1) | (go_at_call 11; refine (farms_any _).mono ?_; rintro e w5 ⟨rfl, hb⟩; have B5 := Lib.hid (B4.out.trans (hb.mono B4.out.size)); clear hb B4) | (go_at_call 11; refine (farms_any _).mono ?_; rintro e w6 ⟨rfl, hb⟩; have B6 := Lib.hid (B5.out.trans (hb.mono B5.out.size)); clear hb B5))
  go_ret
  exact ⟨by simp, B6.out⟩
set_option maxRecDepth 100000 in
set_option maxHeartbeats 1600000 in
theorem fs_yes (x y v h : Int) (b off n cap : Nat) (fs : Nat → Nat) (w : World) (hx : -9223372036854775808 ≤ x ∧ x ≤ 9223372036854775807) (hy : -9223372036854775808 ≤ y ∧ y ≤ 9223372036854775807) (he : fraErr x y v h n = 0) (hc : Row w b off n fs) :
    Calls Try.prog 4 #[.agg #[.int .i64 x, .int .i64 y, .int .i64 v, .int .i64 h, .slice (some ⟨b, off, none⟩) n cap]] w fun e w' => e = .returned (.bool true) ∧ Below w.heap.size w w' := by
  obtain ⟨hr, hl⟩ := fraErr_ok he
  obtain ⟨r1, r2, r3, r4, r5, r6, r7, r8, r9, r10⟩ := regErr_ok hr
  have hlt : 4 * v * h ≤ 65536 := by rw [Int.mul_assoc]; omega
  have hlt1 : 4 ≤ 4 * v * h := by rw [Int.mul_assoc]; omega
  have hn6 : n ≤ 65536 := by omega
  have hn0 : 0 < n := by omega
  have hbw : b < w.heap.size := hc.lt hn0
  have hS := Lib.hid (fun w' hb => Sum_yes x y v h b off n cap fs w' he (hc.below hb hbw) : ∀ w', Below w.heap.size w w' → _)
  have HE := Lib.hid he
  have HC := Lib.hid (fun (w' : World) (hb : Below w.heap.size w w') => hc.below hb hbw : ∀ w', Below w.heap.size w w' → _)
  have HX := Lib.hid (And.intro hx hy)
  clear he hl hlt hlt1 hr r1 r2 r3 r4 r5 r6 r7 r8 r9 r10 hc hbw hx hy
  obtain ⟨S, hSS⟩ : ∃ S, S = sumZ (sumS fs n) := ⟨_, rfl⟩
  rw [← hSS] at hS
  have HS := Lib.hid hSS
  clear hSS
  go_enter Try.func4, Try.ntmps4
  go_upto_region 1 with fail
  refine wp_world (fun W hW => ?_)
  have A0 : Blk W w.heap.size [.int .i64 x, .int .i64 y, .int .i64 v, .int .i64 h, .slice (some ⟨b, off, none⟩) n cap] := by rw [hW]; exact Blk.new _ _ _ _ rfl
  have BW : Below w.heap.size w W := by rw [hW]; (repeat (first | exact Below.refl _ _ | assumption | (refine Below.setCell ?_ (by first | (simp; done) | (simp; omega) | omega) _) | (refine Below.drew ?_) | (refine below_drewN ?_ _) | (refine Below.alloc ?_ (by first | (simp; done) | (simp; omega) | omega) _) | (refine Below.trans ?_ (Below.mono (by assumption) (by first | (simp; done) | (simp; omega) | omega)))))
  have H0 := Lib.hid (And.intro A0 BW)
  have a0 := A0.c 0 _ rfl; have a1 := A0.c 1 _ rfl; have a2 := A0.c 2 _ rfl; have a3 := A0.c 3 _ rfl; have a4 := A0.c 4 _ rfl; have al := A0.lt
  clear hW A0 BW
  go_wp2_with fail
  refine (hS.out _ H0.out.2).mono ?_
  rintro e w2 ⟨rfl, hb2⟩
  have H1 := Lib.hid (And.intro (H0.out.1.past hb2) (H0.out.2.trans (hb2.mono H0.out.2.size)))
  clear hb2 a0 a1 a2 a3 a4 al H0
  have a0 := H1.out.1.c 0 _ rfl; have a1 := H1.out.1.c 1 _ rfl; have a2 := H1.out.1.c 2 _ rfl; have a3 := H1.out.1.c 3 _ rfl; have a4 := H1.out.1.c 4 _ rfl; have al := H1.out.1.lt
  go_upto_region 6 with (first | (go_at_call 20; refine (FrameError_any _ _ _ _ _ _ _ _ HX.out.1 HX.out.2).mono ?_; rintro e w4 ⟨rfl, hb⟩; rw [HE.out]; have H4 := Lib.hid (And.intro (H1.out.1.past hb) (H1.out.2.trans (hb.mono H1.out.2.size))); clear hb a0 a1 a2 a3 a4 al H1) | (go_at_call 11; refine (farms_any _).mono ?_; rintro e w5 ⟨rfl, hb⟩; have H5 := Lib.hid (And.intro (H4.out.1.past hb) (H4.out.2.trans (hb.mono H4.out.2.size))); clear hb H4))
  have a4 := H5.out.1.c 4 _ rfl; have al := H5.out.1.lt
  go_wp2_with fail
  clear a4 al
  go_loopw [6, 7, 9, 10, 11, 38] (fun s6 s7 _ _ _ s38 wr => ∃ (a b : Int) (k : Nat), k ≤ n ∧ s38 = .int .i64 k ∧ s6 = .int .i64 a ∧ s7 = .int .i64 b ∧ (a, b) = sumS fs k ∧ wr = w5) (fun _ _ _ _ _ s38 _ => n - (intOf s38).toNat)
  case atStart => exact ⟨1, 0, 0, Nat.zero_le _, rfl, rfl, rfl, rfl, rfl⟩
  case round =>
    obtain ⟨a, b', k, hk, rfl, rfl, rfl, hab, rfl⟩ := hrel
    have HAB := Lib.hid hab
    clear hab
    by_cases hkn : k < n
    · have hkn' : (k : Int) < (n : Int) := by omega
      have c0 := HC.out _ H5.out.2 k hkn
      obtain ⟨u, hu⟩ : ∃ u, u = fs k := ⟨_, rfl⟩
      rw [← hu] at c0
      have HU := Lib.hid hu
      clear hu
      have l0 := cell_lt c0; simp only at l0
      go_wp2_with (first | (go_at_call 21; refine (BitsOf_any _ _).mono ?_; rintro e w' ⟨rfl, rfl⟩))
      refine wp_loop_rounds 5 ?_
      go_wp2_with (simp only [rounds_succ])
      go_roundw
      case rel =>
        refine ⟨_, _, k + 1, by omega, by go_num, rfl, rfl, ?_, by trivial⟩
        show _ = wordS (sumS fs k) (cn .f32 (fs k) : Nat)
        rw [← HAB.out, ← HU.out]
        rfl
      case measure => simp [intOf]; omega
    · have hkk : ¬ (k : Int) < (n : Int) := by omega
      have hkn2 : k = n := by omega
      have hSe : wrap64 (wrap64 (b' * 65536) + a) = S := by rw [HS.out, ← hkn2, ← HAB.out]; rfl
      go_wp2_with fail
      go_ret
      exact ⟨by simp, H5.out.2⟩
theorem fs_walk (x y v h : Int) (a : Option Addr) (n cap : Nat) (fs : Nat → Nat) (w : World)
    (hx : IntKind.i64.min ≤ x ∧ x ≤ IntKind.i64.max) (hy : IntKind.i64.min ≤ y ∧ y ≤ IntKind.i64.max) (_ : IntKind.i64.min ≤ v ∧ v ≤ IntKind.i64.max) (_ : IntKind.i64.min ≤ h ∧ h ≤ IntKind.i64.max) (hf : IsFloats w a n cap fs) :
    Calls Try.prog 4 #[.agg #[.int .i64 x, .int .i64 y, .int .i64 v, .int .i64 h, .slice a n cap]] w fun e w' => e = .returned (.bool true) ∧ Below w.heap.size w w' := by
  by_cases hE : fraErr x y v h n = 0
  · obtain ⟨hr, hl⟩ := fraErr_ok hE
    obtain ⟨r1, r2, r3, r4, r5, r6, -⟩ := regErr_ok hr
    have hlt1 : 4 ≤ 4 * v * h := by rw [Int.mul_assoc]; omega
    rcases hf with ⟨hz, -⟩ | ⟨b, off, rfl, -, hcap, hm, hcell⟩
    · omega
    · exact fs_yes x y v h b off n cap fs w hx hy hE (fun i hi => (hcell i (by omega)).1)
  · exact fs_err x y v h a n cap w hx hy hE
end Go.Proofs.Ytnicamndlkdcmaa
