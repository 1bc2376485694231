/- dyelaw2.SumsMatch: sums, means and middles. Conditions: those named. -/
import Derived.Test.YtefjkelakecanaaSoO
import Derived.Test.YtefjkelakecanaaOpenB
namespace Go.Proofs.Ytefjkelakecanaa
open Go Go.RowKit
theorem CelF.below {W w : World} {b lo hi m : Nat} {fs : Nat → Nat} (k : CelF W b lo hi fs) (hb : Below m W w) (h : b < m) : CelF w b lo hi fs := fun i h1 h2 => ⟨(hb.cell (p := ⟨b, i, none⟩) h).trans (k i h1 h2).1, (k i h1 h2).2⟩
set_option maxRecDepth 100000 in
set_option maxHeartbeats 6400000 in
theorem so_yes (b o n cap : Nat) (fs : Nat → Nat) (w : World) (h2 : n ≤ 300) (h3 : 0 < n) (h4 : n ≤ cap) (hc : CelF w b o (o + n) fs) :
    Calls Try.prog 5 #[.slice (some ⟨b, o, none⟩) n cap] w fun e w' => e = .returned (.bool true) ∧ Below w.heap.size w w' := by
  have hbl : b < w.heap.size := cell_lt (hc o (Nat.le_refl _) (by omega)).1
  have HC := Lib.hid (fun (w' : World) (hb : Below w.heap.size w w') => hc.below hb hbl : ∀ w', Below w.heap.size w w' → _)
  obtain ⟨x, hx⟩ : ∃ x, x = sumQ fs 300 o n := ⟨_, rfl⟩
  obtain ⟨z, hz⟩ : ∃ z, z = fop .quo .f32 x (cn .f32 (floatOfInt .f32 n)) := ⟨_, rfl⟩
  have hq : ∀ (t : TypeId) (w : World), ∃ rn : Nat × Nat, (binOp .quo t (.float .f32 x) (.float .f32 (floatOfInt .f32 n))).run Try.prog w = .ok (.float .f32 rn.1) (w.drewN rn.2) ∧ cn .f32 rn.1 = z := fun t w => by
    obtain ⟨r, m, hr, hf⟩ := run_farith (P := Try.prog) (op := .quo) rfl t .f32 x (floatOfInt .f32 n) w
    exact ⟨(r, m), hr, by rw [hf.eq, hz, fop_cn_right]⟩
  obtain ⟨R, hR⟩ : ∃ R : TypeId → World → Nat × Nat, ∀ t w, (binOp .quo t (.float .f32 x) (.float .f32 (floatOfInt .f32 n))).run Try.prog w = .ok (.float .f32 (R t w).1) (w.drewN (R t w).2) ∧ cn .f32 (R t w).1 = z := ⟨fun t w => (hq t w).choose, fun t w => (hq t w).choose_spec⟩
  have hR1 := fun t w => (hR t w).1
  have HR2 := Lib.hid (fun t w => (hR t w).2)
  have HX := Lib.hid (And.intro hx hz)
  clear hc hq hR hx hz
  go_enter Try.func5, Try.ntmps5
  go_wp2_with fail
  refine (Mean_any b o n cap fs _ h2 h3 h4 (HC.out _ (Below.refl _ _))).mono ?_
  rintro e w1 ⟨rfl, hb1⟩
  rw [← HX.out.1, ← HX.out.2]
  have HB1 := Lib.hid hb1
  clear hb1
  go_wp2_with fail
  refine (Middle_any b o n cap fs _ h2 h3 (HC.out _ HB1.out)).mono ?_
  rintro e w2 ⟨q, rfl, hp, hs, hb2⟩
  obtain ⟨y, hy⟩ : ∃ y, y = cn .f32 (q ((n - 1) / 2)) := ⟨_, rfl⟩
  rw [← hy]
  have HQ := Lib.hid (And.intro hp (And.intro hs hy))
  have HB2 := Lib.hid (HB1.out.trans (hb2.mono HB1.out.size))
  clear hb2 hp hs hy
  go_wp2_with (first | (go_at_call 6; refine (counts_any _).mono ?_; rintro e w' ⟨rfl, m, rfl⟩))
  have HB2' := Lib.hid (below_drewN HB2.out m)
  refine (Sum_any b o n cap fs _ h2 h3 h4 (HC.out _ HB2'.out)).mono ?_
  rintro e w3 ⟨rfl, hb3⟩
  rw [← HX.out.1]
  have HB3 := Lib.hid (HB2'.out.trans (hb3.mono HB2'.out.size))
  clear hb3 HB2 HB2'
  go_wp2_with fail
  refine (SumOf_any b fs 300 n o cap _ h2 h2 h3 h4 (HC.out _ HB3.out)).mono ?_
  rintro e w4 ⟨rfl, hb4⟩
  rw [← HX.out.1]
  have HB4 := Lib.hid (HB3.out.trans (hb4.mono HB3.out.size))
  clear hb4 HB3
  go_wp2_with (first | (go_at_call 12; refine (same_any _ _ _).mono ?_; rintro e w' ⟨rfl, rfl⟩; rw [decide_eq_true rfl]))
  refine (SumOf_any b fs 300 n o cap _ h2 h2 h3 h4 (HC.out _ HB4.out)).mono ?_
  rintro e w5 ⟨rfl, hb5⟩
  rw [← HX.out.1]
  have HB5 := Lib.hid (HB4.out.trans (hb5.mono HB4.out.size))
  clear hb5 HB4
  go_wp2_with (first | (go_at_call 12; refine (same_any _ _ _).mono ?_; rintro e w' ⟨rfl, rfl⟩; rw [decide_eq_true rfl]) | (go_at_call 22; refine (Fix_any _ _).mono ?_; rintro e w' ⟨rfl, rfl⟩; rw [HR2.out]))
  refine calls_world (fun W6 hW6 => ?_)
  have HB6 : Hid (Below w.heap.size w W6) := Lib.hid (by rw [hW6]; exact below_drewN HB5.out _)
  clear hW6 HB5
  refine (MiddleOf_any b o n cap fs q _ h2 h3 (HC.out _ HB6.out) HQ.out.1 HQ.out.2.1).mono ?_
  rintro e w7 ⟨rfl, rfl⟩
  rw [← HQ.out.2.2]
  go_wp2_with (first | (go_at_call 12; refine (same_any _ _ _).mono ?_; rintro e w' ⟨rfl, rfl⟩; rw [decide_eq_true rfl]))
  go_ret
  exact ⟨ret_b (by simp), HB6.out⟩
set_option maxRecDepth 100000 in
set_option maxHeartbeats 3200000 in
theorem so_none (a : Option Addr) (cap : Nat) (w : World) : Calls Try.prog 5 #[.slice a 0 cap] w fun e w' => e = .returned (.bool true) ∧ Below w.heap.size w w' := by
  have z0 : (FloatKind.f32.format.order 0 0 == some .eq) = true := by decide +kernel
  go_enter Try.func5, Try.ntmps5
  go_upto_region 5 with (first | (go_at_call 18; refine (Mean_none _ _ _).mono ?_; rintro e w' ⟨rfl, rfl⟩) | (go_at_call 19; refine (Middle_none _ _ _).mono ?_; rintro e w' ⟨rfl, rfl⟩))
  go_wp2_with (first | (go_at_call 6; refine (counts_any _).mono ?_; rintro e w' ⟨rfl, m, rfl⟩))
  refine (Sum_none a cap _).mono ?_
  rintro e w1 ⟨rfl, hb⟩
  have HB := Lib.hid ((below_drewN (Below.refl w.heap.size w) m).trans (hb.mono (below_drewN (Below.refl w.heap.size w) m).size))
  clear hb
  go_wp2_with (first | (go_at_call 21; refine (SumOf_none _ _ _).mono ?_; rintro e w' ⟨rfl, rfl⟩) | (go_at_call 12; refine (same_any _ _ _).mono ?_; rintro e w' ⟨rfl, rfl⟩; rw [decide_eq_true rfl]))
  go_ret
  exact ⟨ret_b (by simp), HB.out⟩
set_option maxRecDepth 100000 in
set_option maxHeartbeats 3200000 in
theorem so_large (a : Option Addr) (n cap : Nat) (w : World) (h : 300 < n) : Calls Try.prog 5 #[.slice a n cap] w fun e w' => e = .returned (.bool true) ∧ Below w.heap.size w w' := by
  have h' : (300 : Int) < (n : Int) := by omega
  go_enter Try.func5, Try.ntmps5
  go_wp2_with (first | (go_at_call 6; refine (counts_any _).mono ?_; rintro e w' ⟨rfl, m, rfl⟩))
  go_ret
  exact ⟨rfl, by (repeat (first | exact Below.refl _ _ | assumption | (refine Below.setCell ?_ (by first | (simp; done) | (simp; omega) | omega) _) | (refine Below.drew ?_) | (refine below_drewN ?_ _) | (refine Below.alloc ?_ (by first | (simp; done) | (simp; omega) | omega) _) | (refine Below.trans ?_ (Below.mono (by assumption) (by first | (simp; done) | (simp; omega) | omega)))))⟩
theorem sm_walk (a : Option Addr) (n cap : Nat) (fs : Nat → Nat) (w : World) (hf : IsFloats w a n cap fs) :
    Calls Try.prog 5 #[.slice a n cap] w fun e w' => e = .returned (.bool true) ∧ Below w.heap.size w w' := by
  by_cases h : 300 < n
  · exact so_large a n cap w h
  · rcases Nat.eq_zero_or_pos n with h0 | h0
    · subst h0; exact so_none a cap w
    · rcases hf with ⟨hz, -⟩ | ⟨b, off, rfl, -, hcap, hm, hcell⟩
      · omega
      · refine so_yes b off n cap (fun j => fs (j - off)) w (by omega) h0 hcap (fun i h1 h2 => ?_)
        obtain ⟨c1, c2⟩ := hcell (i - off) (by omega)
        rw [show off + (i - off) = i by omega] at c1
        exact ⟨c1, c2⟩
end Go.Proofs.Ytefjkelakecanaa
