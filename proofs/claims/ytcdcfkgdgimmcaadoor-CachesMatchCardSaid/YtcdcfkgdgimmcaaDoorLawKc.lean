/- CachesMatch: the walk of the statement. Conditions: what the arguments are. -/
import Derived.Test.YtcdcfkgdgimmcaaDoorKpK
import Derived.Test.YtcdcfkgdgimmcaaDoorOpT
import Derived.Test.YtcdcfkgdgimmcaaDoorFZ
namespace Go.Proofs.YtcdcfkgdgimmcaaDoor
open Go Go.RowKit
/-- Pairs of numbers that came in. -/
def IsPairs (w : World) (a : Option Addr) (n c : Nat) (z0 z1 : Nat → Int) : Prop :=
  n ≤ c ∧ c ≤ maxLen ∧ (0 < n → ∃ b off, a = some ⟨b, off, none⟩ ∧ ∀ i, i < n → w.cell? ⟨b, off + i * 2, none⟩ = some (.int .i64 (z0 i)) ∧ w.cell? ⟨b, off + i * 2 + 1, none⟩ = some (.int .i64 (z1 i)) ∧ (-9223372036854775808 ≤ z1 i ∧ z1 i ≤ 9223372036854775807))
/-- Names that came in. -/
def IsNames (w : World) (a : Option Addr) (n c : Nat) (ss : Nat → ByteArray) : Prop :=
  n ≤ c ∧ c ≤ maxLen ∧ (0 < n → ∃ b off, a = some ⟨b, off, none⟩ ∧ ∀ i, i < n → w.cell? ⟨b, off + i, none⟩ = some (.string (ss i)) ∧ (ss i).size ≤ maxLen)
theorem IsFrames.below {w w' : World} {a : Option Addr} {n : Nat} {ks : Nat → Fr} (h : IsFrames w a n ks) (hb : Below w.heap.size w w') : IsFrames w' a n ks :=
  ⟨h.1, h.2.1.below hb, h.2.2⟩
theorem mod_q (z : Int) (n : Nat) (h0 : 0 < n) (h : n ≤ 9223372036854775807) : ∃ q : Nat, wrap64 ((IntKind.u64.wrap z).tmod (n : Int)) = q ∧ q < n := by
  have h1 : 0 ≤ IntKind.u64.wrap z := wrap_u64_nonneg z
  have h2 := Int.tmod_nonneg (n : Int) h1
  have h3 := Int.tmod_lt_of_pos (IntKind.u64.wrap z) (show (0 : Int) < (n : Int) by omega)
  exact ⟨((IntKind.u64.wrap z).tmod (n : Int)).toNat, by unfold wrap64; omega, by omega⟩
theorem mod_3 (z : Int) : ∃ r : Int, (IntKind.u64.wrap z).tmod 3 = r ∧ 0 ≤ r ∧ r ≤ 2 := by
  have h1 : 0 ≤ IntKind.u64.wrap z := wrap_u64_nonneg z
  have h2 := Int.tmod_nonneg 3 h1
  have h3 := Int.tmod_lt_of_pos (IntKind.u64.wrap z) (show (0 : Int) < 3 by omega)
  exact ⟨_, rfl, h2, by omega⟩
set_option maxRecDepth 100000 in
set_option maxHeartbeats 3200000 in
theorem kc_pixel (x y v h : Int) (bf off n cap : Nat) (px py : Int) (k p0 p1 p2 p3 : Nat) (pf : Nat) (w : World) (he : regErr x y v h = 0) (hn : (n : Int) = 4 * v * h) (hx : x ≤ px ∧ px ≤ x + v - 1) (hy : y ≤ py ∧ py ≤ y + h - 1) (hk : 4 * ((py - y) * v + px - x) = (k : Int)) (hkn : k + 4 ≤ n) (hcap : n ≤ cap) (hcb : cap ≤ 9223372036854775807)
    (c0 : w.cell? ⟨bf, off + k, none⟩ = some (.float .f32 p0)) (c1 : w.cell? ⟨bf, off + k + 1, none⟩ = some (.float .f32 p1)) (c2 : w.cell? ⟨bf, off + k + 2, none⟩ = some (.float .f32 p2)) (c3 : w.cell? ⟨bf, off + k + 3, none⟩ = some (.float .f32 p3)) (hB : Blk w pf [.int .i64 x, .int .i64 y, .int .i64 v, .int .i64 h, .slice (some ⟨bf, off, none⟩) n cap]) :
    Calls Tryd.prog 19 #[.int .i64 px, .int .i64 py, .pointer (some ⟨pf, 0, none⟩)] w fun e w' => e = .returned (.agg #[.float .f32 p0, .float .f32 p1, .float .f32 p2, .float .f32 p3]) ∧ Below w.heap.size w w' := by
  have HP : Hid (∀ w', Below w.heap.size w w' → Calls Tryd.prog 20 #[.agg #[.int .i64 x, .int .i64 y, .int .i64 v, .int .i64 h, .slice (some ⟨bf, off, none⟩) n cap], .int .i64 px, .int .i64 py] w' fun e w'' => e = .returned (.agg #[.float .f32 p0, .float .f32 p1, .float .f32 p2, .float .f32 p3]) ∧ Below w'.heap.size w' w'') := Lib.hid (fun w' hb => PixelAt_in x y v h bf off n cap px py k p0 p1 p2 p3 w' he hn hx hy hk hkn hcap hcb ((hb.cell (p := ⟨bf, off + k, none⟩) (cell_lt c0)).trans c0) ((hb.cell (p := ⟨bf, off + k + 1, none⟩) (cell_lt c1)).trans c1) ((hb.cell (p := ⟨bf, off + k + 2, none⟩) (cell_lt c2)).trans c2) ((hb.cell (p := ⟨bf, off + k + 3, none⟩) (cell_lt c3)).trans c3))
  have f0 := hB.c 0 _ rfl; have f1 := hB.c 1 _ rfl; have f2 := hB.c 2 _ rfl; have f3 := hB.c 3 _ rfl; have f4 := hB.c 4 _ rfl; have fl := hB.lt
  clear he hn hx hy hk hkn hcap hcb c0 c1 c2 c3 hB
  go_enter Tryd.func19, Tryd.ntmps19
  go_upto_region 1 with fail
  refine wp_world (fun W hW => ?_)
  have B0 : Below w.heap.size w W := by rw [hW]; (repeat (first | exact Below.refl _ _ | assumption | (refine Below.setCell ?_ (by first | (simp; done) | (simp; omega) | omega) _) | (refine Below.drew ?_) | (refine below_drewN ?_ _) | (refine Below.alloc ?_ (by first | (simp; done) | (simp; omega) | omega) _) | (refine Below.trans ?_ (Below.mono (by assumption) (by first | (simp; done) | (simp; omega) | omega)))))
  have Z0 : Blk W w.heap.size [.float .f32 0, .float .f32 0, .float .f32 0, .float .f32 0] := by rw [hW]; exact Blk.new _ _ _ _ rfl
  have H0 := Lib.hid (And.intro B0 Z0)
  have g0 := (B0.cell (p := ⟨pf, 0, none⟩) fl).trans f0; have g1 := (B0.cell (p := ⟨pf, 1, none⟩) fl).trans f1; have g2 := (B0.cell (p := ⟨pf, 2, none⟩) fl).trans f2; have g3 := (B0.cell (p := ⟨pf, 3, none⟩) fl).trans f3; have g4 := (B0.cell (p := ⟨pf, 4, none⟩) fl).trans f4
  have gl : pf < W.heap.size := by have := B0.size; omega
  clear hW B0 Z0 f0 f1 f2 f3 f4 fl
  go_wp2_with fail
  refine (HP.out _ H0.out.1).mono ?_
  rintro e w2 ⟨rfl, hb2⟩
  have Z2 := H0.out.2.past hb2
  have H2 := Lib.hid (H0.out.1.trans (hb2.mono H0.out.1.size))
  clear hb2 g0 g1 g2 g3 g4 gl
  have z0 := Z2.c 0 _ rfl; have z1 := Z2.c 1 _ rfl; have z2 := Z2.c 2 _ rfl; have z3 := Z2.c 3 _ rfl; have zl := Z2.lt; have zf := Z2.f
  clear Z2
  go_wp2_with fail
  have B2 := H2.out
  exact bodyPost_ret (v := .agg #[.float .f32 p0, .float .f32 p1, .float .f32 p2, .float .f32 p3]) (by simp [results, Tryd.results19, go_sem, z0, z1, z2, z3]) rfl ⟨rfl, by (repeat (first | exact Below.refl _ _ | assumption | (refine Below.setCell ?_ (by first | (simp; done) | (simp; omega) | omega) _) | (refine Below.drew ?_) | (refine below_drewN ?_ _) | (refine Below.alloc ?_ (by first | (simp; done) | (simp; omega) | omega) _) | (refine Below.trans ?_ (Below.mono (by assumption) (by first | (simp; done) | (simp; omega) | omega)))))⟩
theorem kc_maker (x y v h : Int) (bf off n cap : Nat) (ffs : Nat → Nat) (pf : Nat) (w : World) (he : fraErr x y v h n = 0) (hrow : Row w bf off n ffs) (hB : Blk w pf [.int .i64 x, .int .i64 y, .int .i64 v, .int .i64 h, .slice (some ⟨bf, off, none⟩) n cap]) (hcap : n ≤ cap) (hcb : cap ≤ 9223372036854775807) :
    MakerOK 19 #[.pointer (some ⟨pf, 0, none⟩)] w x y v h (fun k c => cn .f32 (ffs (4 * k + c))) := by
  obtain ⟨hr, hn⟩ := fraErr_ok he
  obtain ⟨r1, r2, r3, r4, -⟩ := regErr_ok hr
  intro i j w' hi hj hb
  obtain ⟨V, rfl⟩ : ∃ V : Nat, v = V := ⟨v.toNat, by omega⟩
  obtain ⟨H, rfl⟩ : ∃ H : Nat, h = H := ⟨h.toNat, by omega⟩
  have hVH : V * (j + 1) ≤ V * H := Nat.mul_le_mul_left _ (by omega)
  rw [Nat.mul_add, Nat.mul_one] at hVH
  have hnn : n = 4 * (V * H) := by
    have : (n : Int) = 4 * ((V * H : Nat) : Int) := by rw [hn, Int.mul_assoc, Int.natCast_mul]
    omega
  have hkn : 4 * (V * j + i) + 4 ≤ n := by omega
  have hk : 4 * ((y + (j : Int) - y) * (V : Int) + (x + (i : Int)) - x) = ((4 * (V * j + i) : Nat) : Int) := by
    have e1 : (y + (j : Int) - y) * (V : Int) = ((V * j : Nat) : Int) := by
      rw [show y + (j : Int) - y = (j : Int) by omega, Int.natCast_mul, Int.mul_comm]
    rw [e1]; omega
  have hw : ∀ c, c < 4 → w'.cell? ⟨bf, off + 4 * (V * j + i) + c, none⟩ = some (.float .f32 (ffs (4 * (V * j + i) + c))) := fun c hc => by
    rw [Nat.add_assoc]
    exact (hrow.past hb) _ (by omega)
  refine (kc_pixel x y V H bf off n cap (x + i) (y + j) (4 * (V * j + i)) _ _ _ _ pf w' hr hn ⟨by omega, by omega⟩ ⟨by omega, by omega⟩ hk hkn hcap hcb (hw 0 (by omega)) (hw 1 (by omega)) (hw 2 (by omega)) (hw 3 (by omega)) (hB.past hb)).mono ?_
  rintro e w'' ⟨rfl, hb'⟩
  refine ⟨⟨fun c => ffs (4 * (V * j + i) + c), rfl, fun c _ => ?_⟩, hb'⟩
  simp
set_option maxRecDepth 100000 in
set_option maxHeartbeats 3200000 in
theorem kc_range (most : Int) (a1 a2 a3 : Option Addr) (n1 n2 n3 c1 c2 c3 : Nat) (w : World) (h : ¬ (1 ≤ most ∧ most ≤ 16777216)) :
    Calls Tryd.prog 3 #[.int .i64 most, .slice a1 n1 c1, .slice a2 n2 c2, .slice a3 n3 c3] w fun e w' => e = .returned (.bool true) ∧ Below w.heap.size w w' := by
  have HN := Lib.hid (NewCache_no most w h)
  have hin : inB most 1 16777216 = false := by unfold inB; rw [← Bool.not_eq_true, Bool.and_eq_true, decide_eq_true_eq, decide_eq_true_eq]; exact h
  clear h
  have hpe : ∀ w, (binOp .eql 25 (.pointer none) (.pointer none)).run Tryd.prog w = .ok (.bool true) w := fun w => by kernel_rfl
  go_enter Tryd.func3, Tryd.ntmps3
  go_wp2_with (first
    | (go_at_call 7; refine HN.out.mono ?_; rintro e w1 ⟨rfl, rfl⟩)
    | (go_at_call 8; refine (In_any _ _ _ _).mono ?_; rintro e w2 ⟨rfl, rfl⟩; rw [hin])
    | (go_at_call 9; refine (farms_any _).mono ?_; rintro e w3 ⟨rfl, hb3⟩; have HB3 := Lib.hid hb3; clear hb3))
  go_ret
  exact ⟨by simp, HB3.out⟩
set_option maxRecDepth 100000 in
set_option maxHeartbeats 3200000 in
theorem kc_few (most : Int) (a1 a2 a3 : Option Addr) (n1 n2 n3 c1 c2 c3 : Nat) (w : World) (h : 1 ≤ most ∧ most ≤ 16777216) (hf : n2 = 0 ∨ n3 = 0 ∨ 100 < n1) :
    Calls Tryd.prog 3 #[.int .i64 most, .slice a1 n1 c1, .slice a2 n2 c2, .slice a3 n3 c3] w fun e w' => e = .returned (.bool true) ∧ Below w.heap.size w w' := by
  have HN := Lib.hid (NewCache_yes most w h)
  have hin : inB most 1 16777216 = true := by unfold inB; rw [Bool.and_eq_true, decide_eq_true_eq, decide_eq_true_eq]; exact h
  clear h
  go_enter Tryd.func3, Tryd.ntmps3
  go_upto_region 4 with (first
    | (go_at_call 7; refine HN.out.mono ?_; rintro e w1 ⟨c, rfl, hc⟩; have HC := Lib.hid (show Below w.heap.size w w1 by obtain ⟨mb, -, -, -, hb⟩ := hc; exact hb); clear hc)
    | (go_at_call 8; refine (In_any _ _ _ _).mono ?_; rintro e w2 ⟨rfl, rfl⟩; rw [hin]))
  by_cases h2 : n2 = 0
  · subst h2
    clear hf
    go_upto_region 5 with ((go_at_call 9; refine (farms_any _).mono ?_; rintro e w3 ⟨rfl, hb3⟩; have HB3 := Lib.hid (HC.out.trans (hb3.mono HC.out.size)); clear hb3))
    go_wp2_with ((go_at_call 9; refine (farms_any _).mono ?_; rintro e w4 ⟨rfl, hb4⟩; have HB4 := Lib.hid (HB3.out.trans (hb4.mono HB3.out.size)); clear hb4))
    go_ret
    exact ⟨rfl, HB4.out⟩
  · by_cases h3 : n3 = 0
    · subst h3
      clear hf
      go_upto_region 5 with ((go_at_call 9; refine (farms_any _).mono ?_; rintro e w3 ⟨rfl, hb3⟩; have HB3 := Lib.hid (HC.out.trans (hb3.mono HC.out.size)); clear hb3))
      go_wp2_with ((go_at_call 9; refine (farms_any _).mono ?_; rintro e w4 ⟨rfl, hb4⟩; have HB4 := Lib.hid (HB3.out.trans (hb4.mono HB3.out.size)); clear hb4))
      go_ret
      exact ⟨rfl, HB4.out⟩
    · have h4 : (100 : Int) < (n1 : Int) := by omega
      clear hf
      go_upto_region 5 with ((go_at_call 9; refine (farms_any _).mono ?_; rintro e w3 ⟨rfl, hb3⟩; have HB3 := Lib.hid (HC.out.trans (hb3.mono HC.out.size)); clear hb3))
      go_wp2_with ((go_at_call 9; refine (farms_any _).mono ?_; rintro e w4 ⟨rfl, hb4⟩; have HB4 := Lib.hid (HB3.out.trans (hb4.mono HB3.out.size)); clear hb4))
      go_ret
      exact ⟨rfl, HB4.out⟩
end Go.Proofs.YtcdcfkgdgimmcaaDoor
