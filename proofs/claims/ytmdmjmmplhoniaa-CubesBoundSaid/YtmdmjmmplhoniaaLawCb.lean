/- dyelaw2.CubesBound: colours stay within the entries, but for a told rounding. Conditions: those named. -/
import Derived.Test.YtmdmjmmplhoniaaCbC
import Derived.Test.YtmdmjmmplhoniaaCR
import Derived.Test.YtmdmjmmplhoniaaLvE
import Derived.Test.YtmdmjmmplhoniaaBO
namespace Go.Proofs.Ytmdmjmmplhoniaa
open Go.RowKit
structure CbR (w wr : World) (L : List Value) (p : Nat → Nat) : Prop where
  c : Blk wr w.heap.size L
  p : VecF wr (w.heap.size + 1) 4 p
  b : Below w.heap.size w wr
theorem CbR.past {w wr wy : World} {L : List Value} {p : Nat → Nat} (k : CbR w wr L p) (h : Below wr.heap.size wr wy) : CbR w wy L p := ⟨k.c.past h, k.p.past h, k.b.trans (h.mono k.b.size)⟩
set_option maxHeartbeats 800000 in
theorem Inf_up (w : World) : Calls Try.prog 6 #[.int .i64 1] w fun e w' => e = .returned (.float .f64 9218868437227405312) ∧ w = w' := by
  go_enter Try.func6, Try.ntmps6
  go_wp2_with fail
  go_ret
  exact ⟨rfl, rfl⟩
set_option maxHeartbeats 800000 in
theorem Inf_down (w : World) : Calls Try.prog 6 #[.int .i64 (-1)] w fun e w' => e = .returned (.float .f64 18442240474082181120) ∧ w = w' := by
  go_enter Try.func6, Try.ntmps6
  go_wp2_with fail
  go_ret
  exact ⟨rfl, rfl⟩
def onePow (n : Int) : Nat := (((1023 : Nat) : Int) + n).toNat * 4503599627370496 + 0
theorem Ldexp_one (n : Int) (w : World) (h1 : -1000 ≤ n) (h2 : n ≤ 1000) : Calls Try.prog 9 #[.float .f64 4607182418800017408, .int .i64 n] w fun e w' => e = .returned (.float .f64 (onePow n)) ∧ ∃ m, w' = w.drewN m := by
  have h := Ldexp_plain 1023 0 n w (by decide) (by decide) (by decide) (by omega) (by omega)
  rw [show (1023 : Nat) * 4503599627370496 + 0 = 4607182418800017408 by decide] at h
  exact h
theorem onePow_lo : onePow (-100) = 4156822456062967808 := by decide
theorem onePow_hi : onePow 120 = 5147614374084476928 := by decide
theorem lits_cb : isNum .f64 4156822456062967808 = true ∧ val .f64 4156822456062967808 = (2 : Rat) ^ (-100 : Int) ∧ isNum .f64 5147614374084476928 = true ∧ val .f64 5147614374084476928 = (2 : Rat) ^ (120 : Int) ∧ key FloatKind.f64.format 4156822456062967808 = 4156822456062967808 ∧ key FloatKind.f64.format 5147614374084476928 = 5147614374084476928 := by decide +kernel
/-- The greatest magnitude by 2 ^ -20: one word, whenever it is asked for. -/
theorem told_word {m : Nat} (hn : isNum .f64 m = true) (hl : m < 2 ^ 63) (h1 : 4156822456062967808 ≤ m) : ∃ e0, isNum .f64 e0 = true ∧ val .f64 e0 = val .f64 m * (1 / 1048576) ∧ ∀ w, Calls Try.prog 9 #[.float .f64 m, .int .i64 (-20)] w fun e w' => e = .returned (.float .f64 e0) ∧ ∃ j, w' = w.drewN j := by
  have e2 : (2 : Nat) ^ 52 = 4503599627370496 := by decide
  have hr : m < 9218868437227405312 := by
    unfold isNum rung at hn
    rw [show FloatKind.f64.format.signWeight = 2 ^ 63 by decide, f64_ir, Nat.mod_eq_of_lt hl] at hn
    simpa using hn
  have hf : m % 4503599627370496 < 4503599627370496 := Nat.mod_lt _ (by decide)
  have e : m = m / 4503599627370496 * 4503599627370496 + m % 4503599627370496 := by omega
  obtain ⟨-, -, -, -, a5⟩ := plain64 (E := m / 4503599627370496) (f := m % 4503599627370496) (by omega) (by omega) hf
  obtain ⟨-, c2, -, -, c5⟩ := plain64 (E := (((m / 4503599627370496 : Nat) : Int) + -20).toNat) (f := m % 4503599627370496) (by omega) (by omega) hf
  rw [e2] at a5 c2 c5
  rw [← e] at a5
  refine ⟨_, c2, ?_, fun w => ?_⟩
  · rw [c5, a5, Rat.mul_assoc, show (1 / 1048576 : Rat) = (2 : Rat) ^ (-20 : Int) by decide +kernel, ← zp_add]
    congr 2; omega
  · have h := Ldexp_plain (m / 4503599627370496) (m % 4503599627370496) (-20) w (by omega) (by omega) hf (by omega) (by omega)
    rw [← e] at h
    exact h
theorem cb_exit {next : Act → World → Prop} {Q : Exit → Act → World → Prop} {e : Exit} {a : Act} {w : World} (h : ∀ W, W = w → Exit.then next Q e a W) : Exit.then next Q e a w := h w rfl
/-- What the last two loops stand on. -/
theorem cb_facts {S lo hi n l h m : Nat} {fs p : Nat → Nat} (hS : 2 ≤ S ∧ S ≤ 17) (hn : n = 3 * (S * S * S)) (hb : brokB p = false) (hx : ExtR fs n l h) (h0 : 0 < n)
    (g3 : isNum .f64 m = true) (g4 : m < 2 ^ 63) (g5 : -(val .f64 m) ≤ val .f64 l) (g6 : val .f64 h ≤ val .f64 m) (g7 : val .f64 l ≤ val .f64 h) (m1 : (2 : Rat) ^ (-100 : Int) ≤ val .f64 m) (m2 : val .f64 m ≤ (2 : Rat) ^ (120 : Int)) :
    ∃ e0 q1 q2 : Nat, (∀ w, Calls Try.prog 9 #[.float .f64 m, .int .i64 (-20)] w fun e w' => e = .returned (.float .f64 e0) ∧ ∃ j, w' = w.drewN j) ∧
      (∀ (t : TypeId) w, (binOp .sub t (.float .f64 l) (.float .f64 e0)).run Try.prog w = .ok (.float .f64 q1) w) ∧ (∀ (t : TypeId) w, (binOp .add t (.float .f64 h) (.float .f64 e0)).run Try.prog w = .ok (.float .f64 q2) w) ∧
      ∀ k, k < 3 → ∀ v, v = tetF S lo hi fs p k ∨ v = linF S lo hi fs p k → isNum .f32 v = true ∧ (FloatKind.f64.format.order (fcv .f32 .f64 v) q1 == some .lt) = false ∧ (FloatKind.f64.format.order (fcv .f32 .f64 v) q2 == some .gt) = false := by
  have zp := zp_pos (-101)
  have z1 : (2 : Rat) ^ (-101 : Int) < (2 : Rat) ^ (-100 : Int) ∧ (2 : Rat) ^ (121 : Int) = 2 * (2 : Rat) ^ (120 : Int) := by decide +kernel
  obtain ⟨z1, z2⟩ := z1
  have zq := zp_pos 120
  have hk : 4156822456062967808 ≤ m := by
    have h1 := val_le_key.1 (show val .f64 4156822456062967808 ≤ val .f64 m by rw [lits_cb.2.1]; exact m1)
    rw [lits_cb.2.2.2.2.1, key_pos g4] at h1
    omega
  obtain ⟨e0, n0, v0, ld⟩ := told_word g3 g4 hk
  obtain ⟨l1, l2⟩ := hx.s h0
  obtain ⟨t1, t2⟩ := told_low (M := val .f64 m) l1 n0 (by grind) (by grind) (by grind) (by grind) v0
  obtain ⟨t3, t4⟩ := told_high (M := val .f64 m) l2 n0 (by grind) (by grind) (by grind) (by grind) v0
  have hf : ∀ j, j < 3 * (S * S * S) → isNum .f32 (fs j) = true ∧ val .f64 l ≤ val .f32 (fs j) ∧ val .f32 (fs j) ≤ val .f64 h := fun j hj => hx.vals j (by rw [hn]; exact hj)
  refine ⟨e0, _, _, ld, fun t w => lv_farith rfl t .f64 l e0 t1 w, fun t w => lv_farith rfl t .f64 h e0 t3 w, fun k hk v hv => ?_⟩
  have hv2 : isNum .f32 v = true ∧ val .f64 l - val .f64 m * (31 / 2) * (1 / 16777216) ≤ val .f32 v ∧ val .f32 v ≤ val .f64 h + val .f64 m * (31 / 2) * (1 / 16777216) := by
    rcases hv with rfl | rfl
    · exact tet_in hS hb hk (by grind) (by grind) g5 g6 hf
    · exact lin_in hS hb hk (by grind) (by grind) g5 g6 hf
  exact ⟨hv2.1, t2 v hv2.1 hv2.2.1, t4 v hv2.1 hv2.2.2⟩
set_option maxRecDepth 100000 in
set_option maxHeartbeats 16000000 in
theorem cb_yes (S : Nat) (lo hi b off n cap : Nat) (fs : Nat → Nat) (p : Nat → Nat) (w : World) (he : cubErr S lo hi n = 0) (hcap : n ≤ cap) (hc : Row w b off n fs) (hb : brokB p = false) :
    Calls Try.prog 3 #[.agg #[.int .i64 S, .float .f32 lo, .float .f32 hi, .slice (some ⟨b, off, none⟩) n cap], .agg #[.float .f32 (p 0), .float .f32 (p 1), .float .f32 (p 2), .float .f32 (p 3)]] w fun e w' => e = .returned (.bool true) ∧ Below w.heap.size w w' := by
  obtain ⟨hS, hS0, hn, hpos, hnb⟩ := cub_ok_nat he
  have hbw : b < w.heap.size := hc.lt (by omega)
  have HE := Lib.hid he
  have HS := Lib.hid (And.intro (show 2 ≤ S ∧ S ≤ 17 from ⟨hS0, hS⟩) (And.intro hn (And.intro hpos hb)))
  have HTE : Hid (∀ w', Below w.heap.size w w' → Calls Try.prog 10 #[.agg #[.int .i64 S, .float .f32 lo, .float .f32 hi, .slice (some ⟨b, off, none⟩) n cap], .agg #[.float .f32 (p 0), .float .f32 (p 1), .float .f32 (p 2), .float .f32 (p 3)]] w' fun e w'' => e = .returned (.tuple #[.agg #[.float .f32 (tetF S lo hi fs p 0), .float .f32 (tetF S lo hi fs p 1), .float .f32 (tetF S lo hi fs p 2), .float .f32 (tetF S lo hi fs p 3)], .int .i64 0]) ∧ Below w'.heap.size w' w'') := fun w' hb => Tetra_yes S lo hi b off n cap fs p w' he hcap (hc.below hb hbw)
  have HLI : Hid (∀ w', Below w.heap.size w w' → Calls Try.prog 11 #[.agg #[.int .i64 S, .float .f32 lo, .float .f32 hi, .slice (some ⟨b, off, none⟩) n cap], .agg #[.float .f32 (p 0), .float .f32 (p 1), .float .f32 (p 2), .float .f32 (p 3)]] w' fun e w'' => e = .returned (.tuple #[.agg #[.float .f32 (linF S lo hi fs p 0), .float .f32 (linF S lo hi fs p 1), .float .f32 (linF S lo hi fs p 2), .float .f32 (linF S lo hi fs p 3)], .int .i64 0]) ∧ Below w'.heap.size w' w'') := fun w' hb => Linear_yes S lo hi b off n cap fs p w' he hcap (hc.below hb hbw)
  have HC := Lib.hid (fun (w' : World) (hb : Below w.heap.size w w') => hc.below hb hbw : ∀ w', Below w.heap.size w w' → _)
  have hb0 : (FloatKind.f32.format.order (p 0) (p 0) != some .eq) = false ∧ (FloatKind.f32.format.order (p 1) (p 1) != some .eq) = false ∧ (FloatKind.f32.format.order (p 2) (p 2) != some .eq) = false := by
    unfold brokB at hb
    simp only [Bool.or_eq_false_iff] at hb
    rw [ord_self_ne, ord_self_ne, ord_self_ne]
    exact ⟨hb.1.1, hb.1.2, hb.2⟩
  obtain ⟨o0, o1, o2⟩ := hb0
  clear he hcap hc hS hS0 hn hpos hbw hb
  go_enter Try.func3, Try.ntmps3
  go_upto_region 1 with fail
  refine wp_world (fun W hW => ?_)
  have CB : Blk W w.heap.size [.int .i64 S, .float .f32 lo, .float .f32 hi, .slice (some ⟨b, off, none⟩) n cap] := by rw [hW]; exact (Blk.new _ _ _ _ rfl).alloc _
  have PB : VecF W (w.heap.size + 1) 4 p := by rw [hW]; exact VecF.of4 (Blk.new _ _ _ _ (by simp))
  have BW : Below w.heap.size w W := by rw [hW]; (repeat (first | exact Below.refl _ _ | assumption | (refine Below.setCell ?_ (by first | (simp; done) | (simp; omega) | omega) _) | (refine Below.drew ?_) | (refine below_drewN ?_ _) | (refine Below.alloc ?_ (by first | (simp; done) | (simp; omega) | omega) _) | (refine Below.trans ?_ (Below.mono (by assumption) (by first | (simp; done) | (simp; omega) | omega)))))
  have HR : Hid (CbR w W [.int .i64 S, .float .f32 lo, .float .f32 hi, .slice (some ⟨b, off, none⟩) n cap] p) := ⟨CB, PB, BW⟩
  clear hW CB PB BW
  have c0 := HR.out.c.c 0 _ rfl; have c1 := HR.out.c.c 1 _ rfl; have c2 := HR.out.c.c 2 _ rfl; have c3 := HR.out.c.c 3 _ rfl; have cl := HR.out.c.lt
  have p0 := HR.out.p.c 0 (by omega); have p1 := HR.out.p.c 1 (by omega); have p2 := HR.out.p.c 2 (by omega); have p3 := HR.out.p.c 3 (by omega); have pl := HR.out.p.lt
  go_wp2_with fail
  refine (cubes_any _).mono ?_
  rintro e w1 ⟨rfl, hb1⟩
  have HR1 := Lib.hid (HR.out.past hb1)
  clear hb1 HR c0 c1 c2 c3 cl p0 p1 p2 p3 pl
  have c0 := HR1.out.c.c 0 _ rfl; have c1 := HR1.out.c.c 1 _ rfl; have c2 := HR1.out.c.c 2 _ rfl; have c3 := HR1.out.c.c 3 _ rfl; have cl := HR1.out.c.lt
  have p0 := HR1.out.p.c 0 (by omega); have p1 := HR1.out.p.c 1 (by omega); have p2 := HR1.out.p.c 2 (by omega); have p3 := HR1.out.p.c 3 (by omega); have pl := HR1.out.p.lt
  go_wp2_with fail
  refine (CubeError_any _ _ _ _ _ _ _).mono ?_
  rintro e w2 ⟨rfl, hb2⟩
  rw [HE.out]
  have HR2 := Lib.hid (HR1.out.past hb2)
  clear hb2 HR1 c0 c1 c2 c3 cl p0 p1 p2 p3 pl
  have c0 := HR2.out.c.c 0 _ rfl; have c1 := HR2.out.c.c 1 _ rfl; have c2 := HR2.out.c.c 2 _ rfl; have c3 := HR2.out.c.c 3 _ rfl; have cl := HR2.out.c.lt
  have p0 := HR2.out.p.c 0 (by omega); have p1 := HR2.out.p.c 1 (by omega); have p2 := HR2.out.p.c 2 (by omega); have p3 := HR2.out.p.c 3 (by omega); have pl := HR2.out.p.lt
  go_wp2_with (first | (go_at_call 6; first | (refine (Inf_up _).mono ?_; rintro e w' ⟨rfl, rfl⟩) | (refine (Inf_down _).mono ?_; rintro e w' ⟨rfl, rfl⟩)))
  clear c0 c1 c2 c3 cl p0 p1 p2 p3 pl
  go_loopw [5, 6, 51] (fun s5 s6 s51 wr => ∃ i l h : Nat, s51 = .int .i64 i ∧ s5 = .float .f64 l ∧ s6 = .float .f64 h ∧ i ≤ n ∧ ExtR fs i l h ∧ CbR w wr [.int .i64 S, .float .f32 lo, .float .f32 hi, .slice (some ⟨b, off, none⟩) n cap] p) (fun _ _ s51 _ => n - (intOf s51).toNat)
  case atStart => exact ⟨0, _, _, rfl, rfl, rfl, Nat.zero_le _, ExtR.zero fs, HR2.out⟩
  case round =>
    obtain ⟨i, l, h, rfl, rfl, rfl, hi, hx, hr⟩ := hrel
    have HX := Lib.hid hx
    have HR := Lib.hid hr
    clear hx hr HR2
    by_cases hin : i < n
    · have hin' : (i : Int) < (n : Int) := by omega
      have hce := HC.out _ HR.out.b i hin
      obtain ⟨v, hv⟩ : ∃ v, v = fs i := ⟨_, rfl⟩
      rw [← hv] at hce
      have HV := Lib.hid hv
      have HI := Lib.hid (And.intro hi hin)
      clear hv hi hin
      cases hnv : isNum .f32 v with
      | false =>
        go_wp2_with (first | (go_at_call 7; refine (IsNumberR_any _ _).mono ?_; rintro e w' ⟨rfl, m', rfl⟩; rw [hnv]))
        go_ret
        exact ⟨rfl, HR.out.b.trans (Below.mono (by (repeat (first | exact Below.refl _ _ | assumption | (refine Below.setCell ?_ (by first | (simp; done) | (simp; omega) | omega) _) | (refine Below.drew ?_) | (refine below_drewN ?_ _) | (refine Below.alloc ?_ (by first | (simp; done) | (simp; omega) | omega) _) | (refine Below.trans ?_ (Below.mono (by assumption) (by first | (simp; done) | (simp; omega) | omega)))))) HR.out.b.size)⟩
      | true =>
        have hu := fun w : World => lv_up (P := Try.prog) Try.underlying22 Try.underlying31 hnv w
        have hl1 := fun ats ty (w : World) => run_min (P := Try.prog) HX.out.nn.1 (isNum_not_nan (up_exact hnv).1) ats ty w
        have hl2 := fun ats ty (w : World) => run_max (P := Try.prog) HX.out.nn.2 (isNum_not_nan (up_exact hnv).1) ats ty w
        have HX2 := Lib.hid (HV.out ▸ HX.out.step (HV.out ▸ hnv))
        go_wp2_with (first | (go_at_call 7; refine (IsNumberR_any _ _).mono ?_; rintro e w' ⟨rfl, m', rfl⟩; rw [hnv]))
        go_roundw
        case rel => exact ⟨i + 1, _, _, by first | rfl | go_num, rfl, rfl, HI.out.2, HX2.out, HR.out.past (by (repeat (first | exact Below.refl _ _ | assumption | (refine Below.setCell ?_ (by first | (simp; done) | (simp; omega) | omega) _) | (refine Below.drew ?_) | (refine below_drewN ?_ _) | (refine Below.alloc ?_ (by first | (simp; done) | (simp; omega) | omega) _) | (refine Below.trans ?_ (Below.mono (by assumption) (by first | (simp; done) | (simp; omega) | omega))))))⟩
        case measure => have := HI.out; simp [intOf]; omega
    · obtain rfl : i = n := by omega
      have HN := Lib.hid (show 0 < i by have := HS.out; omega)
      have hin' : ¬ (i : Int) < (i : Int) := by omega
      obtain ⟨g1, g2, g3, g4, g5, g6, g7⟩ := great_mag HX.out HN.out
      have hm := fun ats ty (w : World) => run_max (P := Try.prog) g1 g2 ats ty w
      obtain ⟨m, hmm⟩ : ∃ m, m = mxF (absF l) (absF h) := ⟨_, rfl⟩
      rw [← hmm] at g3 g4 g5 g6 hm
      have HG := Lib.hid (And.intro g3 (And.intro g4 (And.intro g5 (And.intro g6 g7))))
      clear g1 g2 g3 g4 g5 g6 g7 hmm hi hin
      by_cases hlo : val .f64 m < (2 : Rat) ^ (-100 : Int)
      · have q1 : (FloatKind.f64.format.order m 4156822456062967808 == some .lt) = true := by
          rw [ord_lt (isNum_not_nan HG.out.1) (isNum_not_nan lits_cb.1), decide_eq_true_eq]
          exact val_lt_key.1 (by rw [lits_cb.2.1]; exact hlo)
        clear hlo
        go_wp2_with (first | (go_at_call 8; refine (Abs_any _ _).mono ?_; rintro e w' ⟨rfl, rfl⟩) | (go_at_call 9; refine (Ldexp_one _ _ (by decide) (by decide)).mono ?_; rintro e w' ⟨rfl, j1, rfl⟩; rw [onePow_lo]))
        go_ret
        exact ⟨rfl, HR.out.b.trans (Below.mono (by (repeat (first | exact Below.refl _ _ | assumption | (refine Below.setCell ?_ (by first | (simp; done) | (simp; omega) | omega) _) | (refine Below.drew ?_) | (refine below_drewN ?_ _) | (refine Below.alloc ?_ (by first | (simp; done) | (simp; omega) | omega) _) | (refine Below.trans ?_ (Below.mono (by assumption) (by first | (simp; done) | (simp; omega) | omega)))))) HR.out.b.size)⟩
      · have q1 : (FloatKind.f64.format.order m 4156822456062967808 == some .lt) = false := by
          rw [ord_lt (isNum_not_nan HG.out.1) (isNum_not_nan lits_cb.1), decide_eq_false_iff_not]
          exact fun h => hlo (by rw [← lits_cb.2.1]; exact val_lt_key.2 h)
        by_cases hhi : (2 : Rat) ^ (120 : Int) < val .f64 m
        · have q2 : (FloatKind.f64.format.order m 5147614374084476928 == some .gt) = true := by
            rw [ord_gt (isNum_not_nan HG.out.1) (isNum_not_nan lits_cb.2.2.1), decide_eq_true_eq]
            exact val_lt_key.1 (by rw [lits_cb.2.2.2.1]; exact hhi)
          clear hlo hhi
          go_wp2_with (first | (go_at_call 8; refine (Abs_any _ _).mono ?_; rintro e w' ⟨rfl, rfl⟩) | (go_at_call 9; refine (Ldexp_one _ _ (by decide) (by decide)).mono ?_; rintro e w' ⟨rfl, j1, rfl⟩; first | rw [onePow_lo] | rw [onePow_hi]))
          go_ret
          exact ⟨rfl, HR.out.b.trans (Below.mono (by (repeat (first | exact Below.refl _ _ | assumption | (refine Below.setCell ?_ (by first | (simp; done) | (simp; omega) | omega) _) | (refine Below.drew ?_) | (refine below_drewN ?_ _) | (refine Below.alloc ?_ (by first | (simp; done) | (simp; omega) | omega) _) | (refine Below.trans ?_ (Below.mono (by assumption) (by first | (simp; done) | (simp; omega) | omega)))))) HR.out.b.size)⟩
        · have q2 : (FloatKind.f64.format.order m 5147614374084476928 == some .gt) = false := by
            rw [ord_gt (isNum_not_nan HG.out.1) (isNum_not_nan lits_cb.2.2.1), decide_eq_false_iff_not]
            exact fun h => hhi (by rw [← lits_cb.2.2.2.1]; exact val_lt_key.2 h)
          have HM := Lib.hid (And.intro (show (2 : Rat) ^ (-100 : Int) ≤ val .f64 m by grind) (show val .f64 m ≤ (2 : Rat) ^ (120 : Int) by grind))
          clear hlo hhi
          go_upto_region 14 with (first | (go_at_call 8; refine (Abs_any _ _).mono ?_; rintro e w' ⟨rfl, rfl⟩) | (go_at_call 9; refine (Ldexp_one _ _ (by decide) (by decide)).mono ?_; rintro e w' ⟨rfl, j1, rfl⟩; first | rw [onePow_lo] | rw [onePow_hi]))
          refine wp_world (fun W3 hW3 => ?_)
          have HR3 : Hid (CbR w W3 [.int .i64 S, .float .f32 lo, .float .f32 hi, .slice (some ⟨b, off, none⟩) i cap] p) := HR.out.past (by rw [hW3]; (repeat (first | exact Below.refl _ _ | assumption | (refine Below.setCell ?_ (by first | (simp; done) | (simp; omega) | omega) _) | (refine Below.drew ?_) | (refine below_drewN ?_ _) | (refine Below.alloc ?_ (by first | (simp; done) | (simp; omega) | omega) _) | (refine Below.trans ?_ (Below.mono (by assumption) (by first | (simp; done) | (simp; omega) | omega))))))
          clear hW3 HR q1 q2 hm
          have c0 := HR3.out.c.c 0 _ rfl; have c1 := HR3.out.c.c 1 _ rfl; have c2 := HR3.out.c.c 2 _ rfl; have c3 := HR3.out.c.c 3 _ rfl; have cl := HR3.out.c.lt
          have p0 := HR3.out.p.c 0 (by omega); have p1 := HR3.out.p.c 1 (by omega); have p2 := HR3.out.p.c 2 (by omega); have p3 := HR3.out.p.c 3 (by omega); have pl := HR3.out.p.lt
          go_wp2_with fail
          refine (HTE.out _ HR3.out.b).mono ?_
          rintro e w4 ⟨rfl, hb4⟩
          have HR4 := Lib.hid (HR3.out.past hb4)
          clear hb4 HR3 c0 c1 c2 c3 cl p0 p1 p2 p3 pl
          obtain ⟨T, hT⟩ : ∃ T, T = tetF S lo hi fs p := ⟨_, rfl⟩
          rw [← hT]
          have HT := Lib.hid hT
          clear hT
          go_upto_region 15 with fail
          refine wp_world (fun W5 hW5 => ?_)
          have B5 : Below w4.heap.size w4 W5 := by rw [hW5]; (repeat (first | exact Below.refl _ _ | assumption | (refine Below.setCell ?_ (by first | (simp; done) | (simp; omega) | omega) _) | (refine Below.drew ?_) | (refine below_drewN ?_ _) | (refine Below.alloc ?_ (by first | (simp; done) | (simp; omega) | omega) _) | (refine Below.trans ?_ (Below.mono (by assumption) (by first | (simp; done) | (simp; omega) | omega)))))
          have TB : VecF W5 w4.heap.size 4 T := by rw [hW5]; exact VecF.of4 (Blk.new _ _ _ _ (by simp))
          have HR5 := Lib.hid (HR4.out.past B5)
          have HT5 := Lib.hid TB
          have hx4 : w.heap.size + 1 < w4.heap.size := HR4.out.p.lt
          clear hW5 B5 TB HR4
          generalize w4.heap.size = nt at *
          have c0 := HR5.out.c.c 0 _ rfl; have c1 := HR5.out.c.c 1 _ rfl; have c2 := HR5.out.c.c 2 _ rfl; have c3 := HR5.out.c.c 3 _ rfl; have cl := HR5.out.c.lt
          have p0 := HR5.out.p.c 0 (by omega); have p1 := HR5.out.p.c 1 (by omega); have p2 := HR5.out.p.c 2 (by omega); have p3 := HR5.out.p.c 3 (by omega); have pl := HR5.out.p.lt
          go_wp2_with fail
          refine (HLI.out _ HR5.out.b).mono ?_
          rintro e w6 ⟨rfl, hb6⟩
          have HR6 := Lib.hid (HR5.out.past hb6)
          have HT6 := Lib.hid (HT5.out.past hb6)
          clear hb6 HR5 HT5 c0 c1 c2 c3 cl p0 p1 p2 p3 pl
          obtain ⟨L, hL⟩ : ∃ L, L = linF S lo hi fs p := ⟨_, rfl⟩
          rw [← hL]
          have HLL := Lib.hid hL
          clear hL
          go_upto_region 16 with fail
          refine wp_world (fun W7 hW7 => ?_)
          have B7 : Below w6.heap.size w6 W7 := by rw [hW7]; (repeat (first | exact Below.refl _ _ | assumption | (refine Below.setCell ?_ (by first | (simp; done) | (simp; omega) | omega) _) | (refine Below.drew ?_) | (refine below_drewN ?_ _) | (refine Below.alloc ?_ (by first | (simp; done) | (simp; omega) | omega) _) | (refine Below.trans ?_ (Below.mono (by assumption) (by first | (simp; done) | (simp; omega) | omega)))))
          have LB : VecF W7 w6.heap.size 4 L := by rw [hW7]; exact VecF.of4 (Blk.new _ _ _ _ (by simp))
          have HB7 := Lib.hid (HR6.out.past B7).b
          have HT7 := Lib.hid (HT6.out.past B7)
          have HL7 := Lib.hid LB
          have hnt : nt < w6.heap.size := HT6.out.lt
          clear hW7 B7 LB HR6 HT6
          generalize w6.heap.size = nl at *
          go_wp2_with fail
          obtain ⟨e0, q1, q2, HLD, eqS, eqA, hq⟩ := cb_facts (lo := lo) (hi := hi) (p := p) HS.out.1 HS.out.2.1 HS.out.2.2.2 HX.out HN.out HG.out.1 HG.out.2.1 HG.out.2.2.1 HG.out.2.2.2.1 HG.out.2.2.2.2 HM.out.1 HM.out.2
          rw [← HT.out, ← HLL.out] at hq
          have HLD' := Lib.hid HLD
          have HQ := Lib.hid hq
          clear hq HLD HM HG HN
          go_loopw [92] (fun s92 wr => ∃ k : Nat, s92 = .int .i64 k ∧ k ≤ 3 ∧ VecF wr nt 4 T ∧ VecF wr nl 4 L ∧ Below w.heap.size w wr) (fun s92 _ => 3 - (intOf s92).toNat)
          case atStart => exact ⟨0, rfl, by omega, HT7.out, HL7.out, HB7.out⟩
          case round =>
            obtain ⟨k, rfl, hk, hT, hL, hB⟩ := hrel
            have HTL := Lib.hid (And.intro hT (And.intro hL hB))
            by_cases hk3 : k < 3
            · have hk3' : (k : Int) < 3 := by omega
              have tk := hT.c k (by omega)
              have lk := hL.c k (by omega)
              have tl := hT.lt
              have ll := hL.lt
              clear hT hL hB HT7 HL7 HB7
              obtain ⟨tv, htv⟩ : ∃ tv, tv = T k := ⟨_, rfl⟩
              obtain ⟨lv, hlv⟩ : ∃ lv, lv = L k := ⟨_, rfl⟩
              rw [← htv] at tk
              rw [← hlv] at lk
              have HV := Lib.hid (And.intro htv (And.intro hlv hk3))
              clear htv hlv
              go_upto_region 19 with fail
              go_region
              refine cb_exit (fun W8 hW8 => ?_)
              have B8 : Below wr.heap.size wr W8 := by rw [hW8]; (repeat (first | exact Below.refl _ _ | assumption | (refine Below.setCell ?_ (by first | (simp; done) | (simp; omega) | omega) _) | (refine Below.drew ?_) | (refine below_drewN ?_ _) | (refine Below.alloc ?_ (by first | (simp; done) | (simp; omega) | omega) _) | (refine Below.trans ?_ (Below.mono (by assumption) (by first | (simp; done) | (simp; omega) | omega)))))
              have QB : Blk W8 wr.heap.size [.float .f32 tv, .float .f32 lv] := by rw [hW8]; exact (Blk.new _ _ _ _ rfl).past (by (repeat (first | exact Below.refl _ _ | assumption | (refine Below.setCell ?_ (by first | (simp; done) | (simp; omega) | omega) _) | (refine Below.drew ?_) | (refine below_drewN ?_ _) | (refine Below.alloc ?_ (by first | (simp; done) | (simp; omega) | omega) _) | (refine Below.trans ?_ (Below.mono (by assumption) (by first | (simp; done) | (simp; omega) | omega))))))
              have HQB := Lib.hid QB
              have HTL8 := Lib.hid (And.intro (HTL.out.1.past B8) (And.intro (HTL.out.2.1.past B8) (HTL.out.2.2.trans (B8.mono HTL.out.2.2.size))))
              clear hW8 B8 QB HTL tk lk tl ll
              generalize wr.heap.size = nq at *
              go_wp2_with fail
              go_loopw [103] (fun s103 wt => ∃ j : Nat, s103 = .int .i64 j ∧ j ≤ 2 ∧ Blk wt nq [.float .f32 tv, .float .f32 lv] ∧ VecF wt nt 4 T ∧ VecF wt nl 4 L ∧ Below w.heap.size w wt) (fun s103 _ => 2 - (intOf s103).toNat)
              case atStart => exact ⟨0, rfl, by omega, HQB.out, HTL8.out.1, HTL8.out.2.1, HTL8.out.2.2⟩
              case round =>
                obtain ⟨j, rfl, hj, hQ, hT, hL, hB⟩ := hrel
                have HRR := Lib.hid (And.intro hQ (And.intro hT (And.intro hL hB)))
                by_cases hj2 : j < 2
                · have hj2' : (j : Int) < 2 := by omega
                  obtain ⟨v, hcv, hvv⟩ : ∃ v, wr.cell? ⟨nq, j, none⟩ = some (.float .f32 v) ∧ (v = T k ∨ v = L k) := by
                    rcases (show j = 0 ∨ j = 1 by omega) with rfl | rfl
                    · exact ⟨_, hQ.c 0 _ rfl, .inl HV.out.1⟩
                    · exact ⟨_, hQ.c 1 _ rfl, .inr HV.out.2.1⟩
                  have hql := hQ.lt
                  obtain ⟨v1, v2, v3⟩ := HQ.out k HV.out.2.2 v hvv
                  have hu := fun w : World => lv_up (P := Try.prog) Try.underlying22 Try.underlying31 v1 w
                  clear hQ hT hL hB HQB HTL8 hvv v1
                  go_wp2_with (first | (go_at_call 9; refine (HLD'.out _).mono ?_; rintro e w' ⟨rfl, jj, rfl⟩))
                  rename_i jj1
                  have BD := below_drewN (Below.refl wr.heap.size wr) (jj1 + jj)
                  refine ⟨⟨j + 1, by first | rfl | go_num, by omega, HRR.out.1.past BD, HRR.out.2.1.past BD, HRR.out.2.2.1.past BD, HRR.out.2.2.2.trans (BD.mono HRR.out.2.2.2.size)⟩, by simp [intOf]; omega⟩
                · obtain rfl : j = 2 := by omega
                  clear hQ hT hL hB HQB HTL8
                  go_wp2_with fail
                  go_roundw
                  case rel => exact ⟨k + 1, by first | rfl | go_num, by omega, HRR.out.2.1, HRR.out.2.2.1, HRR.out.2.2.2⟩
                  case measure => simp [intOf]; omega
            · obtain rfl : k = 3 := by omega
              clear hT hL hB HT7 HL7 HB7
              go_wp2_with fail
              go_ret
              exact ⟨ret_b (by simp), HTL.out.2.2⟩
set_option maxRecDepth 100000 in
set_option maxHeartbeats 4000000 in
theorem cb_no (size : Int) (lo hi : Nat) (a : Option Addr) (n cap : Nat) (p : Nat → Nat) (w : World) (hE : cubErr size lo hi n ≠ 0) :
    Calls Try.prog 3 #[.agg #[.int .i64 size, .float .f32 lo, .float .f32 hi, .slice a n cap], .agg #[.float .f32 (p 0), .float .f32 (p 1), .float .f32 (p 2), .float .f32 (p 3)]] w fun e w' => e = .returned (.bool true) ∧ Below w.heap.size w w' := by
  have hc : (cubErr size lo hi n != 0) = true := by simpa using hE
  obtain ⟨E, hEE⟩ : ∃ E, E = cubErr size lo hi n := ⟨_, rfl⟩
  rw [← hEE] at hc
  have HEE := Lib.hid hEE
  clear hE hEE
  go_enter Try.func3, Try.ntmps3
  go_upto_region 1 with fail
  refine wp_world (fun W hW => ?_)
  have CB : Blk W w.heap.size [.int .i64 size, .float .f32 lo, .float .f32 hi, .slice a n cap] := by rw [hW]; exact (Blk.new _ _ _ _ rfl).alloc _
  have PB : VecF W (w.heap.size + 1) 4 p := by rw [hW]; exact VecF.of4 (Blk.new _ _ _ _ (by simp))
  have BW : Below w.heap.size w W := by rw [hW]; (repeat (first | exact Below.refl _ _ | assumption | (refine Below.setCell ?_ (by first | (simp; done) | (simp; omega) | omega) _) | (refine Below.drew ?_) | (refine below_drewN ?_ _) | (refine Below.alloc ?_ (by first | (simp; done) | (simp; omega) | omega) _) | (refine Below.trans ?_ (Below.mono (by assumption) (by first | (simp; done) | (simp; omega) | omega)))))
  have HR : Hid (CbR w W [.int .i64 size, .float .f32 lo, .float .f32 hi, .slice a n cap] p) := ⟨CB, PB, BW⟩
  clear hW CB PB BW
  have c0 := HR.out.c.c 0 _ rfl; have c1 := HR.out.c.c 1 _ rfl; have c2 := HR.out.c.c 2 _ rfl; have c3 := HR.out.c.c 3 _ rfl; have cl := HR.out.c.lt
  have p0 := HR.out.p.c 0 (by omega); have p1 := HR.out.p.c 1 (by omega); have p2 := HR.out.p.c 2 (by omega); have p3 := HR.out.p.c 3 (by omega); have pl := HR.out.p.lt
  go_wp2_with fail
  refine (cubes_any _).mono ?_
  rintro e w1 ⟨rfl, hb1⟩
  have HR1 := Lib.hid (HR.out.past hb1)
  clear hb1 HR c0 c1 c2 c3 cl p0 p1 p2 p3 pl
  have c0 := HR1.out.c.c 0 _ rfl; have c1 := HR1.out.c.c 1 _ rfl; have c2 := HR1.out.c.c 2 _ rfl; have c3 := HR1.out.c.c 3 _ rfl; have cl := HR1.out.c.lt
  have p0 := HR1.out.p.c 0 (by omega); have p1 := HR1.out.p.c 1 (by omega); have p2 := HR1.out.p.c 2 (by omega); have p3 := HR1.out.p.c 3 (by omega); have pl := HR1.out.p.lt
  go_wp2_with fail
  refine (CubeError_any _ _ _ _ _ _ _).mono ?_
  rintro e w2 ⟨rfl, hb2⟩
  rw [← HEE.out]
  have HR2 := Lib.hid (HR1.out.past hb2)
  clear hb2 HR1 c0 c1 c2 c3 cl p0 p1 p2 p3 pl
  have c0 := HR2.out.c.c 0 _ rfl; have c1 := HR2.out.c.c 1 _ rfl; have c2 := HR2.out.c.c 2 _ rfl; have c3 := HR2.out.c.c 3 _ rfl; have cl := HR2.out.c.lt
  have p0 := HR2.out.p.c 0 (by omega); have p1 := HR2.out.p.c 1 (by omega); have p2 := HR2.out.p.c 2 (by omega); have p3 := HR2.out.p.c 3 (by omega); have pl := HR2.out.p.lt
  go_wp2_with fail
  refine (cubes_any _).mono ?_
  rintro e w3 ⟨rfl, hb3⟩
  have HR3 := Lib.hid (HR2.out.past hb3)
  clear hb3 HR2 c0 c1 c2 c3 cl p0 p1 p2 p3 pl
  go_wp2_with fail
  go_ret
  exact ⟨rfl, HR3.out.b⟩
set_option maxRecDepth 100000 in
set_option maxHeartbeats 4000000 in
theorem cb_brok (size : Int) (lo hi : Nat) (a : Option Addr) (n cap : Nat) (p : Nat → Nat) (w : World) (he : cubErr size lo hi n = 0) (hb : brokB p = true) :
    Calls Try.prog 3 #[.agg #[.int .i64 size, .float .f32 lo, .float .f32 hi, .slice a n cap], .agg #[.float .f32 (p 0), .float .f32 (p 1), .float .f32 (p 2), .float .f32 (p 3)]] w fun e w' => e = .returned (.bool true) ∧ Below w.heap.size w w' := by
  have HE := Lib.hid he
  have hbb : (isN .f32 (p 0) || isN .f32 (p 1) || isN .f32 (p 2)) = true := hb
  clear he hb
  have hcase : ((FloatKind.f32.format.order (p 0) (p 0) != some .eq) = true) ∨ ((FloatKind.f32.format.order (p 0) (p 0) != some .eq) = false ∧ (FloatKind.f32.format.order (p 1) (p 1) != some .eq) = true) ∨ ((FloatKind.f32.format.order (p 0) (p 0) != some .eq) = false ∧ (FloatKind.f32.format.order (p 1) (p 1) != some .eq) = false ∧ (FloatKind.f32.format.order (p 2) (p 2) != some .eq) = true) := by
    rw [ord_self_ne, ord_self_ne, ord_self_ne]
    revert hbb
    cases isN .f32 (p 0) <;> cases isN .f32 (p 1) <;> cases isN .f32 (p 2) <;> simp
  clear hbb
  go_enter Try.func3, Try.ntmps3
  go_upto_region 1 with fail
  refine wp_world (fun W hW => ?_)
  have CB : Blk W w.heap.size [.int .i64 size, .float .f32 lo, .float .f32 hi, .slice a n cap] := by rw [hW]; exact (Blk.new _ _ _ _ rfl).alloc _
  have PB : VecF W (w.heap.size + 1) 4 p := by rw [hW]; exact VecF.of4 (Blk.new _ _ _ _ (by simp))
  have BW : Below w.heap.size w W := by rw [hW]; (repeat (first | exact Below.refl _ _ | assumption | (refine Below.setCell ?_ (by first | (simp; done) | (simp; omega) | omega) _) | (refine Below.drew ?_) | (refine below_drewN ?_ _) | (refine Below.alloc ?_ (by first | (simp; done) | (simp; omega) | omega) _) | (refine Below.trans ?_ (Below.mono (by assumption) (by first | (simp; done) | (simp; omega) | omega)))))
  have HR : Hid (CbR w W [.int .i64 size, .float .f32 lo, .float .f32 hi, .slice a n cap] p) := ⟨CB, PB, BW⟩
  clear hW CB PB BW
  have HCA := Lib.hid hcase
  clear hcase
  have c0 := HR.out.c.c 0 _ rfl; have c1 := HR.out.c.c 1 _ rfl; have c2 := HR.out.c.c 2 _ rfl; have c3 := HR.out.c.c 3 _ rfl; have cl := HR.out.c.lt
  have p0 := HR.out.p.c 0 (by omega); have p1 := HR.out.p.c 1 (by omega); have p2 := HR.out.p.c 2 (by omega); have p3 := HR.out.p.c 3 (by omega); have pl := HR.out.p.lt
  go_wp2_with fail
  refine (cubes_any _).mono ?_
  rintro e w1 ⟨rfl, hb1⟩
  have HR1 := Lib.hid (HR.out.past hb1)
  clear hb1 HR c0 c1 c2 c3 cl p0 p1 p2 p3 pl
  have c0 := HR1.out.c.c 0 _ rfl; have c1 := HR1.out.c.c 1 _ rfl; have c2 := HR1.out.c.c 2 _ rfl; have c3 := HR1.out.c.c 3 _ rfl; have cl := HR1.out.c.lt
  have p0 := HR1.out.p.c 0 (by omega); have p1 := HR1.out.p.c 1 (by omega); have p2 := HR1.out.p.c 2 (by omega); have p3 := HR1.out.p.c 3 (by omega); have pl := HR1.out.p.lt
  go_wp2_with fail
  refine (CubeError_any _ _ _ _ _ _ _).mono ?_
  rintro e w2 ⟨rfl, hb2⟩
  rw [HE.out]
  have HR2 := Lib.hid (HR1.out.past hb2)
  clear hb2 HR1 c0 c1 c2 c3 cl p0 p1 p2 p3 pl
  have c0 := HR2.out.c.c 0 _ rfl; have c1 := HR2.out.c.c 1 _ rfl; have c2 := HR2.out.c.c 2 _ rfl; have c3 := HR2.out.c.c 3 _ rfl; have cl := HR2.out.c.lt
  have p0 := HR2.out.p.c 0 (by omega); have p1 := HR2.out.p.c 1 (by omega); have p2 := HR2.out.p.c 2 (by omega); have p3 := HR2.out.p.c 3 (by omega); have pl := HR2.out.p.lt
  rcases HCA.out with q0 | ⟨q0, q1⟩ | ⟨q0, q1, q2⟩
  all_goals
    go_wp2_with fail
    refine (cubes_any _).mono ?_
    rintro e w3 ⟨rfl, hb3⟩
    have HR3 := Lib.hid (HR2.out.past hb3)
    clear hb3 HR2 c0 c1 c2 c3 cl p0 p1 p2 p3 pl
    go_wp2_with fail
    go_ret
    exact ⟨rfl, HR3.out.b⟩
/-- Four numbers by their place. -/
def fourP (p0 p1 p2 p3 : Nat) : Nat → Nat := fun a => if a = 0 then p0 else if a = 1 then p1 else if a = 2 then p2 else p3
theorem cb_walk (size : Int) (lo hi : Nat) (a : Option Addr) (n cap : Nat) (fs : Nat → Nat) (p0 p1 p2 p3 : Nat) (w : World)
    (_ : IntKind.i64.min ≤ size ∧ size ≤ IntKind.i64.max) (_ : lo < 2 ^ FloatKind.f32.format.width) (_ : hi < 2 ^ FloatKind.f32.format.width) (hf : IsFloats w a n cap fs)
    (_ : p0 < 2 ^ FloatKind.f32.format.width) (_ : p1 < 2 ^ FloatKind.f32.format.width) (_ : p2 < 2 ^ FloatKind.f32.format.width) (_ : p3 < 2 ^ FloatKind.f32.format.width) :
    Calls Try.prog 3 #[.agg #[.int .i64 size, .float .f32 lo, .float .f32 hi, .slice a n cap], .agg #[.float .f32 p0, .float .f32 p1, .float .f32 p2, .float .f32 p3]] w fun e w' => e = .returned (.bool true) ∧ Below w.heap.size w w' := by
  by_cases he : cubErr size lo hi n = 0
  · cases hb : brokB (fourP p0 p1 p2 p3) with
    | true => exact cb_brok size lo hi a n cap (fourP p0 p1 p2 p3) w he hb
    | false =>
      obtain ⟨⟨s1, s2⟩, -⟩ := cubErr_ok he
      obtain ⟨S, rfl⟩ : ∃ S : Nat, size = S := ⟨size.toNat, by omega⟩
      obtain ⟨-, -, hn, hpos, -⟩ := cub_ok_nat he
      rcases hf with ⟨hz, -⟩ | ⟨b, off, rfl, -, hcap, hm, hcell⟩
      · omega
      · exact cb_yes S lo hi b off n cap fs (fourP p0 p1 p2 p3) w he hcap (fun i hi => (hcell i (by omega)).1) hb
  · exact cb_no size lo hi a n cap (fourP p0 p1 p2 p3) w he
end Go.Proofs.Ytmdmjmmplhoniaa
