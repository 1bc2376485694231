/- The document's inverse of a matrix. Conditions: the matrix' doubles are doubles. -/
import Derived.Test.YtfmdnibfeckmaaaDoorSmB
namespace Go.Proofs.YtfmdnibfeckmaaaDoor
open Go Go.RowKit
/-- A double less itself, run: some bits, which are 0 just where it is a number. -/
theorem sub_self_run (d : Nat) : ∃ R : TypeId → World → Nat × Nat, (∀ t w, (binOp .sub t (.float .f64 d) (.float .f64 d)).run Tryd.prog w = .ok (.float .f64 (R t w).1) (w.drewN (R t w).2)) ∧ ∀ t w, (FloatKind.f64.format.order (R t w).1 0 != some .eq) = !isNum .f64 d := by
  have hq : ∀ (t : TypeId) (w : World), ∃ rn : Nat × Nat, (binOp .sub t (.float .f64 d) (.float .f64 d)).run Tryd.prog w = .ok (.float .f64 rn.1) (w.drewN rn.2) ∧ (FloatKind.f64.format.order rn.1 0 != some .eq) = !isNum .f64 d := fun t w => by
    obtain ⟨r, m, hr, hf⟩ := run_farith (P := Tryd.prog) (op := .sub) rfl t .f64 d d w
    exact ⟨(r, m), hr, isNum_ref64 (by rw [fop_cn_left, fop_cn_right]; exact hf)⟩
  exact ⟨fun t w => (hq t w).choose, fun t w => (hq t w).choose_spec.1, fun t w => (hq t w).choose_spec.2⟩
theorem minorR_I {b : Nat} {i j k l : Nat} {I J K L : Int} {r : Nat → Nat} {w : World} (h : VecD w b 9 r) (hi : i < 9) (hj : j < 9) (hk : k < 9) (hl : l < 9) (ei : I = i) (ej : J = j) (ek : K = k) (el : L = l) :
    Calls Tryd.prog 52 #[.int .i64 I, .int .i64 J, .int .i64 K, .int .i64 L, .pointer (some ⟨b, 0, none⟩)] w fun e w' =>
    (∃ v, e = .returned (.float .f64 v) ∧ cn .f64 v = minF (cn .f64 (r i)) (cn .f64 (r j)) (cn .f64 (r k)) (cn .f64 (r l))) ∧ Below w.heap.size w w' := by
  subst ei; subst ej; subst ek; subst el
  exact minorR_any b i j k l r w h hi hj hk hl
set_option maxRecDepth 100000 in
set_option maxHeartbeats 6400000 in
theorem InverseOf_any (r R : Nat → Nat) (w : World) (hR0 : ∀ i, i < 9 → cn .f64 (r i) = R i ∧ R i < 2 ^ FloatKind.f64.format.width) : Calls Tryd.prog 40 #[m9 r] w (MatE (invE fun i => cn .f64 (r i)) (invF fun i => cn .f64 (r i)) w.heap.size w) := by
  have HRB : Hid (∀ i, i < 9 → cn .f64 (r i) < 2 ^ FloatKind.f64.format.width) := Lib.hid (fun i hi => by rw [(hR0 i hi).1]; exact (hR0 i hi).2)
  clear hR0
  have fc := finB_cn r
  go_enter Tryd.func40, Tryd.ntmps40
  go_upto_region 1 with fail
  refine wp_world (fun W hW => ?_)
  have V0 : InR w W r (fun _ => 0) := by
    rw [hW]
    exact ⟨VecD.of9 ((Blk.new _ _ _ _ rfl).alloc _), VecD.of9 (Blk.new _ _ _ _ (by simp)), by (repeat (first | exact Below.refl _ _ | assumption | (refine Below.setCell ?_ (by first | (simp; done) | (simp; omega) | omega) _) | (refine Below.drew ?_) | (refine below_drewN ?_ _) | (refine Below.alloc ?_ (by first | (simp; done) | (simp; omega) | omega) _) | (refine Below.trans ?_ (Below.mono (by assumption) (by first | (simp; done) | (simp; omega) | omega)))))⟩
  have HV := Lib.hid V0
  clear hW V0
  cases hF : finB r
  · have HF := Lib.hid hF
    rw [hF] at fc
    have HE : Hid ((invE fun i => cn .f64 (r i)) = 2) := Lib.hid (by unfold invE; rw [fc]; rfl)
    clear fc hF
    go_wp2_with (first | ((with_reducible apply wpList_ld9 (HV.out.r)); rfl; rfl; rfl) | (go_at_call 51; refine (finiteR_any r _ HRB.out).mono ?_; rintro e w1 ⟨rfl, hb1⟩; rw [HF.out]) | ((with_reducible apply wpList_st9 (r := fun _ => 0) (HV.out.z.past hb1)); rfl; rfl; rfl; rfl; intro w9 hk9 hs9 hh9 hb9))
    refine bodyPost_ret (v := .tuple #[m9 (fun _ => 0), .int .i64 (invE fun i => cn .f64 (r i))]) (by rw [HE.out]; exact results_m9e Tryd.results40 _ hk9 rfl rfl) rfl ⟨⟨_, rfl, fun h => by rw [HE.out] at h; cases h⟩, ?_⟩
    exact hb9 _ _ (HV.out.past hb1).b (by omega)
  · have HF := Lib.hid hF
    rw [hF] at fc
    have HFC := Lib.hid fc
    clear fc hF
    go_wp2_with (first | ((with_reducible apply wpList_ld9 (HV.out.r)); rfl; rfl; rfl) | (go_at_call 51; refine (finiteR_any r _ HRB.out).mono ?_; rintro e w1 ⟨rfl, hb1⟩; rw [HF.out]))
    have H1 := Lib.hid (HV.out.past hb1)
    clear hb1 HV
    refine (minorR_I (i := 4) (j := 8) (k := 5) (l := 7) H1.out.r (by omega) (by omega) (by omega) (by omega) rfl rfl rfl rfl).mono ?_
    rintro e w2 ⟨⟨A, rfl, hA⟩, hb2⟩
    have H2 := Lib.hid (H1.out.past hb2); have HA := Lib.hid hA
    clear hb2 H1 hA
    go_wp2_with fail
    refine (minorR_I (i := 5) (j := 6) (k := 3) (l := 8) H2.out.r (by omega) (by omega) (by omega) (by omega) rfl rfl rfl rfl).mono ?_
    rintro e w3 ⟨⟨B, rfl, hB⟩, hb3⟩
    have H3 := Lib.hid (H2.out.past hb3); have HB := Lib.hid hB
    clear hb3 H2 hB
    go_wp2_with fail
    refine (minorR_I (i := 3) (j := 7) (k := 4) (l := 6) H3.out.r (by omega) (by omega) (by omega) (by omega) rfl rfl rfl rfl).mono ?_
    rintro e w4 ⟨⟨C, rfl, hC⟩, hb4⟩
    have H4 := Lib.hid (H3.out.past hb4); have HC := Lib.hid hC
    clear hb4 H3 hC
    have r0 := H4.out.r.c 0 (by omega); have r1 := H4.out.r.c 1 (by omega); have r2 := H4.out.r.c 2 (by omega); have rl := H4.out.r.lt
    go_wp2_with fail
    refine (rowR_any _ _ _ _ _ _ _).mono ?_
    rintro e w5 ⟨⟨d, rfl, hd⟩, m, rfl⟩
    rw [HA.out, HB.out, HC.out] at hd
    have HD : Hid (cn .f64 d = detF (fun i => cn .f64 (r i))) := Lib.hid hd
    have H5 := Lib.hid (H4.out.past (below_drewN (Below.refl _ _) m))
    clear hd r0 r1 r2 rl H4
    go_wp2_with fail
    refine (minorR_I (i := 2) (j := 7) (k := 1) (l := 8) H5.out.r (by omega) (by omega) (by omega) (by omega) rfl rfl rfl rfl).mono ?_
    rintro e w20 ⟨⟨p1, rfl, hp1⟩, hb⟩
    have H6 := Lib.hid (H5.out.past hb); have Kp1 := Lib.hid hp1
    clear hb H5 hp1
    go_wp2_with fail
    refine (minorR_I (i := 1) (j := 5) (k := 2) (l := 4) H6.out.r (by omega) (by omega) (by omega) (by omega) rfl rfl rfl rfl).mono ?_
    rintro e w21 ⟨⟨p2, rfl, hp2⟩, hb⟩
    have H7 := Lib.hid (H6.out.past hb); have Kp2 := Lib.hid hp2
    clear hb H6 hp2
    go_wp2_with fail
    refine (minorR_I (i := 0) (j := 8) (k := 2) (l := 6) H7.out.r (by omega) (by omega) (by omega) (by omega) rfl rfl rfl rfl).mono ?_
    rintro e w22 ⟨⟨p4, rfl, hp4⟩, hb⟩
    have H8 := Lib.hid (H7.out.past hb); have Kp4 := Lib.hid hp4
    clear hb H7 hp4
    go_wp2_with fail
    refine (minorR_I (i := 2) (j := 3) (k := 0) (l := 5) H8.out.r (by omega) (by omega) (by omega) (by omega) rfl rfl rfl rfl).mono ?_
    rintro e w23 ⟨⟨p5, rfl, hp5⟩, hb⟩
    have H9 := Lib.hid (H8.out.past hb); have Kp5 := Lib.hid hp5
    clear hb H8 hp5
    go_wp2_with fail
    refine (minorR_I (i := 1) (j := 6) (k := 0) (l := 7) H9.out.r (by omega) (by omega) (by omega) (by omega) rfl rfl rfl rfl).mono ?_
    rintro e w24 ⟨⟨p7, rfl, hp7⟩, hb⟩
    have H10 := Lib.hid (H9.out.past hb); have Kp7 := Lib.hid hp7
    clear hb H9 hp7
    go_wp2_with fail
    refine (minorR_I (i := 0) (j := 4) (k := 1) (l := 3) H10.out.r (by omega) (by omega) (by omega) (by omega) rfl rfl rfl rfl).mono ?_
    rintro e w25 ⟨⟨p8, rfl, hp8⟩, hb⟩
    have H11 := Lib.hid (H10.out.past hb); have Kp8 := Lib.hid hp8
    clear hb H10 hp8
    go_upto_region 7 with ((with_reducible apply wpList_st9 (r := pk9 A p1 p2 B p4 p5 C p7 p8) (VecD.of9 (f := fun _ => 0) (Blk.new _ _ _ _ rfl))); rfl; rfl; rfl; rfl; intro w9 hk9 hs9 hh9 hb9)
    have hbz := hb9 _ _ ((Below.refl w25.heap.size w25).alloc (Nat.le_refl _) _) (Nat.le_refl _)
    have hlt := H11.out.z.lt
    have HL : Hid (InL w w9 r w25.heap.size (pk9 A p1 p2 B p4 p5 C p7 p8)) := Lib.hid ⟨H11.out.past hbz, hk9, hlt⟩
    have HP : Hid (∀ j, j < 9 → cn .f64 (pk9 A p1 p2 B p4 p5 C p7 p8 j) = cofN (fun i => cn .f64 (r i)) j) := Lib.hid (pk9_cof HA.out Kp1.out Kp2.out HB.out Kp4.out Kp5.out HC.out Kp7.out Kp8.out)
    generalize w25.heap.size = nb at *
    generalize pk9 A p1 p2 B p4 p5 C p7 p8 = pk at *
    clear hbz hlt hk9 hs9 hh9 hb9 H11 HA HB HC Kp1 Kp2 Kp4 Kp5 Kp7 Kp8
    have KB : badD d = true → Hid ((invE fun i => cn .f64 (r i)) = 3) := fun h => Lib.hid (by unfold invE; rw [HFC.out, ← HD.out, badD_cn, h]; rfl)
    have HKB := Lib.hid KB
    have ho : okD d = isNum .f64 d := okD_of HD.out (by unfold detF dotF; exact fop_lt _ _ _ _)
    clear KB
    cases hz : zeroD d
    · have hz' : (FloatKind.f64.format.order d 0 == some .eq) = false := hz
      have HZ := Lib.hid hz
      clear hz
      cases hN : isNum .f64 d
      · have HE := HKB.out (by unfold badD; rw [ho, hN, HZ.out]; rfl)
        have HN := Lib.hid hN
        clear hN ho
        obtain ⟨S, hS1, hS2⟩ := sub_self_run d
        rw [HN.out] at hS2
        have hS3 : ∀ t w, (FloatKind.f64.format.order (S t w).1 0 != some .eq) = true := hS2
        clear hS2
        go_wp2_with (first | ((with_reducible apply wpList_st9 (r := fun _ => 0) (HL.out.i.z.past (below_drewN (Below.refl _ _) _))); rfl; rfl; rfl; rfl; intro w9 hk9 hs9 hh9 hb9))
        refine bodyPost_ret (v := .tuple #[m9 (fun _ => 0), .int .i64 (invE fun i => cn .f64 (r i))]) (by rw [HE.out]; exact results_m9e Tryd.results40 _ hk9 rfl rfl) rfl ⟨⟨_, rfl, fun h => by rw [HE.out] at h; cases h⟩, ?_⟩
        exact hb9 _ _ (by first | exact HL.out.i.b | exact below_drewN HL.out.i.b _) (by omega)
      · have HBd : Hid (badD d = false) := Lib.hid (by unfold badD; rw [ho, hN, HZ.out]; rfl)
        have HN := Lib.hid hN
        clear hN ho HKB
        obtain ⟨S, hS1, hS2⟩ := sub_self_run d
        rw [HN.out] at hS2
        have hS3 : ∀ t w, (FloatKind.f64.format.order (S t w).1 0 != some .eq) = false := hS2
        clear hS2
        go_upto_region 9 with fail
        refine wp_world (fun V hV => ?_)
        have HL2 : Hid (InL w V r nb pk) := Lib.hid (by rw [hV]; exact HL.out.past (below_drewN (Below.refl _ _) _))
        have HL := HL2
        clear hV HL2 hS1 hS3
        go_wp2_with fail
        go_loopw [57] (fun s57 wr => ∃ m : Nat, m ≤ 9 ∧ s57 = .int .i64 m ∧ ∃ g, InL w wr r nb g ∧ DivR (fun i => cn .f64 (r i)) pk g m) (fun s57 _ => 9 - (intOf s57).toNat)
        case atStart => exact ⟨0, by omega, rfl, _, HL.out, DivR.start⟩
        case round =>
          obtain ⟨m, hm, rfl, g, hR, hD⟩ := hrel
          have HR := Lib.hid hR; have HDV := Lib.hid hD
          clear hR hD HL
          by_cases hm9 : m < 9
          · have hm9' : (m : Int) < 9 := by omega
            have g0 := HR.out.g.c m hm9; have gf := HR.out.g.f; have gl := HR.out.g.lt
            obtain ⟨x, hx⟩ : ∃ x, x = g m := ⟨_, rfl⟩
            rw [← hx] at g0
            have HX := Lib.hid hx
            clear hx
            go_wp2_with (first | ((with_reducible apply wpList_farith); rfl; rfl; rfl; intro _ _ _) | ((with_reducible apply wpList_up); rfl; exact Tryd.underlying22; exact Tryd.underlying47; intro _ _ _))
            rename_i q n hq
            go_roundw
            case rel => exact ⟨m + 1, by omega, by go_num, _, (HR.out.past (below_drewN (Below.refl _ _) _)).set m hm9 q, HDV.out.next hm9 (by rw [hq.eq, HX.out, HDV.out.at hm9, HP.out m hm9, HD.out]; rfl)⟩
            case measure => simp [intOf]; omega
          · have hm9' : ¬ (m : Int) < 9 := by omega
            obtain rfl : m = 9 := by omega
            have hcn : ∀ j, j < 9 → cn .f64 (g j) = invF (fun i => cn .f64 (r i)) j := fun j hj => (HDV.out j hj).1 hj
            have hfb : finB g = finB (invF fun i => cn .f64 (r i)) := finB_congr fun j hj => by rw [hcn j hj]; exact (cn_fop _ _ _ _).symm
            have hcl : (((9 : Nat) : Int)) = 9 := rfl
            have hbe : badD (detF fun i => cn .f64 (r i)) = false := by rw [← HD.out, badD_cn]; exact HBd.out
            have HGB : Hid (∀ i, i < 9 → cn .f64 (g i) < 2 ^ FloatKind.f64.format.width) := Lib.hid (fun i hi => by rw [hcn i hi]; exact fop_lt _ _ _ _)
            have HCN := Lib.hid hcn
            clear hcn
            cases hG : finB g
            · have HE : Hid ((invE fun i => cn .f64 (r i)) = 3) := Lib.hid (by unfold invE; rw [HFC.out, hbe, ← hfb, hG]; rfl)
              have HG := Lib.hid hG
              clear hG hfb hbe
              go_wp2_with (first | ((with_reducible apply wpList_ld9 (HR.out.g)); rfl; rfl; rfl) | (go_at_call 51; refine (finiteR_any g _ HGB.out).mono ?_; rintro e w1 ⟨rfl, hb1⟩; rw [HG.out]) | ((with_reducible apply wpList_st9 (r := fun _ => 0) (HR.out.i.z.past hb1)); rfl; rfl; rfl; rfl; intro w9 hk9 hs9 hh9 hb9))
              refine bodyPost_ret (v := .tuple #[m9 (fun _ => 0), .int .i64 (invE fun i => cn .f64 (r i))]) (by rw [HE.out]; exact results_m9e Tryd.results40 _ hk9 rfl rfl) rfl ⟨⟨_, rfl, fun h => by rw [HE.out] at h; cases h⟩, ?_⟩
              exact hb9 _ _ (HR.out.past hb1).i.b (by omega)
            · have HE : Hid ((invE fun i => cn .f64 (r i)) = 0) := Lib.hid (by unfold invE; rw [HFC.out, hbe, ← hfb, hG]; rfl)
              have HG := Lib.hid hG
              clear hG hfb hbe
              go_wp2_with (first | ((with_reducible apply wpList_ld9 (HR.out.g)); rfl; rfl; rfl) | (go_at_call 51; refine (finiteR_any g _ HGB.out).mono ?_; rintro e w1 ⟨rfl, hb1⟩; rw [HG.out]) | ((with_reducible apply wpList_ld9 (HR.out.g.past hb1)); rfl; rfl; rfl) | ((with_reducible apply wpList_st9 (r := g) (HR.out.i.z.past hb1)); rfl; rfl; rfl; rfl; intro w9 hk9 hs9 hh9 hb9))
              refine bodyPost_ret (v := .tuple #[m9 g, .int .i64 (invE fun i => cn .f64 (r i))]) (by rw [HE.out]; exact results_m9e Tryd.results40 _ hk9 rfl rfl) rfl ⟨⟨_, rfl, fun _ => HCN.out⟩, ?_⟩
              exact hb9 _ _ (HR.out.past hb1).i.b (by omega)
    · have hz' : (FloatKind.f64.format.order d 0 == some .eq) = true := hz
      have HE := HKB.out (by unfold badD; rw [hz]; rfl)
      clear hz ho
      go_wp2_with ((with_reducible apply wpList_st9 (r := fun _ => 0) (HL.out.i.z)); rfl; rfl; rfl; rfl; intro w9 hk9 hs9 hh9 hb9)
      refine bodyPost_ret (v := .tuple #[m9 (fun _ => 0), .int .i64 (invE fun i => cn .f64 (r i))]) (by rw [HE.out]; exact results_m9e Tryd.results40 _ hk9 rfl rfl) rfl ⟨⟨_, rfl, fun h => by rw [HE.out] at h; cases h⟩, ?_⟩
      exact hb9 _ _ HL.out.i.b (by omega)
end Go.Proofs.YtfmdnibfeckmaaaDoor
