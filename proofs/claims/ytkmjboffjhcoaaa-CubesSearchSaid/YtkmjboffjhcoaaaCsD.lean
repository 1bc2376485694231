/- A place where a cube gives a colour, in the document: dyeref2.BackOf; what is wrong: cube.Back. Conditions: what each theorem names. -/
import Derived.Test.YtkmjboffjhcoaaaCsC
import Derived.Test.YtkmjboffjhcoaaaCuN
namespace Go.Proofs.Ytkmjboffjhcoaaa
open Go Go.RowKit
set_option maxRecDepth 100000 in
set_option maxHeartbeats 6400000 in
theorem BackOf_yes (S lo hi b off n cap : Nat) (fc p : Nat → Nat) (T m l : Nat) (w : World) (he : cubErr S lo hi n = 0) (hc : Row w b off n fc) (hT : T ≤ 64) (hs : nearS fc p (S * S * S) = some (m, l)) :
    Calls Try.prog 100 #[.agg #[.int .i64 S, .float .f32 lo, .float .f32 hi, .slice (some ⟨b, off, none⟩) n cap], .agg #[.float .f32 (p 0), .float .f32 (p 1), .float .f32 (p 2)], .int .i64 T] w fun e w' =>
      e = .returned (.tuple #[.agg #[.float .f32 (backX S lo hi fc p m T 0), .float .f32 (backX S lo hi fc p m T 1), .float .f32 (backX S lo hi fc p m T 2)], .bool true]) ∧ Below w.heap.size w w' := by
  obtain ⟨hS, hS0, hn, hpos, hnb⟩ := cub_ok_nat he
  have hbw : b < w.heap.size := hc.lt (by omega)
  have HT := Lib.hid (fun q w' hb => TetraOf_any S lo hi b off n cap fc q w' ⟨hS0, hS⟩ hn (hc.below hb hbw) : ∀ q w', Below w.heap.size w w' → _)
  obtain ⟨I, hI⟩ : ∃ I : Nat → Nat, I = best3 S (some (m, 0)) := ⟨_, rfl⟩
  have HN := Lib.hid (fun w' hb => by have h := NearestOf_yes S lo hi b off n cap fc p w' he (hc.below hb hbw); rw [hs] at h; rw [hI]; exact h : ∀ w', Below w.heap.size w w' → Calls Try.prog 99 #[.agg #[.int .i64 S, .float .f32 lo, .float .f32 hi, .slice (some ⟨b, off, none⟩) n cap], .agg #[.float .f32 (p 0), .float .f32 (p 1), .float .f32 (p 2)]] w' fun e w'' => e = .returned (.tuple #[.agg #[.int .i64 (I 0 : Nat), .int .i64 (I 1 : Nat), .int .i64 (I 2 : Nat)], .bool true]) ∧ Below w'.heap.size w' w'')
  have HB := Lib.hid (show ∀ a, backX S lo hi fc p m 0 a = spotF lo hi (partF (I a) S) from fun a => by rw [hI]; rfl)
  have hT' : (T : Int) ≤ 64 := by omega
  have e1 : IntKind.i64.wrap ((S : Int) - 1) = (S : Int) - 1 := by rw [IntKind.wrap_i64]; omega
  clear he hc hs hS hS0 hn hpos hnb hbw hI
  go_enter Try.func100, Try.ntmps100
  go_upto_region 1 with fail
  refine wp_world (fun W hW => ?_)
  have A0 : Blk W w.heap.size [.int .i64 S, .float .f32 lo, .float .f32 hi, .slice (some ⟨b, off, none⟩) n cap] := by rw [hW]; exact ((Blk.new _ _ _ _ rfl).alloc _).alloc _
  have P0 : Blk W (w.heap.size + 1) [.float .f32 (p 0), .float .f32 (p 1), .float .f32 (p 2)] := by rw [hW]; exact (Blk.new _ _ _ _ (by simp)).alloc _
  have Z0 : Blk W (w.heap.size + 2) [.float .f32 0, .float .f32 0, .float .f32 0] := by rw [hW]; exact Blk.new _ _ _ _ (by simp)
  have BW : Below w.heap.size w W := by rw [hW]; (repeat (first | exact Below.refl _ _ | assumption | (refine Below.setCell ?_ (by first | (simp; done) | (simp; omega) | omega) _) | (refine Below.drew ?_) | (refine below_drewN ?_ _) | (refine Below.alloc ?_ (by first | (simp; done) | (simp; omega) | omega) _) | (refine Below.trans ?_ (Below.mono (by assumption) (by first | (simp; done) | (simp; omega) | omega)))))
  have a0 := A0.c 0 _ rfl; have a1 := A0.c 1 _ rfl; have a2 := A0.c 2 _ rfl; have a3 := A0.c 3 _ rfl; have al := A0.lt
  have q0 := P0.c 0 _ rfl; have q1 := P0.c 1 _ rfl; have q2 := P0.c 2 _ rfl; have ql := P0.lt
  have H0 := Lib.hid (And.intro A0 (And.intro P0 (And.intro Z0 BW)))
  clear hW A0 P0 Z0 BW
  go_wp2_with fail
  refine (HN.out _ H0.out.2.2.2).mono ?_
  rintro e w2 ⟨rfl, hb2⟩
  have H2 := Lib.hid (And.intro (H0.out.1.past hb2) (And.intro (H0.out.2.1.past hb2) (And.intro (H0.out.2.2.1.past hb2) (H0.out.2.2.2.trans (hb2.mono H0.out.2.2.2.size)))))
  clear hb2 a0 a1 a2 a3 al q0 q1 q2 ql H0
  go_upto_region 5 with fail
  refine wp_world (fun W4 hW4 => ?_)
  have B4 : Below w2.heap.size w2 W4 := by rw [hW4]; (repeat (first | exact Below.refl _ _ | assumption | (refine Below.setCell ?_ (by first | (simp; done) | (simp; omega) | omega) _) | (refine Below.drew ?_) | (refine below_drewN ?_ _) | (refine Below.alloc ?_ (by first | (simp; done) | (simp; omega) | omega) _) | (refine Below.trans ?_ (Below.mono (by assumption) (by first | (simp; done) | (simp; omega) | omega)))))
  have I4 : VecI W4 w2.heap.size 3 (fun a => ((I a : Nat) : Int)) := by rw [hW4]; exact VecI.of3 ((Blk.new _ _ _ _ rfl).alloc _)
  have X4 : VecF W4 (w2.heap.size + 1) 3 (fun _ => 0) := by rw [hW4]; exact VecF.of3 (Blk.new _ _ _ _ (by simp))
  have hwn : w.heap.size + 2 < w2.heap.size := by have := H2.out.2.2.1.lt; omega
  have R4 : BkR w W4 [.int .i64 S, .float .f32 lo, .float .f32 hi, .slice (some ⟨b, off, none⟩) n cap] p (w2.heap.size + 1) (fun _ => 0) := ⟨H2.out.1.past B4, VecF.of3 (H2.out.2.1.past B4), H2.out.2.2.1.past B4, X4, by omega, H2.out.2.2.2.trans (B4.mono H2.out.2.2.2.size)⟩
  have HR4 := Lib.hid R4; have HI4 := Lib.hid I4
  clear hW4 B4 I4 X4 R4 H2
  obtain ⟨nb, hnb⟩ : ∃ nb, nb = w2.heap.size := ⟨_, rfl⟩
  rw [← hnb] at HR4 HI4 hwn ⊢
  have hnbx : nb ≠ nb + 1 := by omega
  clear hnb
  go_wp2_with fail
  go_loopw [23] (fun s23 wr => ∃ c : Nat, c ≤ 3 ∧ s23 = .int .i64 c ∧ ∃ X : Nat → Nat, (∀ a, a < c → cn .f32 (X a) = backX S lo hi fc p m 0 a) ∧ BkR w wr [.int .i64 S, .float .f32 lo, .float .f32 hi, .slice (some ⟨b, off, none⟩) n cap] p (nb + 1) X ∧ VecI wr nb 3 (fun a => ((I a : Nat) : Int))) (fun s23 _ => 3 - (intOf s23).toNat)
  case atStart => exact ⟨0, by omega, rfl, _, fun a ha => by omega, HR4.out, HI4.out⟩
  case round =>
    obtain ⟨c, hc, rfl, X, hX, hR, hIv⟩ := hrel
    have HX := Lib.hid hX; have HR := Lib.hid hR; have HIV := Lib.hid hIv
    clear hX hR hIv HR4 HI4
    by_cases hc3 : c < 3
    · have hci : (c : Int) < 3 := by omega
      have ic := HIV.out.c c hc3
      obtain ⟨iv, hiv⟩ : ∃ z, z = I c := ⟨_, rfl⟩
      rw [← hiv] at ic
      have HV := Lib.hid hiv
      have a0 := HR.out.a.c 0 _ rfl; have a1 := HR.out.a.c 1 _ rfl; have a2 := HR.out.a.c 2 _ rfl; have al := HR.out.a.lt
      have xl := HR.out.x.lt; have il := HIV.out.lt
      clear hiv
      go_upto_region 8 with fail
      refine wp_region_loose 20 (fun _ _ _ => True) (by kernel_rfl) (by kernel_rfl) ?_
      simp only [List.take_succ_cons, List.take_zero, List.drop_succ_cons, List.drop_zero]
      iterate 7 (refine loose_wanted rfl (fun K hK => ?_); go_simp; refine hK _ ?_; clear hK K)
      (first | ((with_reducible apply loose_farith); rfl; rfl; rfl; rfl; intro _ _) | ((with_reducible apply loose_up); rfl; rfl; exact Try.underlying38; exact Try.underlying172; intro _ _))
      iterate 8 (refine loose_wanted rfl (fun K hK => ?_); go_simp; refine hK _ ?_; clear hK K)
      (first | ((with_reducible apply loose_farith); rfl; rfl; rfl; rfl; intro _ _) | ((with_reducible apply loose_up); rfl; rfl; exact Try.underlying38; exact Try.underlying172; intro _ _))
      (first | ((with_reducible apply loose_farith); rfl; rfl; rfl; rfl; intro _ _) | ((with_reducible apply loose_up); rfl; rfl; exact Try.underlying38; exact Try.underlying172; intro _ _))
      (first | ((with_reducible apply loose_farith); rfl; rfl; rfl; rfl; intro _ _) | ((with_reducible apply loose_up); rfl; rfl; exact Try.underlying38; exact Try.underlying172; intro _ _))
      rename_i r1 g1 r2 g2 r3 g3 r4 g4
      iterate 1 (refine loose_wanted rfl (fun K hK => ?_); go_simp; refine hK _ ?_; clear hK K)
      refine loose_nil (fun w5 hb5 => ?_)
      have HSV := Lib.hid (show cn .f32 r4 = backX S lo hi fc p m 0 c by
        rw [HB.out c, ← HV.out]
        unfold spotF partF
        rw [g4.eq, g3.eq, g2.eq, g1.eq]
        simp only [fop_cn_left, fop_cn_right])
      have R5 := HR.out.past hb5
      have HR5 := Lib.hid R5; have HI5 := Lib.hid (HIV.out.past hb5)
      have xf := R5.x.f; have xl' := R5.x.lt; have xc' := R5.x.c c hc3
      clear hb5 g1 g2 g3 g4 ic a0 a1 a2 al xl il R5 HR HIV
      go_wp2_with fail
      go_roundw
      case rel =>
        have K := HR5.out
        have hnx := K.n
        refine ⟨c + 1, by omega, by go_num, fun a => if a = c then r4 else X a, fun a ha => ?_, ⟨K.a.far _ _ (by simp; omega), K.p.far _ _ (by simp; omega), K.z.far _ _ (by simp; omega), K.x.set c r4 hc3, hnx, K.w.setCell (by simp; omega) _⟩, HI5.out.far _ _ (by simp)⟩
        by_cases e : a = c
        · subst e; simp only [if_true]; exact HSV.out
        · simp only [e, if_false]; exact HX.out a (by omega)
      case measure => simp [intOf]; omega
    · obtain rfl : c = 3 := by omega
      rw [show ((3 : Nat) : Int) = 3 from rfl]
      obtain ⟨nx, hnx⟩ : ∃ nx, nx = nb + 1 := ⟨_, rfl⟩
      rw [← hnx] at HR ⊢
      have HX0 := HX; have HR6 := HR
      clear HX HR HIV hnbx hnx hwn
      go_wp2_with fail
      go_loopw [48] (fun s48 wr => ∃ t : Nat, t ≤ T ∧ s48 = .int .i64 t ∧ ∃ X : Nat → Nat, (∀ a, a < 3 → cn .f32 (X a) = backX S lo hi fc p m t a) ∧ BkR w wr [.int .i64 S, .float .f32 lo, .float .f32 hi, .slice (some ⟨b, off, none⟩) n cap] p nx X) (fun s48 _ => T - (intOf s48).toNat)
      case atStart => exact ⟨0, by omega, rfl, _, HX0.out, HR6.out⟩
      case round =>
        obtain ⟨t, ht, rfl, X, hX, hR⟩ := hrel
        have HX := Lib.hid hX; have HR := Lib.hid hR
        clear hX hR HX0 HR6
        by_cases htT : t < T
        · have htT' : (t : Int) < (T : Int) := by omega
          have a0 := HR.out.a.c 0 _ rfl; have a1 := HR.out.a.c 1 _ rfl; have a2 := HR.out.a.c 2 _ rfl; have a3 := HR.out.a.c 3 _ rfl; have al := HR.out.a.lt
          have x0 := HR.out.x.c 0 (by omega); have x1 := HR.out.x.c 1 (by omega); have x2 := HR.out.x.c 2 (by omega); have xl := HR.out.x.lt
          go_wp2_with fail
          refine (HT.out (p4 (X 0) (X 1) (X 2) 0) _ HR.out.w).mono ?_
          rintro e w7 ⟨rfl, hb7⟩
          have HR7 := Lib.hid (HR.out.past hb7)
          clear a0 a1 a2 a3 al x0 x1 x2 xl hb7 HR
          obtain ⟨q, hq⟩ : ∃ q : Nat → Nat, q = tetF S lo hi fc (p4 (X 0) (X 1) (X 2) 0) := ⟨_, rfl⟩
          rw [← hq]
          have HQ := Lib.hid hq
          clear hq
          go_upto_region 13 with fail
          refine wp_world (fun W8 hW8 => ?_)
          have Q8 : VecF W8 w7.heap.size 4 q := by rw [hW8]; exact VecF.of4 (Blk.new _ _ _ _ rfl)
          have B8 : Below w7.heap.size w7 W8 := by rw [hW8]; (repeat (first | exact Below.refl _ _ | assumption | (refine Below.setCell ?_ (by first | (simp; done) | (simp; omega) | omega) _) | (refine Below.drew ?_) | (refine below_drewN ?_ _) | (refine Below.alloc ?_ (by first | (simp; done) | (simp; omega) | omega) _) | (refine Below.trans ?_ (Below.mono (by assumption) (by first | (simp; done) | (simp; omega) | omega)))))
          have HR8 := Lib.hid (HR7.out.past B8); have HQ8 := Lib.hid (And.intro Q8 (show nx < w7.heap.size from HR7.out.x.lt))
          clear hW8 Q8 B8 HR7
          generalize w7.heap.size = nq at *
          go_wp2_with fail
          go_loopw [59] (fun s59 wr => ∃ c : Nat, c ≤ 3 ∧ s59 = .int .i64 c ∧ BkR w wr [.int .i64 S, .float .f32 lo, .float .f32 hi, .slice (some ⟨b, off, none⟩) n cap] p nx (fun a => if a < c then stepX S lo hi fc p X a else X a) ∧ VecF wr nq 4 q) (fun s59 _ => 3 - (intOf s59).toNat)
          case atStart => exact ⟨0, by omega, rfl, by simpa using HR8.out, HQ8.out.1⟩
          case round =>
            obtain ⟨c, hc, rfl, hR, hQ⟩ := hrel
            have HR := Lib.hid hR; have HQ9 := Lib.hid hQ
            clear hR hQ HR8
            by_cases hc3 : c < 3
            · have hci : (c : Int) < 3 := by omega
              have hci4 : (c : Int) < 4 := by omega
              have xc := HR.out.x.c c hc3
              simp only [show ¬ c < c by omega, if_false] at xc
              have pc := HR.out.p.c c hc3
              have qc := HQ9.out.c c (by omega)
              obtain ⟨xv, hxv⟩ : ∃ z, z = X c := ⟨_, rfl⟩
              obtain ⟨pv, hpv⟩ : ∃ z, z = p c := ⟨_, rfl⟩
              obtain ⟨qv, hqv⟩ : ∃ z, z = q c := ⟨_, rfl⟩
              rw [← hxv] at xc; rw [← hpv] at pc; rw [← hqv] at qc
              have HV := Lib.hid (And.intro hxv (And.intro hpv hqv))
              have a1 := HR.out.a.c 1 _ rfl; have a2 := HR.out.a.c 2 _ rfl; have al := HR.out.a.lt
              have xl := HR.out.x.lt; have pl := HR.out.p.lt; have ql := HQ9.out.lt
              clear hxv hpv hqv
              go_upto_region 16 with fail
              refine wp_region_loose 19 (fun _ args u => u = .float .f32 (limF (argF args 0) (argF args 1) (argF args 2))) (by kernel_rfl) (by kernel_rfl) ?_
              simp only [List.take_succ_cons, List.take_zero, List.drop_succ_cons, List.drop_zero]
              iterate 10 (refine loose_wanted rfl (fun K hK => ?_); go_simp; refine hK _ ?_; clear hK K)
              (first | ((with_reducible apply loose_farith); rfl; rfl; rfl; rfl; intro _ _) | ((with_reducible apply loose_up); rfl; rfl; exact Try.underlying38; exact Try.underlying172; intro _ _))
              (first | ((with_reducible apply loose_farith); rfl; rfl; rfl; rfl; intro _ _) | ((with_reducible apply loose_up); rfl; rfl; exact Try.underlying38; exact Try.underlying172; intro _ _))
              (first | ((with_reducible apply loose_farith); rfl; rfl; rfl; rfl; intro _ _) | ((with_reducible apply loose_up); rfl; rfl; exact Try.underlying38; exact Try.underlying172; intro _ _))
              rename_i r1 g1 r2 g2 r3 g3
              iterate 4 (refine loose_wanted rfl (fun K hK => ?_); go_simp; refine hK _ ?_; clear hK K)
              refine loose_wanted rfl (fun K1 hK => ?_)
              go_simp
              refine ⟨fun p => (LimitOf_any _ _ _ p.w).mono ?_, ?_⟩
              · rintro e w' ⟨rfl, rfl⟩
                exact ⟨_, rfl, by first | rfl | simp, p.h⟩
              refine hK _ ?_
              clear hK K1
              iterate 1 (refine loose_wanted rfl (fun K hK => ?_); go_simp; refine hK _ ?_; clear hK K)
              refine loose_nil (fun w5 hb5 => ?_)
              have HSV := Lib.hid (show limF r3 lo hi = stepX S lo hi fc p X c by
                unfold stepX
                refine limF_of lo hi ?_
                rw [g3.eq, g2.eq, g1.eq, HV.out.1, HV.out.2.1, HV.out.2.2, HQ.out]
                simp only [fop_cn_left, fop_cn_right, cn_fop])
              have R5 := HR.out.past hb5
              have HR5 := Lib.hid R5; have HQ5 := Lib.hid (HQ9.out.past hb5)
              have xf := R5.x.f; have xl' := R5.x.lt; have xc' := R5.x.c c hc3
              clear hb5 g1 g2 g3 xc pc qc a1 a2 al xl pl ql R5 HR HQ9
              go_wp2_with fail
              go_roundw
              case rel =>
                have K := HR5.out
                have hnx := K.n
                refine ⟨c + 1, by omega, by go_num, ⟨K.a.far _ _ (by simp; omega), K.p.far _ _ (by simp; omega), K.z.far _ _ (by simp; omega), ?_, hnx, K.w.setCell (by simp; omega) _⟩, HQ5.out.far _ _ (by have := HQ8.out.2; simp; omega)⟩
                have hv := K.x.set c (limF r3 lo hi) hc3
                refine ⟨hv.lt, fun j hj => ?_, hv.f⟩
                rw [hv.c j hj]
                by_cases e : j = c
                · subst e; rw [if_pos rfl, if_pos (by omega), HSV.out]
                · rw [if_neg e]
                  by_cases e2 : j < c
                  · rw [if_pos e2, if_pos (by omega)]
                  · rw [if_neg e2, if_neg (by omega)]
              case measure => simp [intOf]; omega
            · obtain rfl : c = 3 := by omega
              go_wp2_with fail
              go_roundw
              case rel =>
                refine ⟨t + 1, by omega, by go_num, _, fun a ha => ?_, HR.out⟩
                simp only [ha, if_true]
                show cn .f32 (stepX S lo hi fc p X a) = stepX S lo hi fc p (backX S lo hi fc p m t) a
                rw [stepX_of S lo hi fc p (fun a' ha' => (HX.out a' ha').trans (backX_cn _ _ _ _ _ _ _ _).symm) ha]
                exact limF_can _ _ _
              case measure => simp [intOf]; omega
        · obtain rfl : t = T := by omega
          have x0 := HR.out.x.c 0 (by omega); have x1 := HR.out.x.c 1 (by omega); have x2 := HR.out.x.c 2 (by omega); have xl := HR.out.x.lt
          go_upto_region 19 with fail
          refine wp_region_loose 10 (fun _ args u => u = .float .f32 (cn .f32 (argF args 0))) (by kernel_rfl) (by kernel_rfl) ?_
          simp only [List.take_succ_cons, List.take_zero, List.drop_succ_cons, List.drop_zero]
          iterate 2 (refine loose_wanted rfl (fun K hK => ?_); go_simp; refine hK _ ?_; clear hK K)
          refine loose_wanted rfl (fun K1 hK => ?_)
          go_simp
          refine ⟨fun p => (Fix_any _ _).mono ?_, ?_⟩
          · rintro e w' ⟨rfl, rfl⟩
            exact ⟨_, rfl, by first | rfl | simp, p.h⟩
          refine hK _ ?_
          clear hK K1
          iterate 2 (refine loose_wanted rfl (fun K hK => ?_); go_simp; refine hK _ ?_; clear hK K)
          refine loose_wanted rfl (fun K1 hK => ?_)
          go_simp
          refine ⟨fun p => (Fix_any _ _).mono ?_, ?_⟩
          · rintro e w' ⟨rfl, rfl⟩
            exact ⟨_, rfl, by first | rfl | simp, p.h⟩
          refine hK _ ?_
          clear hK K1
          iterate 2 (refine loose_wanted rfl (fun K hK => ?_); go_simp; refine hK _ ?_; clear hK K)
          refine loose_wanted rfl (fun K1 hK => ?_)
          go_simp
          refine ⟨fun p => (Fix_any _ _).mono ?_, ?_⟩
          · rintro e w' ⟨rfl, rfl⟩
            exact ⟨_, rfl, by first | rfl | simp, p.h⟩
          refine hK _ ?_
          clear hK K1
          iterate 1 (refine loose_wanted rfl (fun K hK => ?_); go_simp; refine hK _ ?_; clear hK K)
          refine loose_nil (fun w7 hb7 => ?_)
          have R7 := HR.out.past hb7
          rw [HX.out 0 (by omega), HX.out 1 (by omega), HX.out 2 (by omega)]
          have z0 := R7.z.c 0 _ rfl; have z1 := R7.z.c 1 _ rfl; have z2 := R7.z.c 2 _ rfl; have zf := R7.z.f; have zl := R7.z.lt
          have HBW := Lib.hid R7.w
          clear x0 x1 x2 xl hb7 R7 HR
          go_wp2_with fail
          refine bodyPost_ret (v := .tuple #[.agg #[.float .f32 (backX S lo hi fc p m t 0), .float .f32 (backX S lo hi fc p m t 1), .float .f32 (backX S lo hi fc p m t 2)], .bool true]) (by simp [results, Try.results100, go_sem, z0, z1, z2]) rfl ⟨rfl, ?_⟩
          have B3 := HBW.out
          exact ((B3.setCell (by first | (simp; done) | (simp; omega) | omega) _).setCell (by first | (simp; done) | (simp; omega) | omega) _).setCell (by first | (simp; done) | (simp; omega) | omega) _
end Go.Proofs.Ytkmjboffjhcoaaa
