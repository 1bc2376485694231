/- CollectsMatch: the walk of the statement. Conditions: none but the reach of what was read. -/
import Derived.Test.YtnicamndlkdcmaaJnH
import Derived.Test.YtnicamndlkdcmaaFaF
namespace Go.Proofs.Ytnicamndlkdcmaa
open Go Go.RowKit
theorem co_keep {w W : World} {ng : Nat} {a b c d u : Value} (k0 : Blk w ng [a, b, c, d, u]) (h : Below w.heap.size w W) : W.cell? ⟨ng, 0, none⟩ = some a ∧ W.cell? ⟨ng, 1, none⟩ = some b ∧ W.cell? ⟨ng, 2, none⟩ = some c ∧ W.cell? ⟨ng, 3, none⟩ = some d ∧ W.cell? ⟨ng, 4, none⟩ = some u := by
  have k := k0.past h
  exact ⟨k.c 0 _ rfl, k.c 1 _ rfl, k.c 2 _ rfl, k.c 3 _ rfl, k.c 4 _ rfl⟩
theorem IsTasks.below {w w' : World} {a : Option Addr} {n : Nat} {ts : Nat → Tk} (h : IsTasks w a n ts) (hb : Below w.heap.size w w') : IsTasks w' a n ts := by
  refine ⟨h.1, fun h0 => ?_⟩
  obtain ⟨b, off, h1, h2⟩ := h.2 h0
  exact ⟨b, off, h1, fun q hq j v hj => (hb.cell (p := ⟨b, off + q * 5 + j, none⟩) (cell_lt (h2 q hq j v hj))).trans (h2 q hq j v hj)⟩
theorem IsFrames.below {w w' : World} {a : Option Addr} {n : Nat} {ks : Nat → Fr} (h : IsFrames w a n ks) (hb : Below w.heap.size w w') : IsFrames w' a n ks :=
  ⟨h.1, h.2.1.below hb, h.2.2⟩
set_option maxRecDepth 100000 in
set_option maxHeartbeats 8000000 in
theorem co_walk (X Y W H : Int) (at' : Option Addr) (nT cT : Nat) (ts : Nat → Tk) (af : Option Addr) (n cf : Nat) (ks : Nat → Fr) (no : Int) (w : World) (_ : IntKind.i64.min ≤ X ∧ X ≤ IntKind.i64.max) (_ : IntKind.i64.min ≤ Y ∧ Y ≤ IntKind.i64.max) (_ : IntKind.i64.min ≤ W ∧ W ≤ IntKind.i64.max) (_ : IntKind.i64.min ≤ H ∧ H ≤ IntKind.i64.max)
    (hT : IsTasks w at' nT ts) (hF : IsFrames w af n ks ∧ n * 56 ≤ 140737488351232) (_ : IntKind.i64.min ≤ no ∧ no ≤ IntKind.i64.max) :
    Calls Try.prog 7 #[.agg #[.int .i64 X, .int .i64 Y, .int .i64 W, .int .i64 H], .slice at' nT cT, .slice af n cf, .int .i64 no] w fun e w' => e = .returned (.bool true) ∧ Below w.heap.size w w' := by
  have hn63 : n ≤ 9223372036854775807 := by have := hF.1.1; unfold maxLen at this; omega
  have hT63 : nT ≤ 9223372036854775807 := by have := hT.1; unfold maxLen at this; omega
  have HH := Lib.hid (And.intro hT (And.intro hF.1 hF.2))
  have HBT := Lib.hid hF.2
  obtain ⟨i0, hi0, hz0, hz1, hz2⟩ := info_parts infoFrame
  clear hT hF
  by_cases hnT : n = nT
  · subst hnT
    have HC := Lib.hid (show clE X Y W H ts n ks n no = firstE (firstN (coE ks ts) n) (joE X Y W H (fun q => (ptL ks ts no n).getD q default) (ptL ks ts no n).length) by unfold clE; simp [whenE, firstE])
    go_enter Try.func7, Try.ntmps7
    go_upto_region 1 with fail
    refine wp_world (fun W0 hW => ?_)
    have A0 : Blk W0 w.heap.size [.int .i64 X, .int .i64 Y, .int .i64 W, .int .i64 H] := by rw [hW]; exact Blk.new _ _ _ _ rfl
    have B0 : Below w.heap.size w W0 := by rw [hW]; (repeat (first | exact Below.refl _ _ | assumption | (refine Below.setCell ?_ (by first | (simp; done) | (simp; omega) | omega) _) | (refine Below.drew ?_) | (refine below_drewN ?_ _) | (refine Below.alloc ?_ (by first | (simp; done) | (simp; omega) | omega) _) | (refine Below.trans ?_ (Below.mono (by assumption) (by first | (simp; done) | (simp; omega) | omega)))))
    have H0 := Lib.hid (And.intro A0 B0)
    clear hW A0 B0
    have a0 := H0.out.1.c 0 _ rfl; have a1 := H0.out.1.c 1 _ rfl; have a2 := H0.out.1.c 2 _ rfl; have a3 := H0.out.1.c 3 _ rfl; have al := H0.out.1.lt
    go_wp2_with fail
    refine (Collect_any X Y W H _ _ _ ts _ _ _ ks no _ (HH.out.1.below H0.out.2) (HH.out.2.1.below H0.out.2) HH.out.2.2).mono ?_
    rintro e w1 ⟨hans, hb1⟩
    obtain ⟨gx, gy, gv, gh, ga, gm, gc, rfl, hres⟩ := hans.got
    have H1 := Lib.hid (And.intro (H0.out.1.past hb1) (H0.out.2.trans (hb1.mono H0.out.2.size)))
    have HG1 := Lib.hid hres
    clear hres hans hb1 H0 a0 a1 a2 a3 al
    obtain ⟨EC, hEC⟩ : ∃ E, E = clE X Y W H ts n ks n no := ⟨_, rfl⟩
    rw [← hEC] at HG1 ⊢
    have HEC := Lib.hid hEC
    clear hEC
    go_upto_region 2 with fail
    refine wp_world (fun W2 hW2 => ?_)
    have B2 : Below w1.heap.size w1 W2 := by rw [hW2]; (repeat (first | exact Below.refl _ _ | assumption | (refine Below.setCell ?_ (by first | (simp; done) | (simp; omega) | omega) _) | (refine Below.drew ?_) | (refine below_drewN ?_ _) | (refine Below.alloc ?_ (by first | (simp; done) | (simp; omega) | omega) _) | (refine Below.trans ?_ (Below.mono (by assumption) (by first | (simp; done) | (simp; omega) | omega)))))
    have G2 : Blk W2 w1.heap.size [.int .i64 gx, .int .i64 gy, .int .i64 gv, .int .i64 gh, .slice ga gm gc] := by rw [hW2]; exact Blk.new _ _ _ _ rfl
    have H2 := Lib.hid (And.intro (H1.out.1.past B2) (And.intro G2 (H1.out.2.trans (B2.mono H1.out.2.size))))
    have HG2 := Lib.hid (HG1.out.past B2)
    clear hW2 B2 G2 H1 HG1
    generalize w1.heap.size = ng at *
    go_upto_region 3 with (first | (go_at_call 15; refine (When_any _ _ _).mono ?_; rintro e w' ⟨rfl, rfl⟩))
    go_wp2_with fail
    refine wp_world (fun wb hWb => ?_)
    have Bb : Below W2.heap.size W2 wb := by rw [hWb]; (repeat (first | exact Below.refl _ _ | assumption | (refine Below.setCell ?_ (by first | (simp; done) | (simp; omega) | omega) _) | (refine Below.drew ?_) | (refine below_drewN ?_ _) | (refine Below.alloc ?_ (by first | (simp; done) | (simp; omega) | omega) _) | (refine Below.trans ?_ (Below.mono (by assumption) (by first | (simp; done) | (simp; omega) | omega)))))
    have H3 := Lib.hid (And.intro (H2.out.1.past Bb) (And.intro (H2.out.2.1.past Bb) (H2.out.2.2.trans (Bb.mono H2.out.2.2.size))))
    have HG3 := Lib.hid (HG2.out.past Bb)
    clear hWb Bb H2 HG2
    go_loopw [11, 12, 34] (fun s11 s12 s34 wr => ∃ (i : Nat) (u : Value), i ≤ n ∧ s34 = .int .i64 i ∧ u = s12 ∧ s11 = .int .i64 (firstN (coE ks ts) i) ∧ PtR wb wr u (ptL ks ts no i)) (fun _ _ s34 _ => n - (intOf s34).toNat)
    case atStart => exact ⟨0, _, Nat.zero_le _, rfl, rfl, rfl, PtR.nil _⟩
    case round =>
      obtain ⟨i, u, hi, rfl, rfl, rfl, hM⟩ := hrel
      have HM := Lib.hid hM
      have HBW := Lib.hid (H3.out.2.2.trans (hM.bel.mono H3.out.2.2.size))
      clear hM
      by_cases hin : i < n
      · have hini : (i : Int) < (n : Int) := by omega
        have hfr := HH.out.2.1.2.1.below HBW.out
        have HRG := Lib.hid (HH.out.2.1.2.2 i hin)
        obtain ⟨g, off, rfl, hc⟩ := hfr.1 (by omega)
        have hcc := hc i hin
        obtain ⟨bt, offt, rfl, htc⟩ := HH.out.1.cell HBW.out hin
        have hL := ptL_len ks ts no i
        have HPT := Lib.hid (show ptL ks ts no (i + 1) = if ((ts i).no == no) = true then ptL ks ts no i ++ [ks i] else ptL ks ts no i from rfl)
        have HCO := Lib.hid (And.intro (show coE ks ts i = firstE (frE (ks i)) (whenE (!regB (ks i) (ts i)) 12) from rfl) (firstN_one (coE ks ts) i))
        obtain ⟨k, hk⟩ : ∃ k, k = ks i := ⟨_, rfl⟩
        obtain ⟨t, ht⟩ : ∃ t, t = ts i := ⟨_, rfl⟩
        obtain ⟨L, hLL⟩ : ∃ L, L = ptL ks ts no i := ⟨_, rfl⟩
        obtain ⟨C0, hC0⟩ : ∃ C, C = coE ks ts i := ⟨_, rfl⟩
        obtain ⟨F0, hF0⟩ : ∃ C, C = firstN (coE ks ts) i := ⟨_, rfl⟩
        rw [← hk] at hcc HRG
        rw [← ht] at htc
        rw [← hk, ← ht, ← hLL] at HPT
        rw [← hk, ← ht, ← hC0, ← hF0] at HCO
        rw [← hF0]
        rw [← hLL] at HM hL
        clear hk ht hLL hC0 hF0 hc hfr
        obtain ⟨x, y, v, h, aa, an, ac, fs⟩ := k
        obtain ⟨tn, tx, ty, tv, th⟩ := t
        have c0 := hcc 0 _ rfl; have c1 := hcc 1 _ rfl; have c2 := hcc 2 _ rfl; have c3 := hcc 3 _ rfl; have c4 := hcc 4 _ rfl
        have t0 := htc 0 _ rfl; have t1 := htc 1 _ rfl; have t2 := htc 2 _ rfl; have t3 := htc 3 _ rfl; have t4 := htc 4 _ rfl
        simp only [Nat.add_zero] at c0 c1 c2 c3 c4 t0 t1 t2 t3 t4 HPT
        have l0 := cell_lt c0; have lt0 := cell_lt t0; simp only at l0 lt0
        have HTC := Lib.hid (And.intro lt0 (And.intro t0 (And.intro t1 (And.intro t2 (And.intro t3 t4)))))
        clear hcc htc t0 t1 t2 t3 t4 lt0
        go_upto_region 8 with fail
        refine wp_world (fun W5 hW5 => ?_)
        have B5 : Below wr.heap.size wr W5 := by rw [hW5]; (repeat (first | exact Below.refl _ _ | assumption | (refine Below.setCell ?_ (by first | (simp; done) | (simp; omega) | omega) _) | (refine Below.drew ?_) | (refine below_drewN ?_ _) | (refine Below.alloc ?_ (by first | (simp; done) | (simp; omega) | omega) _) | (refine Below.trans ?_ (Below.mono (by assumption) (by first | (simp; done) | (simp; omega) | omega)))))
        have C5 : Blk W5 wr.heap.size [.int .i64 x, .int .i64 y, .int .i64 v, .int .i64 h, .slice aa an ac] := by rw [hW5]; exact Blk.new _ _ _ _ rfl
        have H5 := Lib.hid (And.intro (HM.out.past B5) (And.intro C5 B5))
        clear hW5 B5 C5 c0 c1 c2 c3 c4 l0 HM
        have m0 := H5.out.2.1.c 0 _ rfl; have m1 := H5.out.2.1.c 1 _ rfl; have m2 := H5.out.2.1.c 2 _ rfl; have m3 := H5.out.2.1.c 3 _ rfl; have m4 := H5.out.2.1.c 4 _ rfl; have ml := H5.out.2.1.lt
        have hbs := H5.out.2.2.size
        have lt0 : bt < W5.heap.size := Nat.lt_of_lt_of_le HTC.out.1 hbs
        have t0 := (H5.out.2.2.cell (p := ⟨bt, offt + i * 5, none⟩) HTC.out.1).trans HTC.out.2.1
        have t1 := (H5.out.2.2.cell (p := ⟨bt, offt + i * 5 + 1, none⟩) HTC.out.1).trans HTC.out.2.2.1
        have t2 := (H5.out.2.2.cell (p := ⟨bt, offt + i * 5 + 2, none⟩) HTC.out.1).trans HTC.out.2.2.2.1
        have t3 := (H5.out.2.2.cell (p := ⟨bt, offt + i * 5 + 3, none⟩) HTC.out.1).trans HTC.out.2.2.2.2.1
        have t4 := (H5.out.2.2.cell (p := ⟨bt, offt + i * 5 + 4, none⟩) HTC.out.1).trans HTC.out.2.2.2.2.2
        have HT5 := Lib.hid (And.intro lt0 t0)
        obtain ⟨E, hE⟩ : ∃ E, E = fraErr x y v h an := ⟨_, rfl⟩
        obtain ⟨rb, hrb⟩ : ∃ rb, rb = (x == tx && (y == ty && (v == tv && h == th))) := ⟨_, rfl⟩
        have heq := eq_reg x y v h tx ty tv th
        rw [← hrb] at heq
        have HC0 := Lib.hid (show firstN (coE ks ts) (i + 1) = firstE F0 (firstE E (whenE (!rb) 12)) by rw [HCO.out.2, HCO.out.1, hE, hrb]; rfl)
        have HE := Lib.hid hE
        clear hE hrb HCO
        refine wp_region_loose 12 (CoPsi E) (by kernel_rfl) (by kernel_rfl) ?_
        simp only [List.take_succ_cons, List.take_zero, List.drop_succ_cons, List.drop_zero]
        iterate 2 (refine loose_wanted rfl (fun K hK => ?_); go_simp; refine hK _ ?_; clear hK K)
        refine loose_wanted rfl (fun K1 hK => ?_)
        go_simp
        refine ⟨fun p => (FrameError_any _ _ _ _ _ _ _ p.w HRG.out.1 HRG.out.2).mono ?_, ?_⟩
        · rintro e w' ⟨rfl, hb⟩
          exact ⟨_, rfl, cop_f.2 (by rw [HE.out]), p.h.trans (hb.mono p.h.size)⟩
        intro z hz
        obtain rfl := cop_f.1 hz
        refine hK _ ?_
        clear hK K1 hz
        iterate 8 (refine loose_wanted rfl (fun K hK => ?_); go_simp; refine hK _ ?_; clear hK K)
        refine loose_wanted rfl (fun K1 hK => ?_)
        go_simp
        refine ⟨fun p => (When_any _ _ p.w).mono ?_, ?_⟩
        · rintro e w' ⟨rfl, rfl⟩
          exact ⟨_, rfl, cop_w.2 (by simp), p.h⟩
        intro z hz
        obtain rfl := cop_w.1 hz
        refine hK _ ?_
        clear hK K1 hz
        refine loose_nil (fun w6 hb6 => ?_)
        have H6 := Lib.hid (And.intro (H5.out.1.past hb6) (And.intro (H5.out.2.1.past hb6) (And.intro (Nat.lt_of_lt_of_le HT5.out.1 hb6.size) ((hb6.cell (p := ⟨bt, offt + i * 5, none⟩) HT5.out.1).trans HT5.out.2))))
        clear hb6 m0 m1 m2 m3 m4 ml t0 t1 t2 t3 t4 lt0 heq hbs H5 HT5
        go_upto_region 9 with (first | (go_at_call 14; refine (First3_new _ _ _ _ _ _ (heap_new _ _ _ (by simp))).mono ?_; rintro e w' ⟨rfl, rfl⟩))
        refine wp_world (fun W7 hW7 => ?_)
        have B7 : Below w6.heap.size w6 W7 := by rw [hW7]; (repeat (first | exact Below.refl _ _ | assumption | (refine Below.setCell ?_ (by first | (simp; done) | (simp; omega) | omega) _) | (refine Below.drew ?_) | (refine below_drewN ?_ _) | (refine Below.alloc ?_ (by first | (simp; done) | (simp; omega) | omega) _) | (refine Below.trans ?_ (Below.mono (by assumption) (by first | (simp; done) | (simp; omega) | omega)))))
        have H7 := Lib.hid (And.intro (H6.out.1.past B7) (H6.out.2.1.past B7))
        have t0 := (B7.cell (p := ⟨bt, offt + i * 5, none⟩) H6.out.2.2.1).trans H6.out.2.2.2
        have tl := Nat.lt_of_lt_of_le H6.out.2.2.1 B7.size
        clear hW7 B7 H6
        rw [← HC0.out]
        by_cases hno : tn = no
        · have hnob : (tn == no) = true := by simpa using hno
          have HP2 := Lib.hid (show ptL ks ts no (i + 1) = L ++ [⟨x, y, v, h, aa, an, ac, fs⟩] by rw [HPT.out, if_pos hnob])
          have m0 := H7.out.2.c 0 _ rfl; have m1 := H7.out.2.c 1 _ rfl; have m2 := H7.out.2.c 2 _ rfl; have m3 := H7.out.2.c 3 _ rfl; have m4 := H7.out.2.c 4 _ rfl; have ml := H7.out.2.lt
          have hb7 := H7.out.1.bel.size
          have hcap : L.length < n := by omega
          clear hno
          go_wp2_with (first | (at_builtin; refine wpList_append_lies _ rfl _ _ _ rfl wb.heap.size 43 i0 (.agg #[.int .i64 0, .int .i64 0, .int .i64 0, .int .i64 0, .slice none 0 0]) 5 56 Try.underlying72 hi0 hz0 hz1 hz2 rfl (by decide) u L.length (L.flatMap frV) rfl (own_past H7.out.1.own (by (repeat (first | exact Below.refl _ _ | assumption | (refine Below.setCell ?_ (by first | (simp; done) | (simp; omega) | omega) _) | (refine Below.drew ?_) | (refine below_drewN ?_ _) | (refine Below.alloc ?_ (by first | (simp; done) | (simp; omega) | omega) _) | (refine Below.trans ?_ (Below.mono (by assumption) (by first | (simp; done) | (simp; omega) | omega))))))) ⟨W7.heap.size, 0, none⟩ 1 1 [.int .i64 x, .int .i64 y, .int .i64 v, .int .i64 h, .slice aa an ac] rfl rfl (by intro j u hj; match j, hj with | 0, hj => (simp at hj; subst hj; simp [Addr.add]) | 1, hj => (simp at hj; subst hj; simp [Addr.add]) | 2, hj => (simp at hj; subst hj; simp [Addr.add]) | 3, hj => (simp at hj; subst hj; simp [Addr.add]) | 4, hj => (simp at hj; subst hj; simp [Addr.add])) (by intro u hu; simp at hu; rcases hu with rfl | rfl | rfl | rfl | rfl <;> rfl) (by decide) (by unfold maxLen; omega) (by have h56 := HBT.out; (first | omega | (simp; omega))) (by simp; omega) _ rfl ?_; intro g' cap w8 hown hgrow hat hlt))
          have HN8 := Lib.hid (PtR.app (x := ⟨x, y, v, h, aa, an, ac, fs⟩) H7.out.1 (by (repeat (first | exact Below.refl _ _ | assumption | (refine Below.setCell ?_ (by first | (simp; done) | (simp; omega) | omega) _) | (refine Below.drew ?_) | (refine below_drewN ?_ _) | (refine Below.alloc ?_ (by first | (simp; done) | (simp; omega) | omega) _) | (refine Below.trans ?_ (Below.mono (by assumption) (by first | (simp; done) | (simp; omega) | omega)))))) hown hgrow)
          clear hown hgrow hat hlt
          go_roundw
          case rel => exact ⟨i + 1, _, by omega, by go_num, rfl, rfl, by rw [HP2.out]; simpa using HN8.out⟩
          case measure => simp [intOf]; omega
        · have hnob : (tn == no) = false := by simpa using hno
          have HP2 := Lib.hid (show ptL ks ts no (i + 1) = L by rw [HPT.out, if_neg (by rw [hnob]; decide)])
          clear hno
          go_wp2_with fail
          go_roundw
          case rel => exact ⟨i + 1, _, by omega, by go_num, rfl, rfl, by rw [HP2.out]; exact H7.out.1⟩
          case measure => simp [intOf]; omega
      · have hini : ¬ (i : Int) < (n : Int) := by omega
        have hie : i = n := by omega
        subst hie
        have hfr := HH.out.2.1.2.1.below HBW.out
        obtain ⟨ap, cp, rfl, hfs⟩ := HM.out.frs (fun x hx h0 => by
          obtain ⟨j, hj, rfl⟩ := ptL_mem hx
          exact hfr.2 j hj h0)
        have hL := ptL_len ks ts no i
        have HFS := Lib.hid hfs
        have H8 := Lib.hid (And.intro (H3.out.1.past HM.out.bel) (And.intro (H3.out.2.1.past HM.out.bel) HBW.out))
        have HG8 := Lib.hid (HG3.out.past HM.out.bel)
        obtain ⟨EF, hEF⟩ : ∃ C, C = firstN (coE ks ts) i := ⟨_, rfl⟩
        rw [← hEF]
        rw [← hEF] at HC
        clear hfr hfs hEF HM H3 HG3 HBW
        go_upto_region 13 with fail
        refine wp_world (fun W9 hW9 => ?_)
        have B9 : Below wr.heap.size wr W9 := by rw [hW9]; (repeat (first | exact Below.refl _ _ | assumption | (refine Below.setCell ?_ (by first | (simp; done) | (simp; omega) | omega) _) | (refine Below.drew ?_) | (refine below_drewN ?_ _) | (refine Below.alloc ?_ (by first | (simp; done) | (simp; omega) | omega) _) | (refine Below.trans ?_ (Below.mono (by assumption) (by first | (simp; done) | (simp; omega) | omega)))))
        have Z9 : Blk W9 wr.heap.size [.int .i64 0, .int .i64 0, .int .i64 0, .int .i64 0, .slice none 0 0] := by rw [hW9]; exact Blk.new _ _ _ _ rfl
        have H9 := Lib.hid (And.intro (H8.out.1.past B9) (And.intro (H8.out.2.1.past B9) (And.intro Z9 (H8.out.2.2.trans (B9.mono H8.out.2.2.size)))))
        have HG9 := Lib.hid (HG8.out.past B9)
        have HN := Lib.hid (show wr.heap.size ≠ ng ∧ w.heap.size ≤ wr.heap.size ∧ wr.heap.size < W9.heap.size ∧ (EC = 0 → ∀ g, ga = some ⟨g, 0, none⟩ → wr.heap.size ≠ g) from by
          refine ⟨by have := H8.out.2.1.lt; omega, H8.out.2.2.size, Z9.lt, fun h g hg => ?_⟩
          obtain ⟨-, -, -, -, -, -, -, g1, h1, h2, -⟩ := HG8.out.2 h
          rw [h1] at hg; cases hg; omega)
        have HFS9 := Lib.hid (HFS.out.below B9)
        obtain ⟨nz, hnz⟩ : ∃ nz, nz = wr.heap.size := ⟨_, rfl⟩
        rw [← hnz] at H9 HN ⊢
        clear hW9 B9 Z9 H8 HG8 HFS hnz
        by_cases hE0 : EF = 0
        · subst hE0
          have HC2 := Lib.hid (show EC = joE X Y W H (fun q => (ptL ks ts no i).getD q default) (ptL ks ts no i).length by rw [HEC.out, HC.out]; rfl)
          have b0 := H9.out.1.c 0 _ rfl; have b1 := H9.out.1.c 1 _ rfl; have b2 := H9.out.1.c 2 _ rfl; have b3 := H9.out.1.c 3 _ rfl; have bl := H9.out.1.lt
          go_wp2_with fail
          refine (Join_all X Y W H ap _ cp _ _ (by omega) HFS9.out).mono ?_
          rintro e w10 ⟨hans, hb⟩
          obtain ⟨jx, jy, jv, jh, ja, jm, jc, rfl, hj, hjn⟩ := hans.got
          rw [← HC2.out] at hj hjn ⊢
          have H10 := Lib.hid (And.intro (H9.out.2.1.past hb) (And.intro (H9.out.2.2.1.past hb) (H9.out.2.2.2.trans (hb.mono H9.out.2.2.2.size))))
          have HG10 := Lib.hid (HG9.out.past hb); have HJ10 := Lib.hid hj; have HJN := Lib.hid hjn
          clear hans hb hj hjn H9 HG9 HFS9 b0 b1 b2 b3 bl
          have e0 := H10.out.2.1.c 0 _ rfl; have e1 := H10.out.2.1.c 1 _ rfl; have e2 := H10.out.2.1.c 2 _ rfl; have e3 := H10.out.2.1.c 3 _ rfl; have e4 := H10.out.2.1.c 4 _ rfl
          have hz := H10.out.2.1.lt
          have hzf := H10.out.2.1.f
          go_upto_region 15 with fail
          refine wp_world (fun W11 hW11 => ?_)
          have G11 : Blk W11 ng [.int .i64 gx, .int .i64 gy, .int .i64 gv, .int .i64 gh, .slice ga gm gc] := by rw [hW11]; exact ((((H10.out.1.far _ _ HN.out.1).far _ _ HN.out.1).far _ _ HN.out.1).far _ _ HN.out.1).far _ _ HN.out.1
          have J11 : Blk W11 nz [.int .i64 jx, .int .i64 jy, .int .i64 jv, .int .i64 jh, .slice ja jm jc] := by rw [hW11]; exact ((((H10.out.2.1.set 0 _).set 1 _).set 2 _).set 3 _).set 4 _
          have BW11 : Below w.heap.size w W11 := by rw [hW11]; exact ((((H10.out.2.2.setCell HN.out.2.1 _).setCell HN.out.2.1 _).setCell HN.out.2.1 _).setCell HN.out.2.1 _).setCell HN.out.2.1 _
          have hjn : EC = 0 → ∀ g, ja = some ⟨g, 0, none⟩ → nz ≠ g := fun h g hg => by have := HJN.out h g hg; have := HN.out.2.2.1; omega
          have GG11 : GotF EC X Y W H (jO X Y W.toNat (fun q => (ptL ks ts no i).getD q default) (ptL ks ts no i).length) W11 gx gy gv gh ga gm gc := by rw [hW11]; exact ((((HG10.out.far HN.out.2.2.2 _ _).far HN.out.2.2.2 _ _).far HN.out.2.2.2 _ _).far HN.out.2.2.2 _ _).far HN.out.2.2.2 _ _
          have GJ11 : GotF EC X Y W H (jO X Y W.toNat (fun q => (ptL ks ts no i).getD q default) (ptL ks ts no i).length) W11 jx jy jv jh ja jm jc := by rw [hW11]; exact ((((HJ10.out.far hjn _ _).far hjn _ _).far hjn _ _).far hjn _ _).far hjn _ _
          have H11 := Lib.hid (And.intro G11 BW11)
          have HJ11 := Lib.hid J11
          have HGG := Lib.hid (And.intro GG11 GJ11)
          clear hW11 G11 J11 BW11 GG11 GJ11 hjn H10 HG10 HJ10 HJN HN hz hzf e0 e1 e2 e3 e4
          by_cases hC0 : EC = 0
          · subst hC0
            obtain ⟨rfl, rfl, rfl, rfl, hgm, rfl, hg6, g1, rfl, hg1, hgc⟩ := HGG.out.1.2 rfl
            obtain ⟨rfl, rfl, rfl, rfl, hjm, rfl, hj6, g2, rfl, hg2, hjc⟩ := HGG.out.2.2 rfl
            obtain rfl : gc = jc := hgm.trans hjm.symm
            have HS := Lib.hid (And.intro hg6 (And.intro hg1 (And.intro hg2 (And.intro hgc hjc))))
            clear hgm hjm hg6 hj6 hg1 hg2 hgc hjc HGG
            go_upto_region 17 with (first | (go_at_call 11; refine (farms_any _).mono ?_; rintro e wf ⟨rfl, hbb⟩; have HF := Lib.hid (And.intro (H11.out.1.past hbb) (And.intro (HJ11.out.past hbb) (H11.out.2.trans (hbb.mono H11.out.2.size)))); have HBF := Lib.hid hbb; clear hbb H11 HJ11))
            have y0 := HF.out.1.c 0 _ rfl; have y1 := HF.out.1.c 1 _ rfl; have y2 := HF.out.1.c 2 _ rfl; have y3 := HF.out.1.c 3 _ rfl; have y4 := HF.out.1.c 4 _ rfl; have yl := HF.out.1.lt
            have z0 := HF.out.2.1.c 0 _ rfl; have z1 := HF.out.2.1.c 1 _ rfl; have z2 := HF.out.2.1.c 2 _ rfl; have z3 := HF.out.2.1.c 3 _ rfl; have z4 := HF.out.2.1.c 4 _ rfl; have zl := HF.out.2.1.lt
            go_wp2_with (first | (go_at_call 34; refine (SameFrame_yes _ _ _ _ g1 0 g2 0 _ _ _ _ _ HS.out.1 (Nat.lt_of_lt_of_le HS.out.2.1 HBF.out.size) (Nat.lt_of_lt_of_le HS.out.2.2.1 HBF.out.size) (fun j hj => (HBF.out.cell (p := ⟨g1, 0 + j, none⟩) HS.out.2.1).trans (HS.out.2.2.2.1 j hj)) (fun j hj => (HBF.out.cell (p := ⟨g2, 0 + j, none⟩) HS.out.2.2.1).trans (HS.out.2.2.2.2 j hj))).mono ?_; rintro e w12 ⟨rfl, hbb⟩; have B12 := Lib.hid (HF.out.2.2.trans (hbb.mono HF.out.2.2.size)); clear hbb y0 y1 y2 y3 y4 yl z0 z1 z2 z3 z4 zl))
            go_ret
            exact ⟨ret_b (by simp), B12.out⟩
          · have hCb : (EC != 0) = true := by simpa using hC0
            obtain ⟨rfl, rfl, rfl, rfl, rfl, rfl, rfl⟩ := HGG.out.1.1 hC0
            have HR := Lib.hid (And.intro H11.out.1 H11.out.2)
            clear H11 HJ11 HGG HEC HC HC2
            go_upto_region 16 with (first | (go_at_call 11; refine (farms_any _).mono ?_; rintro e wf ⟨rfl, hbb⟩; have HF := Lib.hid (And.intro (HR.out.1.past hbb) (HR.out.2.trans (hbb.mono HR.out.2.size))); clear hbb HR))
            go_wp2_with (first | (go_at_call 11; refine (farms_any _).mono ?_; rintro e w9 ⟨rfl, hbb⟩; have HG := Lib.hid (And.intro (HF.out.1.past hbb) (HF.out.2.trans (hbb.mono HF.out.2.size))); clear hbb HF; have y0 := HG.out.1.c 0 _ rfl; have y1 := HG.out.1.c 1 _ rfl; have y2 := HG.out.1.c 2 _ rfl; have y3 := HG.out.1.c 3 _ rfl; have y4 := HG.out.1.c 4 _ rfl; have yl := HG.out.1.lt) | (go_at_call 33; refine (none_any _ _ _ _ _ _ _ _).mono ?_; rintro e w10 ⟨rfl, hbb⟩; have B10 := Lib.hid (HG.out.2.trans (hbb.mono HG.out.2.size)); clear hbb y0 y1 y2 y3 y4 yl; rw [noneB_zero]))
            go_ret
            exact ⟨ret_b (by simp), B10.out⟩
        · have hEb : (EF != 0) = true := by simpa using hE0
          have hEq : EC = EF := by rw [HEC.out, HC.out, firstE_of _ hE0]
          have hne : EC ≠ 0 := by rw [hEq]; exact hE0
          subst hEq
          obtain ⟨rfl, rfl, rfl, rfl, rfl, rfl, rfl⟩ := HG9.out.1 hne
          have HR := Lib.hid (And.intro H9.out.2.1 H9.out.2.2.2)
          clear H9 HG9 HFS9 HEC HC
          go_upto_region 16 with (first | (go_at_call 11; refine (farms_any _).mono ?_; rintro e wf ⟨rfl, hbb⟩; have HF := Lib.hid (And.intro (HR.out.1.past hbb) (HR.out.2.trans (hbb.mono HR.out.2.size))); clear hbb HR))
          go_wp2_with (first | (go_at_call 11; refine (farms_any _).mono ?_; rintro e w9 ⟨rfl, hbb⟩; have HG := Lib.hid (And.intro (HF.out.1.past hbb) (HF.out.2.trans (hbb.mono HF.out.2.size))); clear hbb HF; have y0 := HG.out.1.c 0 _ rfl; have y1 := HG.out.1.c 1 _ rfl; have y2 := HG.out.1.c 2 _ rfl; have y3 := HG.out.1.c 3 _ rfl; have y4 := HG.out.1.c 4 _ rfl; have yl := HG.out.1.lt) | (go_at_call 33; refine (none_any _ _ _ _ _ _ _ _).mono ?_; rintro e w10 ⟨rfl, hbb⟩; have B10 := Lib.hid (HG.out.2.trans (hbb.mono HG.out.2.size)); clear hbb y0 y1 y2 y3 y4 yl; rw [noneB_zero]))
          go_ret
          exact ⟨ret_b (by simp), B10.out⟩
  · have hb : ((nT : Int) != (n : Int)) = true := by simp; omega
    have hnTn : ((n : Int) != (nT : Int)) = true := by simp; omega
    have HC := Lib.hid (show clE X Y W H ts nT ks n no = 2 by unfold clE; rw [show (n != nT) = true by simpa using hnT]; rfl)
    clear hnT
    go_enter Try.func7, Try.ntmps7
    go_upto_region 1 with fail
    refine wp_world (fun W0 hW => ?_)
    have A0 : Blk W0 w.heap.size [.int .i64 X, .int .i64 Y, .int .i64 W, .int .i64 H] := by rw [hW]; exact Blk.new _ _ _ _ rfl
    have B0 : Below w.heap.size w W0 := by rw [hW]; (repeat (first | exact Below.refl _ _ | assumption | (refine Below.setCell ?_ (by first | (simp; done) | (simp; omega) | omega) _) | (refine Below.drew ?_) | (refine below_drewN ?_ _) | (refine Below.alloc ?_ (by first | (simp; done) | (simp; omega) | omega) _) | (refine Below.trans ?_ (Below.mono (by assumption) (by first | (simp; done) | (simp; omega) | omega)))))
    have H0 := Lib.hid (And.intro A0 B0)
    clear hW A0 B0
    have a0 := H0.out.1.c 0 _ rfl; have a1 := H0.out.1.c 1 _ rfl; have a2 := H0.out.1.c 2 _ rfl; have a3 := H0.out.1.c 3 _ rfl; have al := H0.out.1.lt
    go_wp2_with fail
    refine (Collect_any X Y W H _ _ _ ts _ _ _ ks no _ (HH.out.1.below H0.out.2) (HH.out.2.1.below H0.out.2) HH.out.2.2).mono ?_
    rintro e w1 ⟨hans, hb1⟩
    obtain ⟨gx, gy, gv, gh, ga, gm, gc, rfl, hres⟩ := hans.got
    have H1 := Lib.hid (And.intro (H0.out.1.past hb1) (H0.out.2.trans (hb1.mono H0.out.2.size)))
    have HG1 := Lib.hid hres
    clear hres hans hb1 H0 a0 a1 a2 a3 al
    obtain ⟨EC, hEC⟩ : ∃ E, E = clE X Y W H ts nT ks n no := ⟨_, rfl⟩
    rw [← hEC] at HG1 ⊢
    have HEC := Lib.hid hEC
    clear hEC
    go_upto_region 2 with fail
    refine wp_world (fun W2 hW2 => ?_)
    have B2 : Below w1.heap.size w1 W2 := by rw [hW2]; (repeat (first | exact Below.refl _ _ | assumption | (refine Below.setCell ?_ (by first | (simp; done) | (simp; omega) | omega) _) | (refine Below.drew ?_) | (refine below_drewN ?_ _) | (refine Below.alloc ?_ (by first | (simp; done) | (simp; omega) | omega) _) | (refine Below.trans ?_ (Below.mono (by assumption) (by first | (simp; done) | (simp; omega) | omega)))))
    have G2 : Blk W2 w1.heap.size [.int .i64 gx, .int .i64 gy, .int .i64 gv, .int .i64 gh, .slice ga gm gc] := by rw [hW2]; exact Blk.new _ _ _ _ rfl
    have H2 := Lib.hid (And.intro (H1.out.1.past B2) (And.intro G2 (H1.out.2.trans (B2.mono H1.out.2.size))))
    have HG2 := Lib.hid (HG1.out.past B2)
    clear hW2 B2 G2 H1 HG1
    generalize w1.heap.size = ng at *
    obtain rfl : EC = 2 := by rw [HEC.out, HC.out]
    obtain ⟨rfl, rfl, rfl, rfl, rfl, rfl, rfl⟩ := HG2.out.1 (by decide)
    go_upto_region 13 with (first | (go_at_call 15; refine (When_any _ _ _).mono ?_; rintro e w' ⟨rfl, rfl⟩))
    refine wp_world (fun wb hWb => ?_)
    have Bb : Below W2.heap.size W2 wb := by rw [hWb]; (repeat (first | exact Below.refl _ _ | assumption | (refine Below.setCell ?_ (by first | (simp; done) | (simp; omega) | omega) _) | (refine Below.drew ?_) | (refine below_drewN ?_ _) | (refine Below.alloc ?_ (by first | (simp; done) | (simp; omega) | omega) _) | (refine Below.trans ?_ (Below.mono (by assumption) (by first | (simp; done) | (simp; omega) | omega)))))
    have H3 := Lib.hid (And.intro (H2.out.2.1.past Bb) (H2.out.2.2.trans (Bb.mono H2.out.2.2.size)))
    clear hWb Bb H2 HG2 HC HEC hb hnTn
    go_upto_region 16 with (first | (go_at_call 11; refine (farms_any _).mono ?_; rintro e wf ⟨rfl, hbb⟩; have HF := Lib.hid (And.intro (H3.out.1.past hbb) (H3.out.2.trans (hbb.mono H3.out.2.size))); clear hbb H3))
    go_wp2_with (first | (go_at_call 11; refine (farms_any _).mono ?_; rintro e w9 ⟨rfl, hbb⟩; have HG := Lib.hid (And.intro (HF.out.1.past hbb) (HF.out.2.trans (hbb.mono HF.out.2.size))); clear hbb HF; have y0 := HG.out.1.c 0 _ rfl; have y1 := HG.out.1.c 1 _ rfl; have y2 := HG.out.1.c 2 _ rfl; have y3 := HG.out.1.c 3 _ rfl; have y4 := HG.out.1.c 4 _ rfl; have yl := HG.out.1.lt) | (go_at_call 33; refine (none_any _ _ _ _ _ _ _ _).mono ?_; rintro e w10 ⟨rfl, hbb⟩; have B10 := Lib.hid (HG.out.2.trans (hbb.mono HG.out.2.size)); clear hbb y0 y1 y2 y3 y4 yl; rw [noneB_zero]))
    go_ret
    exact ⟨ret_b (by simp), B10.out⟩
end Go.Proofs.Ytnicamndlkdcmaa
