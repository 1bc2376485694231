/- GamutsMatch: the walk of the statement. No condition. -/
import Derived.Test.YtmnmcmmhnbnndaaGmA
import Derived.Test.YtmnmcmmhnbnndaaOpen
namespace Go.Proofs.Ytmnmcmmhnbnndaa
open Go.RowKit
theorem Pix4.set2 {w : World} {b v0 v1 v2 v3 : Nat} (h : Pix4 w b v0 v1 v2 v3) (x : Nat) : Pix4 (w.setCell ⟨b, 2, none⟩ (.float .f32 x)) b v0 v1 x v3 :=
  ⟨(World.cell?_setCell_other _ _ _ _ (by simp)).trans h.c0, (World.cell?_setCell_other _ _ _ _ (by simp)).trans h.c1, World.cell?_setCell_same _ _ _ h.c2, (World.cell?_setCell_other _ _ _ _ (by simp)).trans h.c3, fun o => (World.frozen?_setCell _ _ _ _).trans (h.f o)⟩
def dltK (p0 p1 p2 lo hi : Nat) : Nat → Int
  | 0 => 0
  | 1 => 0 + dltZ p0 lo hi
  | 2 => 0 + dltZ p0 lo hi + dltZ p1 lo hi
  | _ => 0 + dltZ p0 lo hi + dltZ p1 lo hi + dltZ p2 lo hi
def limK (p lo hi i k : Nat) : Nat := if i < k then limF p lo hi else 0
set_option maxRecDepth 100000 in
set_option maxHeartbeats 10000000 in
theorem gm_walk (p0 p1 p2 p3 f lo hi : Nat) (w : World) (h0 : p0 < 2 ^ FloatKind.f32.format.width) (h1 : p1 < 2 ^ FloatKind.f32.format.width) (h2 : p2 < 2 ^ FloatKind.f32.format.width) :
    Calls Try.prog 7 #[.agg #[.float .f32 p0, .float .f32 p1, .float .f32 p2, .float .f32 p3], .float .f32 f, .float .f32 lo, .float .f32 hi] w fun e w' => e = .returned (.bool true) ∧ Below w.heap.size w w' := by
  have ze := pix_zero
  have hw := Lib.hid (And.intro h0 (And.intro h1 h2)); clear h0 h1 h2
  go_enter Try.func7, Try.ntmps7
  go_upto_region 2 with (first | (go_at_call 51; refine (Compress_any _ _ _ _ _ _ hw.out.1 hw.out.2.1 hw.out.2.2).mono ?_; rintro e w1 ⟨q0, q1, q2, q3, rfl, hz, hy, hb1⟩))
  generalize hE : cmpE f = E at *
  have hE' := Lib.hid hE; clear hE
  have hz' := Lib.hid hz; clear hz
  have hy' := Lib.hid hy; clear hy
  go_cut [11] from 24 to 37 (fun s11 wx => s11 = .int .i64 E ∧ Pix4 wx w.heap.size p0 p1 p2 p3 ∧ Pix4 wx w1.heap.size q0 q1 q2 q3 ∧ w1.heap.size < wx.heap.size ∧ Below w.heap.size w wx)
  case first =>
    have hall : (isNum .f32 f = false ∧ E = 2) ∨ (isNum .f32 f = true ∧ ∃ o o', (FloatKind.f32.format.order f 0 == some .lt) = oLt o ∧ (FloatKind.f32.format.order f 0 == some .eq) = oEq o ∧ (FloatKind.f32.format.order f 0 == some .gt) = oGt o ∧ (FloatKind.f32.format.order f 1065353216 == some .lt) = oLt o' ∧ E = (if oLt o then 3 else if oGt o' || oEq o' then 3 else 0)) := by
      have hE := hE'.out
      unfold cmpE at hE
      cases hn : isNum .f32 f with
      | false => rw [hn] at hE; exact .inl ⟨rfl, hE.symm⟩
      | true =>
        obtain ⟨o, l0, e0, g0⟩ := ord_some hn num_01.1
        obtain ⟨o', l1, e1, g1⟩ := ord_some hn num_01.2
        rw [hn, l0, g1, e1] at hE
        exact .inr ⟨rfl, o, o', l0, e0, g0, l1, by rw [← hE]; simp⟩
    rcases hall with ⟨hn, rfl⟩ | ⟨hn, o, o', l0, e0, g0, l1, e⟩
    · go_wp2_with (first | (go_at_call 52; refine (IsNumberR_any _ _).mono ?_; rintro e w' ⟨rfl, m, rfl⟩) | (go_at_call 20; refine (When_any _ _ _).mono ?_; rintro e w' ⟨rfl, rfl⟩) | (go_at_call 18; refine (First2_new _ _ _ _ _ (heap_new _ _ _ (by simp))).mono ?_; rintro e w' ⟨rfl, rfl⟩))
      all_goals
        go_meet
        have z1 := hb1.size
        simp at z1
        refine ⟨rfl, ?_, ?_, ?_, ?_⟩
        · refine Pix4.below (n := w1.heap.size) (W := w1) (Pix4.below (n := w.heap.size + 1) (Pix4.new w p0 p1 p2 p3 55) (by simpa using hb1) (by omega)) ?_ (by omega)
          (repeat (first | exact Below.refl _ _ | assumption | (refine Below.setCell ?_ (by first | (simp; done) | (simp; omega) | omega) _) | (refine Below.drew ?_) | (refine below_drewN ?_ _) | (refine Below.alloc ?_ (by first | (simp; done) | (simp; omega) | omega) _) | (refine Below.trans ?_ (Below.mono (by assumption) (by first | (simp; done) | (simp; omega) | omega)))))
        · exact ⟨by simp [go_sem], by simp [go_sem], by simp [go_sem], by simp [go_sem], fun o => by simp [go_sem]⟩
        · simp
          try omega
        · (repeat (first | exact Below.refl _ _ | assumption | (refine Below.setCell ?_ (by first | (simp; done) | (simp; omega) | omega) _) | (refine Below.drew ?_) | (refine below_drewN ?_ _) | (refine Below.alloc ?_ (by first | (simp; done) | (simp; omega) | omega) _) | (refine Below.trans ?_ (Below.mono (by assumption) (by first | (simp; done) | (simp; omega) | omega)))))
    · cases o <;> cases o' <;> simp only [oLt, oEq, oGt] at l0 e0 g0 l1 e <;> simp only [if_true, if_false, Bool.or_true, Bool.true_or, Bool.or_self, Bool.false_eq_true] at e <;> subst e
      all_goals
        go_wp2_with (first | (go_at_call 52; refine (IsNumberR_any _ _).mono ?_; rintro e w' ⟨rfl, m, rfl⟩) | (go_at_call 20; refine (When_any _ _ _).mono ?_; rintro e w' ⟨rfl, rfl⟩) | (go_at_call 18; refine (First2_new _ _ _ _ _ (heap_new _ _ _ (by simp))).mono ?_; rintro e w' ⟨rfl, rfl⟩))
        go_meet
        have z1 := hb1.size
        simp at z1
        refine ⟨rfl, ?_, ?_, ?_, ?_⟩
        · refine Pix4.below (n := w1.heap.size) (W := w1) (Pix4.below (n := w.heap.size + 1) (Pix4.new w p0 p1 p2 p3 55) (by simpa using hb1) (by omega)) ?_ (by omega)
          (repeat (first | exact Below.refl _ _ | assumption | (refine Below.setCell ?_ (by first | (simp; done) | (simp; omega) | omega) _) | (refine Below.drew ?_) | (refine below_drewN ?_ _) | (refine Below.alloc ?_ (by first | (simp; done) | (simp; omega) | omega) _) | (refine Below.trans ?_ (Below.mono (by assumption) (by first | (simp; done) | (simp; omega) | omega)))))
        · exact ⟨by simp [go_sem], by simp [go_sem], by simp [go_sem], by simp [go_sem], fun o => by simp [go_sem]⟩
        · simp
          try omega
        · (repeat (first | exact Below.refl _ _ | assumption | (refine Below.setCell ?_ (by first | (simp; done) | (simp; omega) | omega) _) | (refine Below.drew ?_) | (refine below_drewN ?_ _) | (refine Below.alloc ?_ (by first | (simp; done) | (simp; omega) | omega) _) | (refine Below.trans ?_ (Below.mono (by assumption) (by first | (simp; done) | (simp; omega) | omega)))))
  case rest =>
    obtain ⟨rfl, P0, Q0, qq, B0⟩ := hcut
    have qw : w.heap.size < wc.heap.size := by have := hb1.size; simp at this; omega
    have P0' := Lib.hid P0
    clear hb1
    obtain ⟨c0, c1, c2, c3, cf⟩ := P0
    obtain ⟨d0, d1, d2, d3, df⟩ := Q0
    go_upto_region 3 with fail
    go_cut [69] from 38 to 68 (fun s69 wx => s69 = .bool false ∧ Pix4 wx w.heap.size p0 p1 p2 p3 ∧ w.heap.size < wx.heap.size ∧ Below w.heap.size w wx)
    case first =>
      refine wp_region_loose 31 (fun f' args u => (f' = 22 ∧ u = .bool true) ∨ (f' = 53 ∧ u = .agg #[.float .f32 (docF (maxF p0 p1 p2) (staysF p0 p1 p2) f p0), .float .f32 (docF (maxF p0 p1 p2) (staysF p0 p1 p2) f p1), .float .f32 (docF (maxF p0 p1 p2) (staysF p0 p1 p2) f p2), .float .f32 (cn .f32 p3)]) ∨ (f' = 39 ∧ u = .bool true)) (by kernel_rfl) (by kernel_rfl) ?_
      simp only [List.take_succ_cons, List.take_zero, List.drop_succ_cons, List.drop_zero]
      refine loose_step rfl (fun K hK => ?_)
      go_simp
      refine ⟨fun p => (finishes_any p.w).mono ?_, ?_⟩
      · rintro e w' ⟨m, rfl, rfl⟩
        exact ⟨_, rfl, rfl, below_drewN p.h m⟩
      refine hK _ ?_
      clear hK K
      by_cases hE0 : E = 0
      · subst hE0
        obtain ⟨rfl, rfl, rfl, rfl⟩ := hy'.out rfl
        iterate 5 (refine loose_wanted rfl (fun K hK => ?_); go_simp; refine hK _ ?_; clear hK K)
        iterate 8 ((with_reducible refine loose_pass (by kernel_rfl) (fun K hK => ?_)); go_simp; refine hK _ ?_; clear hK K)
        iterate 12 (refine loose_wanted rfl (fun K hK => ?_); go_simp; refine hK _ ?_; clear hK K)
        refine loose_wanted rfl (fun K hK => ?_)
        go_simp
        refine ⟨fun p => (CompressedOf_any _ _ _ _ _ p.w).mono ?_, ?_⟩
        · rintro e w' ⟨rfl, hb⟩
          exact ⟨_, rfl, rfl, p.h.trans (hb.mono p.h.size)⟩
        refine hK _ ?_
        clear hK K
        refine loose_wanted rfl (fun K hK => ?_)
        go_simp
        refine ⟨fun p => (samePixel_any _ _ _ _ _ _ _ _ p.w).mono ?_, ?_⟩
        · rintro e w' ⟨rfl, hb⟩
          exact ⟨_, rfl, by simp, p.h.trans (hb.mono p.h.size)⟩
        refine hK _ ?_
        clear hK K
        iterate 3 (refine loose_wanted rfl (fun K hK => ?_); go_simp; refine hK _ ?_; clear hK K)
        refine loose_nil (fun w5 hb5 => ?_)
        go_wp2_with fail
        go_meet
        have hs5 := hb5.size
        exact ⟨rfl, P0'.out.below hb5 qw, by omega, B0.trans (hb5.mono (by have := B0.size; omega))⟩
      · obtain ⟨rfl, rfl, rfl, rfl⟩ := hz'.out hE0
        have n1 : (E == 0) = false := by simpa using hE0
        have n2 : (E != 0) = true := by simpa using hE0
        iterate 19 (refine loose_wanted rfl (fun K hK => ?_); go_simp; refine hK _ ?_; clear hK K)
        iterate 10 ((with_reducible refine loose_pass (by kernel_rfl) (fun K hK => ?_)); go_simp; refine hK _ ?_; clear hK K)
        iterate 1 (refine loose_wanted rfl (fun K hK => ?_); go_simp; refine hK _ ?_; clear hK K)
        refine loose_nil (fun w5 hb5 => ?_)
        go_wp2_with fail
        go_meet
        have hs5 := hb5.size
        exact ⟨rfl, P0'.out.below hb5 qw, by omega, B0.trans (hb5.mono (by have := B0.size; omega))⟩
    case rest =>
      clear hz' hy' hE' c0 c1 c2 c3 cf d0 d1 d2 d3 df P0'
      obtain ⟨rfl, P0, qw2, B2⟩ := hcut
      have P0' := Lib.hid P0
      obtain ⟨c0, c1, c2, c3, cf⟩ := P0
      clear B0 qw qq
      generalize w1.heap.size = a1 at *
      rename_i wd
      go_upto_region 6 with (first | (go_at_call 54; refine (Clip_any _ _ _ _ _ _ _).mono ?_; rintro e w2 ⟨k0, k1, k2, k3, n, rfl, hz, hy, hb2⟩))
      generalize hF : clipE lo hi = F at *
      have hF' := Lib.hid hF; clear hF
      have hz' := Lib.hid hz; clear hz
      have hy' := Lib.hid hy; clear hy
      have z2 := hb2.size
      have P2 : Pix4 w2 w.heap.size p0 p1 p2 p3 := P0'.out.below hb2 qw2
      have B2w : Below w.heap.size w w2 := B2.trans (hb2.mono (by omega))
      have q2w : w.heap.size < w2.heap.size := by omega
      clear P0' hb2 z2
      go_cut [11] from 78 to 92 (fun s11 wx => s11 = .int .i64 F ∧ Pix4 wx w.heap.size p0 p1 p2 p3 ∧ Pix4 wx w2.heap.size k0 k1 k2 k3 ∧ w2.heap.size < wx.heap.size ∧ Below w.heap.size w wx)
      case first =>
        have hF := hF'.out
        have hall : F = (if isNum .f32 lo && isNum .f32 hi then (if FloatKind.f32.format.order hi lo == some .lt then 8 else 0) else 2) := by
          rw [← hF]; unfold clipE allNum allNum allNum; simp
        clear hF
        cases hl : isNum .f32 lo <;> cases hh : isNum .f32 hi <;> cases ho : (FloatKind.f32.format.order hi lo == some .lt) <;> rw [hl, hh, ho] at hall <;> simp only [Bool.and_true, Bool.and_false, Bool.and_self, if_true, if_false, Bool.false_eq_true] at hall <;> subst hall
        all_goals
          go_wp2_with (first | (go_at_call 52; refine (IsNumberR_any _ _).mono ?_; rintro e w' ⟨rfl, m, rfl⟩) | (go_at_call 20; refine (When_any _ _ _).mono ?_; rintro e w' ⟨rfl, rfl⟩) | (go_at_call 18; refine (First2_new _ _ _ _ _ (heap_new _ _ _ (by simp))).mono ?_; rintro e w' ⟨rfl, rfl⟩))
          go_meet
          refine ⟨rfl, ?_, ?_, ?_, ?_⟩
          · refine Pix4.below (n := w2.heap.size) (W := w2) P2 ?_ q2w
            (repeat (first | exact Below.refl _ _ | assumption | (refine Below.setCell ?_ (by first | (simp; done) | (simp; omega) | omega) _) | (refine Below.drew ?_) | (refine below_drewN ?_ _) | (refine Below.alloc ?_ (by first | (simp; done) | (simp; omega) | omega) _) | (refine Below.trans ?_ (Below.mono (by assumption) (by first | (simp; done) | (simp; omega) | omega)))))
          · exact ⟨by simp [go_sem], by simp [go_sem], by simp [go_sem], by simp [go_sem], fun o => by simp [go_sem]⟩
          · simp
            try omega
          · (repeat (first | exact Below.refl _ _ | assumption | (refine Below.setCell ?_ (by first | (simp; done) | (simp; omega) | omega) _) | (refine Below.drew ?_) | (refine below_drewN ?_ _) | (refine Below.alloc ?_ (by first | (simp; done) | (simp; omega) | omega) _) | (refine Below.trans ?_ (Below.mono (by assumption) (by first | (simp; done) | (simp; omega) | omega)))))
      case rest =>
        obtain ⟨rfl, P3, K3, q3, B3⟩ := hcut
        clear c0 c1 c2 c3 cf P2 B2 B2w qw2 hF'
        have qw3 : w.heap.size < wc.heap.size := by omega
        have qk3 : w2.heap.size ≠ w.heap.size := by omega
        generalize w2.heap.size = a2 at *
        have hP := Lib.hid P3; have hK := Lib.hid K3
        obtain ⟨c0, c1, c2, c3, cf⟩ := P3
        obtain ⟨d0, d1, d2, d3, df⟩ := K3
        by_cases hF0 : F = 0
        · subst hF0
          obtain ⟨rfl, rfl, rfl, rfl, rfl⟩ := hy'.out rfl
          clear hz' hy'
          go_wp2_with (first | (go_at_call 55; refine (Fix_any _ _).mono ?_; rintro e w' ⟨rfl, rfl⟩))
          have sx := dlt_bd p0 lo hi
          have sy := dlt_bd p1 lo hi
          have sz := dlt_bd p2 lo hi
          have q3' : a2 < wc.heap.size := q3
          go_loopw [15, 111] (fun s15 s111 wr => ∃ k : Nat, k ≤ 3 ∧ s111 = .int .i64 k ∧ s15 = .int .i64 (dltK p0 p1 p2 lo hi k) ∧ Pix4 wr w.heap.size p0 p1 p2 p3 ∧ Pix4 wr a2 (limF p0 lo hi) (limF p1 lo hi) (limF p2 lo hi) (cn .f32 p3) ∧ Pix4 wr wc.heap.size (limK p0 lo hi 0 k) (limK p1 lo hi 1 k) (limK p2 lo hi 2 k) (cn .f32 p3) ∧ wc.heap.size < wr.heap.size ∧ Below w.heap.size w wr) (fun _ i _ => 3 - (intOf i).toNat)
          case atStart =>
            refine ⟨0, by decide, rfl, rfl, hP.out.below (n := wc.heap.size) (by (repeat (first | exact Below.refl _ _ | assumption | (refine Below.setCell ?_ (by first | (simp; done) | (simp; omega) | omega) _) | (refine Below.drew ?_) | (refine below_drewN ?_ _) | (refine Below.alloc ?_ (by first | (simp; done) | (simp; omega) | omega) _) | (refine Below.trans ?_ (Below.mono (by assumption) (by first | (simp; done) | (simp; omega) | omega)))))) qw3, hK.out.below (n := wc.heap.size) (by (repeat (first | exact Below.refl _ _ | assumption | (refine Below.setCell ?_ (by first | (simp; done) | (simp; omega) | omega) _) | (refine Below.drew ?_) | (refine below_drewN ?_ _) | (refine Below.alloc ?_ (by first | (simp; done) | (simp; omega) | omega) _) | (refine Below.trans ?_ (Below.mono (by assumption) (by first | (simp; done) | (simp; omega) | omega)))))) q3', ?_, by simp, by (repeat (first | exact Below.refl _ _ | assumption | (refine Below.setCell ?_ (by first | (simp; done) | (simp; omega) | omega) _) | (refine Below.drew ?_) | (refine below_drewN ?_ _) | (refine Below.alloc ?_ (by first | (simp; done) | (simp; omega) | omega) _) | (refine Below.trans ?_ (Below.mono (by assumption) (by first | (simp; done) | (simp; omega) | omega)))))⟩
            have := Pix4.new wc 0 0 0 (cn .f32 p3) 55
            simpa [limK] using this
          case round =>
            obtain ⟨k, hk, rfl, rfl, hp, hk4, hx, hs, hb⟩ := hrel
            clear c0 c1 c2 c3 cf d0 d1 d2 d3 df hP hK B3
            generalize wc.heap.size = X at *
            rcases (show k = 0 ∨ k = 1 ∨ k = 2 ∨ k = 3 by omega) with rfl | rfl | rfl | rfl
            · simp [limK] at hx
              have hx' := Lib.hid hx; have hp' := Lib.hid hp; have hk' := Lib.hid hk4
              obtain ⟨c0, c1, c2, c3, cf⟩ := hp
              obtain ⟨e0, e1, e2, e3, ef⟩ := hx
              clear hk4
              go_wp2_with (first | (go_at_call 56; refine (LimitOf_any _ _ _ _).mono ?_; rintro e w' ⟨rfl, rfl⟩))
              clear c0 c1 c2 c3 cf e0 e1 e2 e3 ef
              obtain ⟨W, hW⟩ : ∃ W, W = wr.setCell ⟨X, 0, none⟩ (.float .f32 (limF p0 lo hi)) := ⟨_, rfl⟩
              rw [← hW]
              have HP : Pix4 W w.heap.size p0 p1 p2 p3 := by rw [hW]; exact hp'.out.far _ _ (by simp; omega)
              have HK : Pix4 W a2 (limF p0 lo hi) (limF p1 lo hi) (limF p2 lo hi) (cn .f32 p3) := by rw [hW]; exact hk'.out.far _ _ (by simp; omega)
              have HX := (by rw [hW]; exact hx'.out.set0 _ : Pix4 W X (limF p0 lo hi) 0 0 (cn .f32 p3))
              have HS : X < W.heap.size := by rw [hW]; simpa using hs
              have HB : Below w.heap.size w W := by rw [hW]; exact hb.setCell (by simp; omega) _
              clear hW hx' hp' hk' hs hb
              have HP' := Lib.hid HP; have HK' := Lib.hid HK; have HX' := Lib.hid HX
              clear HK
              have QW : w.heap.size < W.heap.size := by omega
              have QA : a2 < W.heap.size := by omega
              obtain ⟨c0, c1, c2, c3, cf⟩ := HP
              obtain ⟨e0, e1, e2, e3, ef⟩ := HX
              refine wp_region_loose 7 (fun f' args u => f' = 57 ∧ u = .bool (decide (cn .f32 (limF p0 lo hi) = cn .f32 p0))) (by kernel_rfl) (by kernel_rfl) ?_
              simp only [List.take_succ_cons, List.take_zero, List.drop_succ_cons, List.drop_zero]
              iterate 6 (refine loose_wanted rfl (fun K hK => ?_); go_simp; refine hK _ ?_; clear hK K)
              refine loose_wanted rfl (fun K hK => ?_)
              go_simp
              refine ⟨fun p => (Bit_any _ _ p.w).mono ?_, ?_⟩
              · rintro e w' ⟨rfl, rfl⟩
                exact ⟨_, rfl, rfl, p.h⟩
              refine hK _ ?_
              clear hK K
              refine loose_nil (fun w5 hb5 => ?_)
              clear c0 c1 c2 c3 cf e0 e1 e2 e3 ef
              have hs5 := hb5.size
              have HP5 := HP'.out.below hb5 QW
              have HK5 := HK'.out.below hb5 QA
              have HX5 := HX'.out.below hb5 HS
              have HB5 := HB.trans (hb5.mono (by omega))
              clear hb5 HP' HK' HX' HB
              by_cases hd : cn .f32 (limF p0 lo hi) = cn .f32 p0
              · have hd1 : decide (cn .f32 (limF p0 lo hi) = cn .f32 p0) = true := by simpa using hd
                have hd2 : dltZ p0 lo hi = 0 := by unfold dltZ; rw [if_pos hd]
                go_wp2_with fail
                go_roundw
                case rel => exact ⟨1, by decide, by first | rfl | go_num, by first | (simp [dltK, hd2]; done) | (obtain ⟨sx1, sx2⟩ := sx; obtain ⟨sy1, sy2⟩ := sy; simp [dltK, hd2]; exact IntWalk.wrap64_in _ (by omega)), HP5, HK5, by simpa [limK] using HX5, by omega, HB5⟩
                case measure => simp [intOf]
              · have hd1 : decide (cn .f32 (limF p0 lo hi) = cn .f32 p0) = false := by simpa using hd
                have hd2 : dltZ p0 lo hi = 1 := by unfold dltZ; rw [if_neg hd]
                go_wp2_with fail
                go_roundw
                case rel => exact ⟨1, by decide, by first | rfl | go_num, by first | (simp [dltK, hd2]; done) | (obtain ⟨sx1, sx2⟩ := sx; obtain ⟨sy1, sy2⟩ := sy; simp [dltK, hd2]; exact IntWalk.wrap64_in _ (by omega)), HP5, HK5, by simpa [limK] using HX5, by omega, HB5⟩
                case measure => simp [intOf]
            · simp [limK] at hx
              have hx' := Lib.hid hx; have hp' := Lib.hid hp; have hk' := Lib.hid hk4
              obtain ⟨c0, c1, c2, c3, cf⟩ := hp
              obtain ⟨e0, e1, e2, e3, ef⟩ := hx
              clear hk4
              go_wp2_with (first | (go_at_call 56; refine (LimitOf_any _ _ _ _).mono ?_; rintro e w' ⟨rfl, rfl⟩))
              clear c0 c1 c2 c3 cf e0 e1 e2 e3 ef
              obtain ⟨W, hW⟩ : ∃ W, W = wr.setCell ⟨X, 1, none⟩ (.float .f32 (limF p1 lo hi)) := ⟨_, rfl⟩
              rw [← hW]
              have HP : Pix4 W w.heap.size p0 p1 p2 p3 := by rw [hW]; exact hp'.out.far _ _ (by simp; omega)
              have HK : Pix4 W a2 (limF p0 lo hi) (limF p1 lo hi) (limF p2 lo hi) (cn .f32 p3) := by rw [hW]; exact hk'.out.far _ _ (by simp; omega)
              have HX := (by rw [hW]; exact hx'.out.set1 _ : Pix4 W X (limF p0 lo hi) (limF p1 lo hi) 0 (cn .f32 p3))
              have HS : X < W.heap.size := by rw [hW]; simpa using hs
              have HB : Below w.heap.size w W := by rw [hW]; exact hb.setCell (by simp; omega) _
              clear hW hx' hp' hk' hs hb
              have HP' := Lib.hid HP; have HK' := Lib.hid HK; have HX' := Lib.hid HX
              clear HK
              have QW : w.heap.size < W.heap.size := by omega
              have QA : a2 < W.heap.size := by omega
              obtain ⟨c0, c1, c2, c3, cf⟩ := HP
              obtain ⟨e0, e1, e2, e3, ef⟩ := HX
              refine wp_region_loose 7 (fun f' args u => f' = 57 ∧ u = .bool (decide (cn .f32 (limF p1 lo hi) = cn .f32 p1))) (by kernel_rfl) (by kernel_rfl) ?_
              simp only [List.take_succ_cons, List.take_zero, List.drop_succ_cons, List.drop_zero]
              iterate 6 (refine loose_wanted rfl (fun K hK => ?_); go_simp; refine hK _ ?_; clear hK K)
              refine loose_wanted rfl (fun K hK => ?_)
              go_simp
              refine ⟨fun p => (Bit_any _ _ p.w).mono ?_, ?_⟩
              · rintro e w' ⟨rfl, rfl⟩
                exact ⟨_, rfl, rfl, p.h⟩
              refine hK _ ?_
              clear hK K
              refine loose_nil (fun w5 hb5 => ?_)
              clear c0 c1 c2 c3 cf e0 e1 e2 e3 ef
              have hs5 := hb5.size
              have HP5 := HP'.out.below hb5 QW
              have HK5 := HK'.out.below hb5 QA
              have HX5 := HX'.out.below hb5 HS
              have HB5 := HB.trans (hb5.mono (by omega))
              clear hb5 HP' HK' HX' HB
              by_cases hd : cn .f32 (limF p1 lo hi) = cn .f32 p1
              · have hd1 : decide (cn .f32 (limF p1 lo hi) = cn .f32 p1) = true := by simpa using hd
                have hd2 : dltZ p1 lo hi = 0 := by unfold dltZ; rw [if_pos hd]
                go_wp2_with fail
                go_roundw
                case rel => exact ⟨2, by decide, by first | rfl | go_num, by first | (simp [dltK, hd2]; done) | (obtain ⟨sx1, sx2⟩ := sx; obtain ⟨sy1, sy2⟩ := sy; simp [dltK, hd2]; exact IntWalk.wrap64_in _ (by omega)), HP5, HK5, by simpa [limK] using HX5, by omega, HB5⟩
                case measure => simp [intOf]
              · have hd1 : decide (cn .f32 (limF p1 lo hi) = cn .f32 p1) = false := by simpa using hd
                have hd2 : dltZ p1 lo hi = 1 := by unfold dltZ; rw [if_neg hd]
                go_wp2_with fail
                go_roundw
                case rel => exact ⟨2, by decide, by first | rfl | go_num, by first | (simp [dltK, hd2]; done) | (obtain ⟨sx1, sx2⟩ := sx; obtain ⟨sy1, sy2⟩ := sy; simp [dltK, hd2]; exact IntWalk.wrap64_in _ (by omega)), HP5, HK5, by simpa [limK] using HX5, by omega, HB5⟩
                case measure => simp [intOf]
            · simp [limK] at hx
              have hx' := Lib.hid hx; have hp' := Lib.hid hp; have hk' := Lib.hid hk4
              obtain ⟨c0, c1, c2, c3, cf⟩ := hp
              obtain ⟨e0, e1, e2, e3, ef⟩ := hx
              clear hk4
              go_wp2_with (first | (go_at_call 56; refine (LimitOf_any _ _ _ _).mono ?_; rintro e w' ⟨rfl, rfl⟩))
              clear c0 c1 c2 c3 cf e0 e1 e2 e3 ef
              obtain ⟨W, hW⟩ : ∃ W, W = wr.setCell ⟨X, 2, none⟩ (.float .f32 (limF p2 lo hi)) := ⟨_, rfl⟩
              rw [← hW]
              have HP : Pix4 W w.heap.size p0 p1 p2 p3 := by rw [hW]; exact hp'.out.far _ _ (by simp; omega)
              have HK : Pix4 W a2 (limF p0 lo hi) (limF p1 lo hi) (limF p2 lo hi) (cn .f32 p3) := by rw [hW]; exact hk'.out.far _ _ (by simp; omega)
              have HX := (by rw [hW]; exact hx'.out.set2 _ : Pix4 W X (limF p0 lo hi) (limF p1 lo hi) (limF p2 lo hi) (cn .f32 p3))
              have HS : X < W.heap.size := by rw [hW]; simpa using hs
              have HB : Below w.heap.size w W := by rw [hW]; exact hb.setCell (by simp; omega) _
              clear hW hx' hp' hk' hs hb
              have HP' := Lib.hid HP; have HK' := Lib.hid HK; have HX' := Lib.hid HX
              clear HK
              have QW : w.heap.size < W.heap.size := by omega
              have QA : a2 < W.heap.size := by omega
              obtain ⟨c0, c1, c2, c3, cf⟩ := HP
              obtain ⟨e0, e1, e2, e3, ef⟩ := HX
              refine wp_region_loose 7 (fun f' args u => f' = 57 ∧ u = .bool (decide (cn .f32 (limF p2 lo hi) = cn .f32 p2))) (by kernel_rfl) (by kernel_rfl) ?_
              simp only [List.take_succ_cons, List.take_zero, List.drop_succ_cons, List.drop_zero]
              iterate 6 (refine loose_wanted rfl (fun K hK => ?_); go_simp; refine hK _ ?_; clear hK K)
              refine loose_wanted rfl (fun K hK => ?_)
              go_simp
              refine ⟨fun p => (Bit_any _ _ p.w).mono ?_, ?_⟩
              · rintro e w' ⟨rfl, rfl⟩
                exact ⟨_, rfl, rfl, p.h⟩
              refine hK _ ?_
              clear hK K
              refine loose_nil (fun w5 hb5 => ?_)
              clear c0 c1 c2 c3 cf e0 e1 e2 e3 ef
              have hs5 := hb5.size
              have HP5 := HP'.out.below hb5 QW
              have HK5 := HK'.out.below hb5 QA
              have HX5 := HX'.out.below hb5 HS
              have HB5 := HB.trans (hb5.mono (by omega))
              clear hb5 HP' HK' HX' HB
              by_cases hd : cn .f32 (limF p2 lo hi) = cn .f32 p2
              · have hd1 : decide (cn .f32 (limF p2 lo hi) = cn .f32 p2) = true := by simpa using hd
                have hd2 : dltZ p2 lo hi = 0 := by unfold dltZ; rw [if_pos hd]
                go_wp2_with fail
                go_roundw
                case rel => exact ⟨3, by decide, by first | rfl | go_num, by first | (simp [dltK, hd2]; done) | (obtain ⟨sx1, sx2⟩ := sx; obtain ⟨sy1, sy2⟩ := sy; simp [dltK, hd2]; exact IntWalk.wrap64_in _ (by omega)), HP5, HK5, by simpa [limK] using HX5, by omega, HB5⟩
                case measure => simp [intOf]
              · have hd1 : decide (cn .f32 (limF p2 lo hi) = cn .f32 p2) = false := by simpa using hd
                have hd2 : dltZ p2 lo hi = 1 := by unfold dltZ; rw [if_neg hd]
                go_wp2_with fail
                go_roundw
                case rel => exact ⟨3, by decide, by first | rfl | go_num, by first | (simp [dltK, hd2]; done) | (obtain ⟨sx1, sx2⟩ := sx; obtain ⟨sy1, sy2⟩ := sy; simp [dltK, hd2]; exact IntWalk.wrap64_in _ (by omega)), HP5, HK5, by simpa [limK] using HX5, by omega, HB5⟩
                case measure => simp [intOf]
            · simp [limK] at hx
              simp only [dltK, Int.zero_add]
              obtain ⟨c0, c1, c2, c3, cf⟩ := hk4
              obtain ⟨e0, e1, e2, e3, ef⟩ := hx
              clear hp
              have QA : a2 < wr.heap.size := by omega
              go_wp2_with (first | (go_at_call 39; refine (samePixel_any _ _ _ _ _ _ _ _ _).mono ?_; rintro e w6 ⟨rfl, hb6⟩))
              all_goals
                go_ret
                refine ⟨ret_b (by simp), ?_⟩
                have hsb := hb.size
                exact hb.trans (hb6.mono hsb)
        · obtain ⟨rfl, rfl, rfl, rfl, rfl⟩ := hz'.out hF0
          have n1 : (F == 0) = false := by simpa using hF0
          have n2 : (F != 0) = true := by simpa using hF0
          go_wp2_with fail
          go_ret
          refine ⟨rfl, ?_⟩
          (repeat (first | exact Below.refl _ _ | assumption | (refine Below.setCell ?_ (by first | (simp; done) | (simp; omega) | omega) _) | (refine Below.drew ?_) | (refine below_drewN ?_ _) | (refine Below.alloc ?_ (by first | (simp; done) | (simp; omega) | omega) _) | (refine Below.trans ?_ (Below.mono (by assumption) (by first | (simp; done) | (simp; omega) | omega)))))
end Go.Proofs.Ytmnmcmmhnbnndaa
