/- Work on machines, the farm's: which machine is next. Conditions: what each theorem names. -/
import Derived.Test.YtkadinjhfldokaaSiC
namespace Go.Proofs.Ytkadinjhfldokaa
open Go Go.RowKit
section
variable {w0 : World} {aw : Option Addr} {cw : Nat} {am : Option Addr} {cm : Nat} {D : SimD} {ps gs gf gb b1 : Nat} {S : SimS} {pb : Nat → Nat} {rv : Value}
set_option maxRecDepth 100000 in
set_option maxHeartbeats 6400000 in
theorem free_any (w : World) (h : SimG w0 aw cw am cm D ps gs gf gb b1 w S pb rv) (hM : IsMachines w0 am D.nm cm D.M) (hg : GoodD D) :
    Calls Try.prog 19 #[.pointer (some ⟨ps, 0, none⟩)] w fun e w' => e = .returned (.int .i64 (bestM D S D.nm)) ∧ Below w.heap.size w w' := by
  have HH := Lib.hid (And.intro h hM)
  have hn2 : D.nm ≤ 64 := hg.mach.1.2
  have s1 := h.kS.c 1 _ rfl; have sl := h.kS.lt
  clear h hM hg
  go_enter Try.func19, Try.ntmps19
  go_wp2_with fail
  clear s1 sl
  go_loopw [3, 11] (fun s3 s11 wr => ∃ i : Nat, i ≤ D.nm ∧ s11 = .int .i64 i ∧ s3 = .int .i64 (bestM D S i) ∧ Below w.heap.size w wr) (fun _ s11 _ => D.nm - (intOf s11).toNat)
  case atStart => exact ⟨0, Nat.zero_le _, rfl, rfl, Below.refl _ _⟩
  case round =>
    obtain ⟨i, hi, rfl, rfl, hq⟩ := hrel
    have HQ := Lib.hid hq
    have HB := Lib.hid (show bestM D S (i + 1) = if freeB D S i = true ∧ (bestM D S i < 0 ∨ (D.M (bestM D S i).toNat).sp < (D.M i).sp) then (i : Int) else bestM D S i from rfl)
    have HBI := Lib.hid (bestM_in D S i)
    have HRB := Lib.hid (show freeB D S i = ((S.bz i).isNone && (upAt (D.M i) S.now == S.now)) from rfl)
    obtain ⟨bb, hbb⟩ : ∃ bb, bb = bestM D S i := ⟨_, rfl⟩
    rw [← hbb] at HB HBI ⊢
    by_cases hin : i < D.nm
    · have hini : (i : Int) < (D.nm : Int) := by omega
      have hG := HH.out.1.past hq
      have hMw := HH.out.2.below hG.bel
      have hcw : D.nm ≤ cm := hMw.1
      have hcw2 : cm ≤ 9223372036854775807 := by have := hMw.2.1; unfold maxLen at this; omega
      obtain ⟨b, off, rfl, hc⟩ := hMw.2.2 (by omega)
      have hw := hc i hin
      have HRK := Lib.hid (fun (j : Nat) hj => (hc j hj).1 : ∀ j : Nat, j < D.nm → wr.cell? ⟨b, off + j * 2, none⟩ = some (.int .i64 (D.M j).sp))
      have HUA := Lib.hid (fun (wy : World) (hy : Below wr.heap.size wr wy) => upAt_any i wy (hG.past hy) HH.out.2 hin)
      obtain ⟨up, hup⟩ : ∃ up, up = upAt (D.M i) S.now := ⟨_, rfl⟩
      rw [← hup] at HUA HRB
      obtain ⟨K, hK⟩ : ∃ K, K = D.M i := ⟨_, rfl⟩
      rw [← hK] at hw HB
      obtain ⟨sp, da, dn, dc, df, dt⟩ := K
      have c0 := hw.1; have c1 := hw.2.1
      simp only at c0 c1 HB
      have l0 := cell_lt c0; simp only at l0
      have HGG := Lib.hid hG
      clear hG hMw hc hw hK hup hbb hq
      have s1 := HGG.out.kS.c 1 _ rfl; have sl := HGG.out.kS.lt
      go_upto_region 5 with fail
      refine wp_world (fun W5 hW5 => ?_)
      have B5 : Below wr.heap.size wr W5 := by rw [hW5]; (repeat (first | exact Below.refl _ _ | assumption | (refine Below.setCell ?_ (by first | (simp; done) | (simp; omega) | omega) _) | (refine Below.drew ?_) | (refine below_drewN ?_ _) | (refine Below.alloc ?_ (by first | (simp; done) | (simp; omega) | omega) _) | (refine Below.trans ?_ (Below.mono (by assumption) (by first | (simp; done) | (simp; omega) | omega)))))
      have N5 : Blk W5 wr.heap.size [.int .i64 sp, .slice da dn dc] := by rw [hW5]; exact Blk.new _ _ _ _ rfl
      have HQ5 := Lib.hid (HQ.out.trans (B5.mono HQ.out.size))
      have UA := Lib.hid (fun (wy : World) (hy : Below W5.heap.size W5 wy) => HUA.out wy (B5.trans (hy.mono B5.size)))
      have G5 := HGG.out.past B5
      have HRK5 := Lib.hid (fun j hj => (B5.cell (p := ⟨b, off + j * 2, none⟩) (cell_lt (HRK.out j hj))).trans (HRK.out j hj) : ∀ j : Nat, j < D.nm → W5.cell? ⟨b, off + j * 2, none⟩ = some (.int .i64 (D.M j).sp))
      have g0 := N5.c 0 _ rfl; have gl := N5.lt
      have s1' := G5.kS.c 1 _ rfl; have s3' := G5.kS.c 3 _ rfl; have s6' := G5.kS.c 6 _ rfl; have sl' := G5.kS.lt
      have t0 := G5.kB.c i hin; have tl := G5.kB.lt
      clear hW5 B5 N5 G5 s1 sl c0 c1 l0 HRK HUA HGG
      generalize S.now = now at *
      cases hbz : S.bz i with
      | some r =>
        have t1 : bzV S pb i = .pointer (some ⟨pb i, 0, none⟩) := by unfold bzV; rw [hbz]
        rw [t1] at t0
        have HE := Lib.hid (show bestM D S (i + 1) = bb by rw [HB.out, HRB.out, hbz]; simp)
        clear HB HRB t1 hbz
        refine wp_region_loose 34 (fun _ _ u => u = .int .i64 up) (by kernel_rfl) (by kernel_rfl) ?_
        simp only [List.take_succ_cons, List.take_zero, List.drop_succ_cons, List.drop_zero]
        iterate 9 (refine loose_wanted rfl (fun K hK => ?_); go_simp; refine hK _ ?_; clear hK K)
        iterate 8 (with_reducible refine loose_skip ?_ ?_; kernel_rfl)
        iterate 2 (refine loose_wanted rfl (fun K hK => ?_); go_simp; refine hK _ ?_; clear hK K)
        iterate 15 (with_reducible refine loose_skip ?_ ?_; kernel_rfl)
        refine loose_nil (fun w7 hb7 => ?_)
        have HQ7 := Lib.hid (HQ5.out.trans (hb7.mono HQ5.out.size))
        clear hb7 t0 tl s1' s3' s6' sl' g0 gl
        go_wp2_with fail
        go_roundw
        case rel => exact ⟨i + 1, by omega, by go_num, by rw [HE.out], HQ7.out⟩
        case measure => simp [intOf]; omega
      | none =>
        have t1 : bzV S pb i = .pointer none := by unfold bzV; rw [hbz]
        rw [t1] at t0
        have HR0 := Lib.hid (show freeB D S i = (up == now) by rw [HRB.out, hbz]; rfl)
        clear HRB t1 hbz
        by_cases hun : up = now
        · subst hun
          have HR1 := Lib.hid (show freeB D S i = true by rw [HR0.out]; simp)
          clear HR0
          rcases HBI.out with hbn | ⟨w1, hb1, hb2, -⟩
          · have hlt : bb < 0 := by omega
            have hd : decide (bb < 0) = true := decide_eq_true hlt
            have HE := Lib.hid (show bestM D S (i + 1) = (i : Int) by rw [HB.out, if_pos ⟨HR1.out, .inl hlt⟩])
            clear HB HR1 HBI
            subst hbn
            refine wp_region_loose 34 (fun _ _ u => u = .int .i64 up) (by kernel_rfl) (by kernel_rfl) ?_
            simp only [List.take_succ_cons, List.take_zero, List.drop_succ_cons, List.drop_zero]
            iterate 9 (refine loose_wanted rfl (fun K hK => ?_); go_simp; refine hK _ ?_; clear hK K)
            iterate 2 (with_reducible refine loose_wanted ?_ (fun K hK => ?_); kernel_rfl; go_simp; (with_reducible refine hK _ ?_); clear hK K)
            with_reducible refine loose_wanted ?_ (fun K1 hK => ?_)
            kernel_rfl
            go_simp
            refine ⟨fun p => (UA.out p.w p.h).mono ?_, hK _ ?_⟩
            · rintro e w' ⟨rfl, hb⟩
              exact ⟨_, rfl, by first | rfl | (simp; done), p.h.trans (hb.mono p.h.size)⟩
            clear hK K1
            iterate 5 (with_reducible refine loose_wanted ?_ (fun K hK => ?_); kernel_rfl; go_simp; (with_reducible refine hK _ ?_); clear hK K)
            iterate 2 (refine loose_wanted rfl (fun K hK => ?_); go_simp; refine hK _ ?_; clear hK K)
            iterate 3 (with_reducible refine loose_wanted ?_ (fun K hK => ?_); kernel_rfl; go_simp; (with_reducible refine hK _ ?_); clear hK K)
            iterate 11 (with_reducible refine loose_skip ?_ ?_; kernel_rfl)
            (with_reducible refine loose_wanted ?_ (fun K hK => ?_); kernel_rfl; go_simp; (with_reducible refine hK _ ?_); clear hK K)
            refine loose_nil (fun w7 hb7 => ?_)
            have HQ7 := Lib.hid (HQ5.out.trans (hb7.mono HQ5.out.size))
            clear hb7 t0 tl s1' s3' s6' sl' g0 gl
            go_wp2_with fail
            go_roundw
            case rel => exact ⟨i + 1, by omega, by go_num, by rw [HE.out], HQ7.out⟩
            case measure => simp [intOf]; omega
          · subst hb1
            have hlt : ¬ (w1 : Int) < 0 := by omega
            have hd : decide ((w1 : Int) < 0) = false := decide_eq_false hlt
            have r0 := HRK5.out w1 (by omega)
            have rl := cell_lt r0; simp only at rl
            have hw1n : (w1 : Int) < (D.nm : Int) := by omega
            have HB' := Lib.hid (show bestM D S (i + 1) = if (D.M w1).sp < sp then (i : Int) else (w1 : Int) by
              rw [HB.out]
              have : ((w1 : Int)).toNat = w1 := by omega
              rw [this]
              by_cases hr : (D.M w1).sp < sp
              · rw [if_pos ⟨HR1.out, .inr hr⟩, if_pos hr]
              · rw [if_neg (fun h => h.2.elim hlt hr), if_neg hr])
            generalize (D.M w1).sp = rk at *
            clear HB HR1 HBI
            by_cases hr : rk < sp
            · have hd1 : decide (rk < sp) = true := decide_eq_true hr
              have HE := Lib.hid (show bestM D S (i + 1) = (i : Int) by rw [HB'.out, if_pos hr])
              clear HB'
              refine wp_region_loose 34 (fun _ _ u => u = .int .i64 up) (by kernel_rfl) (by kernel_rfl) ?_
              simp only [List.take_succ_cons, List.take_zero, List.drop_succ_cons, List.drop_zero]
              iterate 9 (refine loose_wanted rfl (fun K hK => ?_); go_simp; refine hK _ ?_; clear hK K)
              iterate 2 (with_reducible refine loose_wanted ?_ (fun K hK => ?_); kernel_rfl; go_simp; (with_reducible refine hK _ ?_); clear hK K)
              with_reducible refine loose_wanted ?_ (fun K1 hK => ?_)
              kernel_rfl
              go_simp
              refine ⟨fun p => (UA.out p.w p.h).mono ?_, hK _ ?_⟩
              · rintro e w' ⟨rfl, hb⟩
                exact ⟨_, rfl, by first | rfl | (simp; done), p.h.trans (hb.mono p.h.size)⟩
              clear hK K1
              iterate 5 (with_reducible refine loose_wanted ?_ (fun K hK => ?_); kernel_rfl; go_simp; (with_reducible refine hK _ ?_); clear hK K)
              iterate 2 (refine loose_wanted rfl (fun K hK => ?_); go_simp; refine hK _ ?_; clear hK K)
              iterate 15 (with_reducible refine loose_wanted ?_ (fun K hK => ?_); kernel_rfl; go_simp; (with_reducible refine hK _ ?_); clear hK K)
              refine loose_nil (fun w7 hb7 => ?_)
              have HQ7 := Lib.hid (HQ5.out.trans (hb7.mono HQ5.out.size))
              clear hb7 t0 tl s1' s3' s6' sl' g0 gl r0 rl
              go_wp2_with fail
              go_roundw
              case rel => exact ⟨i + 1, by omega, by go_num, by rw [HE.out], HQ7.out⟩
              case measure => simp [intOf]; omega
            · have hd1 : decide (rk < sp) = false := decide_eq_false hr
              have HE := Lib.hid (show bestM D S (i + 1) = (w1 : Int) by rw [HB'.out, if_neg hr])
              clear HB'
              refine wp_region_loose 34 (fun _ _ u => u = .int .i64 up) (by kernel_rfl) (by kernel_rfl) ?_
              simp only [List.take_succ_cons, List.take_zero, List.drop_succ_cons, List.drop_zero]
              iterate 9 (refine loose_wanted rfl (fun K hK => ?_); go_simp; refine hK _ ?_; clear hK K)
              iterate 2 (with_reducible refine loose_wanted ?_ (fun K hK => ?_); kernel_rfl; go_simp; (with_reducible refine hK _ ?_); clear hK K)
              with_reducible refine loose_wanted ?_ (fun K1 hK => ?_)
              kernel_rfl
              go_simp
              refine ⟨fun p => (UA.out p.w p.h).mono ?_, hK _ ?_⟩
              · rintro e w' ⟨rfl, hb⟩
                exact ⟨_, rfl, by first | rfl | (simp; done), p.h.trans (hb.mono p.h.size)⟩
              clear hK K1
              iterate 5 (with_reducible refine loose_wanted ?_ (fun K hK => ?_); kernel_rfl; go_simp; (with_reducible refine hK _ ?_); clear hK K)
              iterate 2 (refine loose_wanted rfl (fun K hK => ?_); go_simp; refine hK _ ?_; clear hK K)
              iterate 15 (with_reducible refine loose_wanted ?_ (fun K hK => ?_); kernel_rfl; go_simp; (with_reducible refine hK _ ?_); clear hK K)
              refine loose_nil (fun w7 hb7 => ?_)
              have HQ7 := Lib.hid (HQ5.out.trans (hb7.mono HQ5.out.size))
              clear hb7 t0 tl s1' s3' s6' sl' g0 gl r0 rl
              go_wp2_with fail
              go_roundw
              case rel => exact ⟨i + 1, by omega, by go_num, by rw [HE.out], HQ7.out⟩
              case measure => simp [intOf]; omega
        · have hub : (up == now) = false := by simpa using hun
          have HE := Lib.hid (show bestM D S (i + 1) = bb by rw [HB.out, HR0.out, hub]; simp)
          clear HB HR0
          refine wp_region_loose 34 (fun _ _ u => u = .int .i64 up) (by kernel_rfl) (by kernel_rfl) ?_
          simp only [List.take_succ_cons, List.take_zero, List.drop_succ_cons, List.drop_zero]
          iterate 9 (refine loose_wanted rfl (fun K hK => ?_); go_simp; refine hK _ ?_; clear hK K)
          iterate 2 (with_reducible refine loose_wanted ?_ (fun K hK => ?_); kernel_rfl; go_simp; (with_reducible refine hK _ ?_); clear hK K)
          with_reducible refine loose_wanted ?_ (fun K1 hK => ?_)
          kernel_rfl
          go_simp
          refine ⟨fun p => (UA.out p.w p.h).mono ?_, hK _ ?_⟩
          · rintro e w' ⟨rfl, hb⟩
            exact ⟨_, rfl, by first | rfl | (simp; done), p.h.trans (hb.mono p.h.size)⟩
          clear hK K1
          iterate 5 (with_reducible refine loose_wanted ?_ (fun K hK => ?_); kernel_rfl; go_simp; (with_reducible refine hK _ ?_); clear hK K)
          iterate 2 (refine loose_wanted rfl (fun K hK => ?_); go_simp; refine hK _ ?_; clear hK K)
          iterate 15 (with_reducible refine loose_skip ?_ ?_; kernel_rfl)
          refine loose_nil (fun w7 hb7 => ?_)
          have HQ7 := Lib.hid (HQ5.out.trans (hb7.mono HQ5.out.size))
          clear hb7 t0 tl s1' s3' s6' sl' g0 gl
          go_wp2_with fail
          go_roundw
          case rel => exact ⟨i + 1, by omega, by go_num, by rw [HE.out], HQ7.out⟩
          case measure => simp [intOf]; omega
    · have hini : ¬ (i : Int) < (D.nm : Int) := by omega
      have hie : i = D.nm := by omega
      have HE := Lib.hid (show bestM D S D.nm = bb by rw [hbb, ← hie])
      clear hq hie hbb
      go_wp2_with fail
      go_ret
      exact ⟨by rw [HE.out]; rfl, HQ.out⟩
end
end Go.Proofs.Ytkadinjhfldokaa
