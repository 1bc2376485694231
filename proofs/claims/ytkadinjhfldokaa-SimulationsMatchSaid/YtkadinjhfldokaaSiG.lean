/- Work on machines, the farm's: what ends now. Conditions: what each theorem names. -/
import Derived.Test.YtkadinjhfldokaaSiF
namespace Go.Proofs.Ytkadinjhfldokaa
open Go Go.RowKit
theorem endS_succ (tr : Int) (S : SimS) (m : Nat) : endS tr S (m + 1) = endS1 tr (endS tr S m) m := rfl
theorem endS1_keep {tr : Int} {T : SimS} {m : Nat} (h : ∀ r, T.bz m = some r → r.to ≠ T.now) : endS1 tr T m = T := by
  unfold endS1
  cases hb : T.bz m with
  | none => rfl
  | some r => simp only; rw [if_neg (h r hb)]
theorem endS1_end {tr : Int} {T : SimS} {m : Nat} {r : RunV} (h : T.bz m = some r) (ht : r.to = T.now) : endS1 tr T m = { now := T.now, bz := updF T.bz m none, k := T.k + 1, q := updF T.q T.k r, st := updF T.st r.wk.toNat (if r.fl = true then (if tr ≤ T.fl r.wk.toNat + 1 then 3 else 0) else 2), fl := if r.fl = true then updF T.fl r.wk.toNat (T.fl r.wk.toNat + 1) else T.fl } := by
  unfold endS1
  rw [h]
  simp only
  rw [if_pos ht]
section
variable {w0 : World} {aw : Option Addr} {cw : Nat} {am : Option Addr} {cm : Nat} {D : SimD} {ps gs gf gb b1 : Nat} {S : SimS} {pb : Nat → Nat} {rv : Value}
set_option maxRecDepth 100000 in
set_option maxHeartbeats 12800000 in
theorem end_any (W : World) (h : SimG w0 aw cw am cm D ps gs gf gb b1 W S pb rv) (hne : NeS w0 ps gs gf gb b1) (hg : GoodD D) (hbz : ∀ m r, m < D.nm → S.bz m = some r → ∃ n : Nat, r.wk = n ∧ n < D.nw) (hk : S.k ≤ 1000000) (hfl : ∀ i, i < D.nw → 0 ≤ S.fl i ∧ S.fl i ≤ 1000000) :
    Calls Try.prog 17 #[.pointer (some ⟨ps, 0, none⟩)] W fun e w' => e = .returned (.tuple #[]) ∧ ∃ rv', SimG w0 aw cw am cm D ps gs gf gb b1 w' (endS D.tr S D.nm) pb rv' := by
  obtain ⟨i0, hi0, hz0, hz1, hz2⟩ := info_parts infoRunS
  have HH := Lib.hid h; have HNE := Lib.hid hne; have HBZ := Lib.hid hbz; have HFL := Lib.hid hfl; have HGD := Lib.hid hg
  have hn1 : D.nw ≤ 2000 := hg.work.1
  have hn2 : D.nm ≤ 64 := hg.mach.1.2
  obtain ⟨⟨ne1, ne2, ne3, ne4, ne5, ne6⟩, -, nl1, nl2, nl3, nl4⟩ := hne
  have ne1' := Ne.symm ne1; have ne2' := Ne.symm ne2; have ne3' := Ne.symm ne3; have ne4' := Ne.symm ne4; have ne5' := Ne.symm ne5; have ne6' := Ne.symm ne6
  have s6 := h.kS.c 6 _ rfl; have sl := h.kS.lt
  clear h hbz hfl hg
  go_enter Try.func17, Try.ntmps17
  go_wp2_with fail
  clear s6 sl
  go_loopw [9] (fun s9 wr => ∃ m : Nat, m ≤ D.nm ∧ s9 = .int .i64 m ∧ ∃ rv', SimG w0 aw cw am cm D ps gs gf gb b1 wr (endS D.tr S m) pb rv') (fun s9 _ => D.nm - (intOf s9).toNat)
  case atStart => exact ⟨0, Nat.zero_le _, rfl, rv, HH.out⟩
  case round =>
    obtain ⟨m, hm, rfl, rv', hT⟩ := hrel
    have HI := Lib.hid (endS_inv D.tr S m)
    have HS1 := Lib.hid (endS_succ D.tr S m)
    obtain ⟨T, hTT⟩ : ∃ T, T = endS D.tr S m := ⟨_, rfl⟩
    rw [← hTT] at hT HI HS1
    have HT := Lib.hid hT
    by_cases hin : m < D.nm
    · have hini : (m : Int) < (D.nm : Int) := by omega
      have s6 := hT.kS.c 6 _ rfl; have s3 := hT.kS.c 3 _ rfl; have sl := hT.kS.lt
      have b0 := hT.kB.c m hin; have bl := hT.kB.lt; have bf := hT.kB.f
      have HBM := Lib.hid (HI.out.2.1 m (Nat.le_refl _))
      cases hb : T.bz m with
      | none =>
        have t1 : bzV T pb m = .pointer none := by unfold bzV; rw [hb]
        rw [t1] at b0
        have HE := Lib.hid (show endS D.tr S (m + 1) = T by rw [HS1.out, endS1_keep (fun r h => by rw [hb] at h; cases h)])
        clear HS1 HBM hb t1 hT hTT
        go_upto_region 3 with fail
        go_quiet (fail)
        go_wp2_with fail
        go_roundw
        case rel => exact ⟨m + 1, by omega, by go_num, rv', by rw [HE.out]; exact HT.out.past (below_drewN (Below.refl _ _) _)⟩
        case measure => simp [intOf]; omega
      | some r =>
        have t1 : bzV T pb m = .pointer (some ⟨pb m, 0, none⟩) := by unfold bzV; rw [hb]
        rw [t1] at b0
        obtain ⟨kp1, kp2, kp3⟩ := hT.kP m r hin hb
        have r3 := kp1.c 3 _ rfl; have rl := kp1.lt
        obtain ⟨wn, hwn, hwn2⟩ := HBZ.out m r hin (by rw [← HBM.out]; exact hb)
        have HR := Lib.hid (And.intro kp1 (And.intro kp2 (And.intro kp3 (And.intro hwn hb))))
        by_cases hto : r.to = T.now
        · have hr3 : (r.to != T.now) = false := by simpa using hto
          have HE := Lib.hid (show endS D.tr S (m + 1) = { now := T.now, bz := updF T.bz m none, k := T.k + 1, q := updF T.q T.k r, st := updF T.st wn (if r.fl = true then (if D.tr ≤ T.fl wn + 1 then 3 else 0) else 2), fl := if r.fl = true then updF T.fl wn (T.fl wn + 1) else T.fl } by
            rw [HS1.out, endS1_end hb hto, hwn]; rfl)
          have hkk : T.k ≤ 1000064 := by have := HI.out.2.2.1; omega
          clear HS1 HBM hb t1 hT hTT kp1 kp2 kp3 hwn hto
          go_upto_region 3 with fail
          go_quiet (fail)
          go_upto_region 5 with fail
          refine wp_world (fun W5 hW5 => ?_)
          have H5 := Lib.hid (show SimG w0 aw cw am cm D ps gs gf gb b1 W5 { T with bz := updF T.bz m none } pb rv' ∧ Blk W5 (pb m) (runL r) by
            rw [hW5]
            exact ⟨(HT.out.past (below_drewN (Below.refl _ _) _)).setB HNE.out m, (HR.out.1.drewN _).far _ _ (by simp; have := HR.out.2.1; omega)⟩)
          clear hW5 s6 s3 sl b0 bl bf r3 rl HT
          have h := H5.out.1; have hr := H5.out.2
          have s7 := h.kS.c 7 _ rfl; have sl := h.kS.lt; have sf := h.kS.f; have r0 := hr.c 0 _ rfl; have r1 := hr.c 1 _ rfl; have r2 := hr.c 2 _ rfl; have r3 := hr.c 3 _ rfl; have r4 := hr.c 4 _ rfl; have rl := hr.lt
          have hbs := h.sz
          clear h hr
          go_region_law (refine step_append_lies _ rfl (.tmp 37) (.tmp 41) 24 rfl b1 36 i0 (.agg #[.int .i64 0, .int .i64 0, .int .i64 0, .int .i64 0, .bool false]) 5 40 Try.underlying24 hi0 hz0 hz1 hz2 rfl (by decide) rv' T.k (accL (fun i => runL (T.q i)) T.k) rfl (by first | exact H5.out.1.kR | exact own_past H5.out.1.kR (by (repeat (first | exact Below.refl _ _ | assumption | (refine Below.setCell ?_ (by first | (simp; done) | (simp; omega) | omega) _) | (refine Below.drew ?_) | (refine below_drewN ?_ _) | (refine Below.alloc ?_ (by first | (simp; done) | (simp; omega) | omega) _) | (refine Below.trans ?_ (Below.mono (by assumption) (by first | (simp; done) | (simp; omega) | omega))))))) ⟨W5.heap.size, 0, none⟩ 1 1 (runL r) rfl rfl (by intro j u hj; match j, hj with | 0, hj => (simp [runL] at hj; subst hj; simp [Addr.add]) | 1, hj => (simp [runL] at hj; subst hj; simp [Addr.add]) | 2, hj => (simp [runL] at hj; subst hj; simp [Addr.add]) | 3, hj => (simp [runL] at hj; subst hj; simp [Addr.add]) | 4, hj => (simp [runL] at hj; subst hj; simp [Addr.add])) (by intro u hu; simp [runL] at hu; rcases hu with rfl | rfl | rfl | rfl | rfl <;> rfl) (by decide) (by unfold maxLen; omega) (by omega) (by simp; omega) _ rfl ?_; intro gr cap W6 hown hgrow hat hlt; have HS6 := Lib.hid (SimG.app H5.out.1 HNE.out (by (repeat (first | exact Below.refl _ _ | assumption | (refine Below.setCell ?_ (by first | (simp; done) | (simp; omega) | omega) _) | (refine Below.drew ?_) | (refine below_drewN ?_ _) | (refine Below.alloc ?_ (by first | (simp; done) | (simp; omega) | omega) _) | (refine Below.trans ?_ (Below.mono (by assumption) (by first | (simp; done) | (simp; omega) | omega)))))) hgrow hown (hat.imp id (fun h => by rw [h]; simp))); have s7' := HS6.out.1.c 7 _ rfl; have sl' := HS6.out.1.lt; have sf' := HS6.out.1.f; clear hown hgrow hat)
          all_goals
            go_upto_region 6 with fail
            refine wp_world (fun W7 hW7 => ?_)
            have hpb := HR.out.2.1
            have H7 := Lib.hid (show SimG w0 aw cw am cm D ps gs gf gb b1 W7 { T with bz := updF T.bz m none, k := T.k + 1, q := updF T.q T.k r } pb (.slice (some ⟨gr, 0, none⟩) (T.k + 1) cap) ∧ Blk W7 (pb m) (runL r) by
              rw [hW7]
              exact ⟨HS6.out.2.2, HS6.out.2.1 _ _ H5.out.2 HR.out.2.2.1 (by omega)⟩)
            clear hW7 HS6 H5 s7 sl sf r0 r1 r2 r3 r4 rl s7' sl' sf' hbs
            have hwni : (wn : Int) < (D.nw : Int) := by omega
            have h := (H7.out).1; have hr := (H7.out).2
            have s2 := h.kS.c 2 _ rfl; have s4 := h.kS.c 4 _ rfl; have s5 := h.kS.c 5 _ rfl; have sl := h.kS.lt
            have t0 := h.kT.c wn hwn2; have tl := h.kT.lt; have tf := h.kT.f; have f0 := h.kF.c wn hwn2; have fl := h.kF.lt; have ff := h.kF.f
            have r0 := hr.c 0 _ rfl; have r4 := hr.c 4 _ rfl; have rl := hr.lt
            rw [HR.out.2.2.2.1] at r0
            clear h hr
            refine wp_region_loose 9 (fun _ _ _ => False) (by kernel_rfl) (by kernel_rfl) ?_
            simp only [List.take_succ_cons, List.take_zero, List.drop_succ_cons, List.drop_zero]
            iterate 9 (refine loose_wanted rfl (fun K hK => ?_); go_simp; refine hK _ ?_; clear hK K)
            refine loose_nil (fun w8 hb8 => ?_)
            have H8 := Lib.hid (And.intro (H7.out.1.past hb8) (H7.out.2.past hb8))
            clear s2 s4 s5 sl t0 tl tf f0 fl ff r0 r4 rl
            clear hb8 H7
            have h := (H8.out).1; have hr := (H8.out).2
            have s2 := h.kS.c 2 _ rfl; have s4 := h.kS.c 4 _ rfl; have s5 := h.kS.c 5 _ rfl; have sl := h.kS.lt
            have t0 := h.kT.c wn hwn2; have tl := h.kT.lt; have tf := h.kT.f; have f0 := h.kF.c wn hwn2; have fl := h.kF.lt; have ff := h.kF.f
            have r0 := hr.c 0 _ rfl; have r4 := hr.c 4 _ rfl; have rl := hr.lt
            rw [HR.out.2.2.2.1] at r0
            clear h hr
            go_upto_region 7 with fail
            refine wp_world (fun W9 hW9 => ?_)
            have H9 := Lib.hid (show SimG w0 aw cw am cm D ps gs gf gb b1 W9 { T with bz := updF T.bz m none, k := T.k + 1, q := updF T.q T.k r, st := updF T.st wn 2 } pb (.slice (some ⟨gr, 0, none⟩) (T.k + 1) cap) ∧ Blk W9 (pb m) (runL r) by
              rw [hW9]
              exact ⟨H8.out.1.setT HNE.out wn 2, H8.out.2.far _ _ (by simp; omega)⟩)
            clear s2 s4 s5 sl t0 tl tf f0 fl ff r0 r4 rl
            clear hW9 H8
            cases hrf : r.fl
            · rw [hrf] at HE
              have h := (H9.out).1; have hr := (H9.out).2
              have s2 := h.kS.c 2 _ rfl; have s4 := h.kS.c 4 _ rfl; have s5 := h.kS.c 5 _ rfl; have sl := h.kS.lt
              have t0 := h.kT.c wn hwn2; have tl := h.kT.lt; have tf := h.kT.f; have f0 := h.kF.c wn hwn2; have fl := h.kF.lt; have ff := h.kF.f
              have r0 := hr.c 0 _ rfl; have r4 := hr.c 4 _ rfl; have rl := hr.lt
              rw [HR.out.2.2.2.1] at r0
              clear h hr
              rw [hrf] at r4
              go_wp2_with fail
              go_roundw
              case rel => exact ⟨m + 1, by omega, by go_num, _, by rw [HE.out]; exact H9.out.1⟩
              case measure => simp [intOf]; omega
            · rw [hrf] at HE
              have hfb := HFL.out wn hwn2
              have hfi := HI.out.2.2.2 wn
              have h := (H9.out).1; have hr := (H9.out).2
              have s2 := h.kS.c 2 _ rfl; have s4 := h.kS.c 4 _ rfl; have s5 := h.kS.c 5 _ rfl; have sl := h.kS.lt
              have t0 := h.kT.c wn hwn2; have tl := h.kT.lt; have tf := h.kT.f; have f0 := h.kF.c wn hwn2; have fl := h.kF.lt; have ff := h.kF.f
              have r0 := hr.c 0 _ rfl; have r4 := hr.c 4 _ rfl; have rl := hr.lt
              rw [HR.out.2.2.2.1] at r0
              clear h hr
              rw [hrf] at r4
              simp only at f0
              obtain ⟨fw, hfw⟩ : ∃ fw, fw = T.fl wn := ⟨_, rfl⟩
              rw [← hfw] at f0 HE hfi
              have HEY := Lib.hid (show D.tr ≤ fw + 1 → endS D.tr S (m + 1) = { T with bz := updF T.bz m none, k := T.k + 1, q := updF T.q T.k r, st := updF T.st wn 3, fl := updF T.fl wn (fw + 1) } from fun h => by
                rw [HE.out]; simp only [h, ↓reduceIte])
              have HEN := Lib.hid (show ¬ D.tr ≤ fw + 1 → endS D.tr S (m + 1) = { T with bz := updF T.bz m none, k := T.k + 1, q := updF T.q T.k r, st := updF T.st wn 0, fl := updF T.fl wn (fw + 1) } from fun h => by
                rw [HE.out]; simp only [h, ↓reduceIte])
              clear HE
              have hwr : IntKind.i64.wrap (fw + 1) = fw + 1 := by rw [IntKind.wrap_i64]; omega
              go_upto_region 8 with fail
              refine wp_region_loose 12 (fun _ _ _ => False) (by kernel_rfl) (by kernel_rfl) ?_
              simp only [List.take_succ_cons, List.take_zero, List.drop_succ_cons, List.drop_zero]
              iterate 12 (refine loose_wanted rfl (fun K hK => ?_); go_simp; refine hK _ ?_; clear hK K)
              refine loose_nil (fun w10 hb10 => ?_)
              have H10 := Lib.hid (And.intro (H9.out.1.past hb10) (H9.out.2.past hb10))
              clear s2 s4 s5 sl t0 tl tf f0 fl ff r0 r4 rl
              clear hb10 H9
              have h := (H10.out).1; have hr := (H10.out).2
              have s2 := h.kS.c 2 _ rfl; have s4 := h.kS.c 4 _ rfl; have s5 := h.kS.c 5 _ rfl; have sl := h.kS.lt
              have t0 := h.kT.c wn hwn2; have tl := h.kT.lt; have tf := h.kT.f; have f0 := h.kF.c wn hwn2; have fl := h.kF.lt; have ff := h.kF.f
              have r0 := hr.c 0 _ rfl; have r4 := hr.c 4 _ rfl; have rl := hr.lt
              rw [HR.out.2.2.2.1] at r0
              clear h hr
              go_upto_region 9 with fail
              refine wp_world (fun W11 hW11 => ?_)
              have H11 := Lib.hid (show SimG w0 aw cw am cm D ps gs gf gb b1 W11 { T with bz := updF T.bz m none, k := T.k + 1, q := updF T.q T.k r, st := updF T.st wn 2, fl := updF T.fl wn (fw + 1) } pb (.slice (some ⟨gr, 0, none⟩) (T.k + 1) cap) ∧ Blk W11 (pb m) (runL r) by
                rw [hW11, ← hfw]
                exact ⟨H10.out.1.setF HNE.out wn (fw + 1), H10.out.2.far _ _ (by simp; omega)⟩)
              clear s2 s4 s5 sl t0 tl tf f0 fl ff r0 r4 rl
              clear hW11 H10
              have h := (H11.out).1; have hr := (H11.out).2
              have s2 := h.kS.c 2 _ rfl; have s4 := h.kS.c 4 _ rfl; have s5 := h.kS.c 5 _ rfl; have sl := h.kS.lt
              have t0 := h.kT.c wn hwn2; have tl := h.kT.lt; have tf := h.kT.f; have f0 := h.kF.c wn hwn2; have fl := h.kF.lt; have ff := h.kF.f
              have r0 := hr.c 0 _ rfl; have r4 := hr.c 4 _ rfl; have rl := hr.lt
              rw [HR.out.2.2.2.1] at r0
              clear h hr
              refine wp_region_loose 9 (fun _ _ _ => False) (by kernel_rfl) (by kernel_rfl) ?_
              simp only [List.take_succ_cons, List.take_zero, List.drop_succ_cons, List.drop_zero]
              iterate 9 (refine loose_wanted rfl (fun K hK => ?_); go_simp; refine hK _ ?_; clear hK K)
              refine loose_nil (fun w12 hb12 => ?_)
              have H12 := Lib.hid (And.intro (H11.out.1.past hb12) (H11.out.2.past hb12))
              clear s2 s4 s5 sl t0 tl tf f0 fl ff r0 r4 rl
              clear hb12 H11
              have h := (H12.out).1; have hr := (H12.out).2
              have s2 := h.kS.c 2 _ rfl; have s4 := h.kS.c 4 _ rfl; have s5 := h.kS.c 5 _ rfl; have sl := h.kS.lt
              have t0 := h.kT.c wn hwn2; have tl := h.kT.lt; have tf := h.kT.f; have f0 := h.kF.c wn hwn2; have fl := h.kF.lt; have ff := h.kF.f
              have r0 := hr.c 0 _ rfl; have r4 := hr.c 4 _ rfl; have rl := hr.lt
              rw [HR.out.2.2.2.1] at r0
              clear h hr
              go_upto_region 10 with fail
              refine wp_world (fun W13 hW13 => ?_)
              have H13 := Lib.hid (show SimG w0 aw cw am cm D ps gs gf gb b1 W13 { T with bz := updF T.bz m none, k := T.k + 1, q := updF T.q T.k r, st := updF T.st wn 0, fl := updF T.fl wn (fw + 1) } pb (.slice (some ⟨gr, 0, none⟩) (T.k + 1) cap) ∧ Blk W13 (pb m) (runL r) by
                rw [hW13]
                refine ⟨?_, H12.out.2.far _ _ (by simp; omega)⟩
                have h := H12.out.1.setT HNE.out wn 0
                simp only [updF_updF] at h
                exact h)
              clear s2 s4 s5 sl t0 tl tf f0 fl ff r0 r4 rl
              clear hW13 H12
              have h := (H13.out).1; have hr := (H13.out).2
              have s2 := h.kS.c 2 _ rfl; have s4 := h.kS.c 4 _ rfl; have s5 := h.kS.c 5 _ rfl; have sl := h.kS.lt
              have t0 := h.kT.c wn hwn2; have tl := h.kT.lt; have tf := h.kT.f; have f0 := h.kF.c wn hwn2; have fl := h.kF.lt; have ff := h.kF.f
              have r0 := hr.c 0 _ rfl; have r4 := hr.c 4 _ rfl; have rl := hr.lt
              rw [HR.out.2.2.2.1] at r0
              clear h hr
              rcases (show D.tr ≤ fw + 1 ∨ ¬ D.tr ≤ fw + 1 from Classical.em _) with htr | htr
              · simp only [updF_at] at f0
                refine wp_region_loose 14 (fun _ _ _ => False) (by kernel_rfl) (by kernel_rfl) ?_
                simp only [List.take_succ_cons, List.take_zero, List.drop_succ_cons, List.drop_zero]
                iterate 14 (refine loose_wanted rfl (fun K hK => ?_); go_simp; refine hK _ ?_; clear hK K)
                refine loose_nil (fun w14 hb14 => ?_)
                have H14 := Lib.hid (And.intro (H13.out.1.past hb14) (H13.out.2.past hb14))
                clear s2 s4 s5 sl t0 tl tf f0 fl ff r0 r4 rl
                clear hb14 H13
                have h := (H14.out).1; have hr := (H14.out).2
                have s2 := h.kS.c 2 _ rfl; have s4 := h.kS.c 4 _ rfl; have s5 := h.kS.c 5 _ rfl; have sl := h.kS.lt
                have t0 := h.kT.c wn hwn2; have tl := h.kT.lt; have tf := h.kT.f; have f0 := h.kF.c wn hwn2; have fl := h.kF.lt; have ff := h.kF.f
                have r0 := hr.c 0 _ rfl; have r4 := hr.c 4 _ rfl; have rl := hr.lt
                rw [HR.out.2.2.2.1] at r0
                clear h hr
                go_upto_region 11 with fail
                refine wp_region_loose 9 (fun _ _ _ => False) (by kernel_rfl) (by kernel_rfl) ?_
                simp only [List.take_succ_cons, List.take_zero, List.drop_succ_cons, List.drop_zero]
                iterate 9 (refine loose_wanted rfl (fun K hK => ?_); go_simp; refine hK _ ?_; clear hK K)
                refine loose_nil (fun w15 hb15 => ?_)
                have H15 := Lib.hid (And.intro (H14.out.1.past hb15) (H14.out.2.past hb15))
                clear s2 s4 s5 sl t0 tl tf f0 fl ff r0 r4 rl
                clear hb15 H14
                have h := (H15.out).1; have hr := (H15.out).2
                have s2 := h.kS.c 2 _ rfl; have s4 := h.kS.c 4 _ rfl; have s5 := h.kS.c 5 _ rfl; have sl := h.kS.lt
                have t0 := h.kT.c wn hwn2; have tl := h.kT.lt; have tf := h.kT.f; have f0 := h.kF.c wn hwn2; have fl := h.kF.lt; have ff := h.kF.f
                have r0 := hr.c 0 _ rfl; have r4 := hr.c 4 _ rfl; have rl := hr.lt
                rw [HR.out.2.2.2.1] at r0
                clear h hr
                go_wp2_with fail
                go_roundw
                case rel =>
                  have h := H15.out.1.setT HNE.out wn 3
                  simp only [updF_updF] at h
                  exact ⟨m + 1, by omega, by go_num, .slice (some ⟨gr, 0, none⟩) (T.k + 1) cap, by rw [HEY.out htr]; exact h⟩
                case measure => simp [intOf]; omega
              · simp only [updF_at] at f0
                refine wp_region_loose 14 (fun _ _ _ => False) (by kernel_rfl) (by kernel_rfl) ?_
                simp only [List.take_succ_cons, List.take_zero, List.drop_succ_cons, List.drop_zero]
                iterate 14 (refine loose_wanted rfl (fun K hK => ?_); go_simp; refine hK _ ?_; clear hK K)
                refine loose_nil (fun w14 hb14 => ?_)
                have H14 := Lib.hid (And.intro (H13.out.1.past hb14) (H13.out.2.past hb14))
                clear s2 s4 s5 sl t0 tl tf f0 fl ff r0 r4 rl
                clear hb14 H13
                have h := (H14.out).1; have hr := (H14.out).2
                have s2 := h.kS.c 2 _ rfl; have s4 := h.kS.c 4 _ rfl; have s5 := h.kS.c 5 _ rfl; have sl := h.kS.lt
                have t0 := h.kT.c wn hwn2; have tl := h.kT.lt; have tf := h.kT.f; have f0 := h.kF.c wn hwn2; have fl := h.kF.lt; have ff := h.kF.f
                have r0 := hr.c 0 _ rfl; have r4 := hr.c 4 _ rfl; have rl := hr.lt
                rw [HR.out.2.2.2.1] at r0
                clear h hr
                go_wp2_with fail
                go_roundw
                case rel =>
                  exact ⟨m + 1, by omega, by go_num, .slice (some ⟨gr, 0, none⟩) (T.k + 1) cap, by rw [HEN.out htr]; exact H14.out.1⟩
                case measure => simp [intOf]; omega
        · have hr3 : (r.to != T.now) = true := by simpa using hto
          have HE := Lib.hid (show endS D.tr S (m + 1) = T by rw [HS1.out, endS1_keep (fun r' h => by rw [hb] at h; injection h with h; rw [← h]; exact hto)])
          clear HS1 HBM hb t1 hT hTT kp1 kp2 kp3 hwn hto
          go_upto_region 3 with fail
          go_quiet (fail)
          go_wp2_with fail
          go_roundw
          case rel => exact ⟨m + 1, by omega, by go_num, rv', by rw [HE.out]; exact HT.out.past (below_drewN (Below.refl _ _) _)⟩
          case measure => simp [intOf]; omega
    · have hini : ¬ (m : Int) < (D.nm : Int) := by omega
      have hie : m = D.nm := by omega
      rw [hie] at hTT
      clear hT hie
      go_wp2_with fail
      go_end0
      exact ⟨rfl, rv', by rw [← hTT]; exact HT.out⟩
end
end Go.Proofs.Ytkadinjhfldokaa
