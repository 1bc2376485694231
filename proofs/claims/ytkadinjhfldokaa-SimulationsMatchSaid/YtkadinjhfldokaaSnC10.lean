/- Work on machines, the document's: block 10 of dyelaw2.simulated. Conditions: what the theorem names. -/
import Derived.Test.YtkadinjhfldokaaSZ
import Derived.Deep.CutBlock
namespace Go.Proofs.Ytkadinjhfldokaa
open Go Go.RowKit
section
variable {aw : Option Addr} {cw : Nat} {am : Option Addr} {cm : Nat} {D : SimD} {w : World} {pm pd gd go gf gr gb b1 : Nat}
set_option maxRecDepth 100000 in
set_option maxHeartbeats 12800000 in
theorem simB10 (HW : Hid (IsWorks w aw D.nw cw D.W ∧ IsMachines w am D.nm cm D.M ∧ GoodD D)) (HNE : Hid (NeD w pm pd gd go gf gr gb b1)) {T2 : DocS} {pt : Nat} {rv2 : Value} {V7 : World} {x : Int} (hG : DocG w am cm D pm pd gd go gf gr gb b1 V7 T2 pt rv2) (HB2 : Hid (DocB D T2))
    {K : Act → World → Prop} {Q : Exit → Act → World → Prop} {l : List Value} (hA : AtS aw cw am cm D pm pd go gf gr gb rv2 pt l) (y19 : l[19]? = some (.int .i64 x)) (y20 : l[20]? = some (.int .i64 (-1))) (y168 : l[168]? = some (.slice am D.nm cm)) (y169 : l[169]? = some (.int .i64 D.nm)) (y170 : l[170]? = some (.int .i64 0))
    (_hK : ∀ a' w', Met (fun a wx => ∃ (l : List Value), a = ⟨l.toArray, []⟩ ∧ AtS aw cw am cm D pm pd go gf gr gb rv2 pt l ∧ l[19]? = some (.int .i64 x) ∧ l[20]? = some (.int .i64 (docM D T2 D.nm)) ∧ Below V7.heap.size V7 wx) a' w' → K a' w') : (blkOf Try.f15 10).wp Try.prog (Exit.then K Q) ⟨l.toArray, []⟩ V7 := by
  have hn1 : D.nw ≤ 2000 := HW.out.2.2.work.1
  have hn2 : D.nm ≤ 64 := HW.out.2.2.mach.1.2
  have _hNE := HNE
  obtain ⟨us, rfl⟩ := hA.out
  have z19 : us 19 = .int .i64 x := Option.some.inj y19
  have z20 : us 20 = .int .i64 (-1) := Option.some.inj y20
  have z168 : us 168 = .slice am D.nm cm := Option.some.inj y168
  have z169 : us 169 = .int .i64 D.nm := Option.some.inj y169
  have z170 : us 170 = .int .i64 0 := Option.some.inj y170
  rw [z19, z20, z168, z169, z170]
  clear hA y19 z19 y20 z20 y168 z168 y169 z169 y170 z170
  have HGI := Lib.hid (And.intro hG True.intro)
  have HX := Lib.hid (And.intro True.intro (Below.refl V7.heap.size V7))
  clear hG
  conv => { enter [2]; whnf }
  go_wp2_with fail
  go_loopw [20, 170] (fun s20 s170 wr => ∃ i : Nat, i ≤ D.nm ∧ s170 = .int .i64 i ∧ s20 = .int .i64 (docM D T2 i) ∧ Below V7.heap.size V7 wr) (fun _ s170 _ => D.nm - (intOf s170).toNat)
  case atStart => exact ⟨0, Nat.zero_le _, rfl, rfl, Below.refl _ _⟩
  case round =>
    obtain ⟨i, hi, rfl, rfl, hq⟩ := hrel
    have HQ := Lib.hid hq
    have HB := Lib.hid (show docM D T2 (i + 1) = if docFree D T2 i = true ∧ (docM D T2 i < 0 ∨ (D.M (docM D T2 i).toNat).sp < (D.M i).sp) then (i : Int) else docM D T2 i from rfl)
    have HBI := Lib.hid (docM_in D T2 i)
    have HRB := Lib.hid (show docFree D T2 i = (decide (T2.rn i < 0) && !downB (D.M i) T2.t) from rfl)
    obtain ⟨bb, hbb⟩ : ∃ bb, bb = docM D T2 i := ⟨_, rfl⟩
    rw [← hbb] at HB HBI ⊢
    by_cases hin : i < D.nm
    · have hini : (i : Int) < (D.nm : Int) := by omega
      have hG := (HGI.out.1.past HX.out.2).past hq
      have hMw := HW.out.2.1.below hG.bel
      have hcw : D.nm ≤ cm := hMw.1
      have hcw2 : cm ≤ 9223372036854775807 := by have := hMw.2.1; unfold maxLen at this; omega
      have HDA := Lib.hid (fun (wy : World) (hy : Below wr.heap.size wr wy) => down_any i pm T2.t wy (HW.out.2.1.below (hG.past hy).bel) hin hn2 (hG.past hy).kM)
      obtain ⟨b, off, hab, hc⟩ := hMw.2.2 (by omega)
      have hw := hc i hin
      have HRK := Lib.hid (fun (j : Nat) hj => (hc j hj).1 : ∀ j : Nat, j < D.nm → wr.cell? ⟨b, off + j * 2, none⟩ = some (.int .i64 (D.M j).sp))
      obtain ⟨dw, hdw⟩ : ∃ dw, dw = downB (D.M i) T2.t := ⟨_, rfl⟩
      rw [← hdw] at HDA HRB
      have c0 := hw.1
      obtain ⟨sp, hsp⟩ : ∃ sp, sp = (D.M i).sp := ⟨_, rfl⟩
      rw [← hsp] at c0 HB
      have l0 := cell_lt c0; simp only at l0
      have r0 := hG.vR.c i hin; have rl := hG.vR.lt
      have m0 := hG.kM.c 0 _ rfl; have ml := hG.kM.lt
      have t0 := hG.kT.c 0 _ rfl; have tl := hG.kT.lt
      have UA := HDA
      have hent : ∀ args w, (callFunc 27 args).run Try.prog w = .ok (.enter 27 args) w := fun _ _ => by kernel_rfl
      clear hG hMw hc hw hdw hsp hbb hq HDA
      subst hab
      rcases HB2.out.rn i hin with e | ⟨j, e1, -⟩
      · rw [e] at r0
        cases dw with
        | true =>
          have HE := Lib.hid (show docM D T2 (i + 1) = bb by rw [HB.out, HRB.out]; simp)
          clear HB HRB e HBI
          go_upto_region 37 with fail
          refine wp_region_loose 28 (fun _ _ u => u = .bool true) (by kernel_rfl) (by kernel_rfl) ?_
          simp only [List.take_succ_cons, List.take_zero, List.drop_succ_cons, List.drop_zero]
          iterate 6 (refine loose_wanted rfl (fun K hK => ?_); go_simp; refine hK _ ?_; clear hK K)
          iterate 3 (with_reducible refine loose_wanted ?_ (fun K hK => ?_); kernel_rfl; go_simp; (with_reducible refine hK _ ?_); clear hK K)
          with_reducible refine loose_wanted ?_ (fun K1 hK => ?_)
          kernel_rfl
          go_simp
          refine ⟨fun p => (UA.out p.w p.h).mono ?_, hK _ ?_⟩
          · rintro e w' ⟨rfl, hb⟩
            exact ⟨_, rfl, by first | rfl | (simp; done), p.h.trans (hb.mono p.h.size)⟩
          clear hK K1
          iterate 1 (with_reducible refine loose_wanted ?_ (fun K hK => ?_); kernel_rfl; go_simp; (with_reducible refine hK _ ?_); clear hK K)
          iterate 2 (refine loose_wanted rfl (fun K hK => ?_); go_simp; refine hK _ ?_; clear hK K)
          iterate 15 (with_reducible refine loose_skip ?_ ?_; kernel_rfl)
          refine loose_nil (fun w7 hb7 => ?_)
          have HQ7 := Lib.hid (HQ.out.trans (hb7.mono HQ.out.size))
          clear hb7 r0 rl m0 ml t0 tl c0 l0 UA
          go_wp2_with fail
          go_roundw
          case rel => exact ⟨i + 1, by omega, by go_num, by rw [HE.out], HQ7.out⟩
          case measure => simp [intOf]; omega
        | false =>
          have HR1 := Lib.hid (show docFree D T2 i = true by rw [HRB.out, e]; rfl)
          clear HRB e
          rcases HBI.out with hbn | ⟨w1, hb1, hb2, -⟩
          · have hlt : bb < 0 := by omega
            have hd : decide (bb < 0) = true := decide_eq_true hlt
            have HE := Lib.hid (show docM D T2 (i + 1) = (i : Int) by rw [HB.out, if_pos ⟨HR1.out, .inl hlt⟩])
            clear HB HR1 HBI
            subst hbn
            go_upto_region 37 with fail
            refine wp_region_loose 28 (fun _ _ u => u = .bool false) (by kernel_rfl) (by kernel_rfl) ?_
            simp only [List.take_succ_cons, List.take_zero, List.drop_succ_cons, List.drop_zero]
            iterate 6 (refine loose_wanted rfl (fun K hK => ?_); go_simp; refine hK _ ?_; clear hK K)
            iterate 3 (with_reducible refine loose_wanted ?_ (fun K hK => ?_); kernel_rfl; go_simp; (with_reducible refine hK _ ?_); clear hK K)
            with_reducible refine loose_wanted ?_ (fun K1 hK => ?_)
            kernel_rfl
            go_simp
            refine ⟨fun p => (UA.out p.w p.h).mono ?_, hK _ ?_⟩
            · rintro e w' ⟨rfl, hb⟩
              exact ⟨_, rfl, by first | rfl | (simp; done), p.h.trans (hb.mono p.h.size)⟩
            clear hK K1
            iterate 1 (with_reducible refine loose_wanted ?_ (fun K hK => ?_); kernel_rfl; go_simp; (with_reducible refine hK _ ?_); clear hK K)
            iterate 2 (refine loose_wanted rfl (fun K hK => ?_); go_simp; refine hK _ ?_; clear hK K)
            iterate 3 (with_reducible refine loose_wanted ?_ (fun K hK => ?_); kernel_rfl; go_simp; (with_reducible refine hK _ ?_); clear hK K)
            iterate 11 (with_reducible refine loose_skip ?_ ?_; kernel_rfl)
            iterate 1 (with_reducible refine loose_wanted ?_ (fun K hK => ?_); kernel_rfl; go_simp; (with_reducible refine hK _ ?_); clear hK K)
            refine loose_nil (fun w7 hb7 => ?_)
            have HQ7 := Lib.hid (HQ.out.trans (hb7.mono HQ.out.size))
            clear hb7 r0 rl m0 ml t0 tl c0 l0 UA
            go_wp2_with fail
            go_roundw
            case rel => exact ⟨i + 1, by omega, by go_num, by rw [HE.out], HQ7.out⟩
            case measure => simp [intOf]; omega
          · subst hb1
            have hlt : ¬ (w1 : Int) < 0 := by omega
            have hd : decide ((w1 : Int) < 0) = false := decide_eq_false hlt
            have s0 := HRK.out w1 (by omega)
            have sl := cell_lt s0; simp only at sl
            have hw1n : (w1 : Int) < (D.nm : Int) := by omega
            have HB' := Lib.hid (show docM D T2 (i + 1) = if (D.M w1).sp < sp then (i : Int) else (w1 : Int) by
              rw [HB.out]
              have : ((w1 : Int)).toNat = w1 := by omega
              rw [this]
              by_cases hr : (D.M w1).sp < sp
              · rw [if_pos ⟨HR1.out, .inr hr⟩, if_pos hr]
              · rw [if_neg (fun h => h.2.elim hlt hr), if_neg hr])
            generalize (D.M w1).sp = rk at *
            clear HB HR1 HBI
            by_cases hr : rk < sp
            · have hd1 : decide (rk < sp) = true := decide_eq_true hr
              have HE := Lib.hid (show docM D T2 (i + 1) = (i : Int) by rw [HB'.out, if_pos hr])
              clear HB'
              go_upto_region 37 with fail
              refine wp_region_loose 28 (fun _ _ u => u = .bool false) (by kernel_rfl) (by kernel_rfl) ?_
              simp only [List.take_succ_cons, List.take_zero, List.drop_succ_cons, List.drop_zero]
              iterate 6 (refine loose_wanted rfl (fun K hK => ?_); go_simp; refine hK _ ?_; clear hK K)
              iterate 3 (with_reducible refine loose_wanted ?_ (fun K hK => ?_); kernel_rfl; go_simp; (with_reducible refine hK _ ?_); clear hK K)
              with_reducible refine loose_wanted ?_ (fun K1 hK => ?_)
              kernel_rfl
              go_simp
              refine ⟨fun p => (UA.out p.w p.h).mono ?_, hK _ ?_⟩
              · rintro e w' ⟨rfl, hb⟩
                exact ⟨_, rfl, by first | rfl | (simp; done), p.h.trans (hb.mono p.h.size)⟩
              clear hK K1
              iterate 1 (with_reducible refine loose_wanted ?_ (fun K hK => ?_); kernel_rfl; go_simp; (with_reducible refine hK _ ?_); clear hK K)
              iterate 2 (refine loose_wanted rfl (fun K hK => ?_); go_simp; refine hK _ ?_; clear hK K)
              iterate 15 (with_reducible refine loose_wanted ?_ (fun K hK => ?_); kernel_rfl; go_simp; (with_reducible refine hK _ ?_); clear hK K)
              refine loose_nil (fun w7 hb7 => ?_)
              have HQ7 := Lib.hid (HQ.out.trans (hb7.mono HQ.out.size))
              clear hb7 r0 rl m0 ml t0 tl c0 l0 UA
              go_wp2_with fail
              go_roundw
              case rel => exact ⟨i + 1, by omega, by go_num, by rw [HE.out], HQ7.out⟩
              case measure => simp [intOf]; omega
            · have hd1 : decide (rk < sp) = false := decide_eq_false hr
              have HE := Lib.hid (show docM D T2 (i + 1) = (w1 : Int) by rw [HB'.out, if_neg hr])
              clear HB'
              go_upto_region 37 with fail
              refine wp_region_loose 28 (fun _ _ u => u = .bool false) (by kernel_rfl) (by kernel_rfl) ?_
              simp only [List.take_succ_cons, List.take_zero, List.drop_succ_cons, List.drop_zero]
              iterate 6 (refine loose_wanted rfl (fun K hK => ?_); go_simp; refine hK _ ?_; clear hK K)
              iterate 3 (with_reducible refine loose_wanted ?_ (fun K hK => ?_); kernel_rfl; go_simp; (with_reducible refine hK _ ?_); clear hK K)
              with_reducible refine loose_wanted ?_ (fun K1 hK => ?_)
              kernel_rfl
              go_simp
              refine ⟨fun p => (UA.out p.w p.h).mono ?_, hK _ ?_⟩
              · rintro e w' ⟨rfl, hb⟩
                exact ⟨_, rfl, by first | rfl | (simp; done), p.h.trans (hb.mono p.h.size)⟩
              clear hK K1
              iterate 1 (with_reducible refine loose_wanted ?_ (fun K hK => ?_); kernel_rfl; go_simp; (with_reducible refine hK _ ?_); clear hK K)
              iterate 2 (refine loose_wanted rfl (fun K hK => ?_); go_simp; refine hK _ ?_; clear hK K)
              iterate 15 (with_reducible refine loose_wanted ?_ (fun K hK => ?_); kernel_rfl; go_simp; (with_reducible refine hK _ ?_); clear hK K)
              refine loose_nil (fun w7 hb7 => ?_)
              have HQ7 := Lib.hid (HQ.out.trans (hb7.mono HQ.out.size))
              clear hb7 r0 rl m0 ml t0 tl c0 l0 UA
              go_wp2_with fail
              go_roundw
              case rel => exact ⟨i + 1, by omega, by go_num, by rw [HE.out], HQ7.out⟩
              case measure => simp [intOf]; omega
      · rw [e1] at r0
        have hji : decide ((j : Int) < 0) = false := decide_eq_false (by omega)
        have hjn : ¬ (j : Int) < 0 := by omega
        have HE := Lib.hid (show docM D T2 (i + 1) = bb by rw [HB.out, HRB.out, e1, hji]; simp)
        clear HB HRB e1 HBI
        go_upto_region 37 with fail
        refine wp_region_loose 28 (fun _ _ u => u = .bool dw) (by kernel_rfl) (by kernel_rfl) ?_
        simp only [List.take_succ_cons, List.take_zero, List.drop_succ_cons, List.drop_zero]
        iterate 6 (refine loose_wanted rfl (fun K hK => ?_); go_simp; refine hK _ ?_; clear hK K)
        iterate 5 (with_reducible refine loose_skip ?_ ?_; kernel_rfl)
        iterate 2 (refine loose_wanted rfl (fun K hK => ?_); go_simp; refine hK _ ?_; clear hK K)
        iterate 15 (with_reducible refine loose_skip ?_ ?_; kernel_rfl)
        refine loose_nil (fun w7 hb7 => ?_)
        have HQ7 := Lib.hid (HQ.out.trans (hb7.mono HQ.out.size))
        clear hb7 r0 rl m0 ml t0 tl c0 l0 UA
        go_wp2_with fail
        go_roundw
        case rel => exact ⟨i + 1, by omega, by go_num, by rw [HE.out], HQ7.out⟩
        case measure => simp [intOf]; omega
    · have hini : ¬ (i : Int) < (D.nm : Int) := by omega
      have hie : i = D.nm := by omega
      have HE := Lib.hid (show bb = docM D T2 D.nm by rw [hbb, ← hie])
      clear hq hie hbb
      go_wp2_with fail
      refine Met.intro ?_
      exact ⟨_, rfl, ⟨rfl, rfl, rfl, rfl, rfl, rfl, rfl, rfl, rfl, rfl, rfl, rfl, rfl⟩, rfl, by rw [← HE.out]; rfl, HQ.out⟩
end
end Go.Proofs.Ytkadinjhfldokaa
