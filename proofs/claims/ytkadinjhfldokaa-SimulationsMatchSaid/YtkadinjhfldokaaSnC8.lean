/- Work on machines, the document's: block 8 of dyelaw2.simulated. Conditions: what the theorem names. -/
import Derived.Test.YtkadinjhfldokaaSZ
import Derived.Deep.CutBlock
namespace Go.Proofs.Ytkadinjhfldokaa
open Go Go.RowKit
section
variable {aw : Option Addr} {cw : Nat} {am : Option Addr} {cm : Nat} {D : SimD} {w : World} {pm pd gd go gf gr gb b1 : Nat}
set_option maxRecDepth 100000 in
set_option maxHeartbeats 12800000 in
theorem simB8 (HW : Hid (IsWorks w aw D.nw cw D.W ∧ IsMachines w am D.nm cm D.M ∧ GoodD D)) (HNE : Hid (NeD w pm pd gd go gf gr gb b1)) {T2 : DocS} {pt : Nat} {rv2 : Value} {V : World} (hG : DocG w am cm D pm pd gd go gf gr gb b1 V T2 pt rv2)
    {K : Act → World → Prop} {Q : Exit → Act → World → Prop} {l : List Value} (hA : AtS aw cw am cm D pm pd go gf gr gb rv2 pt l) (y19 : l[19]? = some (.int .i64 (-1))) (y20 : l[20]? = some (.int .i64 (-1))) (y118 : l[118]? = some (.slice aw D.nw cw)) (y119 : l[119]? = some (.int .i64 D.nw)) (y120 : l[120]? = some (.int .i64 0))
    (_hK : ∀ a' w', Met (fun a wx => ∃ (l : List Value), a = ⟨l.toArray, []⟩ ∧ AtS aw cw am cm D pm pd go gf gr gb rv2 pt l ∧ l[20]? = some (.int .i64 (-1)) ∧ l[19]? = some (.int .i64 (docW D T2 D.nw)) ∧ Below V.heap.size V wx) a' w' → K a' w') : (blkOf Try.f15 8).wp Try.prog (Exit.then K Q) ⟨l.toArray, []⟩ V := by
  have hn1 : D.nw ≤ 2000 := HW.out.2.2.work.1
  have hn2 : D.nm ≤ 64 := HW.out.2.2.mach.1.2
  have _hNE := HNE
  obtain ⟨us, rfl⟩ := hA.out
  have z19 : us 19 = .int .i64 (-1) := Option.some.inj y19
  have z20 : us 20 = .int .i64 (-1) := Option.some.inj y20
  have z118 : us 118 = .slice aw D.nw cw := Option.some.inj y118
  have z119 : us 119 = .int .i64 D.nw := Option.some.inj y119
  have z120 : us 120 = .int .i64 0 := Option.some.inj y120
  rw [z19, z20, z118, z119, z120]
  clear hA y19 z19 y20 z20 y118 z118 y119 z119 y120 z120
  have HGI := Lib.hid (And.intro hG True.intro)
  clear hG
  conv => { enter [2]; whnf }
  go_wp2_with fail
  have hent : ∀ args w, (callFunc 31 args).run Try.prog w = .ok (.enter 31 args) w := fun _ _ => by kernel_rfl
  have HENT := Lib.hid hent
  clear hent
  go_loopw [19, 120] (fun s19 s120 wr => ∃ i : Nat, i ≤ D.nw ∧ s120 = .int .i64 i ∧ s19 = .int .i64 (docW D T2 i) ∧ Below V.heap.size V wr) (fun _ s120 _ => D.nw - (intOf s120).toNat)
  case atStart => exact ⟨0, Nat.zero_le _, rfl, rfl, Below.refl _ _⟩
  case round =>
    obtain ⟨i, hi, rfl, rfl, hq⟩ := hrel
    have HQ := Lib.hid hq
    have HB := Lib.hid (show docW D T2 (i + 1) = if docReady D T2 i = true ∧ (docW D T2 i < 0 ∨ (D.W (docW D T2 i).toNat).rank < (D.W i).rank) then (i : Int) else docW D T2 i from rfl)
    have HBI := Lib.hid (docW_in D T2 i)
    have HRB := Lib.hid (show docReady D T2 i = (((!T2.dn i && !T2.ov i) && !T2.bs i) && !anyP (fun j => !T2.dn ((D.W i).az j).toNat) (D.W i).an) from rfl)
    obtain ⟨bb, hbb⟩ : ∃ bb, bb = docW D T2 i := ⟨_, rfl⟩
    rw [← hbb] at HB HBI ⊢
    by_cases hin : i < D.nw
    · have hini : (i : Int) < (D.nw : Int) := by omega
      have hG := HGI.out.1.past hq
      have hWw := HW.out.1.below hG.bel
      have hcw : D.nw ≤ cw := hWw.1
      have hcw2 : cw ≤ 9223372036854775807 := by have := hWw.2.1; unfold maxLen at this; omega
      obtain ⟨b, off, hab, hc⟩ := hWw.2.2 (by omega)
      have hw := hc i hin
      have hgi := HW.out.2.2.work.2 i hin
      have HRK := Lib.hid (fun (j : Nat) hj => (hc j hj).2.1 : ∀ j : Nat, j < D.nw → wr.cell? ⟨b, off + j * 3 + 1, none⟩ = some (.int .i64 (D.W j).rank))
      obtain ⟨K, hK⟩ : ∃ K, K = D.W i := ⟨_, rfl⟩
      rw [← hK] at hw HB HRB hgi
      obtain ⟨co, ra, aa, an, ac, az⟩ := K
      have c0 := hw.1; have c1 := hw.2.1; have c2 := hw.2.2.1
      simp only at c0 c1 c2 HB HRB hgi
      have l0 := cell_lt c0; simp only at l0
      have HI := Lib.hid (show InI wr aa an ac az from hw.2.2.2.2.2)
      have HGZ := Lib.hid hgi
      have d0 := hG.vD.c i hin; have dl := hG.vD.lt; have o0 := hG.vO.c i hin; have ol := hG.vO.lt; have q0 := hG.vB.c i hin; have ql := hG.vB.lt
      have p0 := hG.kD.c 0 _ rfl; have pl := hG.kD.lt
      have HGG2 := Lib.hid hG
      obtain ⟨vd, hvd⟩ : ∃ vd, vd = T2.dn i := ⟨_, rfl⟩
      obtain ⟨vo, hvo⟩ : ∃ vo, vo = T2.ov i := ⟨_, rfl⟩
      obtain ⟨vb, hvb⟩ : ∃ vb, vb = T2.bs i := ⟨_, rfl⟩
      rw [← hvd] at d0 HRB
      rw [← hvo] at o0 HRB
      rw [← hvb] at q0 HRB
      clear hG hWw hc hw hK hgi hvd hvo hvb hbb hq
      subst hab
      cases vd with
      | true =>
        have HE := Lib.hid (show docW D T2 (i + 1) = bb by rw [HB.out, HRB.out]; simp)
        clear HB HRB
        go_upto_region 31 with fail
        go_quiet (fail)
        go_wp2_with fail
        go_roundw
        case rel => exact ⟨i + 1, by omega, by go_num, by rw [HE.out], HQ.out.trans (Below.mono (below_drewN (by (repeat (first | exact Below.refl _ _ | assumption | (refine Below.setCell ?_ (by first | (simp; done) | (simp; omega) | omega) _) | (refine Below.drew ?_) | (refine below_drewN ?_ _) | (refine Below.alloc ?_ (by first | (simp; done) | (simp; omega) | omega) _) | (refine Below.trans ?_ (Below.mono (by assumption) (by first | (simp; done) | (simp; omega) | omega)))))) _) HQ.out.size)⟩
        case measure => simp [intOf]; omega
      | false =>
        cases vo with
        | true =>
          have HE := Lib.hid (show docW D T2 (i + 1) = bb by rw [HB.out, HRB.out]; simp)
          clear HB HRB
          go_upto_region 31 with fail
          go_quiet (fail)
          go_wp2_with fail
          go_roundw
          case rel => exact ⟨i + 1, by omega, by go_num, by rw [HE.out], HQ.out.trans (Below.mono (below_drewN (by (repeat (first | exact Below.refl _ _ | assumption | (refine Below.setCell ?_ (by first | (simp; done) | (simp; omega) | omega) _) | (refine Below.drew ?_) | (refine below_drewN ?_ _) | (refine Below.alloc ?_ (by first | (simp; done) | (simp; omega) | omega) _) | (refine Below.trans ?_ (Below.mono (by assumption) (by first | (simp; done) | (simp; omega) | omega)))))) _) HQ.out.size)⟩
          case measure => simp [intOf]; omega
        | false =>
          cases vb with
          | true =>
            have HE := Lib.hid (show docW D T2 (i + 1) = bb by rw [HB.out, HRB.out]; simp)
            clear HB HRB
            go_upto_region 31 with fail
            go_quiet (fail)
            go_wp2_with fail
            go_roundw
            case rel => exact ⟨i + 1, by omega, by go_num, by rw [HE.out], HQ.out.trans (Below.mono (below_drewN (by (repeat (first | exact Below.refl _ _ | assumption | (refine Below.setCell ?_ (by first | (simp; done) | (simp; omega) | omega) _) | (refine Below.drew ?_) | (refine below_drewN ?_ _) | (refine Below.alloc ?_ (by first | (simp; done) | (simp; omega) | omega) _) | (refine Below.trans ?_ (Below.mono (by assumption) (by first | (simp; done) | (simp; omega) | omega)))))) _) HQ.out.size)⟩
            case measure => simp [intOf]; omega
          | false =>
            have HCF := Lib.hid (fun wy (hy : Below wr.heap.size wr wy) => ContainsFI 31 #[.pointer (some ⟨pd, 0, none⟩)] aa an ac az (fun j => !T2.dn (az j).toNat) wy (HI.out.below hy) HENT.out (fun j wz hj hz => by
              obtain ⟨z1, z2⟩ := HGZ.out.2.2.2 j hj
              have hz3 : (((az j).toNat : Nat) : Int) = az j := by omega
              have hh := HGG2.out.past (hy.trans (hz.mono hy.size))
              have := notDone_any (az j).toNat pd gd D.nw T2.dn wz hh.kD hh.vD (by omega) hn1
              rw [hz3] at this
              exact this))
            obtain ⟨ct, hct⟩ : ∃ ct, ct = anyP (fun j => !T2.dn (az j).toNat) an := ⟨_, rfl⟩
            rw [← hct] at HCF HRB
            clear hct
            cases ct with
            | true =>
              have HE := Lib.hid (show docW D T2 (i + 1) = bb by rw [HB.out, HRB.out]; simp)
              clear HB HRB
              go_upto_region 31 with (go_at_call 30; refine (HCF.out _ (by (repeat (first | exact Below.refl _ _ | assumption | (refine Below.setCell ?_ (by first | (simp; done) | (simp; omega) | omega) _) | (refine Below.drew ?_) | (refine below_drewN ?_ _) | (refine Below.alloc ?_ (by first | (simp; done) | (simp; omega) | omega) _) | (refine Below.trans ?_ (Below.mono (by assumption) (by first | (simp; done) | (simp; omega) | omega))))))).mono ?_; rintro e w5 ⟨rfl, hb5⟩; have HB5 := Lib.hid hb5; clear hb5)
              go_quiet (fail)
              go_wp2_with fail
              go_roundw
              case rel =>
                have hb5 := HB5.out
                exact ⟨i + 1, by omega, by go_num, by rw [HE.out], HQ.out.trans (Below.mono (below_drewN (Below.trans (by (repeat (first | exact Below.refl _ _ | assumption | (refine Below.setCell ?_ (by first | (simp; done) | (simp; omega) | omega) _) | (refine Below.drew ?_) | (refine below_drewN ?_ _) | (refine Below.alloc ?_ (by first | (simp; done) | (simp; omega) | omega) _) | (refine Below.trans ?_ (Below.mono (by assumption) (by first | (simp; done) | (simp; omega) | omega)))))) (hb5.mono (by simp))) _) HQ.out.size)⟩
              case measure => simp [intOf]; omega
            | false =>
              have HR0 := Lib.hid (show docReady D T2 i = true by rw [HRB.out]; rfl)
              clear HRB
              go_upto_region 31 with (go_at_call 30; refine (HCF.out _ (by (repeat (first | exact Below.refl _ _ | assumption | (refine Below.setCell ?_ (by first | (simp; done) | (simp; omega) | omega) _) | (refine Below.drew ?_) | (refine below_drewN ?_ _) | (refine Below.alloc ?_ (by first | (simp; done) | (simp; omega) | omega) _) | (refine Below.trans ?_ (Below.mono (by assumption) (by first | (simp; done) | (simp; omega) | omega))))))).mono ?_; rintro e w5 ⟨rfl, hb5⟩; have HB5 := Lib.hid hb5; clear hb5)
              have BW : Below wr.heap.size wr w5 := Below.trans (by (repeat (first | exact Below.refl _ _ | assumption | (refine Below.setCell ?_ (by first | (simp; done) | (simp; omega) | omega) _) | (refine Below.drew ?_) | (refine below_drewN ?_ _) | (refine Below.alloc ?_ (by first | (simp; done) | (simp; omega) | omega) _) | (refine Below.trans ?_ (Below.mono (by assumption) (by first | (simp; done) | (simp; omega) | omega)))))) (HB5.out.mono (by simp))
              have N5 : Blk w5 wr.heap.size [.int .i64 co, .int .i64 ra, .slice aa an ac] := (Blk.new _ _ _ _ rfl).past HB5.out
              have HQ5 := Lib.hid (HQ.out.trans (BW.mono HQ.out.size))
              have HRK5 := Lib.hid (fun j hj => (BW.cell (p := ⟨b, off + j * 3 + 1, none⟩) (cell_lt (HRK.out j hj))).trans (HRK.out j hj) : ∀ j : Nat, j < D.nw → w5.cell? ⟨b, off + j * 3 + 1, none⟩ = some (.int .i64 (D.W j).rank))
              have g1 := N5.c 1 _ rfl; have gl := N5.lt
              clear d0 dl o0 ol q0 ql p0 pl c0 c1 c2 l0 N5 HB5 HRK HCF BW
              rcases HBI.out with hbn | ⟨w1, hb1, hb2, -⟩
              · have hlt : bb < 0 := by omega
                have hd : decide (bb < 0) = true := decide_eq_true hlt
                have HE := Lib.hid (show docW D T2 (i + 1) = (i : Int) by rw [HB.out, HR0.out, if_pos ⟨rfl, .inl hlt⟩])
                clear HB HR0 hbn HBI
                go_quiet (fail)
                go_wp2_with fail
                go_roundw
                case rel => exact ⟨i + 1, by omega, by go_num, by rw [HE.out], below_drewN HQ5.out _⟩
                case measure => simp [intOf]; omega
              · subst hb1
                have hlt : ¬ (w1 : Int) < 0 := by omega
                have hd : decide ((w1 : Int) < 0) = false := decide_eq_false hlt
                have r0 := HRK5.out w1 (by omega)
                have rl := cell_lt r0; simp only at rl
                have hw1n : (w1 : Int) < (D.nw : Int) := by omega
                have HB' := Lib.hid (show docW D T2 (i + 1) = if (D.W w1).rank < ra then (i : Int) else (w1 : Int) by
                  rw [HB.out, HR0.out]
                  have : ((w1 : Int)).toNat = w1 := by omega
                  rw [this]
                  by_cases hr : (D.W w1).rank < ra
                  · rw [if_pos ⟨rfl, .inr hr⟩, if_pos hr]
                  · rw [if_neg (fun h => h.2.elim hlt hr), if_neg hr])
                generalize (D.W w1).rank = rk at *
                clear HB HR0 HBI
                by_cases hr : rk < ra
                · have hd1 : decide (rk < ra) = true := decide_eq_true hr
                  have HE := Lib.hid (show docW D T2 (i + 1) = (i : Int) by rw [HB'.out, if_pos hr])
                  clear HB'
                  go_quiet (fail)
                  go_wp2_with fail
                  go_roundw
                  case rel => exact ⟨i + 1, by omega, by go_num, by rw [HE.out], below_drewN HQ5.out _⟩
                  case measure => simp [intOf]; omega
                · have hd1 : decide (rk < ra) = false := decide_eq_false hr
                  have HE := Lib.hid (show docW D T2 (i + 1) = (w1 : Int) by rw [HB'.out, if_neg hr])
                  clear HB'
                  go_quiet (fail)
                  go_wp2_with fail
                  go_roundw
                  case rel => exact ⟨i + 1, by omega, by go_num, by rw [HE.out], below_drewN HQ5.out _⟩
                  case measure => simp [intOf]; omega
    · have hini : ¬ (i : Int) < (D.nw : Int) := by omega
      have hie : i = D.nw := by omega
      have HE := Lib.hid (show bb = docW D T2 D.nw by rw [hbb, ← hie])
      clear hq hie hbb
      go_wp2_with fail
      refine Met.intro ?_
      exact ⟨_, rfl, ⟨rfl, rfl, rfl, rfl, rfl, rfl, rfl, rfl, rfl, rfl, rfl, rfl, rfl⟩, rfl, by rw [← HE.out]; rfl, HQ.out⟩
end
end Go.Proofs.Ytkadinjhfldokaa
