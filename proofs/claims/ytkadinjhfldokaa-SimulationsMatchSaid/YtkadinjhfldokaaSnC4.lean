/- Work on machines, the document's: block 4 of dyelaw2.simulated. Conditions: what the theorem names. -/
import Derived.Test.YtkadinjhfldokaaSZ
import Derived.Deep.CutBlock
namespace Go.Proofs.Ytkadinjhfldokaa
open Go Go.RowKit
section
variable {aw : Option Addr} {cw : Nat} {am : Option Addr} {cm : Nat} {D : SimD} {w : World} {pm pd gd go gf gr gb b1 : Nat}
set_option maxRecDepth 100000 in
set_option maxHeartbeats 12800000 in
theorem simB4 (HW : Hid (IsWorks w aw D.nw cw D.W ∧ IsMachines w am D.nm cm D.M ∧ GoodD D)) (HNE : Hid (NeD w pm pd gd go gf gr gb b1)) {T : DocS} {pt : Nat} {rv : Value} {V : World} (HGG : Hid (DocG w am cm D pm pd gd go gf gr gb b1 V T pt rv)) (HBD : Hid (DocB D T))
    {K : Act → World → Prop} {Q : Exit → Act → World → Prop} {l : List Value} (hA : AtS aw cw am cm D pm pd go gf gr gb rv pt l) (y63 : l[63]? = some (.slice (some ⟨gr, 0, none⟩) D.nm D.nm)) (y64 : l[64]? = some (.int .i64 D.nm)) (y65 : l[65]? = some (.int .i64 0))
    (_hK : ∀ a' w', Met (fun a wx => ∃ (l : List Value), a = ⟨l.toArray, []⟩ ∧ AtS aw cw am cm D pm pd go gf gr gb rv pt l ∧ DocG w am cm D pm pd gd go gf gr gb b1 wx (docEnd D.tr T D.nm) pt rv) a' w' → K a' w') : (blkOf Try.f15 4).wp Try.prog (Exit.then K Q) ⟨l.toArray, []⟩ V := by
  have hn1 : D.nw ≤ 2000 := HW.out.2.2.work.1
  have hn2 : D.nm ≤ 64 := HW.out.2.2.mach.1.2
  have _hNE := HNE
  obtain ⟨us, rfl⟩ := hA.out
  have z63 : us 63 = .slice (some ⟨gr, 0, none⟩) D.nm D.nm := Option.some.inj y63
  have z64 : us 64 = .int .i64 D.nm := Option.some.inj y64
  have z65 : us 65 = .int .i64 0 := Option.some.inj y65
  rw [z63, z64, z65]
  clear hA y63 z63 y64 z64 y65 z65
  conv => { enter [2]; whnf }
  go_wp2_with fail
  go_loopw [65] (fun s65 wr => ∃ m : Nat, m ≤ D.nm ∧ s65 = .int .i64 m ∧ DocG w am cm D pm pd gd go gf gr gb b1 wr (docEnd D.tr T m) pt rv) (fun s65 _ => D.nm - (intOf s65).toNat)
  case atStart => exact ⟨0, Nat.zero_le _, rfl, HGG.out⟩
  case round =>
    obtain ⟨m, hm, rfl, hU⟩ := hrel
    have HI := Lib.hid (docEnd_inv D.tr T m)
    have HS := Lib.hid (show docEnd D.tr T (m + 1) = docEnd1 D.tr (docEnd D.tr T m) m from rfl)
    obtain ⟨U, hUU⟩ : ∃ U, U = docEnd D.tr T m := ⟨_, rfl⟩
    rw [← hUU] at hU HI HS
    have HU := Lib.hid hU
    by_cases hin : m < D.nm
    · have hini : (m : Int) < (D.nm : Int) := by omega
      have r0 := hU.vR.c m hin; have rl := hU.vR.lt; have rf := hU.vR.f
      have t0 := hU.kT.c 0 _ rfl; have tl := hU.kT.lt
      have hrm := HI.out.2.2.2.1 m (Nat.le_refl _)
      try simp only at r0
      rcases HBD.out.rn m hin with e | ⟨j, e1, e2, wn, e3, e4⟩
      · rw [hrm, e] at r0
        have HE := Lib.hid (show docEnd D.tr T (m + 1) = U by rw [HS.out, docEnd1_keep (.inl (by rw [hrm, e]; omega))])
        clear hU hUU hrm e HS HI
        go_upto_region 17 with fail
        go_quiet (fail)
        go_wp2_with fail
        go_roundw
        case rel => exact ⟨m + 1, by omega, by go_num, by rw [HE.out]; exact HU.out.past (below_drewN (Below.refl _ _) _)⟩
        case measure => simp [intOf]; omega
      · have hrj : U.rn m = (j : Int) := by rw [hrm, e1]
        have hkk : U.k = T.k := HI.out.1
        obtain ⟨g, c, hrv, h1, h2, h3, h4, c0, c1, c2, c3, c4⟩ := hU.run (j := j) (by rw [hkk]; exact e2)
        have hji : (j : Int) < (U.k : Int) := by omega
        have hjn : j < U.k := by omega
        have hwk : (U.q j).wk = (wn : Int) := by rw [HI.out.2.1]; exact e3
        have hfl := HI.out.2.2.2.2 wn
        have hfb := HBD.out.fl wn e4
        have HTT := Lib.hid HI.out.2.2.1
        rw [hrj] at r0
        obtain ⟨r, hr⟩ : ∃ r, r = U.q j := ⟨_, rfl⟩
        rw [← hr] at c0 c1 c2 c3 c4 hwk
        have HEQ := Lib.hid (fun (ht : r.to = U.t) => docEnd1_end (tr := D.tr) hrj hr.symm ht hwk)
        have HEN := Lib.hid (fun (ht : r.to ≠ U.t) => docEnd1_keep (tr := D.tr) (T := U) (m := m) (.inr (by rw [hrj, show ((j : Int)).toNat = j by omega, ← hr]; exact ht)))
        have HWK := Lib.hid hwk
        have HRQ := Lib.hid hr
        have hsz1 := hU.sz
        clear hU hUU hrm e1 HI hkk e3 hr hrj hwk
        subst hrv
        by_cases hto : r.to = U.t
        · have hd : (r.to != U.t) = false := by simpa using hto
          have HE := Lib.hid (HS.out.trans (HEQ.out hto))
          clear HEQ HEN HS hto
          go_upto_region 17 with fail
          go_quiet (fail)
          go_upto_region 18 with fail
          refine wp_world (fun W8 hW8 => ?_)
          have B8 : Below wr.heap.size wr W8 := by rw [hW8]; (repeat (first | exact Below.refl _ _ | assumption | (refine Below.setCell ?_ (by first | (simp; done) | (simp; omega) | omega) _) | (refine Below.drew ?_) | (refine below_drewN ?_ _) | (refine Below.alloc ?_ (by first | (simp; done) | (simp; omega) | omega) _) | (refine Below.trans ?_ (Below.mono (by assumption) (by first | (simp; done) | (simp; omega) | omega)))))
          have HU8 := Lib.hid (HU.out.past B8)
          obtain ⟨g', c', hrv', -, -, -, h4', c0', c1', c2', c3', c4'⟩ := HU8.out.run (j := j) hjn
          injection hrv' with hrv' _ hc'
          injection hrv' with hrv'
          injection hrv' with hrv'
          subst hrv' hc'
          rw [← HRQ.out] at c0' c1' c2' c3' c4'
          have hsz8 := HU8.out.sz
          clear hW8 B8 HU r0 rl rf t0 tl c0 c1 c2 c3 c4 h1 h4 hsz1
          go_upto_region 19 with fail
          refine wp_world (fun W9 hW9 => ?_)
          obtain ⟨x, hx⟩ : ∃ x, x = W8.heap.size := ⟨_, rfl⟩
          have H9 : Hid (DocG w am cm D pm pd gd go gf gr gb b1 W9 U pt (.slice (some ⟨g, 0, none⟩) U.k c) ∧ Blk W9 x (runL r)) := by
            have B9 : Below W8.heap.size W8 W9 := by rw [hW9]; (repeat (first | exact Below.refl _ _ | assumption | (refine Below.setCell ?_ (by first | (simp; done) | (simp; omega) | omega) _) | (refine Below.drew ?_) | (refine below_drewN ?_ _) | (refine Below.alloc ?_ (by first | (simp; done) | (simp; omega) | omega) _) | (refine Below.trans ?_ (Below.mono (by assumption) (by first | (simp; done) | (simp; omega) | omega)))))
            refine Lib.hid ⟨HU8.out.past B9, ?_⟩
            rw [hW9, hx]; exact Blk.new _ _ _ _ (by simp)
          rw [← hx] at ⊢
          have hxb : b1 ≤ x := by omega
          clear hW9 hx c0' c1' c2' c3' c4' h4' HU8 h2 h3 hsz8
          go_cut [] from 66 to 117 (fun wx => DocG w am cm D pm pd gd go gf gr gb b1 wx { U with rn := updF U.rn m (-1), bs := updF U.bs wn false } pt (.slice (some ⟨g, 0, none⟩) U.k c) ∧ Blk wx x (runL r))
          case first =>
            have h := H9.out.1; have hx := H9.out.2
            have r0 := h.vR.c m hin; have rl := h.vR.lt; have rf := h.vR.f
            have q0 := h.vB.c wn e4; have ql := h.vB.lt; have qf := h.vB.f
            have x0 := hx.c 0 _ rfl; have xl := hx.lt
            rw [HWK.out] at x0
            try simp only at r0 q0
            have hne : gr ≠ gb ∧ gr < b1 ∧ gb < b1 := by have := HNE.out; exact ⟨by have := this.1; omega, this.2.2.2.2.2.2.2.1, this.2.2.2.2.2.2.2.2⟩
            obtain ⟨n1, n2, n3⟩ := hne
            have n1' := Ne.symm n1
            have n4 : x ≠ gr := by omega
            have n5 : x ≠ gb := by omega
            have n4' := Ne.symm n4; have n5' := Ne.symm n5
            have hwi : (wn : Int) < (D.nw : Int) := by omega
            clear h hx
            go_region
            all_goals (go_wp2_with fail; go_meet)
            all_goals first
              | exact ⟨((H9.out.1.sR HNE.out m (-1)).sB HNE.out wn false).past (by (repeat (first | exact Below.refl _ _ | assumption | (refine Below.setCell ?_ (by first | (simp; done) | (simp; omega) | omega) _) | (refine Below.drew ?_) | (refine below_drewN ?_ _) | (refine Below.alloc ?_ (by first | (simp; done) | (simp; omega) | omega) _) | (refine Below.trans ?_ (Below.mono (by assumption) (by first | (simp; done) | (simp; omega) | omega)))))), ((H9.out.2.far ⟨gr, m, none⟩ (.int .i64 (-1)) (show gr ≠ x from n4')).far ⟨gb, wn, none⟩ (.bool false) (show gb ≠ x from n5')).past (by (repeat (first | exact Below.refl _ _ | assumption | (refine Below.setCell ?_ (by first | (simp; done) | (simp; omega) | omega) _) | (refine Below.drew ?_) | (refine below_drewN ?_ _) | (refine Below.alloc ?_ (by first | (simp; done) | (simp; omega) | omega) _) | (refine Below.trans ?_ (Below.mono (by assumption) (by first | (simp; done) | (simp; omega) | omega))))))⟩
              | exact ⟨((H9.out.1.sB HNE.out wn false).sR HNE.out m (-1)).past (by (repeat (first | exact Below.refl _ _ | assumption | (refine Below.setCell ?_ (by first | (simp; done) | (simp; omega) | omega) _) | (refine Below.drew ?_) | (refine below_drewN ?_ _) | (refine Below.alloc ?_ (by first | (simp; done) | (simp; omega) | omega) _) | (refine Below.trans ?_ (Below.mono (by assumption) (by first | (simp; done) | (simp; omega) | omega)))))), ((H9.out.2.far ⟨gb, wn, none⟩ (.bool false) (show gb ≠ x from n5')).far ⟨gr, m, none⟩ (.int .i64 (-1)) (show gr ≠ x from n4')).past (by (repeat (first | exact Below.refl _ _ | assumption | (refine Below.setCell ?_ (by first | (simp; done) | (simp; omega) | omega) _) | (refine Below.drew ?_) | (refine below_drewN ?_ _) | (refine Below.alloc ?_ (by first | (simp; done) | (simp; omega) | omega) _) | (refine Below.trans ?_ (Below.mono (by assumption) (by first | (simp; done) | (simp; omega) | omega))))))⟩
          case rest =>
            have H10 := Lib.hid hcut
            obtain ⟨V10, hV10⟩ : ∃ V10, V10 = wc := ⟨_, rfl⟩
            rw [← hV10] at H10 ⊢
            have hwi : (wn : Int) < (D.nw : Int) := by omega
            clear hcut hV10 H9
            have x4 := H10.out.2.c 4 _ rfl; have x0 := H10.out.2.c 0 _ rfl; have xl := H10.out.2.lt
            rw [HWK.out] at x0
            cases hrf : r.fl with
            | false =>
              rw [hrf] at x4 HE
              have p0 := H10.out.1.kD.c 0 _ rfl; have pl := H10.out.1.kD.lt
              have d0 := H10.out.1.vD.c wn e4; have dl := H10.out.1.vD.lt; have df := H10.out.1.vD.f
              go_wp2_with fail
              go_roundw
              case rel => exact ⟨m + 1, by omega, by go_num, (H10.out.1.sD HNE.out wn true).eqT (by rw [HE.out]; simp)⟩
              case measure => simp [intOf]; omega
            | true =>
              rw [hrf] at x4 HE
              have f0 := H10.out.1.vF.c wn e4; have fl := H10.out.1.vF.lt; have ff := H10.out.1.vF.f
              have hwr : IntKind.i64.wrap (U.fl wn + 1) = U.fl wn + 1 := by rw [IntKind.wrap_i64]; omega
              try simp only at f0
              go_upto_region 23 with fail
              refine wp_world (fun W11 hW11 => ?_)
              have H11 : Hid (DocG w am cm D pm pd gd go gf gr gb b1 W11 { U with rn := updF U.rn m (-1), bs := updF U.bs wn false, fl := updF U.fl wn (U.fl wn + 1) } pt (.slice (some ⟨g, 0, none⟩) U.k c) ∧ Blk W11 x (runL r)) := by
                refine Lib.hid ?_
                rw [hW11]
                exact ⟨H10.out.1.sF HNE.out wn _, H10.out.2.far _ _ (by have := HNE.out.2.2.2.2.2.2.1; show gf ≠ x; omega)⟩
              clear hW11 H10 f0 fl ff x4 x0 xl
              have f0 := H11.out.1.vF.c wn e4; have fl := H11.out.1.vF.lt
              have x0 := H11.out.2.c 0 _ rfl; have xl := H11.out.2.lt
              rw [HWK.out] at x0
              simp only [updF_at] at f0
              have o0 := H11.out.1.vO.c wn e4; have ol := H11.out.1.vO.lt; have of := H11.out.1.vO.f
              by_cases htr : U.fl wn + 1 = D.tr
              · have hd2 : (U.fl wn + 1 == D.tr) = true := by simpa using htr
                have HE2 := Lib.hid (HE.out.trans (show _ = ({ U with rn := updF U.rn m (-1), bs := updF U.bs wn false, fl := updF U.fl wn (U.fl wn + 1), ov := updF U.ov wn true } : DocS) by simp [htr]))
                clear HE htr
                go_wp2_with fail
                go_roundw
                case rel => exact ⟨m + 1, by omega, by go_num, (H11.out.1.sO HNE.out wn true).eqT HE2.out.symm⟩
                case measure => simp [intOf]; omega
              · have hd2 : (U.fl wn + 1 == D.tr) = false := by simpa using htr
                have HE2 := Lib.hid (HE.out.trans (show _ = ({ U with rn := updF U.rn m (-1), bs := updF U.bs wn false, fl := updF U.fl wn (U.fl wn + 1) } : DocS) by simp [htr]))
                clear HE htr
                go_wp2_with fail
                go_roundw
                case rel => exact ⟨m + 1, by omega, by go_num, H11.out.1.eqT HE2.out.symm⟩
                case measure => simp [intOf]; omega
        · have hd : (r.to != U.t) = true := by simpa using hto
          have HE := Lib.hid (show docEnd D.tr T (m + 1) = U by rw [HS.out]; exact HEN.out hto)
          clear HEQ HEN HS hto
          go_upto_region 17 with fail
          go_quiet (fail)
          go_wp2_with fail
          go_roundw
          case rel => exact ⟨m + 1, by omega, by go_num, by rw [HE.out]; exact HU.out.past (below_drewN (Below.refl _ _) _)⟩
          case measure => simp [intOf]; omega
    · have hini : ¬ (m : Int) < (D.nm : Int) := by omega
      have hie : m = D.nm := by omega
      rw [hie] at hUU
      clear hU hie
      go_wp2_with fail
      refine Met.intro ?_
      exact ⟨_, rfl, ⟨rfl, rfl, rfl, rfl, rfl, rfl, rfl, rfl, rfl, rfl, rfl, rfl, rfl⟩, by rw [← hUU]; exact HU.out⟩
end
end Go.Proofs.Ytkadinjhfldokaa
