/- Work on machines, the document's: block 12 of dyelaw2.simulated. Conditions: what the theorem names. (with: SnC14, SnC16, SnD) -/
import Derived.Test.YtkadinjhfldokaaSZ
import Derived.Deep.CutBlock
import Derived.BigQuiet
import Derived.Deep.QuietTactic
namespace Go.Proofs.Ytkadinjhfldokaa
open Go Go.RowKit
section
variable {aw : Option Addr} {cw : Nat} {am : Option Addr} {cm : Nat} {D : SimD} {w : World} {pm pd gd go gf gr gb b1 : Nat}
set_option maxRecDepth 100000 in
set_option maxHeartbeats 12800000 in
theorem simB12 (HW : Hid (IsWorks w aw D.nw cw D.W ∧ IsMachines w am D.nm cm D.M ∧ GoodD D)) (HNE : Hid (NeD w pm pd gd go gf gr gb b1)) {T2 : DocS} {pt : Nat} {rv2 : Value} {V8 W6 : World} {wn mn pr : Nat} {now et sp : Int} {da : Option Addr} {dn dc : Nat} {df dt : Nat → Int} {nr : RunV} (HG8 : Hid (DocG w am cm D pm pd gd go gf gr gb b1 V8 T2 pt rv2)) (HIN : Hid (InS V8 da dn dc df dt)) (HNR : Hid (nr = match firstS (cutC ⟨sp, da, dn, dc, df, dt⟩ now et) dn with
  | some x => ⟨wn, mn, now, x, true⟩
  | none => ⟨wn, mn, now, et, false⟩)) (HNO : Hid (now = T2.t)) (H6 : Hid (Below V8.heap.size V8 W6 ∧ Blk W6 pr [.int .i64 wn, .int .i64 mn, .int .i64 now, .int .i64 et, .bool false] ∧ V8.heap.size ≤ pr))
    {K : Act → World → Prop} {Q : Exit → Act → World → Prop} {l : List Value} (hA : AtS aw cw am cm D pm pd go gf gr gb rv2 pt l) (y19 : l[19]? = some (.int .i64 wn)) (y20 : l[20]? = some (.int .i64 mn)) (y25 : l[25]? = some (.pointer (some ⟨pr, 0, none⟩))) (y238 : l[238]? = some (.slice da dn dc)) (y239 : l[239]? = some (.int .i64 dn)) (y240 : l[240]? = some (.int .i64 0))
    (_hK : ∀ a' w', Met (fun a wx => ∃ (l : List Value), a = ⟨l.toArray, []⟩ ∧ AtS aw cw am cm D pm pd go gf gr gb rv2 pt l ∧ l[19]? = some (.int .i64 wn) ∧ l[20]? = some (.int .i64 mn) ∧ l[25]? = some (.pointer (some ⟨pr, 0, none⟩)) ∧ Below V8.heap.size V8 wx ∧ Blk wx pr (runL nr)) a' w' → K a' w') : (blkOf Try.f15 12).wp Try.prog (Exit.then K Q) ⟨l.toArray, []⟩ W6 := by
  have hn1 : D.nw ≤ 2000 := HW.out.2.2.work.1
  have hn2 : D.nm ≤ 64 := HW.out.2.2.mach.1.2
  have _hNE := HNE
  obtain ⟨us, rfl⟩ := hA.out
  have z19 : us 19 = .int .i64 wn := Option.some.inj y19
  have z20 : us 20 = .int .i64 mn := Option.some.inj y20
  have z25 : us 25 = .pointer (some ⟨pr, 0, none⟩) := Option.some.inj y25
  have z238 : us 238 = .slice da dn dc := Option.some.inj y238
  have z239 : us 239 = .int .i64 dn := Option.some.inj y239
  have z240 : us 240 = .int .i64 0 := Option.some.inj y240
  rw [z19, z20, z25, z238, z239, z240]
  clear hA y19 z19 y20 z20 y25 z25 y238 z238 y239 z239 y240 z240
  conv => { enter [2]; whnf }
  have HPS := Lib.hid H6.out.2.2
  have HNP := Lib.hid (show nr = partR wn mn now et (firstS (cutC ⟨sp, da, dn, dc, df, dt⟩ now et) dn) from HNR.out)
  clear HNR
  go_wp2_with fail
  go_loopw [240] (fun s240 wr => ∃ i : Nat, i ≤ dn ∧ s240 = .int .i64 i ∧ Below V8.heap.size V8 wr ∧ Blk wr pr (runL (partR wn mn now et (firstS (cutC ⟨sp, da, dn, dc, df, dt⟩ now et) i)))) (fun s240 _ => dn - (intOf s240).toNat)
  case atStart => exact ⟨0, Nat.zero_le _, rfl, H6.out.1, H6.out.2.1⟩
  case round =>
    obtain ⟨i, hi, rfl, hb, hr⟩ := hrel
    have HS := Lib.hid (show firstS (cutC ⟨sp, da, dn, dc, df, dt⟩ now et) (i + 1) = match firstS (cutC ⟨sp, da, dn, dc, df, dt⟩ now et) i with | some x => some x | none => cutC ⟨sp, da, dn, dc, df, dt⟩ now et i from rfl)
    have HC := Lib.hid (show cutC ⟨sp, da, dn, dc, df, dt⟩ now et i = if now < df i ∧ df i ≤ et then some (df i) else none from rfl)
    have HGK := Lib.hid (HG8.out.past hb)
    obtain ⟨o, ho⟩ : ∃ o, o = firstS (cutC ⟨sp, da, dn, dc, df, dt⟩ now et) i := ⟨_, rfl⟩
    rw [← ho] at HS hr
    have HR4 := Lib.hid (And.intro hb hr)
    have HO := Lib.hid ho
    clear hb hr ho
    by_cases hin : i < dn
    · have hini : (i : Int) < (dn : Int) := by omega
      obtain ⟨b2, off2, hab2, hcc⟩ := HIN.out.2.2 (by omega)
      have hac := HIN.out.1
      have hac2 : dc ≤ 9223372036854775807 := by have := HIN.out.2.1; unfold maxLen at this; omega
      obtain ⟨d0, d1, -, -⟩ := hcc i hin
      have e0 := (HR4.out.1.cell (p := ⟨b2, off2 + i * 2, none⟩) (cell_lt d0)).trans d0
      have e1 := (HR4.out.1.cell (p := ⟨b2, off2 + i * 2 + 1, none⟩) (cell_lt d1)).trans d1
      have el := cell_lt e0; simp only at el
      clear hcc d0 d1
      generalize df i = z at *
      generalize dt i = y at *
      subst hab2
      go_upto_region 45 with fail
      refine wp_world (fun W7 hW7 => ?_)
      have B7 : Below wr.heap.size wr W7 := by rw [hW7]; (repeat (first | exact Below.refl _ _ | assumption | (refine Below.setCell ?_ (by first | (simp; done) | (simp; omega) | omega) _) | (refine Below.drew ?_) | (refine below_drewN ?_ _) | (refine Below.alloc ?_ (by first | (simp; done) | (simp; omega) | omega) _) | (refine Below.trans ?_ (Below.mono (by assumption) (by first | (simp; done) | (simp; omega) | omega)))))
      have N7 : Blk W7 wr.heap.size [.int .i64 z, .int .i64 y] := by rw [hW7]; exact Blk.new _ _ _ _ rfl
      have hpw : pr < wr.heap.size := HR4.out.2.lt
      have H7 := Lib.hid (And.intro (HR4.out.1.trans (B7.mono HR4.out.1.size)) (HR4.out.2.past B7))
      have t0 := (HGK.out.past B7).kT.c 0 _ rfl; have tl := (HGK.out.past B7).kT.lt
      rw [← HNO.out] at t0
      have g0 := N7.c 0 _ rfl; have gl := N7.lt
      clear hW7 B7 N7 e0 e1 el HR4 HGK
      cases o with
      | some u =>
        have HE := Lib.hid HS.out
        have x3 : W7.cell? ⟨pr, 3, none⟩ = some (.int .i64 u) := H7.out.2.c 3 _ rfl
        have x4 : W7.cell? ⟨pr, 4, none⟩ = some (.bool true) := H7.out.2.c 4 _ rfl
        have xl := H7.out.2.lt
        clear HS HC
        by_cases hzn : now < z
        · by_cases hzu : z ≤ u
          · refine ?_
            go_wp2_with fail
            go_roundw
            case rel => exact ⟨i + 1, by omega, by go_num, H7.out.1, by rw [HE.out]; exact H7.out.2⟩
            case measure => simp [intOf]; omega
          · refine ?_
            go_wp2_with fail
            go_roundw
            case rel => exact ⟨i + 1, by omega, by go_num, H7.out.1, by rw [HE.out]; exact H7.out.2⟩
            case measure => simp [intOf]; omega
        · refine ?_
          go_wp2_with fail
          go_roundw
          case rel => exact ⟨i + 1, by omega, by go_num, H7.out.1, by rw [HE.out]; exact H7.out.2⟩
          case measure => simp [intOf]; omega
      | none =>
        have HE := Lib.hid (HS.out.trans HC.out)
        have x3 : W7.cell? ⟨pr, 3, none⟩ = some (.int .i64 et) := H7.out.2.c 3 _ rfl
        have x4 : W7.cell? ⟨pr, 4, none⟩ = some (.bool false) := H7.out.2.c 4 _ rfl
        have xl := H7.out.2.lt; have xf := H7.out.2.f
        clear HS HC
        by_cases hzn : now < z
        · by_cases hzu : z ≤ et
          · have HE2 := Lib.hid (HE.out.trans (if_pos ⟨hzn, hzu⟩))
            clear HE
            go_wp2_with fail
            go_roundw
            case rel => exact ⟨i + 1, by omega, by go_num, (H7.out.1.setCell (by show V8.heap.size ≤ pr; have := HPS.out; omega) _).setCell (by show V8.heap.size ≤ pr; have := HPS.out; omega) _, by rw [HE2.out]; exact (H7.out.2.set 3 _).set 4 _⟩
            case measure => simp [intOf]; omega
          · have HE2 := Lib.hid (HE.out.trans (if_neg (fun h => hzu h.2)))
            clear HE
            have HE := HE2
            go_wp2_with fail
            go_roundw
            case rel => exact ⟨i + 1, by omega, by go_num, H7.out.1, by rw [HE.out]; exact H7.out.2⟩
            case measure => simp [intOf]; omega
        · have HE2 := Lib.hid (HE.out.trans (if_neg (fun h => hzn h.1)))
          clear HE
          have HE := HE2
          go_wp2_with fail
          go_roundw
          case rel => exact ⟨i + 1, by omega, by go_num, H7.out.1, by rw [HE.out]; exact H7.out.2⟩
          case measure => simp [intOf]; omega
    · have hini : ¬ (i : Int) < (dn : Int) := by omega
      have hie : i = dn := by omega
      have HIE := Lib.hid hie
      clear hie
      go_wp2_with fail
      refine Met.intro ?_
      refine ⟨_, rfl, ⟨rfl, rfl, rfl, rfl, rfl, rfl, rfl, rfl, rfl, rfl, rfl, rfl, rfl⟩, rfl, rfl, rfl, HR4.out.1, ?_⟩
      have h := HR4.out.2
      rw [HO.out, HIE.out, ← HNP.out] at h
      exact h
end
end Go.Proofs.Ytkadinjhfldokaa

namespace Go.Proofs.Ytkadinjhfldokaa
open Go Go.RowKit
section
variable {aw : Option Addr} {cw : Nat} {am : Option Addr} {cm : Nat} {D : SimD} {w : World} {pm pd gd go gf gr gb b1 : Nat}
set_option maxRecDepth 100000 in
set_option maxHeartbeats 12800000 in
theorem simB14 (HW : Hid (IsWorks w aw D.nw cw D.W ∧ IsMachines w am D.nm cm D.M ∧ GoodD D)) (HNE : Hid (NeD w pm pd gd go gf gr gb b1)) {T2 : DocS} {pt pn : Nat} {rv2 : Value} {V V2 : World} (hG : DocG w am cm D pm pd gd go gf gr gb b1 V T2 pt rv2) (HB2 : Hid (DocB D T2)) (HV2 : Hid (Below V.heap.size V V2 ∧ Blk V2 pn [.int .i64 (-1)] ∧ pn = V.heap.size))
    {K : Act → World → Prop} {Q : Exit → Act → World → Prop} {l : List Value} (hA : AtS aw cw am cm D pm pd go gf gr gb rv2 pt l) (y28 : l[28]? = some (.pointer (some ⟨pn, 0, none⟩))) (y29 : l[29]? = some (.func (.func 32) #[] #[.pointer (some ⟨pt, 0, none⟩), .pointer (some ⟨pn, 0, none⟩)])) (y278 : l[278]? = some (.slice (some ⟨gr, 0, none⟩) D.nm D.nm)) (y279 : l[279]? = some (.int .i64 D.nm)) (y280 : l[280]? = some (.int .i64 0))
    (_hK : ∀ a' w', Met (fun a wx => ∃ (l : List Value), a = ⟨l.toArray, []⟩ ∧ AtS aw cw am cm D pm pd go gf gr gb rv2 pt l ∧ l[28]? = some (.pointer (some ⟨pn, 0, none⟩)) ∧ l[29]? = some (.func (.func 32) #[] #[.pointer (some ⟨pt, 0, none⟩), .pointer (some ⟨pn, 0, none⟩)]) ∧ Below V.heap.size V wx ∧ ∃ v : Int, Blk wx pn [.int .i64 v] ∧ LeastOf (endP T2 D.nm) T2.t v) a' w' → K a' w') : (blkOf Try.f15 14).wp Try.prog (Exit.then K Q) ⟨l.toArray, []⟩ V2 := by
  have hn1 : D.nw ≤ 2000 := HW.out.2.2.work.1
  have hn2 : D.nm ≤ 64 := HW.out.2.2.mach.1.2
  have _hNE := HNE
  obtain ⟨us, rfl⟩ := hA.out
  have z28 : us 28 = .pointer (some ⟨pn, 0, none⟩) := Option.some.inj y28
  have z29 : us 29 = .func (.func 32) #[] #[.pointer (some ⟨pt, 0, none⟩), .pointer (some ⟨pn, 0, none⟩)] := Option.some.inj y29
  have z278 : us 278 = .slice (some ⟨gr, 0, none⟩) D.nm D.nm := Option.some.inj y278
  have z279 : us 279 = .int .i64 D.nm := Option.some.inj y279
  have z280 : us 280 = .int .i64 0 := Option.some.inj y280
  rw [z28, z29, z278, z279, z280]
  clear hA y28 z28 y29 z29 y278 z278 y279 z279 y280 z280
  have H2 := Lib.hid (And.intro hG True.intro)
  clear hG
  conv => { enter [2]; whnf }
  go_wp2_with fail
  go_loopw [280] (fun s280 wr => ∃ k : Nat, k ≤ D.nm ∧ s280 = .int .i64 k ∧ Below V.heap.size V wr ∧ ∃ v : Int, Blk wr pn [.int .i64 v] ∧ LeastOf (endP T2 k) T2.t v) (fun s280 _ => D.nm - (intOf s280).toNat)
  case atStart => exact ⟨0, Nat.zero_le _, rfl, HV2.out.1, -1, HV2.out.2.1, .inl ⟨rfl, fun c hc => absurd hc (endP_zero _ _)⟩⟩
  case round =>
    obtain ⟨k, hk, rfl, hb, v, hp, hl⟩ := hrel
    have HR3 := Lib.hid (And.intro hb (And.intro hp hl))
    have HGK := Lib.hid (H2.out.1.past hb)
    clear hb hp hl
    by_cases hin : k < D.nm
    · have hini : (k : Int) < (D.nm : Int) := by omega
      have r0 := HGK.out.vR.c k hin; have rl := HGK.out.vR.lt
      rcases HB2.out.rn k hin with e | ⟨j, e1, e2, -⟩
      · rw [e] at r0
        have HL := Lib.hid (HR3.out.2.2.congr (endP_no (T := T2) (n := k) (by omega)))
        clear e
        go_wp2_with fail
        go_roundw
        case rel => exact ⟨k + 1, by omega, by go_num, HR3.out.1, v, HR3.out.2.1, HL.out⟩
        case measure => simp [intOf]; omega
      · rw [e1] at r0
        obtain ⟨g, c, hrv, h1, h2, h3, h4, -, -, -, c3, -⟩ := HGK.out.run e2
        have hji : (j : Int) < (T2.k : Int) := by omega
        have HL := Lib.hid (HR3.out.2.2.note HB2.out.t.1 (endP_yes (T := T2) e1))
        obtain ⟨z, hz⟩ : ∃ z, z = (T2.q j).to := ⟨_, rfl⟩
        rw [← hz] at c3 HL
        have hne : pt ≠ pn := by have := H2.out.1.kT.lt; have := HV2.out.2.2; omega
        have HNT := Lib.hid (note_any z T2.t v pt pn wr hne HGK.out.kT HR3.out.2.1)
        have HPN := Lib.hid HV2.out.2.2
        clear hz e1 hne h3 h4
        subst hrv
        go_wp2_with (go_at_call 32; refine (HNT.out).mono ?_; rintro e w3 ⟨rfl, hw, hblk⟩; have HX := Lib.hid (And.intro (show Below V.heap.size V w3 from hw.elim (fun h => by rw [h]; exact HR3.out.1) (fun h => by rw [h]; exact HR3.out.1.setCell (by show V.heap.size ≤ pn; have := HPN.out; omega) _)) hblk); clear hw hblk r0 rl c3)
        go_roundw
        case rel => exact ⟨k + 1, by omega, by go_num, HX.out.1, noteV T2.t v z, HX.out.2, HL.out⟩
        case measure => simp [intOf]; omega
    · have hini : ¬ (k : Int) < (D.nm : Int) := by omega
      have hie : k = D.nm := by omega
      have HE := Lib.hid hie
      clear hie
      go_wp2_with fail
      refine Met.intro ?_
      exact ⟨_, rfl, ⟨rfl, rfl, rfl, rfl, rfl, rfl, rfl, rfl, rfl, rfl, rfl, rfl, rfl⟩, rfl, rfl, HR3.out.1, v, HR3.out.2.1, by have h := HR3.out.2.2; rw [HE.out] at h; exact h⟩
end
end Go.Proofs.Ytkadinjhfldokaa

namespace Go.Proofs.Ytkadinjhfldokaa
open Go Go.RowKit
section
variable {aw : Option Addr} {cw : Nat} {am : Option Addr} {cm : Nat} {D : SimD} {w : World} {pm pd gd go gf gr gb b1 : Nat}
set_option maxRecDepth 100000 in
set_option maxHeartbeats 12800000 in
theorem simB16 (HW : Hid (IsWorks w aw D.nw cw D.W ∧ IsMachines w am D.nm cm D.M ∧ GoodD D)) (HNE : Hid (NeD w pm pd gd go gf gr gb b1)) {T2 : DocS} {pt pn : Nat} {rv2 : Value} {V V2 V3 : World} {v3 : Int} (hG : DocG w am cm D pm pd gd go gf gr gb b1 V T2 pt rv2) (HB2 : Hid (DocB D T2)) (HV2 : Hid (Below V.heap.size V V2 ∧ Blk V2 pn [.int .i64 (-1)] ∧ pn = V.heap.size)) (H3 : Hid (Below V.heap.size V V3 ∧ Blk V3 pn [.int .i64 v3] ∧ LeastOf (endP T2 D.nm) T2.t v3))
    {K : Act → World → Prop} {Q : Exit → Act → World → Prop} {l : List Value} (hA : AtS aw cw am cm D pm pd go gf gr gb rv2 pt l) (y28 : l[28]? = some (.pointer (some ⟨pn, 0, none⟩))) (y29 : l[29]? = some (.func (.func 32) #[] #[.pointer (some ⟨pt, 0, none⟩), .pointer (some ⟨pn, 0, none⟩)])) (y294 : l[294]? = some (.slice am D.nm cm)) (y295 : l[295]? = some (.int .i64 D.nm)) (y296 : l[296]? = some (.int .i64 0))
    (_hK : ∀ a' w', Met (fun a wx => ∃ (l : List Value), a = ⟨l.toArray, []⟩ ∧ AtS aw cw am cm D pm pd go gf gr gb rv2 pt l ∧ l[28]? = some (.pointer (some ⟨pn, 0, none⟩)) ∧ Below V.heap.size V wx ∧ ∃ v : Int, Blk wx pn [.int .i64 v] ∧ LeastOf (fun c => endP T2 D.nm c ∨ downP D D.nm c) T2.t v) a' w' → K a' w') : (blkOf Try.f15 16).wp Try.prog (Exit.then K Q) ⟨l.toArray, []⟩ V3 := by
  have hn1 : D.nw ≤ 2000 := HW.out.2.2.work.1
  have hn2 : D.nm ≤ 64 := HW.out.2.2.mach.1.2
  have _hNE := HNE
  obtain ⟨us, rfl⟩ := hA.out
  have z28 : us 28 = .pointer (some ⟨pn, 0, none⟩) := Option.some.inj y28
  have z29 : us 29 = .func (.func 32) #[] #[.pointer (some ⟨pt, 0, none⟩), .pointer (some ⟨pn, 0, none⟩)] := Option.some.inj y29
  have z294 : us 294 = .slice am D.nm cm := Option.some.inj y294
  have z295 : us 295 = .int .i64 D.nm := Option.some.inj y295
  have z296 : us 296 = .int .i64 0 := Option.some.inj y296
  rw [z28, z29, z294, z295, z296]
  clear hA y28 z28 y29 z29 y294 z294 y295 z295 y296 z296
  have H2 := Lib.hid (And.intro hG True.intro)
  clear hG
  conv => { enter [2]; whnf }
  go_wp2_with fail
  go_loopw [296] (fun s296 wr => ∃ k : Nat, k ≤ D.nm ∧ s296 = .int .i64 k ∧ Below V.heap.size V wr ∧ ∃ v : Int, Blk wr pn [.int .i64 v] ∧ LeastOf (fun c => endP T2 D.nm c ∨ downP D k c) T2.t v) (fun s296 _ => D.nm - (intOf s296).toNat)
  case atStart => exact ⟨0, Nat.zero_le _, rfl, H3.out.1, v3, H3.out.2.1, H3.out.2.2.congr (fun c => ⟨fun h => h.elim id (fun h => absurd h (downP_zero _ _)), .inl⟩)⟩
  case round =>
    obtain ⟨k, hk, rfl, hb, v, hp, hl⟩ := hrel
    have HR3 := Lib.hid (And.intro hb (And.intro hp hl))
    have HGK := Lib.hid (H2.out.1.past hb)
    clear hb hp hl
    by_cases hin : k < D.nm
    · have hini : (k : Int) < (D.nm : Int) := by omega
      have hMw := HW.out.2.1
      have hcw : D.nm ≤ cm := hMw.1
      have hcw2 : cm ≤ 9223372036854775807 := by have := hMw.2.1; unfold maxLen at this; omega
      obtain ⟨b, off, hab, hc⟩ := hMw.2.2 (by omega)
      have hw := hc k hin
      have HDP := Lib.hid (fun c => downP_succ D k c)
      obtain ⟨K, hK⟩ : ∃ K, K = D.M k := ⟨_, rfl⟩
      rw [← hK] at hw HDP
      obtain ⟨sp, da, dn, dc, df, dt⟩ := K
      have c0 := (HGK.out.bel.cell (p := ⟨b, off + k * 2, none⟩) (cell_lt hw.1)).trans hw.1
      have c1 := (HGK.out.bel.cell (p := ⟨b, off + k * 2 + 1, none⟩) (cell_lt hw.2.1)).trans hw.2.1
      simp only at c0 c1 HDP
      have l0 := cell_lt c0; simp only at l0
      have HI := Lib.hid (show InS w da dn dc df dt from hw.2.2.2)
      have HPN := Lib.hid HV2.out.2.2
      have hne : pt ≠ pn := by have := H2.out.1.kT.lt; have := HV2.out.2.2; omega
      clear hMw hc hw hK
      subst hab
      go_upto_block 18 with fail
      refine wp_world (fun W6 hW6 => ?_)
      have H6 := Lib.hid (show Below V.heap.size V W6 ∧ Blk W6 pn [.int .i64 v] by
        have B6 : Below wr.heap.size wr W6 := by rw [hW6]; (repeat (first | exact Below.refl _ _ | assumption | (refine Below.setCell ?_ (by first | (simp; done) | (simp; omega) | omega) _) | (refine Below.drew ?_) | (refine below_drewN ?_ _) | (refine Below.alloc ?_ (by first | (simp; done) | (simp; omega) | omega) _) | (refine Below.trans ?_ (Below.mono (by assumption) (by first | (simp; done) | (simp; omega) | omega)))))
        exact ⟨HR3.out.1.trans (B6.mono HR3.out.1.size), HR3.out.2.1.past B6⟩)
      have HL6 := Lib.hid HR3.out.2.2
      clear hW6 HR3 HGK c0 c1 l0
      go_wp2_with fail
      go_loopw [303] (fun s303 wr => ∃ i : Nat, i ≤ dn ∧ s303 = .int .i64 i ∧ Below V.heap.size V wr ∧ ∃ v : Int, Blk wr pn [.int .i64 v] ∧ LeastOf (fun c => (endP T2 D.nm c ∨ downP D k c) ∨ spanP ⟨sp, da, dn, dc, df, dt⟩ i c) T2.t v) (fun s303 _ => dn - (intOf s303).toNat)
      case atStart => exact ⟨0, Nat.zero_le _, rfl, H6.out.1, v, H6.out.2, HL6.out.congr (fun c => ⟨fun h => h.elim id (fun h => absurd h (spanP_zero _ _)), .inl⟩)⟩
      case round =>
        obtain ⟨i, hi, rfl, hb, v, hp, hl⟩ := hrel
        have HR4 := Lib.hid (And.intro hb (And.intro hp hl))
        have HGK := Lib.hid (H2.out.1.past hb)
        clear hb hp hl H6 HL6
        by_cases hid : i < dn
        · have hidi : (i : Int) < (dn : Int) := by omega
          obtain ⟨b2, off2, hab2, hcc⟩ := HI.out.2.2 (by omega)
          have hac := HI.out.1
          have hac2 : dc ≤ 9223372036854775807 := by have := HI.out.2.1; unfold maxLen at this; omega
          obtain ⟨d0, d1, -, -⟩ := hcc i hid
          have e0 := (HGK.out.bel.cell (p := ⟨b2, off2 + i * 2, none⟩) (cell_lt d0)).trans d0
          have e1 := (HGK.out.bel.cell (p := ⟨b2, off2 + i * 2 + 1, none⟩) (cell_lt d1)).trans d1
          have el := cell_lt e0; simp only at el
          have HL := Lib.hid (HR4.out.2.2.note (Q := fun c => (endP T2 D.nm c ∨ downP D k c) ∨ spanP ⟨sp, da, dn, dc, df, dt⟩ (i + 1) c) (n := dt i) HB2.out.t.1 (fun c => by rw [spanP_succ]; exact (or_assoc).symm))
          obtain ⟨y, hy⟩ : ∃ y, y = dt i := ⟨_, rfl⟩
          rw [← hy] at e1 HL
          generalize df i = z at *
          clear hcc d0 d1 hy
          subst hab2
          go_upto_region 64 with fail
          refine wp_world (fun W7 hW7 => ?_)
          have B7 : Below wr.heap.size wr W7 := by rw [hW7]; (repeat (first | exact Below.refl _ _ | assumption | (refine Below.setCell ?_ (by first | (simp; done) | (simp; omega) | omega) _) | (refine Below.drew ?_) | (refine below_drewN ?_ _) | (refine Below.alloc ?_ (by first | (simp; done) | (simp; omega) | omega) _) | (refine Below.trans ?_ (Below.mono (by assumption) (by first | (simp; done) | (simp; omega) | omega)))))
          have N7 : Blk W7 wr.heap.size [.int .i64 z, .int .i64 y] := by rw [hW7]; exact Blk.new _ _ _ _ rfl
          have H7 := Lib.hid (And.intro (HR4.out.1.trans (B7.mono HR4.out.1.size)) (HR4.out.2.1.past B7))
          have HNT := Lib.hid (note_any y T2.t v pt pn W7 hne (HGK.out.kT.past B7) H7.out.2)
          have n1 := N7.c 1 _ rfl; have nl := N7.lt
          clear hW7 B7 N7 e0 e1 el HR4 HGK
          go_wp2_with (go_at_call 32; refine (HNT.out).mono ?_; rintro e w3 ⟨rfl, hw, hblk⟩; have HX := Lib.hid (And.intro (show Below V.heap.size V w3 from hw.elim (fun h => by rw [h]; exact H7.out.1) (fun h => by rw [h]; exact H7.out.1.setCell (by show V.heap.size ≤ pn; have := HPN.out; omega) _)) hblk); clear hw hblk n1 nl)
          go_roundw
          case rel => exact ⟨i + 1, by omega, by go_num, HX.out.1, noteV T2.t v y, HX.out.2, HL.out⟩
          case measure => simp [intOf]; omega
        · have hidi : ¬ (i : Int) < (dn : Int) := by omega
          have hie : i = dn := by omega
          have HL := Lib.hid (show LeastOf (fun c => endP T2 D.nm c ∨ downP D (k + 1) c) T2.t v from HR4.out.2.2.congr (fun c => by rw [HDP.out c, hie]; exact (or_assoc).symm))
          clear hie HGK
          go_wp2_with fail
          go_roundw
          case rel => exact ⟨k + 1, by omega, by go_num, HR4.out.1, v, HR4.out.2.1, HL.out⟩
          case measure => simp [intOf]; omega
    · have hini : ¬ (k : Int) < (D.nm : Int) := by omega
      have hie : k = D.nm := by omega
      have HE := Lib.hid hie
      clear hie
      go_wp2_with fail
      refine Met.intro ?_
      exact ⟨_, rfl, ⟨rfl, rfl, rfl, rfl, rfl, rfl, rfl, rfl, rfl, rfl, rfl, rfl, rfl⟩, rfl, HR3.out.1, v, HR3.out.2.1, by have h := HR3.out.2.2; rw [HE.out] at h; exact h⟩
end
end Go.Proofs.Ytkadinjhfldokaa

namespace Go.Proofs.Ytkadinjhfldokaa
open Go Go.RowKit
set_option maxHeartbeats 4000000 in
theorem eq_runV (x : RunV) (w : World) : Sem.run Try.prog (Op.equalIn 10000 36 (.agg #[.int .i64 x.wk, .int .i64 x.mc, .int .i64 x.fr, .int .i64 x.to, .bool x.fl]) (.agg #[.int .i64 x.wk, .int .i64 x.mc, .int .i64 x.fr, .int .i64 x.to, .bool x.fl])) w = .ok true w := by
  obtain ⟨a, b, c, d, f⟩ := x
  dsimp only
  have h1 := Try.underlying36
  have h2 := Try.underlying3
  have h3 := Try.underlying4
  have k0 : ∀ w, (part 3 #[.int .i64 a, .int .i64 b, .int .i64 c, .int .i64 d, .bool f] 0).run Try.prog w = .ok (.int .i64 a) w := fun _ => by kernel_rfl
  have k1 : ∀ w, (part 3 #[.int .i64 a, .int .i64 b, .int .i64 c, .int .i64 d, .bool f] 1).run Try.prog w = .ok (.int .i64 b) w := fun _ => by kernel_rfl
  have k2 : ∀ w, (part 3 #[.int .i64 a, .int .i64 b, .int .i64 c, .int .i64 d, .bool f] 2).run Try.prog w = .ok (.int .i64 c) w := fun _ => by kernel_rfl
  have k3 : ∀ w, (part 3 #[.int .i64 a, .int .i64 b, .int .i64 c, .int .i64 d, .bool f] 3).run Try.prog w = .ok (.int .i64 d) w := fun _ => by kernel_rfl
  have k4 : ∀ w, (part 4 #[.int .i64 a, .int .i64 b, .int .i64 c, .int .i64 d, .bool f] 4).run Try.prog w = .ok (.bool f) w := fun _ => by kernel_rfl
  rw [show (10000 : Nat) = 9997 + 1 + 1 + 1 from rfl]
  generalize 9997 = e
  simp [Op.equalIn, run_underlying h1, run_underlying h2, run_underlying h3, Sem.run_bind, Sem.run_pure, Result.andThen_ok, k0, k1, k2, k3, k4]
theorem EqVr_nil (a a' : Option Addr) (c c' : Nat) (w : World) : Calls Try.prog 14 #[.slice a 0 c, .slice a' 0 c'] w fun e w' => e = .returned (.bool true) ∧ Below w.heap.size w w' := by
  go_enter Try.func14, Try.ntmps14
  go_wp2_with fail
  refine wp_loop_rounds 1 ?_
  go_wp2_with (simp only [rounds_succ])
  go_ret
  exact ⟨rfl, Below.refl _ _⟩
set_option maxRecDepth 100000 in
set_option maxHeartbeats 3200000 in
theorem EqVr_yes (b b' n cap cap' : Nat) (q q' : Nat → RunV) (w : World) (_hn : n ≤ 65536) (hc1 : n ≤ cap ∧ cap ≤ 9223372036854775807) (hc2 : n ≤ cap' ∧ cap' ≤ 9223372036854775807) (h1 : VecR w b n q) (h2 : VecR w b' n q') (hq : ∀ j, j < n → q' j = q j) :
    Calls Try.prog 14 #[.slice (some ⟨b, 0, none⟩) n cap, .slice (some ⟨b', 0, none⟩) n cap'] w fun e w' => e = .returned (.bool true) ∧ Below w.heap.size w w' := by
  have H1 := Lib.hid (And.intro h1 (And.intro h2 hq))
  obtain ⟨e1, e2⟩ := hc1
  obtain ⟨e3, e4⟩ := hc2
  clear h1 h2 hq
  go_enter Try.func14, Try.ntmps14
  go_wp2_with fail
  go_loopw [13] (fun s13 wr => ∃ k : Nat, k ≤ n ∧ s13 = .int .i64 k ∧ Below w.heap.size w wr) (fun s13 _ => n - (intOf s13).toNat)
  case atStart => exact ⟨0, Nat.zero_le _, rfl, Below.refl _ _⟩
  case round =>
    obtain ⟨k, hk, rfl, hB⟩ := hrel
    have HBB := Lib.hid hB
    by_cases hkn : k < n
    · have c0 := (hB.cell (p := ⟨b, k * 5, none⟩) H1.out.1.lt).trans (H1.out.1.c0 k hkn)
      have c1 := (hB.cell (p := ⟨b, k * 5 + 1, none⟩) H1.out.1.lt).trans (H1.out.1.c1 k hkn)
      have c2 := (hB.cell (p := ⟨b, k * 5 + 2, none⟩) H1.out.1.lt).trans (H1.out.1.c2 k hkn)
      have c3 := (hB.cell (p := ⟨b, k * 5 + 3, none⟩) H1.out.1.lt).trans (H1.out.1.c3 k hkn)
      have c4 := (hB.cell (p := ⟨b, k * 5 + 4, none⟩) H1.out.1.lt).trans (H1.out.1.c4 k hkn)
      have d0 := (hB.cell (p := ⟨b', k * 5, none⟩) H1.out.2.1.lt).trans (H1.out.2.1.c0 k hkn)
      have d1 := (hB.cell (p := ⟨b', k * 5 + 1, none⟩) H1.out.2.1.lt).trans (H1.out.2.1.c1 k hkn)
      have d2 := (hB.cell (p := ⟨b', k * 5 + 2, none⟩) H1.out.2.1.lt).trans (H1.out.2.1.c2 k hkn)
      have d3 := (hB.cell (p := ⟨b', k * 5 + 3, none⟩) H1.out.2.1.lt).trans (H1.out.2.1.c3 k hkn)
      have d4 := (hB.cell (p := ⟨b', k * 5 + 4, none⟩) H1.out.2.1.lt).trans (H1.out.2.1.c4 k hkn)
      rw [H1.out.2.2 k hkn] at d0 d1 d2 d3 d4
      have bl := cell_lt c0; have dl := cell_lt d0
      simp only at bl dl
      have hkn' : (k : Int) < (n : Int) := by omega
      have eT := eq_runV (q k)
      generalize q k = x at *
      clear hB
      go_wp2_with fail
      go_quiet (fail)
      go_wp2_with fail
      go_roundw
      case rel => exact ⟨k + 1, by omega, by go_num, HBB.out.trans ((below_drewN (Below.refl _ _) _).mono HBB.out.size)⟩
      case measure => simp [intOf]; omega
    · have hkk : ¬ (k : Int) < (n : Int) := by omega
      clear hB
      go_wp2_with fail
      go_ret
      exact ⟨rfl, HBB.out⟩
/-- What the farm gives and what the document's simulation gives are one row. -/
theorem out_eq {D : SimD} (g : GoodD D) {lo lo' : Nat} {w w' : World} {rv rv' : Value} (h : SimOut D lo w rv) (h' : DocOut D lo' w' rv') : (∃ a c a' c', rv = .slice a 0 c ∧ rv' = .slice a' 0 c') ∨ ∃ k b c b' c' q q', rv = .slice (some ⟨b, 0, none⟩) k c ∧ rv' = .slice (some ⟨b', 0, none⟩) k c' ∧ k ≤ 65536 ∧ (k ≤ c ∧ c ≤ 9223372036854775807) ∧ (k ≤ c' ∧ c' ≤ 9223372036854775807) ∧ VecR w b k q ∧ VecR w' b' k q' ∧ ∀ j, j < k → q' j = q j := by
  obtain ⟨S, q, h1, h2, h3, h4, h5, h6⟩ := h
  obtain ⟨S', q', k1, k2, k3, k4, k5, k6⟩ := h'
  obtain rfl : S' = S := SimR.one k1 k2 k3 h1 h2 h3
  have hk : S'.k ≤ 22000 := (h1.inv g).kle g
  have hcn : ∀ P : RunV → Bool, cn0 P q' 0 S'.k = cn0 P q 0 S'.k := fun P => by
    have := h4.cn P
    rw [Nat.sub_zero] at this
    rw [k4 P, this]
  have hd : ∀ i j, i < S'.k → j < S'.k → keyR (q i) = keyR (q j) → i = j := fun i j hi hj he => by
    rcases Nat.lt_trichotomy i j with hlt | e | hgt
    · obtain ⟨a, b, a1, a2, a3, a4, a5⟩ := h4.two hi hj (by omega)
      exact absurd (keys_differ g h1 a1 a2 (by rw [a4, a5]; exact he)) a3
    · exact e
    · obtain ⟨a, b, a1, a2, a3, a4, a5⟩ := h4.two hi hj (by omega)
      exact absurd (keys_differ g h1 a1 a2 (by rw [a4, a5]; exact he)) a3
  have hq := rows_eq h5 k5 hcn hd
  rcases h6 with ⟨a1, a2⟩ | ⟨b, c, a1, a2, a3, a4, a5⟩
  · rcases k6 with ⟨b1, b2⟩ | ⟨b', c', b1, b2, b3, b4, b5⟩
    · exact .inl ⟨none, 0, none, 0, a2, b2⟩
    · rw [a1] at b1
      exact .inl ⟨none, 0, _, c', a2, b1⟩
  · rcases k6 with ⟨b1, b2⟩ | ⟨b', c', b1, b2, b3, b4, b5⟩
    · rw [b1] at a1
      exact .inl ⟨_, c, none, 0, a1, b2⟩
    · exact .inr ⟨S'.k, b, c, b', c', q, q', a1, b1, by omega, ⟨a3, a4⟩, ⟨b3, b4⟩, a5, b5, hq⟩
end Go.Proofs.Ytkadinjhfldokaa
