/- CachesMatch: the switch of a call (block 2 of the function). Conditions: what the theorem names. -/
import Derived.Test.YtcdcfkgdgimmcaaDoorKcF
namespace Go.Proofs.YtcdcfkgdgimmcaaDoor
open Go Go.RowKit
theorem tdiv7_bd (y : Int) (h : -9223372036854775808 ≤ y ∧ y ≤ 9223372036854775807) : IntKind.i64.wrap (y.tdiv 7) = y.tdiv 7 := by
  have h1 : -9223372036854775808 ≤ y.tdiv 7 ∧ y.tdiv 7 ≤ 9223372036854775807 := by
    rcases Int.le_total 0 y with h0 | h0
    · rw [Int.tdiv_eq_ediv_of_nonneg h0]; omega
    · have e : y.tdiv 7 = -((-y).tdiv 7) := by rw [Int.neg_tdiv, Int.neg_neg]
      rw [e, Int.tdiv_eq_ediv_of_nonneg (by omega)]; omega
  rw [IntKind.wrap_i64]; omega
theorem six_new (w : World) (ty : TypeId) (v0 v1 v2 v3 v4 v5 : Value) : ∀ j u, [v0, v1, v2, v3, v4, v5][j]? = some u → (w.alloc (.cells #[v0, v1, v2, v3, v4, v5] ty)).cell? ((⟨w.heap.size, 0, none⟩ : Addr).add j) = some u := fun j u hj => by
  rw [Addr.add_lit, Nat.zero_add, World.cell?_alloc_new]
  simpa using hj
theorem six_one (nm : ByteArray) (x y v h : Int) (g n c : Nat) (o : Nat) : ∀ u ∈ [Value.string nm, .int .i64 x, .int .i64 y, .int .i64 v, .int .i64 h, .slice (some ⟨g, o, none⟩) n c], u.oneCell' = true := fun u hu => by
  simp only [List.mem_cons, List.not_mem_nil, or_false] at hu
  rcases hu with rfl | rfl | rfl | rfl | rfl | rfl <;> rfl
def lnOf : Value → Nat
  | .slice _ n _ => n
  | _ => 0
theorem entPix : ∀ args w, (callFunc 19 args).run Tryd.prog w = .ok (.enter 19 args) w := body_enters Tryd.func19 (by kernel_rfl) rfl
theorem ka_one (E : List KA) : ∀ u ∈ E.flatMap kaC, u.oneCell' = true := fun u hu => by
  obtain ⟨k, -, hk⟩ := List.mem_flatMap.1 hu
  simp only [kaC, List.mem_cons, List.not_mem_nil, or_false] at hk
  rcases hk with rfl | rfl | rfl | rfl | rfl | rfl <;> rfl
theorem LkR.bd {w wr : World} {most : Int} {c mb N : Nat} {hi mi : Int} {lv ks : Value} {L : List Kp} {E : List KA} (h : LkR w wr most c mb N hi mi lv ks L E) : ∀ b, (Sp c mb ks b ∨ lv.ownBlock = some b) → b < wr.heap.size := fun b hb => by
  rcases hb with (e | e | e) | e
  · rw [e]; exact h.C.b.lt
  · rw [e]; obtain ⟨D, hD, -⟩ := h.C.m; exact hD.lt
  · exact h.C.k.lt e
  · exact h.K.row.lt e
/-- What stands at the loop's head behind k calls. -/
def AtK (w wr : World) (most : Int) (c k hi mi : Nat) (lv : Value) : Prop :=
  hi ≤ k ∧ mi ≤ k ∧ ∃ mb N ks E, N ≤ k ∧ E.length ≤ k ∧ LkR w wr most c mb N hi mi lv ks (E.map KA.k) E

set_option maxRecDepth 100000 in
set_option maxHeartbeats 12800000 in
theorem kcB2 {most : Int} {ca na fb : Option Addr} {ncl cc nn nc fn fc c k hi mi : Nat} {ao : Option Addr} {ln cp : Nat} {w w4 : World} {mb N : Nat} {ks : Value} {E : List KA} {xb : Nat} {nm : ByteArray} {fx fy fv fh : Int} {fa : Option Addr} {fm fcp : Nat} {ffs : Nat → Nat} {pz r3 : Int}
    (hm : 1 ≤ most ∧ most ≤ 16777216) (hkn : k < ncl) (h1 : ncl ≤ 100)
    (HFR : Hid ((0 < fm → ∃ b off, fa = some ⟨b, off, none⟩ ∧ Row w b off fm ffs) ∧ ((IntKind.i64.min ≤ fx ∧ fx ≤ IntKind.i64.max) ∧ (IntKind.i64.min ≤ fy ∧ fy ≤ IntKind.i64.max)) ∧ nm.size ≤ maxLen)) (HFD : Hid (fm ≤ fcp ∧ fcp ≤ maxLen))
    (HSX : Hid (∀ b, (Sp c mb ks b ∨ (Value.slice ao ln cp).ownBlock = some b) → b < xb))
    (H1 : Hid (Blk w4 (xb + 1) [.string nm] ∧ Blk w4 (xb + 1 + 1) [.int .i64 fx, .int .i64 fy, .int .i64 fv, .int .i64 fh, .slice fa fm fcp] ∧ LkR w w4 most c mb N hi mi (.slice ao ln cp) ks (E.map KA.k) E ∧ hi ≤ k ∧ mi ≤ k ∧ N ≤ k ∧ E.length ≤ k))
    (HPZ : Hid (pz = posI nm (E.map KA.k))) (hr30 : 0 ≤ r3) (hr32 : r3 ≤ 2)
    {K : Act → World → Prop} {Q : Exit → Act → World → Prop} {l : List Value} (hQp : ∀ p d v a w, Q (.panic p) (a.put d v) w → Q (.panic p) a w) (hA : AtC most ca ncl cc na nn nc fb fn fc c k (.slice ao ln cp) (.int .i64 hi) (.int .i64 mi) l) (y15 : l[15]? = some (.pointer (some ⟨xb, 0, none⟩))) (y16 : l[16]? = some (.pointer (some ⟨xb + 1, 0, none⟩))) (y17 : l[17]? = some (.pointer (some ⟨xb + 1 + 1, 0, none⟩))) (y18 : l[18]? = some (.int .i64 pz)) (y106 : l[106]? = some (.int .u64 r3))
    (_hK : ∀ a' w', Met (fun a wx => ∃ (l : List Value) (hi' mi' : Nat) (ao' : Option Addr) (ln' cp' : Nat), a = ⟨l.toArray, []⟩ ∧ AtC most ca ncl cc na nn nc fb fn fc c k (.slice ao' ln' cp') (.int .i64 hi') (.int .i64 mi') l ∧ AtK w wx most c (k + 1) hi' mi' (.slice ao' ln' cp')) a' w' → K a' w') : (blkOf Tryd.f3 2).wp Tryd.prog (Exit.then K Q) ⟨l.toArray, []⟩ w4 := by
  obtain ⟨us, rfl⟩ := hA.out
  have z15 : us 15 = .pointer (some ⟨xb, 0, none⟩) := Option.some.inj y15
  have z16 : us 16 = .pointer (some ⟨xb + 1, 0, none⟩) := Option.some.inj y16
  have z17 : us 17 = .pointer (some ⟨xb + 1 + 1, 0, none⟩) := Option.some.inj y17
  have z18 : us 18 = .int .i64 pz := Option.some.inj y18
  have z106 : us 106 = .int .u64 r3 := Option.some.inj y106
  rw [z15, z16, z17, z18, z106]
  clear hA y15 z15 y16 z16 y17 z17 y18 z18 y106 z106
  conv => { enter [2]; whnf }
  rcases (show r3 = 0 ∨ r3 = 1 ∨ r3 = 2 by omega) with rfl | rfl | rfl
  ·
    have hlenL : (E.map KA.k).length ≤ 900 := by have := H1.out.2.2.2.2.2.2; simp; omega
    have HEk := Lib.hid H1.out.2.2.2.2
    have HHk := Lib.hid H1.out.2.2.2.1
    have n0 := H1.out.1.c 0 _ rfl; have nl := H1.out.1.lt
    have hnm9 : nm.size ≤ 9223372036854775807 := by have := HFR.out.2.2; unfold maxLen at this; omega
    obtain ⟨tr, htr⟩ : ∃ tr, tr = trH nm := ⟨_, rfl⟩
    have HTR := Lib.hid (fun w => trimH_any nm w hnm9)
    rw [← htr] at HTR
    have HRG : Hid (rgK nm = (decide ((nm.size : Int) = 16) && tr.toList.isEmpty)) := Lib.hid (by unfold rgK; rw [htr])
    clear htr
    go_upto_region 20 with fail
    go_cut [19] from 122 to 129 (fun s19 wx => s19 = .bool (rgK nm) ∧ Below w4.heap.size w4 wx)
    case first => as_aux_lemma =>
      by_cases h16 : (nm.size : Int) = 16
      · have h16' : ((nm.size : Int) == 16) = true := by simpa using h16
        go_wp2_with (go_at_call 12; refine (HTR.out _).mono ?_; rintro e w5 ⟨rfl, hb5⟩; have HB5 := Lib.hid hb5; clear hb5)
        go_meet
        exact ⟨by rw [HRG.out, decide_eq_true h16, Bool.true_and], HB5.out⟩
      · have h16' : ((nm.size : Int) == 16) = false := by simpa using h16
        go_wp2_with fail
        go_meet
        exact ⟨by rw [HRG.out, decide_eq_false h16, Bool.false_and], Below.refl _ _⟩
    case rest =>
      obtain ⟨rfl, hb5⟩ := hcut
      have HW5 := Lib.hid hb5
      clear hb5 HTR n0 nl HRG
      obtain ⟨r, hr⟩ : ∃ r, r = rgK nm := ⟨_, rfl⟩
      obtain ⟨E2, hE2⟩ : ∃ E2, E2 = fraErr fx fy fv fh fm := ⟨_, rfl⟩
      have HRE := Lib.hid (And.intro hr hE2)
      rw [← hr]
      have HFE : Hid (∀ w', Calls Tryd.prog 15 #[.agg #[.int .i64 fx, .int .i64 fy, .int .i64 fv, .int .i64 fh, .slice fa fm fcp]] w' fun e w'' => e = .returned (.int .i64 E2) ∧ Below w'.heap.size w' w'') := Lib.hid (fun w' => by rw [hE2]; exact FrameError_any fx fy fv fh fa fm fcp w' (by have := HFR.out.2.1.1; simpa [IntKind.min, IntKind.max, IntKind.signed, IntKind.bits] using this) (by have := HFR.out.2.1.2; simpa [IntKind.min, IntKind.max, IntKind.signed, IntKind.bits] using this))
      clear hr hE2
      have HF5 := Lib.hid (H1.out.2.1.past HW5.out)
      have f0 := HF5.out.c 0 _ rfl; have f1 := HF5.out.c 1 _ rfl; have f2 := HF5.out.c 2 _ rfl; have f3 := HF5.out.c 3 _ rfl; have f4 := HF5.out.c 4 _ rfl; have fl := HF5.out.lt
      obtain ⟨Z, hZ⟩ : ∃ Z, Z = firstE (whenE (!r) 6) E2 := ⟨_, rfl⟩
      have HZ := Lib.hid hZ
      clear hZ
      go_upto_region 21 with fail
      go_cut [20] from 130 to 136 (fun s20 wx => s20 = .int .i64 Z ∧ Below w4.heap.size w4 wx)
      case first => as_aux_lemma =>
        refine wp_region_loose 5 (fun f' _ u => (f' = 14 ∧ u = .int .i64 (whenE (!r) 6)) ∨ (f' = 15 ∧ u = .int .i64 E2)) (by kernel_rfl) (by kernel_rfl) ?_
        simp only [List.take_succ_cons, List.take_zero, List.drop_succ_cons, List.drop_zero]
        iterate 2 (refine loose_wanted rfl (fun K hK => ?_); go_simp; refine hK _ ?_; clear hK K)
        refine loose_wanted rfl (fun K hK => ?_)
        go_simp
        refine ⟨fun p => (When_any _ _ p.w).mono ?_, ?_⟩
        · rintro e w' ⟨rfl, rfl⟩
          exact ⟨_, rfl, by first | rfl | simp, p.h⟩
        refine hK _ ?_
        clear hK K
        iterate 1 (refine loose_wanted rfl (fun K hK => ?_); go_simp; refine hK _ ?_; clear hK K)
        refine loose_wanted rfl (fun K hK => ?_)
        go_simp
        refine ⟨fun p => (HFE.out p.w).mono ?_, ?_⟩
        · rintro e w' ⟨rfl, hb⟩
          exact ⟨_, rfl, by first | rfl | simp, p.h.trans (hb.mono p.h.size)⟩
        refine hK _ ?_
        clear hK K
        refine loose_nil (fun w6 hb6 => ?_)
        have B6 := HW5.out.trans (hb6.mono HW5.out.size)
        clear hb6
        go_wp2_with (first | (go_at_call 13; refine (First2_new _ _ _ _ _ (heap_new _ _ _ (by simp))).mono ?_; rintro e w' ⟨rfl, rfl⟩))
        go_meet
        have hz6 := B6.size
        exact ⟨by rw [HZ.out], by (repeat (first | exact Below.refl _ _ | assumption | (refine Below.setCell ?_ (by first | (simp; done) | (simp; omega) | omega) _) | (refine Below.drew ?_) | (refine below_drewN ?_ _) | (refine Below.alloc ?_ (by first | (simp; done) | (simp; omega) | omega) _) | (refine Below.trans ?_ (Below.mono (by assumption) (by first | (simp; done) | (simp; omega) | omega)))))⟩
      case rest =>
        obtain ⟨rfl, hb6⟩ := hcut
        have HL6 := Lib.hid (H1.out.2.2.1.past hb6)
        have HN6 := Lib.hid (H1.out.1.past hb6)
        have HF6 := Lib.hid (H1.out.2.1.past hb6)
        have HX4 := Lib.hid H1.out.2.1.lt
        have HB6 := Lib.hid hb6.size
        clear f0 f1 f2 f3 f4 fl HF5 HFE hb6 HW5
        have n0 := HN6.out.c 0 _ rfl; have nl := HN6.out.lt
        have f0 := HF6.out.c 0 _ rfl; have f1 := HF6.out.c 1 _ rfl; have f2 := HF6.out.c 2 _ rfl; have f3 := HF6.out.c 3 _ rfl; have f4 := HF6.out.c 4 _ rfl; have fl := HF6.out.lt
        cases r with
        | false => as_aux_lemma =>
          have hz : Z = 6 := by rw [HZ.out]; rfl
          subst hz
          have HPU := Lib.hid (fun w' => Put_err c nm _ w' fx fy fv fh fa fm fcp rfl hnm9 HRE.out.1.symm)
          go_wp2_with (go_at_call 16; refine (HPU.out _).mono ?_; rintro e w7 ⟨rfl, hb7⟩; have HL7 := Lib.hid (HL6.out.past hb7); clear hb7)
          refine Met.intro ?_
          exact ⟨_, hi, mi, ao, ln, cp, rfl, ⟨rfl, rfl, rfl, rfl, rfl, rfl, rfl, rfl, rfl, rfl, rfl, rfl⟩, by have := HHk.out; omega, by have := HEk.out.1; omega, mb, N, ks, E, by have := HEk.out.2.1; omega, by have := HEk.out.2.2; omega, HL7.out⟩
        | true =>
          have hz : Z = E2 := by rw [HZ.out]; rfl
          by_cases he : E2 = 0
          · have hz0 : Z = 0 := by rw [hz, he]
            subst hz0
            have hfe : fraErr fx fy fv fh fm = 0 := by rw [← HRE.out.2]; exact he
            have hrg : rgK nm = true := HRE.out.1.symm
            clear hz he
            have hfm : 0 < fm := by
              obtain ⟨he, hl⟩ := fraErr_ok hfe
              have := (fr_n he hl).1; omega
            obtain ⟨bf, off, rfl, hrow⟩ := HFR.out.1 hfm
            have hrow6 := hrow.past HL6.out.B
            have hfm2 : fm ≤ 65536 := by
              obtain ⟨he, hl⟩ := fraErr_ok hfe
              exact (fr_n he hl).2.1
            obtain ⟨KN, hKN⟩ : ∃ KN : Kp, KN = ⟨nm, fx, fy, fv, fh, fm, fun i => cn .f32 (ffs i)⟩ := ⟨_, rfl⟩
            have HPU := Lib.hid (Put_yes c mb ks most hi mi N (E.map KA.k) _ nm _ fx fy fv fh bf off fm fcp ffs HL6.out.C (fun b hb => HL6.out.K.row.lt hb) hnm9 hrg hfe hrow6 hlenL (by have := HEk.out.2.1; omega) ⟨by omega, by omega⟩)
            rw [← hKN] at HPU
            obtain ⟨L7, hL7⟩ : ∃ L7, L7 = dropK nm (E.map KA.k) ++ [KN] := ⟨_, rfl⟩
            rw [← hL7] at HPU
            have HL7E := Lib.hid (And.intro hL7 (And.intro hKN (And.intro hrow (And.intro hfe hfm2))))
            clear hL7 hKN hrow hrow6 hfe hrg
            go_upto_region 24 with (go_at_call 16; refine HPU.out.mono ?_; rintro e w7 ⟨rfl, hP7⟩; have HP7 := Lib.hid hP7; clear hP7)
            obtain ⟨ks7, o7, C7, t7⟩ := HP7.out
            have hsp : ∀ b, Sp c mb ks b → b < xb := fun b hb => HSX.out b (.inl hb)
            have hN7 := HN6.out.tch t7 (fun e => by have := hsp _ e; omega)
            have hF7 := HF6.out.tch t7 (fun e => by have := hsp _ e; omega)
            have H7 := Lib.hid (And.intro (HL6.out.turn o7 C7 t7) (And.intro hN7 (And.intro hF7 t7.size)))
            clear o7 C7 t7 hsp hN7 hF7 HP7 HPU n0 nl f0 f1 f2 f3 f4 fl
            go_upto_if 146 with fail
            go_cut [11] from 147 to 151 (fun s11 wx => ∃ (ao' : Option Addr) (ln' cp' : Nat) (E' : List KA), s11 = .slice ao' ln' cp' ∧ LkR w wx most c mb (N + 1) hi mi (.slice ao' ln' cp') ks7 (fitK most L7) E' ∧ E'.map KA.k = dropK nm (E.map KA.k) ∧ E'.length ≤ E.length ∧ Blk wx (xb + 1) [.string nm] ∧ Blk wx (xb + 1 + 1) [.int .i64 fx, .int .i64 fy, .int .i64 fv, .int .i64 fh, .slice (some ⟨bf, off, none⟩) fm fcp] ∧ xb + 1 + 1 < wx.heap.size)
            case first => as_aux_lemma =>
              by_cases hp : posK nm (E.map KA.k) < (E.map KA.k).length
              · obtain ⟨p, hpp⟩ : ∃ p, p = posK nm (E.map KA.k) := ⟨_, rfl⟩
                have hpz : pz = (p : Int) := by rw [HPZ.out, hpp]; unfold posI; rw [if_pos hp]
                have hpE : p < E.length := by rw [hpp]; simpa using hp
                have hdk : dropK nm (E.map KA.k) = (E.eraseIdx p).map KA.k := by unfold dropK; rw [if_pos hp, ← hpp, map_erase]
                have HDK := Lib.hid hdk
                have hp9 : (p : Int) ≤ 1000 := by simp at hlenL; omega
                subst hpz
                clear hpp hp hdk
                go_wp2_with (go_at_call 17; refine (delKept _ E.length p _ _ H7.out.1.K.row hpE (ka_one E)).mono ?_; rintro e w8 ⟨v8, rfl, o8, R8, g8⟩; have HL8 := Lib.hid (H7.out.1.cut hpE o8 R8 g8); obtain ⟨ao8, ln8, cp8, rfl⟩ : ∃ ao n cap, v8 = .slice ao n cap := (by obtain ⟨-, ao, cap, e, -⟩ := R8; exact ⟨_, _, _, e⟩); have t8 : Tch (fun b => (Value.slice ao ln cp).ownBlock = some b) _ w8 := (Tch.of_grown g8 (fun b hb => hb)); have HT8 := Lib.hid t8; clear o8 R8 g8 t8)
                go_meet
                have hN8 := H7.out.2.1.tch HT8.out (fun e => by have := HSX.out _ (.inr e); omega)
                have hF8 := H7.out.2.2.1.tch HT8.out (fun e => by have := HSX.out _ (.inr e); omega)
                exact ⟨ao8, ln8, cp8, E.eraseIdx p, rfl, HL8.out, HDK.out.symm, by rw [List.length_eraseIdx]; split <;> omega, hN8, hF8, hF8.lt⟩
              · have hpz : pz = -1 := by rw [HPZ.out]; unfold posI; rw [if_neg hp]
                have hdk : dropK nm (E.map KA.k) = E.map KA.k := by unfold dropK; rw [if_neg hp]
                have HDK := Lib.hid hdk
                subst hpz
                clear hp hdk
                go_wp2_with fail
                go_meet
                exact ⟨ao, ln, cp, E, rfl, H7.out.1, HDK.out.symm, Nat.le_refl _, H7.out.2.1, H7.out.2.2.1, H7.out.2.2.1.lt⟩
            case rest =>
              obtain ⟨ao', ln', cp', E', rfl, hL8, hE8, hEl8, hN8, hF8, hx8⟩ := hcut
              have H8 := Lib.hid (And.intro hL8 (And.intro hE8 (And.intro hEl8 (And.intro hN8 hF8))))
              clear hL8 hE8 hEl8 hN8 hF8 H7 HL6 HN6 HF6
              have hCp : ∀ w', Below wc.heap.size wc w' → w'.cell? ⟨xb + 1, 0, none⟩ = some (.string nm) ∧ w'.cell? ⟨xb + 1 + 1, 0, none⟩ = some (.int .i64 fx) ∧ w'.cell? ⟨xb + 1 + 1, 1, none⟩ = some (.int .i64 fy) ∧ w'.cell? ⟨xb + 1 + 1, 2, none⟩ = some (.int .i64 fv) ∧ w'.cell? ⟨xb + 1 + 1, 3, none⟩ = some (.int .i64 fh) := fun w' hb =>
                ⟨(H8.out.2.2.2.1.past hb).c 0 _ rfl, (H8.out.2.2.2.2.past hb).c 0 _ rfl, (H8.out.2.2.2.2.past hb).c 1 _ rfl, (H8.out.2.2.2.2.past hb).c 2 _ rfl, (H8.out.2.2.2.2.past hb).c 3 _ rfl⟩
              have HCP := Lib.hid hCp
              have hEl : E'.length ≤ 900 := by have := H8.out.2.2.1; have := HEk.out.2.2; omega
              obtain ⟨i6, hi6, hz6, hz7, hz8⟩ := info_parts infoKept
              clear hCp
              go_upto_region 27 with fail
              refine wp_region_C (fun w' => w'.cell? ⟨xb + 1, 0, none⟩ = some (.string nm) ∧ w'.cell? ⟨xb + 1 + 1, 0, none⟩ = some (.int .i64 fx) ∧ w'.cell? ⟨xb + 1 + 1, 1, none⟩ = some (.int .i64 fy) ∧ w'.cell? ⟨xb + 1 + 1, 2, none⟩ = some (.int .i64 fv) ∧ w'.cell? ⟨xb + 1 + 1, 3, none⟩ = some (.int .i64 fh)) 8 10 (by kernel_rfl) rfl ?_
              have hC := HCP.out wc.drew ((Below.refl _ _).drew)
              refine wpAnyC_take (i := 0) (v := .slice ao' ln' cp') rfl (by kernel_rfl) (by kernel_rfl) (fun _ _ _ h => hQp _ _ _ _ _ h) (.inl ⟨rfl, fun w' hw' => ?_⟩) hC ?_
              · obtain ⟨k0, k1, k2, k3, k4⟩ := hw'
                go_simp
              refine wpAnyC_take (i := 1) (v := .string nm) rfl (by kernel_rfl) (by kernel_rfl) (fun _ _ _ h => hQp _ _ _ _ _ h) (.inl ⟨rfl, fun w' hw' => ?_⟩) hC ?_
              · obtain ⟨k0, k1, k2, k3, k4⟩ := hw'
                go_simp
              refine wpAnyC_take (i := 2) (v := .pointer (some ⟨xb + 1 + 1, 0, none⟩)) rfl (by kernel_rfl) (by kernel_rfl) (fun _ _ _ h => hQp _ _ _ _ _ h) (.inl ⟨rfl, fun w' hw' => ?_⟩) hC ?_
              · obtain ⟨k0, k1, k2, k3, k4⟩ := hw'
                go_simp
              refine wpAnyC_take (i := 3) (v := .agg #[.int .i64 fx, .int .i64 fy, .int .i64 fv, .int .i64 fh]) rfl (by kernel_rfl) (by kernel_rfl) (fun _ _ _ h => hQp _ _ _ _ _ h) (.inl ⟨rfl, fun w' hw' => ?_⟩) hC ?_
              · obtain ⟨k0, k1, k2, k3, k4⟩ := hw'
                go_simp
              refine wpAnyC_take (i := 4) (v := .func (.func 19) #[] #[.pointer (some ⟨xb + 1 + 1, 0, none⟩)]) rfl (by kernel_rfl) (by kernel_rfl) (fun _ _ _ h => hQp _ _ _ _ _ h) (.inl ⟨rfl, fun w' hw' => ?_⟩) hC ?_
              · obtain ⟨k0, k1, k2, k3, k4⟩ := hw'
                go_simp
              refine wpAnyC_one (i := 5) rfl (by kernel_rfl) (fun K hK => ?_)
              go_simp
              have hbD : Below wc.heap.size wc wc.drew := (Below.refl _ _).drew
              refine (Made_any 19 #[.pointer (some ⟨xb + 1 + 1, 0, none⟩)] fx fy fv fh (fun k c => cn .f32 (ffs (4 * k + c))) _ (fraErr_ok HL7E.out.2.2.2.1).1 entPix (kc_maker fx fy fv fh bf off fm fcp ffs (xb + 1 + 1) _ HL7E.out.2.2.2.1 (HL7E.out.2.2.1.past (H8.out.1.B.trans (hbD.mono H8.out.1.B.size))) (H8.out.2.2.2.2.past hbD) HFD.out.1 (by have := HFD.out.2; unfold maxLen at this; omega))).mono ?_
              rintro e w9 ⟨g9, n9, cap9, hn9, rfl, hg9, hgl9, hcl9, hb9⟩
              have hnn : n9 = fm := by have h1 := (fraErr_ok HL7E.out.2.2.2.1).2; omega
              subst hnn
              have hbE : Below wc.heap.size wc w9 := hbD.trans (hb9.mono (by simp))
              have HBE := Lib.hid (And.intro hbE (And.intro hg9 (And.intro hgl9 hcl9)))
              have hsz9 := hbE.size
              clear hn9 hg9 hgl9 hcl9 hb9 hbD hbE hC
              go_simp
              refine hK _ _ (fun _ => HCP.out _ HBE.out.1) ?_
              clear hK K
              have hC := HCP.out _ HBE.out.1
              refine wpAnyC_take (i := 6) (v := .agg #[.string nm, .int .i64 fx, .int .i64 fy, .int .i64 fv, .int .i64 fh, .slice (some ⟨g9, 0, none⟩) n9 cap9]) rfl (by kernel_rfl) (by kernel_rfl) (fun _ _ _ h => hQp _ _ _ _ _ h) (.inl ⟨rfl, fun w' hw' => ?_⟩) hC ?_
              · obtain ⟨k0, k1, k2, k3, k4⟩ := hw'
                go_simp
              refine wpAnyC_one (i := 7) rfl (by kernel_rfl) (fun K hK => ?_)
              go_simp
              have hbF : Below w9.heap.size w9 (w9.alloc (.cells #[.string nm, .int .i64 fx, .int .i64 fy, .int .i64 fv, .int .i64 fh, .slice (some ⟨g9, 0, none⟩) n9 cap9] 41)) := by (repeat (first | exact Below.refl _ _ | assumption | (refine Below.setCell ?_ (by first | (simp; done) | (simp; omega) | omega) _) | (refine Below.drew ?_) | (refine below_drewN ?_ _) | (refine Below.alloc ?_ (by first | (simp; done) | (simp; omega) | omega) _) | (refine Below.trans ?_ (Below.mono (by assumption) (by first | (simp; done) | (simp; omega) | omega)))))
              have HBF := Lib.hid hbF
              refine hK _ _ (fun _ => HCP.out _ (HBE.out.1.trans (HBF.out.mono HBE.out.1.size))) ?_
              clear hK K hC hbF
              refine wpAnyC_one (i := 8) rfl (by kernel_rfl) (fun K hK => ?_)
              refine step_append_row (v := .slice ao' ln' cp') rfl (.tmp 152) (.tmp 159) 31 rfl Tryd.underlying31 hi6 hz6 hz7 hz8 rfl (by decide) rfl (H8.out.1.past (HBE.out.1.trans (HBF.out.mono HBE.out.1.size))).K.row ⟨w9.heap.size, 0, none⟩ 1 [.string nm, .int .i64 fx, .int .i64 fy, .int .i64 fv, .int .i64 fh, .slice (some ⟨g9, 0, none⟩) n9 cap9] rfl rfl (six_new _ _ _ _ _ _ _ _) (six_one _ _ _ _ _ _ _ _ _) (by unfold maxLen; omega) (by omega) ?_
              intro ao9 cap10 w10 hR10 hG10 ho10
              have hNK : KN.n = n9 ∧ KN.nm = nm := by rw [HL7E.out.2.1]; exact ⟨rfl, rfl⟩
              have hRow : Row w9 g9 0 KN.n KN.fs := fun i hi => by
                rw [hNK.1] at hi
                rw [HL7E.out.2.1, Nat.zero_add, HBE.out.2.2.2 i hi]
                simp only
                rw [show 4 * (i / 4) + i % 4 = i by omega]
              have hkc : kaC ⟨KN, g9, 0, cap9⟩ = [.string nm, .int .i64 fx, .int .i64 fy, .int .i64 fv, .int .i64 fh, .slice (some ⟨g9, 0, none⟩) n9 cap9] := by rw [HL7E.out.2.1]; rfl
              have hokN : KN.ok := by rw [HL7E.out.2.1]; exact ⟨HL7E.out.2.2.2.1, HFR.out.2.2⟩
              have hgw : wc.heap.size ≤ g9 := by have := HBE.out.2.1; simpa using this
              have hbd8 := H8.out.1.bd
              have HL10 := Lib.hid ((H8.out.1.past (HBE.out.1.trans (HBF.out.mono HBE.out.1.size))).app ⟨KN, g9, 0, cap9⟩ (hRow.past HBF.out) (Nat.lt_of_lt_of_le HBE.out.2.2.1 HBF.out.size) (fun e => by have := hbd8 g9 (.inr e); omega) ⟨fun e => by have h1 := hbd8 c (.inl (.inl rfl)); have e : g9 = c := e; omega, fun e => by have h1 := hbd8 mb (.inl (.inr (.inl rfl))); have e : g9 = mb := e; omega, fun e => by have h1 := hbd8 g9 (.inl (.inr (.inr e))); omega⟩ hokN ho10 (by rw [hkc]; exact hR10) hG10)
              have HM10 : Hid ((E' ++ ([⟨KN, g9, 0, cap9⟩] : List KA)).map KA.k = L7) := Lib.hid (by rw [List.map_append, H8.out.2.1, HL7E.out.1]; rfl)
              have HE10 : Hid ((E' ++ ([⟨KN, g9, 0, cap9⟩] : List KA)).length ≤ E.length + 1) := Lib.hid (by rw [List.length_append]; have := H8.out.2.2.1; simp; omega)
              clear hR10 hG10 ho10 hRow hkc hokN hgw hbd8
              refine hK _ _ (fun h => by rw [getD_setSelf] at h; cases h) ?_
              clear hK K
              refine wpAnyC_act (by rfl) ?_
              simp only [Act.put, List.setIfInBounds_toArray, List.set_cons_zero, List.set_cons_succ]
              refine wpAnyC_one (i := 9) rfl (by kernel_rfl) (fun K hK => ?_)
              go_simp
              refine hK _ _ (fun h => by rw [getD_setC (by decide), getD_setSelf] at h; cases h) ?_
              clear hK K
              refine wpAnyC_done (by kernel_rfl) ?_
              obtain ⟨E3, hE3⟩ : ∃ E3, E3 = E' ++ ([⟨KN, g9, 0, cap9⟩] : List KA) := ⟨_, rfl⟩
              rw [← hE3] at HL10 HM10 HE10
              have hl3 : E'.length + 1 = E3.length := by rw [hE3]; simp
              rw [hl3] at HL10
              rw [hl3]
              have hl3b : E3.length ≤ 901 := by omega
              clear hE3 hl3 H8 HCP HBE HBF hnm9
              go_wp2_with fail
              go_loopw [11] (fun s11 wr => ∃ (ao3 : Option Addr) (ln3 cp3 : Nat) (E4 : List KA), s11 = .slice ao3 ln3 cp3 ∧ ln3 = E4.length ∧ E4.length ≤ E3.length ∧ fitK most (E4.map KA.k) = fitK most L7 ∧ LkR w wr most c mb (N + 1) hi mi (.slice ao3 ln3 cp3) ks7 (fitK most L7) E4) (fun s11 _ => lnOf s11)
              case atStart => exact ⟨ao9, E3.length, cap10, E3, rfl, rfl, Nat.le_refl _, by rw [HM10.out], HL10.out⟩
              case round =>
                obtain ⟨ao3, ln3, cp3, E4, rfl, hl4, hl5, hfit, hL4⟩ := hrel
                have HR := Lib.hid (And.intro hfit hL4)
                have HLN := Lib.hid (And.intro hl4 hl5)
                have hE9 : E4.length ≤ 1000 := by omega
                obtain ⟨P, hP⟩ : ∃ P, P = pixL (E4.map KA.k) := ⟨_, rfl⟩
                have HPI : Hid (∀ wx, Below wr.heap.size wr wx → Calls Tryd.prog 21 #[.slice ao3 ln3 cp3] wx fun e w' => e = .returned (.int .i64 P) ∧ Below wx.heap.size wx w') := Lib.hid (fun wx hx => by rw [hP]; exact pixels_any _ E4 wx (hL4.past hx).K.row (hL4.past hx).K.ok hE9)
                have HP := Lib.hid hP
                clear hP hfit hL4 hl4 hl5 hE9
                by_cases hmP : most < P
                ·
                  obtain ⟨a5, E5, rfl⟩ : ∃ a5 E5, E4 = a5 :: E5 := by
                    cases E4 with
                    | nil => have := HP.out; simp [pixL] at this; omega
                    | cons a5 E5 => exact ⟨a5, E5, rfl⟩
                  obtain ⟨bb, oo, cq, e5, hq1, hq2, hT⟩ := HR.out.2.tail
                  injection e5 with e51 e52 e53
                  subst e51; subst e53
                  have hl6 : ln3 = E5.length + 1 := HLN.out.1
                  subst hl6
                  have HTT := Lib.hid hT
                  have hc63 : cp3 ≤ 9223372036854775807 := by unfold maxLen at hq2; omega
                  have hHM := Lib.hid hmP
                  clear hT e52 hq2
                  go_wp2_with (go_at_call 21; refine (HPI.out _ (Below.refl _ _)).mono ?_; rintro e w11 ⟨rfl, hb11⟩; have HB11 := Lib.hid hb11; clear hb11)
                  go_roundw
                  case rel => exact ⟨_, _, _, E5, rfl, rfl, by have := HLN.out.2; simp at this; omega, by rw [← HR.out.1, List.map_cons, fitK_step (by have h1 := HP.out; have h2 := hHM.out; rw [List.map_cons] at h1; rw [← h1]; exact h2)], HTT.out.past HB11.out⟩
                  case measure => show E5.length < E5.length + 1; omega
                ·
                  have HM := Lib.hid hmP
                  go_wp2_with (go_at_call 21; refine (HPI.out _ (Below.refl _ _)).mono ?_; rintro e w11 ⟨rfl, hb11⟩; have HB11 := Lib.hid hb11; clear hb11)
                  refine Met.intro ?_
                  refine ⟨_, hi, mi, ao3, ln3, cp3, rfl, ⟨rfl, rfl, rfl, rfl, rfl, rfl, rfl, rfl, rfl, rfl, rfl, rfl⟩, by have := HHk.out; omega, by have := HEk.out.1; omega, mb, N + 1, ks7, E4, by have := HEk.out.2.1; omega, by have := HEk.out.2.2; have := HE10.out; have := HLN.out.2; omega, ?_⟩
                  have h := HR.out.2.past HB11.out
                  rw [← HR.out.1, fitK_end (by rw [← HP.out]; have := HM.out; omega)] at h
                  exact h
          · as_aux_lemma =>
            have hzz : (Z != 0) = true := by rw [hz]; simpa using he
            have HPU : Hid (∀ w', Calls Tryd.prog 16 #[.pointer (some ⟨c, 0, none⟩), .string nm, .agg #[.int .i64 fx, .int .i64 fy, .int .i64 fv, .int .i64 fh, .slice fa fm fcp]] w' fun e w'' => e = .returned (.int .i64 Z) ∧ Below w'.heap.size w' w'') := Lib.hid (fun w' => by rw [hz, HRE.out.2]; exact Put_bad c nm w' fx fy fv fh fa fm fcp hnm9 HRE.out.1.symm (by rw [← HRE.out.2]; exact he))
            clear hz he
            go_wp2_with (go_at_call 16; refine (HPU.out _).mono ?_; rintro e w7 ⟨rfl, hb7⟩; have HL7 := Lib.hid (HL6.out.past hb7); clear hb7)
            refine Met.intro ?_
            exact ⟨_, hi, mi, ao, ln, cp, rfl, ⟨rfl, rfl, rfl, rfl, rfl, rfl, rfl, rfl, rfl, rfl, rfl, rfl⟩, by have := HHk.out; omega, by have := HEk.out.1; omega, mb, N, ks, E, by have := HEk.out.2.1; omega, by have := HEk.out.2.2; omega, HL7.out⟩
  ·
    have hlenL : (E.map KA.k).length ≤ 1000 := by have := H1.out.2.2.2.2.2.2; simp; omega
    have n0 := H1.out.1.c 0 _ rfl; have nl := H1.out.1.lt
    have hhi9 : hi ≤ 100 := by have := H1.out.2.2.2.1; omega
    have hmi9 : mi ≤ 100 := by have := H1.out.2.2.2.2.1; omega
    by_cases hp : posK nm (E.map KA.k) < (E.map KA.k).length
    · obtain ⟨p, hpp⟩ : ∃ p, p = posK nm (E.map KA.k) := ⟨_, rfl⟩
      have hpz : pz = (p : Int) := by rw [HPZ.out, hpp]; unfold posI; rw [if_pos hp]
      have hpE : p < E.length := by rw [hpp]; simpa using hp
      obtain ⟨xa, hxa⟩ : ∃ xa, E[p]? = some xa := ⟨_, List.getElem?_eq_getElem hpE⟩
      have hxk : (E.map KA.k)[p]? = some xa.k := by rw [List.getElem?_map, hxa]; rfl
      have hxn : xa.k.nm = nm := by
        obtain ⟨x, h1, h2⟩ := posK_hit hp
        rw [← hpp, hxk] at h1; cases h1; exact h2
      have hgk : getK nm (E.map KA.k) = (E.eraseIdx p).map KA.k ++ [xa.k] := by
        unfold getK
        rw [← hpp, hxk, map_erase]
      have hok := H1.out.2.2.1.K.ok xa (List.mem_of_getElem? hxa)
      have hxkb := Kp.ok_bd hok
      have HGH := Lib.hid (Get_hit c mb ks most hi mi N (E.map KA.k) _ nm xa.k w4 H1.out.2.2.1.C (fun b hb => H1.out.2.2.1.K.row.lt hb) HFR.out.2.2 (by rw [← hpp]; exact hxk) ⟨by omega, by omega⟩ hlenL)
      have HDK := Lib.hid (And.intro hgk (And.intro hpE (And.intro hxa (And.intro hxn (And.intro hok hxkb)))))
      have hp9 : (p : Int) ≤ 1000 := by simp at hlenL; omega
      subst hpz
      clear hpp hp hgk hxa hxk hxn hok hxkb
      go_upto_region 32 with (go_at_call 22; refine HGH.out.mono ?_; rintro e w5 ⟨g, gc, rfl, hG5⟩; have HG5 := Lib.hid hG5; clear hG5)
      obtain ⟨hg1, hg2, hg3, hg4, hgR, ks5, o5, ne5, C5, t5⟩ := HG5.out
      have hL5 := H1.out.2.2.1.turn o5 C5 t5
      have N5 := H1.out.1.tch t5 (fun e => by have := HSX.out (xb + 1) (.inl e); omega)
      refine wp_world (fun W5 hW5 => ?_)
      have B5 : Below w5.heap.size w5 W5 := by rw [hW5]; (repeat (first | exact Below.refl _ _ | assumption | (refine Below.setCell ?_ (by first | (simp; done) | (simp; omega) | omega) _) | (refine Below.drew ?_) | (refine below_drewN ?_ _) | (refine Below.alloc ?_ (by first | (simp; done) | (simp; omega) | omega) _) | (refine Below.trans ?_ (Below.mono (by assumption) (by first | (simp; done) | (simp; omega) | omega)))))
      have GB : Blk W5 w5.heap.size [.int .i64 xa.k.x, .int .i64 xa.k.y, .int .i64 xa.k.v, .int .i64 xa.k.h, .slice (some ⟨g, 0, none⟩) xa.k.n gc] := by rw [hW5]; exact Blk.new _ _ _ _ rfl
      have hnl : xb + 1 < w5.heap.size := N5.lt
      have hxl4 : c < w4.heap.size ∧ mb < w4.heap.size ∧ (∀ b, (Value.slice ao ln cp).ownBlock = some b → b < w4.heap.size) := ⟨H1.out.2.2.1.C.b.lt, H1.out.2.2.1.bd mb (.inl (.inr (.inl rfl))), fun b hb => H1.out.2.2.1.bd b (.inr hb)⟩
      have H5 := Lib.hid (And.intro (hL5.past B5) (And.intro (N5.past B5) (And.intro GB (And.intro (hgR.past B5) (And.intro hg1 (And.intro (Nat.lt_of_lt_of_le hg2 B5.size) (And.intro ne5 hxl4)))))))
      obtain ⟨bx, hbx⟩ : ∃ bx, bx = w5.heap.size := ⟨_, rfl⟩
      rw [← hbx] at H5 hnl
      rw [← hbx]
      have hw45 : w4.heap.size ≤ bx := by have := t5.size; omega
      have HX4 := Lib.hid H1.out.1.lt
      clear hW5 B5 GB N5 hL5 hg1 hg2 hg3 hg4 hgR o5 ne5 C5 t5 HG5 HGH hbx hxl4 n0 nl
      have hsz5 : xa.k.n ≤ 65536 := by have := HDK.out.2.2.2.2.2; omega
      obtain ⟨bl, ol, cl, elv, -, -, hbl, hcl⟩ := ka_at H5.out.1.K.row HDK.out.2.2.1
      injection elv with e1 e2 e3
      subst e1; subst e2; subst e3
      have d1 := hcl 1 _ rfl; have d2 := hcl 2 _ rfl; have d3 := hcl 3 _ rfl; have d4 := hcl 4 _ rfl; have d5 := hcl 5 _ rfl
      have g0 := H5.out.2.2.1.c 0 _ rfl; have g1 := H5.out.2.2.1.c 1 _ rfl; have g2 := H5.out.2.2.1.c 2 _ rfl; have g3 := H5.out.2.2.1.c 3 _ rfl; have g4 := H5.out.2.2.1.c 4 _ rfl; have gl := H5.out.2.2.1.lt
      have hpl : (p : Int) < ((E.length : Nat) : Int) := by omega
      have hla := H5.out.1.K.each xa (List.mem_of_getElem? HDK.out.2.2.1)
      have HLA := Lib.hid hla
      have hag := hla.2.1
      clear hla hcl
      go_upto_region 37 with fail
      refine wp_region_loose 7 (fun _ _ u => u = .bool true) (by kernel_rfl) (by kernel_rfl) ?_
      simp only [List.take_succ_cons, List.take_zero, List.drop_succ_cons, List.drop_zero]
      iterate 6 (refine loose_wanted rfl (fun K hK => ?_); go_simp; refine hK _ ?_; clear hK K)
      refine loose_wanted rfl (fun K hK => ?_)
      go_simp
      refine ⟨fun p' => (SameFrame_yes _ _ _ _ g 0 xa.g xa.off xa.k.n gc xa.cap xa.k.fs p'.w hsz5 (by have := p'.h.size; have := H5.out.2.2.2.2.2.1; omega) (by have := p'.h.size; omega) (fun i hi => (H5.out.2.2.2.1.past p'.h) i hi) (fun i hi => (HLA.out.1.past p'.h) i hi)).mono ?_, ?_⟩
      · rintro e w' ⟨rfl, hb⟩
        exact ⟨_, rfl, rfl, p'.h.trans (hb.mono p'.h.size)⟩
      refine hK _ ?_
      clear hK K
      refine loose_nil (fun w6 hb6 => ?_)
      have H6 := Lib.hid (And.intro (H5.out.1.past hb6) (And.intro (H5.out.2.1.past hb6) (And.intro (H5.out.2.2.1.past hb6) (And.intro (H5.out.2.2.2.1.past hb6) (And.intro hb6.size H5.out.2.2.2.2)))))
      have HN6 := Lib.hid (H5.out.2.1.past hb6)
      have HG6 := Lib.hid (H5.out.2.2.1.past hb6)
      have n0 := HN6.out.c 0 _ rfl; have nl := HN6.out.lt
      clear hb6 d1 d2 d3 d4 d5 g0 g1 g2 g3 g4 gl hbl hag HLA
      have g0 := HG6.out.c 0 _ rfl; have g1 := HG6.out.c 1 _ rfl; have g2 := HG6.out.c 2 _ rfl; have g3 := HG6.out.c 3 _ rfl; have g4 := HG6.out.c 4 _ rfl; have gl := HG6.out.lt
      obtain ⟨i6, hi6, hz6, hz7, hz8⟩ := info_parts infoKept
      have hEl : (E.eraseIdx p).length ≤ 1000 := by have h1 := H1.out.2.2.2.2.2.2; rw [List.length_eraseIdx]; split <;> omega
      have hEk : E.length ≤ k := H1.out.2.2.2.2.2.2
      have hhk : hi ≤ k ∧ mi ≤ k := ⟨H1.out.2.2.2.1, H1.out.2.2.2.2.1⟩
      have hCp : ∀ w', Below w6.heap.size w6 w' → w'.cell? ⟨xb + 1, 0, none⟩ = some (.string nm) ∧ w'.cell? ⟨bx, 0, none⟩ = some (.int .i64 xa.k.x) ∧ w'.cell? ⟨bx, 1, none⟩ = some (.int .i64 xa.k.y) ∧ w'.cell? ⟨bx, 2, none⟩ = some (.int .i64 xa.k.v) ∧ w'.cell? ⟨bx, 3, none⟩ = some (.int .i64 xa.k.h) ∧ w'.cell? ⟨bx, 4, none⟩ = some (.slice (some ⟨g, 0, none⟩) xa.k.n gc) := fun w' hb =>
        ⟨(HN6.out.past hb).c 0 _ rfl, (HG6.out.past hb).c 0 _ rfl, (HG6.out.past hb).c 1 _ rfl, (HG6.out.past hb).c 2 _ rfl, (HG6.out.past hb).c 3 _ rfl, (HG6.out.past hb).c 4 _ rfl⟩
      have HCP := Lib.hid hCp
      clear hCp n0 nl g0 g1 g2 g3 g4 gl
      go_upto_region 39 with fail
      refine wp_region_C (fun w' => w'.cell? ⟨xb + 1, 0, none⟩ = some (.string nm) ∧ w'.cell? ⟨bx, 0, none⟩ = some (.int .i64 xa.k.x) ∧ w'.cell? ⟨bx, 1, none⟩ = some (.int .i64 xa.k.y) ∧ w'.cell? ⟨bx, 2, none⟩ = some (.int .i64 xa.k.v) ∧ w'.cell? ⟨bx, 3, none⟩ = some (.int .i64 xa.k.h) ∧ w'.cell? ⟨bx, 4, none⟩ = some (.slice (some ⟨g, 0, none⟩) xa.k.n gc)) 9 11 (by kernel_rfl) rfl ?_
      have hC := HCP.out w6.drew ((Below.refl _ _).drew)
      refine wpAnyC_take (i := 0) (v := .slice (some ⟨bl, ol, none⟩) E.length cp) rfl (by kernel_rfl) (by kernel_rfl) (fun _ _ _ h => hQp _ _ _ _ _ h) (.inl ⟨rfl, fun w' hw' => ?_⟩) hC ?_
      · obtain ⟨k0, k1, k2, k3, k4, k5⟩ := hw'
        go_simp
      refine wpAnyC_take (i := 1) (v := .int .i64 p) rfl (by kernel_rfl) (by kernel_rfl) (fun _ _ _ h => hQp _ _ _ _ _ h) (.inl ⟨rfl, fun w' hw' => ?_⟩) hC ?_
      · obtain ⟨k0, k1, k2, k3, k4, k5⟩ := hw'
        go_simp
      refine wpAnyC_take (i := 2) (v := .int .i64 p) rfl (by kernel_rfl) (by kernel_rfl) (fun _ _ _ h => hQp _ _ _ _ _ h) (.inl ⟨rfl, fun w' hw' => ?_⟩) hC ?_
      · obtain ⟨k0, k1, k2, k3, k4, k5⟩ := hw'
        go_simp
      have hpw : IntKind.i64.wrap ((p : Int) + 1) = (p : Int) + 1 := by rw [IntKind.wrap_i64]; omega
      refine wpAnyC_take (i := 3) (v := .int .i64 ((p : Int) + 1)) rfl (by kernel_rfl) (by kernel_rfl) (fun _ _ _ h => hQp _ _ _ _ _ h) (.inl ⟨rfl, fun w' hw' => ?_⟩) hC ?_
      · obtain ⟨k0, k1, k2, k3, k4, k5⟩ := hw'
        go_simp
      clear hpw
      refine wpAnyC_take (i := 5) (v := .string nm) rfl (by kernel_rfl) (by kernel_rfl) (fun _ _ _ h => hQp _ _ _ _ _ h) (.inl ⟨rfl, fun w' hw' => ?_⟩) hC ?_
      · obtain ⟨k0, k1, k2, k3, k4, k5⟩ := hw'
        go_simp
      refine wpAnyC_take (i := 6) (v := .agg #[.int .i64 xa.k.x, .int .i64 xa.k.y, .int .i64 xa.k.v, .int .i64 xa.k.h, .slice (some ⟨g, 0, none⟩) xa.k.n gc]) rfl (by kernel_rfl) (by kernel_rfl) (fun _ _ _ h => hQp _ _ _ _ _ h) (.inl ⟨rfl, fun w' hw' => ?_⟩) hC ?_
      · obtain ⟨k0, k1, k2, k3, k4, k5⟩ := hw'
        go_simp
      refine wpAnyC_take (i := 7) (v := .agg #[.string nm, .int .i64 xa.k.x, .int .i64 xa.k.y, .int .i64 xa.k.v, .int .i64 xa.k.h, .slice (some ⟨g, 0, none⟩) xa.k.n gc]) rfl (by kernel_rfl) (by kernel_rfl) (fun _ _ _ h => hQp _ _ _ _ _ h) (.inl ⟨rfl, fun w' hw' => ?_⟩) hC ?_
      · obtain ⟨k0, k1, k2, k3, k4, k5⟩ := hw'
        go_simp
      refine wpAnyC_two (i := 4) (j := 8) rfl rfl (by kernel_rfl) (fun K hK => ?_) (fun K hK => ?_)
      · go_simp
        refine (delKept _ E.length p _ w6.drew (H6.out.1.past ((Below.refl _ _).drew)).K.row HDK.out.2.1 (ka_one E)).mono ?_
        rintro e w7 ⟨v7, rfl, o7, R7, g7⟩
        have HL7 := Lib.hid ((H6.out.1.past ((Below.refl _ _).drew)).cut HDK.out.2.1 o7 R7 g7)
        have t7 : Tch (fun b => (Value.slice (some ⟨bl, ol, none⟩) E.length cp).ownBlock = some b) w6 w7 := by have h := Tch.of_grown (S := fun b => (Value.slice (some ⟨bl, ol, none⟩) E.length cp).ownBlock = some b) g7 (fun b hb => hb); exact ⟨h.os, h.tape, h.output, h.size, h.block⟩
        have HN7 := Lib.hid (HN6.out.tch t7 (fun e => by have := HSX.out _ (.inr e); omega))
        have HG7 := Lib.hid (HG6.out.tch t7 (fun e => by have := HSX.out _ (.inr e); omega))
        have HR7 : Hid (Row w7 g 0 xa.k.n xa.k.fs) := Lib.hid (fun i hi => by
          rw [World.cell?_of_block (a := ⟨g, 0 + i, none⟩) (t7.block g (by have := H6.out.2.2.2.1.lt (show 0 < xa.k.n by have := HDK.out.2.2.2.2.2; omega); exact this) (fun e => by have := HSX.out _ (.inr e); have := H6.out.2.2.2.2.2.1; have := HX4.out; omega))]
          exact H6.out.2.2.2.1 i hi)
        obtain ⟨ao7, ln7, cp7, rfl⟩ : ∃ ao n cap, v7 = .slice ao n cap := by obtain ⟨-, ao, cap, e, -⟩ := R7; exact ⟨_, _, _, e⟩
        have hC7 : ∀ w', Below w7.heap.size w7 w' → w'.cell? ⟨xb + 1, 0, none⟩ = some (.string nm) ∧ w'.cell? ⟨bx, 0, none⟩ = some (.int .i64 xa.k.x) ∧ w'.cell? ⟨bx, 1, none⟩ = some (.int .i64 xa.k.y) ∧ w'.cell? ⟨bx, 2, none⟩ = some (.int .i64 xa.k.v) ∧ w'.cell? ⟨bx, 3, none⟩ = some (.int .i64 xa.k.h) ∧ w'.cell? ⟨bx, 4, none⟩ = some (.slice (some ⟨g, 0, none⟩) xa.k.n gc) := fun w' hb =>
          ⟨(HN7.out.past hb).c 0 _ rfl, (HG7.out.past hb).c 0 _ rfl, (HG7.out.past hb).c 1 _ rfl, (HG7.out.past hb).c 2 _ rfl, (HG7.out.past hb).c 3 _ rfl, (HG7.out.past hb).c 4 _ rfl⟩
        have HC7 := Lib.hid hC7
        have ho7 := Lib.hid o7
        have hsz7 := t7.size
        clear hC7 R7 g7 o7 t7 hC
        go_simp
        refine hK _ _ (fun _ => HC7.out _ (Below.refl _ _)) ?_
        clear hK K
        refine wpAnyC_one (i := 8) rfl (by kernel_rfl) (fun K hK => ?_)
        go_simp
        refine hK _ _ (fun _ => HC7.out _ (by (repeat (first | exact Below.refl _ _ | assumption | (refine Below.setCell ?_ (by first | (simp; done) | (simp; omega) | omega) _) | (refine Below.drew ?_) | (refine below_drewN ?_ _) | (refine Below.alloc ?_ (by first | (simp; done) | (simp; omega) | omega) _) | (refine Below.trans ?_ (Below.mono (by assumption) (by first | (simp; done) | (simp; omega) | omega))))))) ?_
        clear hK K
        refine wpAnyC_one (i := 9) rfl (by kernel_rfl) (fun K hK => ?_)
        refine step_append_row (v := .slice ao7 ln7 cp7) rfl (.tmp 206) (.tmp 210) 31 rfl Tryd.underlying31 hi6 hz6 hz7 hz8 rfl (by decide) rfl (HL7.out.past (by (repeat (first | exact Below.refl _ _ | assumption | (refine Below.setCell ?_ (by first | (simp; done) | (simp; omega) | omega) _) | (refine Below.drew ?_) | (refine below_drewN ?_ _) | (refine Below.alloc ?_ (by first | (simp; done) | (simp; omega) | omega) _) | (refine Below.trans ?_ (Below.mono (by assumption) (by first | (simp; done) | (simp; omega) | omega))))))).K.row ⟨w7.heap.size, 0, none⟩ 1 [.string nm, .int .i64 xa.k.x, .int .i64 xa.k.y, .int .i64 xa.k.v, .int .i64 xa.k.h, .slice (some ⟨g, 0, none⟩) xa.k.n gc] rfl rfl (six_new _ _ _ _ _ _ _ _) (six_one _ _ _ _ _ _ _ _ _) (by unfold maxLen; omega) (by omega) ?_
        intro ao8 cap8 w8 hR8 hG8 ho8
        have hb7 : Below w7.heap.size w7 (w7.alloc (.cells #[.string nm, .int .i64 xa.k.x, .int .i64 xa.k.y, .int .i64 xa.k.v, .int .i64 xa.k.h, .slice (some ⟨g, 0, none⟩) xa.k.n gc] 41)) := by (repeat (first | exact Below.refl _ _ | assumption | (refine Below.setCell ?_ (by first | (simp; done) | (simp; omega) | omega) _) | (refine Below.drew ?_) | (refine below_drewN ?_ _) | (refine Below.alloc ?_ (by first | (simp; done) | (simp; omega) | omega) _) | (refine Below.trans ?_ (Below.mono (by assumption) (by first | (simp; done) | (simp; omega) | omega)))))
        have HL8 := Lib.hid ((HL7.out.past hb7).app ⟨xa.k, g, 0, gc⟩ (HR7.out.past hb7) (by have h1 := H6.out.2.2.2.2.2.2.1; have h2 := H6.out.2.2.2.2.1; simp; omega) (fun e => by have h3 := HSX.out g (.inr (by rw [← ho7.out]; exact e)); have h4 := H6.out.2.2.2.2.2.1; have h5 := HX4.out; omega) ⟨fun e => by have h1 := H6.out.2.2.2.2.2.1; have h2 := H6.out.2.2.2.2.2.2.2.2.1; have e : g = c := e; omega, fun e => by have h1 := H6.out.2.2.2.2.2.1; have h2 := H6.out.2.2.2.2.2.2.2.2.2.1; have e : g = mb := e; omega, H6.out.2.2.2.2.2.2.2.1⟩ HDK.out.2.2.2.2.1 ho8 (by rw [show kaC ⟨xa.k, g, 0, gc⟩ = [.string nm, .int .i64 xa.k.x, .int .i64 xa.k.y, .int .i64 xa.k.v, .int .i64 xa.k.h, .slice (some ⟨g, 0, none⟩) xa.k.n gc] by unfold kaC; rw [HDK.out.2.2.2.1]]; exact hR8) hG8)
        clear hR8 hG8 ho8
        refine hK _ _ (fun h => by rw [getD_setSelf] at h; cases h) ?_
        clear hK K
        refine wpAnyC_act (by rfl) ?_
        simp only [Act.put, List.setIfInBounds_toArray, List.set_cons_zero, List.set_cons_succ]
        refine wpAnyC_one (i := 10) rfl (by kernel_rfl) (fun K hK => ?_)
        go_simp
        refine hK _ _ (fun h => by rw [getD_setC (by decide), getD_setSelf] at h; cases h) ?_
        clear hK K
        refine wpAnyC_done (by kernel_rfl) ?_
        go_wp2_with fail
        refine Met.intro ?_
        exact ⟨_, hi + 1, mi, ao8, _, cap8, rfl, ⟨rfl, rfl, rfl, rfl, rfl, rfl, rfl, congrArg some (by first | rfl | go_num : (_ : Value) = _), rfl, rfl, rfl, rfl⟩, by omega, by omega, mb, N, ks5, E.eraseIdx p ++ [⟨xa.k, g, 0, gc⟩], by have := H1.out.2.2.2.2.2.1; omega, by rw [List.length_append]; simp only [List.length_cons, List.length_nil]; have h1 := H1.out.2.2.2.2.2.2; have h2 := HDK.out.2.1; rw [List.length_eraseIdx, if_pos h2]; omega, by rw [List.map_append]; have h := HL8.out; rw [HDK.out.1] at h; exact h⟩
      · go_simp
        have hbA : Below w6.heap.size w6 (w6.drew.alloc (.cells #[.string nm, .int .i64 xa.k.x, .int .i64 xa.k.y, .int .i64 xa.k.v, .int .i64 xa.k.h, .slice (some ⟨g, 0, none⟩) xa.k.n gc] 41)) := by (repeat (first | exact Below.refl _ _ | assumption | (refine Below.setCell ?_ (by first | (simp; done) | (simp; omega) | omega) _) | (refine Below.drew ?_) | (refine below_drewN ?_ _) | (refine Below.alloc ?_ (by first | (simp; done) | (simp; omega) | omega) _) | (refine Below.trans ?_ (Below.mono (by assumption) (by first | (simp; done) | (simp; omega) | omega)))))
        have hbA2 := hbA
        refine hK _ _ (fun _ => HCP.out _ hbA) ?_
        clear hK K
        refine wpAnyC_one (i := 4) rfl (by kernel_rfl) (fun K hK => ?_)
        go_simp
        refine (delKept _ E.length p _ _ (H6.out.1.past hbA2).K.row HDK.out.2.1 (ka_one E)).mono ?_
        rintro e w7 ⟨v7, rfl, o7, R7, g7⟩
        have HL7 := Lib.hid ((H6.out.1.past hbA2).cut HDK.out.2.1 o7 R7 g7)
        have t7 : Tch (fun b => (Value.slice (some ⟨bl, ol, none⟩) E.length cp).ownBlock = some b) w6 w7 := (Tch.of_below hbA2).then (T := fun b => (Value.slice (some ⟨bl, ol, none⟩) E.length cp).ownBlock = some b) (Tch.of_grown g7 (fun b hb => hb)) (fun _ _ e => e)
        have HN7 := Lib.hid (HN6.out.tch t7 (fun e => by have := HSX.out _ (.inr e); omega))
        have HG7 := Lib.hid (HG6.out.tch t7 (fun e => by have := HSX.out _ (.inr e); omega))
        have HR7 : Hid (Row w7 g 0 xa.k.n xa.k.fs) := Lib.hid (fun i hi => by
          rw [World.cell?_of_block (a := ⟨g, 0 + i, none⟩) (t7.block g (by have := H6.out.2.2.2.1.lt (show 0 < xa.k.n by have := HDK.out.2.2.2.2.2; omega); exact this) (fun e => by have := HSX.out _ (.inr e); have := H6.out.2.2.2.2.2.1; have := HX4.out; omega))]
          exact H6.out.2.2.2.1 i hi)
        obtain ⟨ao7, ln7, cp7, rfl⟩ : ∃ ao n cap, v7 = .slice ao n cap := by obtain ⟨-, ao, cap, e, -⟩ := R7; exact ⟨_, _, _, e⟩
        have hC7 : ∀ w', Below w7.heap.size w7 w' → w'.cell? ⟨xb + 1, 0, none⟩ = some (.string nm) ∧ w'.cell? ⟨bx, 0, none⟩ = some (.int .i64 xa.k.x) ∧ w'.cell? ⟨bx, 1, none⟩ = some (.int .i64 xa.k.y) ∧ w'.cell? ⟨bx, 2, none⟩ = some (.int .i64 xa.k.v) ∧ w'.cell? ⟨bx, 3, none⟩ = some (.int .i64 xa.k.h) ∧ w'.cell? ⟨bx, 4, none⟩ = some (.slice (some ⟨g, 0, none⟩) xa.k.n gc) := fun w' hb =>
          ⟨(HN7.out.past hb).c 0 _ rfl, (HG7.out.past hb).c 0 _ rfl, (HG7.out.past hb).c 1 _ rfl, (HG7.out.past hb).c 2 _ rfl, (HG7.out.past hb).c 3 _ rfl, (HG7.out.past hb).c 4 _ rfl⟩
        have HC7 := Lib.hid hC7
        have ho7 := Lib.hid o7
        have hsz7 := t7.size
        have hnew : ∀ j u, [Value.string nm, .int .i64 xa.k.x, .int .i64 xa.k.y, .int .i64 xa.k.v, .int .i64 xa.k.h, .slice (some ⟨g, 0, none⟩) xa.k.n gc][j]? = some u → w7.cell? ((⟨w6.heap.size, 0, none⟩ : Addr).add j) = some u := fun j u hj => g7.cell (six_new w6.drew _ _ _ _ _ _ _ j u hj) (fun e => by
          rw [Addr.add_lit] at e
          have h1 : w6.heap.size < xb := HSX.out w6.heap.size (.inr e.symm)
          have h2 := HN6.out.lt
          omega)
        have HNW := Lib.hid hnew
        clear hC7 R7 g7 o7 t7 hnew hC
        go_simp
        refine hK _ _ (fun _ => HC7.out _ (Below.refl _ _)) ?_
        clear hK K
        refine wpAnyC_one (i := 9) rfl (by kernel_rfl) (fun K hK => ?_)
        refine step_append_row (v := .slice ao7 ln7 cp7) rfl (.tmp 206) (.tmp 210) 31 rfl Tryd.underlying31 hi6 hz6 hz7 hz8 rfl (by decide) rfl HL7.out.K.row ⟨w6.heap.size, 0, none⟩ 1 [.string nm, .int .i64 xa.k.x, .int .i64 xa.k.y, .int .i64 xa.k.v, .int .i64 xa.k.h, .slice (some ⟨g, 0, none⟩) xa.k.n gc] rfl rfl HNW.out (six_one _ _ _ _ _ _ _ _ _) (by unfold maxLen; omega) (by omega) ?_
        intro ao8 cap8 w8 hR8 hG8 ho8
        have HL8 := Lib.hid ((HL7.out.past (Below.refl _ _)).app ⟨xa.k, g, 0, gc⟩ (HR7.out.past (Below.refl _ _)) (by have h1 := H6.out.2.2.2.2.2.2.1; have h2 := H6.out.2.2.2.2.1; simp; omega) (fun e => by have h3 := HSX.out g (.inr (by rw [← ho7.out]; exact e)); have h4 := H6.out.2.2.2.2.2.1; have h5 := HX4.out; omega) ⟨fun e => by have h1 := H6.out.2.2.2.2.2.1; have h2 := H6.out.2.2.2.2.2.2.2.2.1; have e : g = c := e; omega, fun e => by have h1 := H6.out.2.2.2.2.2.1; have h2 := H6.out.2.2.2.2.2.2.2.2.2.1; have e : g = mb := e; omega, H6.out.2.2.2.2.2.2.2.1⟩ HDK.out.2.2.2.2.1 ho8 (by rw [show kaC ⟨xa.k, g, 0, gc⟩ = [.string nm, .int .i64 xa.k.x, .int .i64 xa.k.y, .int .i64 xa.k.v, .int .i64 xa.k.h, .slice (some ⟨g, 0, none⟩) xa.k.n gc] by unfold kaC; rw [HDK.out.2.2.2.1]]; exact hR8) hG8)
        clear hR8 hG8 ho8
        refine hK _ _ (fun h => by rw [getD_setSelf] at h; cases h) ?_
        clear hK K
        refine wpAnyC_act (by rfl) ?_
        simp only [Act.put, List.setIfInBounds_toArray, List.set_cons_zero, List.set_cons_succ]
        refine wpAnyC_one (i := 10) rfl (by kernel_rfl) (fun K hK => ?_)
        go_simp
        refine hK _ _ (fun h => by rw [getD_setC (by decide), getD_setSelf] at h; cases h) ?_
        clear hK K
        refine wpAnyC_done (by kernel_rfl) ?_
        go_wp2_with fail
        refine Met.intro ?_
        exact ⟨_, hi + 1, mi, ao8, _, cap8, rfl, ⟨rfl, rfl, rfl, rfl, rfl, rfl, rfl, congrArg some (by first | rfl | go_num : (_ : Value) = _), rfl, rfl, rfl, rfl⟩, by omega, by omega, mb, N, ks5, E.eraseIdx p ++ [⟨xa.k, g, 0, gc⟩], by have := H1.out.2.2.2.2.2.1; omega, by rw [List.length_append]; simp only [List.length_cons, List.length_nil]; have h1 := H1.out.2.2.2.2.2.2; have h2 := HDK.out.2.1; rw [List.length_eraseIdx, if_pos h2]; omega, by rw [List.map_append]; have h := HL8.out; rw [HDK.out.1] at h; exact h⟩
    · have hpz : pz = -1 := by rw [HPZ.out]; unfold posI; rw [if_neg hp]
      have HGM := Lib.hid (Get_miss c mb ks most hi mi N (E.map KA.k) _ nm w4 H1.out.2.2.1.C HFR.out.2.2 hp ⟨by omega, by omega⟩)
      subst hpz
      clear hp
      unfold zeroFr at HGM
      have hzn := none_zero
      unfold zeroFr at hzn
      have HZN := Lib.hid hzn
      clear hzn
      go_upto_region 32 with (go_at_call 22; refine HGM.out.mono ?_; rintro e w5 ⟨rfl, C5, t5⟩; have HL5 := Lib.hid (H1.out.2.2.1.turn (.inl rfl) C5 t5); clear C5 t5)
      refine wp_world (fun W5 hW5 => ?_)
      have GB : Blk W5 w5.heap.size [.int .i64 0, .int .i64 0, .int .i64 0, .int .i64 0, .slice none 0 0] := by rw [hW5]; exact Blk.new _ _ _ _ rfl
      have B5 : Below w5.heap.size w5 W5 := by rw [hW5]; (repeat (first | exact Below.refl _ _ | assumption | (refine Below.setCell ?_ (by first | (simp; done) | (simp; omega) | omega) _) | (refine Below.drew ?_) | (refine below_drewN ?_ _) | (refine Below.alloc ?_ (by first | (simp; done) | (simp; omega) | omega) _) | (refine Below.trans ?_ (Below.mono (by assumption) (by first | (simp; done) | (simp; omega) | omega)))))
      have HL6 := Lib.hid (HL5.out.past B5)
      have g0 := GB.c 0 _ rfl; have g1 := GB.c 1 _ rfl; have g2 := GB.c 2 _ rfl; have g3 := GB.c 3 _ rfl; have g4 := GB.c 4 _ rfl; have gl := GB.lt
      clear hW5 GB B5
      go_wp2_with (go_at_call 23; refine (HZN.out _).mono ?_; rintro e w6 ⟨rfl, hb6⟩; have HL7 := Lib.hid (HL6.out.past hb6); clear hb6)
      refine Met.intro ?_
      exact ⟨_, hi, mi + 1, ao, ln, cp, rfl, ⟨rfl, rfl, rfl, rfl, rfl, rfl, rfl, rfl, congrArg some (by first | rfl | go_num : (_ : Value) = _), rfl, rfl, rfl⟩, by have := H1.out.2.2.2.1; omega, by have := H1.out.2.2.2.2.1; omega, mb, N, ks, E, by have := H1.out.2.2.2.2.2.1; omega, by have := H1.out.2.2.2.2.2.2; omega, HL7.out⟩
  ·
    have hlenL : (E.map KA.k).length ≤ 1000 := by have := H1.out.2.2.2.2.2.2; simp; omega
    have n0 := H1.out.1.c 0 _ rfl; have nl := H1.out.1.lt
    by_cases hp : posK nm (E.map KA.k) < (E.map KA.k).length
    · obtain ⟨p, hpp⟩ : ∃ p, p = posK nm (E.map KA.k) := ⟨_, rfl⟩
      have hpz : pz = (p : Int) := by rw [HPZ.out, hpp]; unfold posI; rw [if_pos hp]
      have hpE : p < E.length := by rw [hpp]; simpa using hp
      have hdk : dropK nm (E.map KA.k) = (E.eraseIdx p).map KA.k := by unfold dropK; rw [if_pos hp, ← hpp, map_erase]
      have HDK := Lib.hid (And.intro hdk (And.intro hp hpE))
      have hp9 : (p : Int) ≤ 1000 := by simp at hlenL; omega
      subst hpz
      clear hpp hp hdk
      go_wp2_with (first
        | (go_at_call 25; refine (Drop_any c mb ks most hi mi N (E.map KA.k) _ nm _ H1.out.2.2.1.C hlenL HFR.out.2.2).mono ?_; rintro e w5 ⟨rfl, hD5⟩; obtain ⟨ks5, o5, C5, t5⟩ := hD5; rw [HDK.out.1] at C5; have HL5 := Lib.hid (H1.out.2.2.1.turn (.inl o5) C5 t5); clear o5 C5 t5; rw [decide_eq_true HDK.out.2.1])
        | (go_at_call 17; refine (delKept _ E.length p _ _ HL5.out.K.row hpE (ka_one E)).mono ?_; rintro e w6 ⟨v6, rfl, o6, R6, g6⟩; have HL6 := Lib.hid (HL5.out.cut hpE o6 R6 g6); obtain ⟨ao6, ln6, cp6, rfl⟩ : ∃ ao n cap, v6 = .slice ao n cap := (by obtain ⟨-, ao, cap, e, -⟩ := R6; exact ⟨_, _, _, e⟩); clear o6 R6 g6))
      refine Met.intro ?_
      exact ⟨_, hi, mi, ao6, ln6, cp6, rfl, ⟨rfl, rfl, rfl, rfl, rfl, rfl, rfl, rfl, rfl, rfl, rfl, rfl⟩, by have := H1.out.2.2.2.1; omega, by have := H1.out.2.2.2.2.1; omega, mb, N, ks5, E.eraseIdx p, by have := H1.out.2.2.2.2.2.1; omega, by have := H1.out.2.2.2.2.2.2; rw [List.length_eraseIdx]; split <;> omega, HL6.out⟩
    · have hpz : pz = -1 := by rw [HPZ.out]; unfold posI; rw [if_neg hp]
      have hdk : dropK nm (E.map KA.k) = E.map KA.k := by unfold dropK; rw [if_neg hp]
      have HDK := Lib.hid (And.intro hdk hp)
      subst hpz
      clear hp hdk
      go_wp2_with (go_at_call 25; refine (Drop_any c mb ks most hi mi N (E.map KA.k) _ nm _ H1.out.2.2.1.C hlenL HFR.out.2.2).mono ?_; rintro e w5 ⟨rfl, hD5⟩; obtain ⟨ks5, o5, C5, t5⟩ := hD5; rw [HDK.out.1] at C5; have HL5 := Lib.hid (H1.out.2.2.1.turn (.inl o5) C5 t5); clear o5 C5 t5; rw [decide_eq_false HDK.out.2])
      refine Met.intro ?_
      exact ⟨_, hi, mi, ao, ln, cp, rfl, ⟨rfl, rfl, rfl, rfl, rfl, rfl, rfl, rfl, rfl, rfl, rfl, rfl⟩, by have := H1.out.2.2.2.1; omega, by have := H1.out.2.2.2.2.1; omega, mb, N, ks5, E, by have := H1.out.2.2.2.2.2.1; omega, by have := H1.out.2.2.2.2.2.2; omega, HL5.out⟩
end Go.Proofs.YtcdcfkgdgimmcaaDoor
