/- Work on machines, the farm's: which work is next. Conditions: what each theorem names. -/
import Derived.Test.YtkadinjhfldokaaSiB
namespace Go.Proofs.Ytkadinjhfldokaa
open Go Go.RowKit
set_option maxRecDepth 100000 in
set_option maxHeartbeats 3200000 in
theorem IndexFI (K : Nat) (caps : Array Value) (a : Option Addr) (n c : Nat) (zs : Nat → Int) (p : Nat → Bool) (w : World) (h : InI w a n c zs) (hent : ∀ args w, (callFunc K args).run Try.prog w = .ok (.enter K args) w)
    (hk : ∀ j wr, j < n → Below w.heap.size w wr → Calls Try.prog K (#[.int .i64 (zs j)] ++ caps) wr fun e w' => e = .returned (.bool (p j)) ∧ w' = wr) :
    Calls Try.prog 42 #[.slice a n c, .func (.func K) #[] caps] w fun e w' => (∃ r : Int, e = .returned (.int .i64 r) ∧ (0 ≤ r ↔ anyP p n = true)) ∧ Below w.heap.size w w' := by
  have HH := Lib.hid h; have HK := Lib.hid hk
  have hm63 : n ≤ 9223372036854775807 := by have h1 := h.1; have h3 := h.2.1; unfold maxLen at h3; omega
  clear h hk
  go_enter Try.func42, Try.ntmps42
  go_wp2_with fail
  go_loopw [8] (fun s8 wr => ∃ k : Nat, k ≤ n ∧ s8 = .int .i64 k ∧ anyP p k = false ∧ Below w.heap.size w wr) (fun s8 _ => n - (intOf s8).toNat)
  case atStart => exact ⟨0, Nat.zero_le _, rfl, rfl, Below.refl _ _⟩
  case round =>
    obtain ⟨k, hk, rfl, hz, hB⟩ := hrel
    have HZ := Lib.hid hz; have HB := Lib.hid hB
    clear hz
    by_cases hkm : k < n
    · have hkmi : (k : Int) < (n : Int) := by omega
      obtain ⟨b, off, rfl, hc⟩ := HH.out.2.2 (by omega)
      have c1 := HH.out.1
      have c2 : c ≤ 9223372036854775807 := by have := HH.out.2.1; unfold maxLen at this; omega
      have c0 := (hB.cell (p := ⟨b, off + k, none⟩) (cell_lt (hc k hkm).1)).trans (hc k hkm).1
      have l0 := cell_lt c0; simp only at l0
      have HC := Lib.hid (HK.out k wr hkm hB)
      have HT := Lib.hid (fun h => anyP_true hkm h : p k = true → anyP p n = true)
      have HN := Lib.hid (show anyP p (k + 1) = (anyP p k || p k) from rfl)
      generalize zs k = z at *
      cases hr : p k
      · rw [hr] at HC
        have HS := Lib.hid (show anyP p (k + 1) = false by rw [HN.out, HZ.out, hr]; rfl)
        clear hc hB hr HN HT
        go_wp2_with fail
        refine (HC.out).mono ?_
        rintro e w5 ⟨rfl, rfl⟩
        clear HC
        go_wp2_with fail
        go_roundw
        case rel => exact ⟨k + 1, by omega, by go_num, HS.out, HB.out⟩
        case measure => simp [intOf]; omega
      · rw [hr] at HC
        have HS := Lib.hid (HT.out hr)
        clear hc hB hr HN HT
        go_wp2_with fail
        refine (HC.out).mono ?_
        rintro e w5 ⟨rfl, rfl⟩
        clear HC
        go_wp2_with fail
        go_ret
        exact ⟨⟨_, rfl, by rw [HS.out]; simp⟩, HB.out⟩
    · have hkmi : ¬ (k : Int) < (n : Int) := by omega
      have hkn : k = n := by omega
      have HE := Lib.hid (show anyP p n = false by rw [← hkn]; exact HZ.out)
      clear hB hkn
      go_wp2_with fail
      go_ret
      exact ⟨⟨_, rfl, by rw [HE.out]; simp⟩, HB.out⟩
theorem ContainsFI (K : Nat) (caps : Array Value) (a : Option Addr) (n c : Nat) (zs : Nat → Int) (p : Nat → Bool) (w : World) (h : InI w a n c zs) (hent : ∀ args w, (callFunc K args).run Try.prog w = .ok (.enter K args) w)
    (hk : ∀ j wr, j < n → Below w.heap.size w wr → Calls Try.prog K (#[.int .i64 (zs j)] ++ caps) wr fun e w' => e = .returned (.bool (p j)) ∧ w' = wr) :
    Calls Try.prog 30 #[.slice a n c, .func (.func K) #[] caps] w fun e w' => e = .returned (.bool (anyP p n)) ∧ Below w.heap.size w w' := by
  have HC := Lib.hid (IndexFI K caps a n c zs p w h hent hk)
  clear h hk hent
  go_enter Try.func30, Try.ntmps30
  go_wp2_with fail
  refine (HC.out).mono ?_
  rintro e w5 ⟨⟨r, rfl, hr⟩, hb⟩
  have HB := Lib.hid hb; have HR := Lib.hid hr
  clear hb hr
  have HD := Lib.hid (show decide ((0 : Int) ≤ r) = anyP p n by
    cases ha : anyP p n
    · exact decide_eq_false (fun h => by rw [HR.out, ha] at h; cases h)
    · exact decide_eq_true (HR.out.2 ha))
  go_wp2_with fail
  go_ret
  exact ⟨by rw [← HD.out]; rfl, HB.out⟩
section
variable {w0 : World} {aw : Option Addr} {cw : Nat} {am : Option Addr} {cm : Nat} {D : SimD} {ps gs gf gb b1 : Nat} {S : SimS} {pb : Nat → Nat} {rv : Value}
theorem isDone_any (z : Nat) (nb : Nat) (w : World) (h : SimG w0 aw cw am cm D ps gs gf gb b1 w S pb rv) (hz : z < D.nw) (hb : Blk w nb [.pointer (some ⟨ps, 0, none⟩)]) :
    Calls Try.prog 35 #[.int .i64 z, .pointer (some ⟨nb, 0, none⟩)] w fun e w' => e = .returned (.bool (S.st z != 2)) ∧ w' = w := by
  have s4 := h.kS.c 4 _ rfl; have sl := h.kS.lt; have t0 := h.kT.c z hz; have tl := h.kT.lt; have b0 := hb.c 0 _ rfl; have bl := hb.lt
  have hzi : (z : Int) < (D.nw : Int) := by omega
  generalize S.st z = v at *
  clear h hb
  go_enter Try.func35, Try.ntmps35
  go_wp2_with fail
  go_ret
  exact ⟨rfl, rfl⟩
set_option maxRecDepth 100000 in
set_option maxHeartbeats 6400000 in
theorem ready_any (w : World) (h : SimG w0 aw cw am cm D ps gs gf gb b1 w S pb rv) (hW : IsWorks w0 aw D.nw cw D.W) (hg : GoodD D) :
    Calls Try.prog 18 #[.pointer (some ⟨ps, 0, none⟩)] w fun e w' => e = .returned (.int .i64 (bestW D S.st D.nw)) ∧ Below w.heap.size w w' := by
  have HH := Lib.hid (And.intro h hW)
  have HG := Lib.hid hg.work
  have hn2 : D.nw ≤ 2000 := HG.out.1
  have hent : ∀ args w, (callFunc 35 args).run Try.prog w = .ok (.enter 35 args) w := fun _ _ => by kernel_rfl
  have HENT := Lib.hid hent
  have s0 := h.kS.c 0 _ rfl; have sl := h.kS.lt
  clear h hW hg hent
  go_enter Try.func18, Try.ntmps18
  go_upto_region 3 with fail
  refine wp_world (fun W hW => ?_)
  have B : Below w.heap.size w W := by rw [hW]; (repeat (first | exact Below.refl _ _ | assumption | (refine Below.setCell ?_ (by first | (simp; done) | (simp; omega) | omega) _) | (refine Below.drew ?_) | (refine below_drewN ?_ _) | (refine Below.alloc ?_ (by first | (simp; done) | (simp; omega) | omega) _) | (refine Below.trans ?_ (Below.mono (by assumption) (by first | (simp; done) | (simp; omega) | omega)))))
  have A0 : Blk W w.heap.size [.pointer (some ⟨ps, 0, none⟩)] := by rw [hW]; exact Blk.new _ _ _ _ rfl
  have H1 := Lib.hid (And.intro (HH.out.1.past B) (And.intro A0 B))
  clear hW B A0 s0 sl
  go_loopw [3, 11] (fun s3 s11 wr => ∃ i : Nat, i ≤ D.nw ∧ s11 = .int .i64 i ∧ s3 = .int .i64 (bestW D S.st i) ∧ Below W.heap.size W wr) (fun _ s11 _ => D.nw - (intOf s11).toNat)
  case atStart => exact ⟨0, Nat.zero_le _, rfl, rfl, Below.refl _ _⟩
  case round =>
    obtain ⟨i, hi, rfl, rfl, hq⟩ := hrel
    have HQ := Lib.hid hq
    have HB := Lib.hid (show bestW D S.st (i + 1) = if readyB D S.st i = true ∧ (bestW D S.st i < 0 ∨ (D.W (bestW D S.st i).toNat).rank < (D.W i).rank) then (i : Int) else bestW D S.st i from rfl)
    have HBI := Lib.hid (bestW_in D S.st i)
    have HRB := Lib.hid (show readyB D S.st i = ((S.st i == 0) && !anyP (fun j => S.st ((D.W i).az j).toNat != 2) (D.W i).an) from rfl)
    obtain ⟨bb, hbb⟩ : ∃ bb, bb = bestW D S.st i := ⟨_, rfl⟩
    rw [← hbb] at HB HBI ⊢
    by_cases hin : i < D.nw
    · have hini : (i : Int) < (D.nw : Int) := by omega
      have hG := H1.out.1.past hq
      have hWw := HH.out.2.below hG.bel
      have hcw : D.nw ≤ cw := hWw.1
      have hcw2 : cw ≤ 9223372036854775807 := by have := hWw.2.1; unfold maxLen at this; omega
      obtain ⟨b, off, rfl, hc⟩ := hWw.2.2 (by omega)
      have hw := hc i hin
      have hgi := HG.out.2 i hin
      have HRK := Lib.hid (fun (j : Nat) hj => (hc j hj).2.1 : ∀ j : Nat, j < D.nw → wr.cell? ⟨b, off + j * 3 + 1, none⟩ = some (.int .i64 (D.W j).rank))
      obtain ⟨K, hK⟩ : ∃ K, K = D.W i := ⟨_, rfl⟩
      rw [← hK] at hw HB HRB hgi
      obtain ⟨co, ra, aa, an, ac, az⟩ := K
      have c0 := hw.1; have c1 := hw.2.1; have c2 := hw.2.2.1
      simp only at c0 c1 c2 HB HRB hgi
      have l0 := cell_lt c0; simp only at l0
      have HI := Lib.hid (show InI wr aa an ac az from hw.2.2.2.2.2)
      have HGI := Lib.hid hgi
      have s0 := hG.kS.c 0 _ rfl; have s4 := hG.kS.c 4 _ rfl; have sl := hG.kS.lt; have t0 := hG.kT.c i hin; have tl := hG.kT.lt
      have n0 := (H1.out.2.1.past hq).c 0 _ rfl; have nl := (H1.out.2.1.past hq).lt
      obtain ⟨v, hv⟩ : ∃ v, v = S.st i := ⟨_, rfl⟩
      rw [← hv] at t0 HRB
      have HN0 := Lib.hid (H1.out.2.1.past hq)
      have HGG := Lib.hid hG
      clear hG hWw hc hw hK hgi hv hbb hq
      by_cases hv0 : v = 0
      · subst hv0
        have HCF := Lib.hid (fun wy (hy : Below wr.heap.size wr wy) => ContainsFI 35 #[.pointer (some ⟨w.heap.size, 0, none⟩)] aa an ac az (fun j => S.st (az j).toNat != 2) wy (HI.out.below hy) HENT.out (fun j wz hj hz => by
          obtain ⟨z1, z2⟩ := HGI.out.2.2.2 j hj
          have hz3 : (((az j).toNat : Nat) : Int) = az j := by omega
          have := isDone_any (az j).toNat w.heap.size wz (HGG.out.past (hy.trans (hz.mono hy.size))) (by omega) (HN0.out.past (hy.trans (hz.mono hy.size)))
          rw [hz3] at this
          exact this))
        obtain ⟨ct, hct⟩ : ∃ ct, ct = anyP (fun j => S.st (az j).toNat != 2) an := ⟨_, rfl⟩
        rw [← hct] at HCF HRB
        have HR0 := Lib.hid (show readyB D S.st i = !ct by rw [HRB.out]; rfl)
        clear hct HRB
        cases ct with
        | true =>
          have HE := Lib.hid (show bestW D S.st (i + 1) = bb by rw [HB.out, HR0.out]; simp)
          clear HB HR0
          go_wp2_with (go_at_call 30; refine (HCF.out _ (by (repeat (first | exact Below.refl _ _ | assumption | (refine Below.setCell ?_ (by first | (simp; done) | (simp; omega) | omega) _) | (refine Below.drew ?_) | (refine below_drewN ?_ _) | (refine Below.alloc ?_ (by first | (simp; done) | (simp; omega) | omega) _) | (refine Below.trans ?_ (Below.mono (by assumption) (by first | (simp; done) | (simp; omega) | omega))))))).mono ?_; rintro e w5 ⟨rfl, hb5⟩; have HB5 := Lib.hid hb5; clear hb5)
          go_roundw
          case rel =>
            have hb5 := HB5.out
            exact ⟨i + 1, by omega, by go_num, by rw [HE.out], HQ.out.trans (Below.mono (Below.trans (by (repeat (first | exact Below.refl _ _ | assumption | (refine Below.setCell ?_ (by first | (simp; done) | (simp; omega) | omega) _) | (refine Below.drew ?_) | (refine below_drewN ?_ _) | (refine Below.alloc ?_ (by first | (simp; done) | (simp; omega) | omega) _) | (refine Below.trans ?_ (Below.mono (by assumption) (by first | (simp; done) | (simp; omega) | omega)))))) (hb5.mono (by simp))) HQ.out.size)⟩
          case measure => simp [intOf]; omega
        | false =>
          go_upto_region 6 with (go_at_call 30; refine (HCF.out _ (by (repeat (first | exact Below.refl _ _ | assumption | (refine Below.setCell ?_ (by first | (simp; done) | (simp; omega) | omega) _) | (refine Below.drew ?_) | (refine below_drewN ?_ _) | (refine Below.alloc ?_ (by first | (simp; done) | (simp; omega) | omega) _) | (refine Below.trans ?_ (Below.mono (by assumption) (by first | (simp; done) | (simp; omega) | omega))))))).mono ?_; rintro e w5 ⟨rfl, hb5⟩; have HB5 := Lib.hid hb5; clear hb5)
          have BW : Below wr.heap.size wr w5 := Below.trans (by (repeat (first | exact Below.refl _ _ | assumption | (refine Below.setCell ?_ (by first | (simp; done) | (simp; omega) | omega) _) | (refine Below.drew ?_) | (refine below_drewN ?_ _) | (refine Below.alloc ?_ (by first | (simp; done) | (simp; omega) | omega) _) | (refine Below.trans ?_ (Below.mono (by assumption) (by first | (simp; done) | (simp; omega) | omega)))))) (HB5.out.mono (by simp))
          have N5 : Blk w5 wr.heap.size [.int .i64 co, .int .i64 ra, .slice aa an ac] := (Blk.new _ _ _ _ rfl).past HB5.out
          have HQ5 := Lib.hid (HQ.out.trans (BW.mono HQ.out.size))
          have G5 := HGG.out.past BW
          have M5 := HN0.out.past BW
          have HRK5 := Lib.hid (fun j hj => (BW.cell (p := ⟨b, off + j * 3 + 1, none⟩) (cell_lt (HRK.out j hj))).trans (HRK.out j hj) : ∀ j : Nat, j < D.nw → w5.cell? ⟨b, off + j * 3 + 1, none⟩ = some (.int .i64 (D.W j).rank))
          have g1 := N5.c 1 _ rfl; have gl := N5.lt
          have s0' := G5.kS.c 0 _ rfl; have sl' := G5.kS.lt; have n0' := M5.c 0 _ rfl; have nl' := M5.lt
          clear s0 s4 sl t0 tl n0 nl c0 c1 c2 l0 N5 G5 M5 HB5 HRK HCF BW
          rcases HBI.out with hbn | ⟨w1, hb1, hb2, -⟩
          · have hlt : bb < 0 := by omega
            have hd : decide (bb < 0) = true := decide_eq_true hlt
            have HE := Lib.hid (show bestW D S.st (i + 1) = (i : Int) by rw [HB.out, HR0.out, if_pos ⟨rfl, .inl hlt⟩])
            clear HB HR0 hbn HBI
            go_quiet (fail)
            go_wp2_with fail
            go_roundw
            case rel => exact ⟨i + 1, by omega, by go_num, by rw [HE.out], below_drewN HQ5.out _⟩
            case measure => simp [intOf]; omega
          · subst hb1
            have hlt : ¬ (w1 : Int) < 0 := by omega
            have hd : decide ((w1 : Int) < 0) = false := decide_eq_false hlt
            have r0 := HRK5.out w1 (by omega)
            have rl := cell_lt r0; simp only at rl
            have hw1n : (w1 : Int) < (D.nw : Int) := by omega
            have HB' := Lib.hid (show bestW D S.st (i + 1) = if (D.W w1).rank < ra then (i : Int) else (w1 : Int) by
              rw [HB.out, HR0.out]
              have : ((w1 : Int)).toNat = w1 := by omega
              rw [this]
              by_cases hr : (D.W w1).rank < ra
              · rw [if_pos ⟨rfl, .inr hr⟩, if_pos hr]
              · rw [if_neg (fun h => h.2.elim hlt hr), if_neg hr])
            generalize (D.W w1).rank = rk at *
            clear HB HR0 HBI
            by_cases hr : rk < ra
            · have hd1 : decide (rk < ra) = true := decide_eq_true hr
              have HE := Lib.hid (show bestW D S.st (i + 1) = (i : Int) by rw [HB'.out, if_pos hr])
              clear HB'
              go_quiet (fail)
              go_wp2_with fail
              go_roundw
              case rel => exact ⟨i + 1, by omega, by go_num, by rw [HE.out], below_drewN HQ5.out _⟩
              case measure => simp [intOf]; omega
            · have hd1 : decide (rk < ra) = false := decide_eq_false hr
              have HE := Lib.hid (show bestW D S.st (i + 1) = (w1 : Int) by rw [HB'.out, if_neg hr])
              clear HB'
              go_quiet (fail)
              go_wp2_with fail
              go_roundw
              case rel => exact ⟨i + 1, by omega, by go_num, by rw [HE.out], below_drewN HQ5.out _⟩
              case measure => simp [intOf]; omega
      · have hv1 : (v != 0) = true := by simpa using hv0
        have hv2 : (v == 0) = false := by simpa using hv0
        have HE := Lib.hid (show bestW D S.st (i + 1) = bb by rw [HB.out, HRB.out, hv2]; simp)
        clear hv2 HB HRB
        go_wp2_with fail
        go_roundw
        case rel => exact ⟨i + 1, by omega, by go_num, by rw [HE.out], HQ.out.trans (Below.mono (by (repeat (first | exact Below.refl _ _ | assumption | (refine Below.setCell ?_ (by first | (simp; done) | (simp; omega) | omega) _) | (refine Below.drew ?_) | (refine below_drewN ?_ _) | (refine Below.alloc ?_ (by first | (simp; done) | (simp; omega) | omega) _) | (refine Below.trans ?_ (Below.mono (by assumption) (by first | (simp; done) | (simp; omega) | omega)))))) HQ.out.size)⟩
        case measure => simp [intOf]; omega
    · have hini : ¬ (i : Int) < (D.nw : Int) := by omega
      have hie : i = D.nw := by omega
      have HE := Lib.hid (show bestW D S.st D.nw = bb by rw [hbb, ← hie])
      clear hq hie hbb
      go_wp2_with fail
      go_ret
      exact ⟨by rw [HE.out]; rfl, H1.out.2.2.trans (HQ.out.mono H1.out.2.2.size)⟩
end
end Go.Proofs.Ytkadinjhfldokaa
