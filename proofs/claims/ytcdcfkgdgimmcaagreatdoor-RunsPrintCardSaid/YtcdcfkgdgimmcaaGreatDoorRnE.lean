/- farm.Parse: every text. Conditions: the library's variables read as listed (LibW). -/
import Derived.Test.YtcdcfkgdgimmcaaGreatDoorRnD
namespace Go.Proofs.YtcdcfkgdgimmcaaGreatDoor
open Go Go.RowKit
/-- The cells of the run while it is read. -/
def lz (v0 v1 v2 v3 : Int) (fb : Bool) : Nat → List Value
  | 0 => [.int .i64 0, .int .i64 0, .int .i64 0, .int .i64 0, .bool fb]
  | 1 => [.int .i64 v0, .int .i64 0, .int .i64 0, .int .i64 0, .bool fb]
  | 2 => [.int .i64 v0, .int .i64 v1, .int .i64 0, .int .i64 0, .bool fb]
  | 3 => [.int .i64 v0, .int .i64 v1, .int .i64 v2, .int .i64 0, .bool fb]
  | _ => [.int .i64 v0, .int .i64 v1, .int .i64 v2, .int .i64 v3, .bool fb]
theorem ixP0 (G : Nat) : ∀ w, (Instr.index 72 (.agg #[.pointer (some ⟨G, 0, none⟩), .pointer (some ⟨G, 1, none⟩), .pointer (some ⟨G, 2, none⟩), .pointer (some ⟨G, 3, none⟩)]) (.int .i64 0)).run Tryz.prog w = .ok (.pointer (some ⟨G, 0, none⟩)) w := fun _ => by kernel_rfl
theorem ixP1 (G : Nat) : ∀ w, (Instr.index 72 (.agg #[.pointer (some ⟨G, 0, none⟩), .pointer (some ⟨G, 1, none⟩), .pointer (some ⟨G, 2, none⟩), .pointer (some ⟨G, 3, none⟩)]) (.int .i64 1)).run Tryz.prog w = .ok (.pointer (some ⟨G, 1, none⟩)) w := fun _ => by kernel_rfl
theorem ixP2 (G : Nat) : ∀ w, (Instr.index 72 (.agg #[.pointer (some ⟨G, 0, none⟩), .pointer (some ⟨G, 1, none⟩), .pointer (some ⟨G, 2, none⟩), .pointer (some ⟨G, 3, none⟩)]) (.int .i64 2)).run Tryz.prog w = .ok (.pointer (some ⟨G, 2, none⟩)) w := fun _ => by kernel_rfl
theorem ixP3 (G : Nat) : ∀ w, (Instr.index 72 (.agg #[.pointer (some ⟨G, 0, none⟩), .pointer (some ⟨G, 1, none⟩), .pointer (some ⟨G, 2, none⟩), .pointer (some ⟨G, 3, none⟩)]) (.int .i64 3)).run Tryz.prog w = .ok (.pointer (some ⟨G, 3, none⟩)) w := fun _ => by kernel_rfl
theorem cut_lenR (l sep : List UInt8) : (Lib.cut l sep).1.length ≤ l.length ∧ (Lib.cut l sep).2.1.length ≤ l.length := by
  unfold Lib.cut
  split
  · simp; omega
  · simp
theorem mk_sizeR (l : List UInt8) : (⟨l.toArray⟩ : ByteArray).size = l.length := by rw [Lib.size_eq]
theorem Parse_long (s : ByteArray) (w : World) (hs : 1048576 < s.size) : Calls Tryz.prog 8 #[.string s] w fun e w' => e = .returned (.tuple #[.slice none 0 0, .int .i64 0, .int .i64 4]) ∧ Below w.heap.size w w' := by
  have hs' : (1048576 : Int) < (s.size : Int) := by omega
  go_enter Tryz.func8, Tryz.ntmps8
  go_wp2_with fail
  go_ret3
  exact ⟨rfl, by (repeat (first | exact Below.refl _ _ | assumption | (refine Below.setCell ?_ (by first | (simp; done) | (simp; omega) | omega) _) | (refine Below.drew ?_) | (refine below_drewN ?_ _) | (refine Below.alloc ?_ (by first | (simp; done) | (simp; omega) | omega) _) | (refine Below.trans ?_ (Below.mono (by assumption) (by first | (simp; done) | (simp; omega) | omega)))))⟩
set_option maxRecDepth 100000 in
set_option maxHeartbeats 25600000 in
theorem Parse_any (s : ByteArray) (w : World) (hL : LibW w) (hs : s.size ≤ 1048576) : Calls Tryz.prog 8 #[.string s] w (PrsPost s.data.toList w) := by
  have hs' : ¬ (1048576 : Int) < (s.size : Int) := by omega
  obtain ⟨S, hS⟩ : ∃ S, S = s.data.toList := ⟨_, rfl⟩
  have HSZ : Hid (S.length ≤ 1048576) := Lib.hid (by rw [hS, ← Lib.size_eq]; exact hs)
  rw [← hS]
  have HS := Lib.hid hS
  have HL := Lib.hid hL
  obtain ⟨i0, hi0, hz0, hz1, hz2⟩ := info_parts infoRun
  clear hS hL hs
  go_enter Tryz.func8, Tryz.ntmps8
  go_wp2_with fail
  go_loopw [0, 5, 6] (fun s0 s5 s6 wr => ∃ (rs : List Ru) (t : ByteArray) (u : Value), s0 = .string t ∧ s6 = .int .i64 rs.length ∧ u = s5 ∧ S = runsT rs ++ t.data.toList ∧ OwR w wr u rs) (fun s0 _ _ _ => match s0 with | .string t => t.size | _ => 0)
  case atStart => exact ⟨[], s, _, rfl, rfl, rfl, by rw [HS.out]; rfl, OwR.nil _⟩
  case round =>
    obtain ⟨rs, t, u, rfl, rfl, rfl, hT, hM⟩ := hrel
    have HT := Lib.hid hT; have HM := Lib.hid hM
    have hts : t.size ≤ 1048576 := by
      rw [Lib.size_eq]
      have := HSZ.out
      rw [HT.out, List.length_append] at this
      omega
    have hrl : rs.length ≤ 1048576 := by
      have h1 := runs_len rs
      have := HSZ.out
      rw [HT.out, List.length_append] at this
      omega
    clear hT hM
    by_cases hte : t.toList = []
    · have hte' : t.toList.isEmpty = true := by rw [hte]; rfl
      obtain ⟨a, c, rfl, hin, hcb⟩ := HM.out.isIn
      have HCB := Lib.hid hcb
      clear hcb
      have HIN := Lib.hid hin
      have HTE : Hid (S = runsT rs) := Lib.hid (by rw [HT.out, str_nil.1 hte, List.append_nil])
      have HCR := Lib.hid (fun w' (hb : Below wr.heap.size wr w') => checkRuns_any a c rs w' (by omega) (hin.past hb) : ∀ w', _)
      obtain ⟨E, hE⟩ : ∃ E, E = runsE rs := ⟨_, rfl⟩
      rw [← hE] at HCR
      have HEE := Lib.hid hE
      clear hin hE
      by_cases hE0 : E = 0
      · subst hE0
        go_wp2_with (go_at_call 18; refine (HCR.out _ (by (repeat (first | exact Below.refl _ _ | assumption | (refine Below.setCell ?_ (by first | (simp; done) | (simp; omega) | omega) _) | (refine Below.drew ?_) | (refine below_drewN ?_ _) | (refine Below.alloc ?_ (by first | (simp; done) | (simp; omega) | omega) _) | (refine Below.trans ?_ (Below.mono (by assumption) (by first | (simp; done) | (simp; omega) | omega))))))).mono ?_; rintro e w1 ⟨rfl, hb1⟩)
        go_ret3
        exact ⟨HM.out.bel.trans (hb1.mono HM.out.bel.size), .inr (.inr ⟨rs, a, c, HTE.out, HEE.out.symm, rfl, HIN.out.past hb1, HCB.out⟩)⟩
      · have hE1 : (E != 0) = true := by simpa using hE0
        have HE0 := Lib.hid hE0
        clear hE0
        go_wp2_with (go_at_call 18; refine (HCR.out _ (by (repeat (first | exact Below.refl _ _ | assumption | (refine Below.setCell ?_ (by first | (simp; done) | (simp; omega) | omega) _) | (refine Below.drew ?_) | (refine below_drewN ?_ _) | (refine Below.alloc ?_ (by first | (simp; done) | (simp; omega) | omega) _) | (refine Below.trans ?_ (Below.mono (by assumption) (by first | (simp; done) | (simp; omega) | omega))))))).mono ?_; rintro e w1 ⟨rfl, hb1⟩)
        go_ret3
        exact ⟨HM.out.bel.trans (hb1.mono HM.out.bel.size), .inr (.inl ⟨rs, HTE.out, by rw [← HEE.out]; exact HE0.out, by rw [← HEE.out]; rfl⟩)⟩
    · have hte' : t.toList.isEmpty = false := by simpa using hte
      have HTN : Hid (t.data.toList ≠ []) := Lib.hid (fun h => hte (str_nil.2 h))
      have HLW := Lib.hid (HL.out.past HM.out.bel)
      obtain ⟨l, rest, e0, hcut⟩ : ∃ l rest e0, Lib.cut t.data.toList [10] = (l, rest, e0) := ⟨_, _, _, rfl⟩
      have HCUT := Lib.hid hcut
      have hll := cut_lenR t.data.toList [10]
      rw [hcut] at hll
      simp only at hll
      have HLL : Hid (l.length ≤ 1048576 ∧ rest.length ≤ 1048576) := Lib.hid (by rw [← Lib.size_eq] at hll; omega)
      obtain ⟨lB, hlB⟩ : ∃ lB : ByteArray, lB = ⟨l.toArray⟩ := ⟨_, rfl⟩
      obtain ⟨rB, hrB⟩ : ∃ rB : ByteArray, rB = ⟨rest.toArray⟩ := ⟨_, rfl⟩
      have HC : Hid (∀ w', LibW w' → Calls Tryz.prog 24 #[.string t, .string ⟨#[10]⟩] w' fun e w'' => e = .returned (.tuple #[.string lB, .string rB, .bool e0]) ∧ Below w'.heap.size w' w'') := Lib.hid (fun w' h' => by
        have := Cut_any t ⟨#[10]⟩ w' h' (by omega)
        have e1 : Lib.cut t.data.toList (⟨#[10]⟩ : ByteArray).data.toList = (l, rest, e0) := hcut
        rw [e1] at this
        rw [hlB, hrB]; exact this)
      have HSP : Hid (∀ w', LibW w' → Calls Tryz.prog 25 #[.string lB, .string ⟨#[32]⟩] w' fun e w'' => ∃ g, e = .returned (.slice (some ⟨g, 0, none⟩) (spP l).length (spP l).length) ∧ g < w''.heap.size ∧ (∀ i p, (spP l)[i]? = some p → w''.cell? ⟨g, i, none⟩ = some (.string ⟨p.toArray⟩)) ∧ Below w'.heap.size w' w'') := Lib.hid (fun w' h' => by
        have := Split_any lB w' h' (by rw [hlB, mk_sizeR]; have := HLL.out; omega)
        rw [hlB] at this ⊢
        exact this)
      have HRB : Hid (rB.data.toList = rest) := Lib.hid (by rw [hrB])
      have HGR := Lib.hid (fun hg : goodL t.data.toList => good_read hg hcut)
      clear hcut hll hlB hrB hte
      obtain ⟨N, hN⟩ : ∃ N, N = (spP l).length := ⟨_, rfl⟩
      rw [← hN] at HSP
      have HNN := Lib.hid hN
      clear hN
      go_upto_region 10 with (first | (go_at_call 24; refine (HC.out _ HLW.out).mono ?_; rintro e v1 ⟨rfl, hb1⟩; have L1 := Lib.hid (HLW.out.past hb1); have B1 := Lib.hid hb1; clear hb1) | (go_at_call 25; refine (HSP.out _ L1.out).mono ?_; rintro e v2 ⟨g, rfl, hgl, hcl, hb2⟩))
      have H2 : Hid (LibW v2 ∧ OwR w v2 u rs ∧ ∀ i p, (spP l)[i]? = some p → v2.cell? ⟨g, i, none⟩ = some (.string ⟨p.toArray⟩)) := Lib.hid ⟨L1.out.past hb2, (HM.out.past B1.out).past hb2, hcl⟩
      clear hb2 B1 L1 HLW HC HSP hcl HM
      cases e0
      · have HG : Hid (¬ goodL t.data.toList) := Lib.hid (fun hg => by have := (HGR.out hg).1; cases this)
        go_wp2_with fail
        go_ret3
        exact prs_bad H2.out.2.1.bel HT.out HG.out HTN.out rfl
      · by_cases hN5 : N = 5
        · obtain ⟨p0, p1, p2, p3, p4, hP⟩ : ∃ p0 p1 p2 p3 p4, spP l = [p0, p1, p2, p3, p4] := by
            have h := HNN.out
            rw [hN5] at h
            match hl : spP l, h with
            | [p0, p1, p2, p3, p4], _ => exact ⟨p0, p1, p2, p3, p4, rfl⟩
          have HP := Lib.hid hP
          have H3 : Hid (LibW v2 ∧ OwR w v2 u rs) := Lib.hid ⟨H2.out.1, H2.out.2.1⟩
          have z0 := H2.out.2.2 0 p0 (by rw [hP]; rfl); have z1 := H2.out.2.2 1 p1 (by rw [hP]; rfl); have z2 := H2.out.2.2 2 p2 (by rw [hP]; rfl); have z3 := H2.out.2.2 3 p3 (by rw [hP]; rfl); have z4 := H2.out.2.2 4 p4 (by rw [hP]; rfl)
          have HGP : Hid (goodL t.data.toList → (p4 = okT ∨ p4 = faT) ∧ intB p0 13 = true ∧ intB p1 13 = true ∧ intB p2 13 = true ∧ intB p3 13 = true) := Lib.hid (fun hg => by
            obtain ⟨-, q0, q1, q2, q3, q4, h, r⟩ := HGR.out hg
            rw [hP] at h
            simp only [List.cons.injEq, and_true] at h
            obtain ⟨rfl, rfl, rfl, rfl, rfl⟩ := h
            exact r)
          have hpl : p0.length ≤ 1048576 ∧ p1.length ≤ 1048576 ∧ p2.length ≤ 1048576 ∧ p3.length ≤ 1048576 := by
            obtain ⟨l1, e1, s1⟩ := spP_join _ _ _ _ hP
            obtain ⟨l2, e2, s2⟩ := spP_join _ _ _ _ s1
            obtain ⟨l3, e3, s3⟩ := spP_join _ _ _ _ s2
            obtain ⟨l4, e4, s4⟩ := spP_join _ _ _ _ s3
            have := HLL.out.1
            have d1 := congrArg List.length e1; have d2 := congrArg List.length e2; have d3 := congrArg List.length e3; have d4 := congrArg List.length e4
            simp only [List.length_append, List.length_cons] at d1 d2 d3 d4
            omega
          have HPL := Lib.hid hpl
          subst hN5
          clear hP HGR H2 HNN hpl
          by_cases h4 : p4 = okT ∨ p4 = faT
          · obtain ⟨sp4, hsp4⟩ : ∃ x : ByteArray, x = ⟨p4.toArray⟩ := ⟨_, rfl⟩
            rw [← hsp4] at z4
            obtain ⟨f, e1, e2, hf⟩ : ∃ f : Bool, (sp4.toList == [111, 107]) = !f ∧ (sp4.toList == [102, 97, 105, 108, 101, 100]) = f ∧ f = decide (p4 = faT) := by
              rcases h4 with rfl | rfl
              · exact ⟨false, by rw [str_eq, hsp4]; rfl, by rw [str_eq, hsp4]; rfl, rfl⟩
              · exact ⟨true, by rw [str_eq, hsp4]; rfl, by rw [str_eq, hsp4]; rfl, rfl⟩
            have HF := Lib.hid (And.intro hf h4)
            have HI : Hid (∀ p : List UInt8, p.length ≤ 1048576 → ∀ w', LibW w' → Calls Tryz.prog 26 #[.string ⟨p.toArray⟩, .int .i64 13] w' (IntRes p 13 w')) := Lib.hid (fun p hp w' h' => Integer_any ⟨p.toArray⟩ 13 w' h' (by rw [mk_sizeR]; omega) (by omega))
            clear hf h4 hsp4
            cases f
            · go_upto_region 13 with fail
              refine wp_world (fun V hV => ?_)
              have HV : Hid (Below v2.heap.size v2 V) := Lib.hid (by rw [hV]; (repeat (first | exact Below.refl _ _ | assumption | (refine Below.setCell ?_ (by first | (simp; done) | (simp; omega) | omega) _) | (refine Below.drew ?_) | (refine below_drewN ?_ _) | (refine Below.alloc ?_ (by first | (simp; done) | (simp; omega) | omega) _) | (refine Below.trans ?_ (Below.mono (by assumption) (by first | (simp; done) | (simp; omega) | omega))))))
              have hblk := fun vs (h : V = v2.alloc (.cells (List.toArray vs) 34)) => show Blk V v2.heap.size vs by rw [h]; exact Blk.new _ _ _ _ rfl
              have HVB := Lib.hid (hblk _ hV)
              clear hV hblk e1 e2 z4
              go_wp2_with fail
              go_loopw [63] (fun s63 wx => ∃ i : Nat, i ≤ 4 ∧ s63 = .int .i64 i ∧ (∀ j p, j < i → [p0, p1, p2, p3][j]? = some p → intB p 13 = true) ∧ Blk wx v2.heap.size (lz (intV p0) (intV p1) (intV p2) (intV p3) false i) ∧ Below v2.heap.size v2 wx) (fun s63 _ => 4 - (intOf s63).toNat)
              case atStart => exact ⟨0, by omega, rfl, fun j p h => by omega, HVB.out, HV.out⟩
              case round =>
                obtain ⟨i, hi, rfl, hX⟩ := hrel
                clear HV HVB
                rcases (show i = 0 ∨ i = 1 ∨ i = 2 ∨ i = 3 ∨ i = 4 by omega) with rfl | rfl | rfl | rfl | rfl
                · have y0 : wr.cell? ⟨g, 0, none⟩ = some (.string ⟨p0.toArray⟩) := by rw [hX.2.2.cell (p := ⟨g, 0, none⟩) hgl]; exact z0
                  have yl : g < wr.heap.size := Nat.lt_of_lt_of_le hgl hX.2.2.size
                  have HX := Lib.hid hX
                  have HLX := Lib.hid (H3.out.1.past hX.2.2)
                  have xi := ixP0 v2.heap.size
                  clear hX
                  cases hI : intB p0 13
                  · have HG : Hid (¬ goodL t.data.toList) := Lib.hid (fun hg => by have := HGP.out hg; rw [hI] at this; simp at this)
                    have HI2 : Hid (∀ w', LibW w' → Calls Tryz.prog 26 #[.string ⟨p0.toArray⟩, .int .i64 13] w' fun e w'' => e = .returned (.tuple #[.int .i64 0, .bool false]) ∧ Below w'.heap.size w' w'') := Lib.hid (fun w' h' => (HI.out p0 HPL.out.1 w' h').mono fun e w'' h => by unfold IntRes intR at h; rw [hI] at h; exact h)
                    clear hI
                    go_wp2_with (go_at_call 26; refine (HI2.out _ HLX.out).mono ?_; rintro e w5 ⟨rfl, hb5⟩)
                    go_ret3
                    exact prs_bad (H3.out.2.bel.trans (Below.mono (HX.out.2.2.trans (hb5.mono HX.out.2.2.size)) H3.out.2.bel.size)) HT.out HG.out HTN.out rfl
                  · have HIB := Lib.hid hI
                    have HI2 : Hid (∀ w', LibW w' → Calls Tryz.prog 26 #[.string ⟨p0.toArray⟩, .int .i64 13] w' fun e w'' => e = .returned (.tuple #[.int .i64 (intV p0), .bool true]) ∧ Below w'.heap.size w' w'') := Lib.hid (fun w' h' => (HI.out p0 HPL.out.1 w' h').mono fun e w'' h => by unfold IntRes intR at h; rw [hI] at h; exact h)
                    clear hI
                    go_upto_region 19 with (go_at_call 26; refine (HI2.out _ HLX.out).mono ?_; rintro e w5 ⟨rfl, hb5⟩)
                    have H5 : Hid (Blk w5 v2.heap.size (lz (intV p0) (intV p1) (intV p2) (intV p3) false 0) ∧ Below v2.heap.size v2 w5) := Lib.hid ⟨HX.out.2.1.past hb5, HX.out.2.2.trans (hb5.mono HX.out.2.2.size)⟩
                    have m0 := H5.out.1.c 0 _ rfl
                    have mf := H5.out.1.f 0
                    have ml := H5.out.1.lt
                    have HS : Hid (Blk (w5.setCell ⟨v2.heap.size, 0, none⟩ (.int .i64 (intV p0))) v2.heap.size (lz (intV p0) (intV p1) (intV p2) (intV p3) false 1)) := Lib.hid (H5.out.1.set 0 (.int .i64 (intV p0)))
                    have HSB : Hid (Below v2.heap.size v2 (w5.setCell ⟨v2.heap.size, 0, none⟩ (.int .i64 (intV p0)))) := Lib.hid (H5.out.2.setCell (Nat.le_refl _) _)
                    have HPR : Hid (∀ j p, j < 1 → [p0, p1, p2, p3][j]? = some p → intB p 13 = true) := Lib.hid (fun j p hj hp => by
                      by_cases e : j = 0
                      · subst e; simp at hp; rw [← hp]; exact HIB.out
                      · exact HX.out.1 j p (by omega) hp)
                    clear hb5
                    go_wp2_with fail
                    go_roundw
                    case rel => exact ⟨1, by omega, by go_num, HPR.out, HS.out, HSB.out⟩
                    case measure => simp [intOf]
                · have y0 : wr.cell? ⟨g, 1, none⟩ = some (.string ⟨p1.toArray⟩) := by rw [hX.2.2.cell (p := ⟨g, 1, none⟩) hgl]; exact z1
                  have yl : g < wr.heap.size := Nat.lt_of_lt_of_le hgl hX.2.2.size
                  have HX := Lib.hid hX
                  have HLX := Lib.hid (H3.out.1.past hX.2.2)
                  have xi := ixP1 v2.heap.size
                  clear hX
                  cases hI : intB p1 13
                  · have HG : Hid (¬ goodL t.data.toList) := Lib.hid (fun hg => by have := HGP.out hg; rw [hI] at this; simp at this)
                    have HI2 : Hid (∀ w', LibW w' → Calls Tryz.prog 26 #[.string ⟨p1.toArray⟩, .int .i64 13] w' fun e w'' => e = .returned (.tuple #[.int .i64 0, .bool false]) ∧ Below w'.heap.size w' w'') := Lib.hid (fun w' h' => (HI.out p1 HPL.out.2.1 w' h').mono fun e w'' h => by unfold IntRes intR at h; rw [hI] at h; exact h)
                    clear hI
                    go_wp2_with (go_at_call 26; refine (HI2.out _ HLX.out).mono ?_; rintro e w5 ⟨rfl, hb5⟩)
                    go_ret3
                    exact prs_bad (H3.out.2.bel.trans (Below.mono (HX.out.2.2.trans (hb5.mono HX.out.2.2.size)) H3.out.2.bel.size)) HT.out HG.out HTN.out rfl
                  · have HIB := Lib.hid hI
                    have HI2 : Hid (∀ w', LibW w' → Calls Tryz.prog 26 #[.string ⟨p1.toArray⟩, .int .i64 13] w' fun e w'' => e = .returned (.tuple #[.int .i64 (intV p1), .bool true]) ∧ Below w'.heap.size w' w'') := Lib.hid (fun w' h' => (HI.out p1 HPL.out.2.1 w' h').mono fun e w'' h => by unfold IntRes intR at h; rw [hI] at h; exact h)
                    clear hI
                    go_upto_region 19 with (go_at_call 26; refine (HI2.out _ HLX.out).mono ?_; rintro e w5 ⟨rfl, hb5⟩)
                    have H5 : Hid (Blk w5 v2.heap.size (lz (intV p0) (intV p1) (intV p2) (intV p3) false 1) ∧ Below v2.heap.size v2 w5) := Lib.hid ⟨HX.out.2.1.past hb5, HX.out.2.2.trans (hb5.mono HX.out.2.2.size)⟩
                    have m0 := H5.out.1.c 1 _ rfl
                    have mf := H5.out.1.f 1
                    have ml := H5.out.1.lt
                    have HS : Hid (Blk (w5.setCell ⟨v2.heap.size, 1, none⟩ (.int .i64 (intV p1))) v2.heap.size (lz (intV p0) (intV p1) (intV p2) (intV p3) false 2)) := Lib.hid (H5.out.1.set 1 (.int .i64 (intV p1)))
                    have HSB : Hid (Below v2.heap.size v2 (w5.setCell ⟨v2.heap.size, 1, none⟩ (.int .i64 (intV p1)))) := Lib.hid (H5.out.2.setCell (Nat.le_refl _) _)
                    have HPR : Hid (∀ j p, j < 2 → [p0, p1, p2, p3][j]? = some p → intB p 13 = true) := Lib.hid (fun j p hj hp => by
                      by_cases e : j = 1
                      · subst e; simp at hp; rw [← hp]; exact HIB.out
                      · exact HX.out.1 j p (by omega) hp)
                    clear hb5
                    go_wp2_with fail
                    go_roundw
                    case rel => exact ⟨2, by omega, by go_num, HPR.out, HS.out, HSB.out⟩
                    case measure => simp [intOf]
                · have y0 : wr.cell? ⟨g, 2, none⟩ = some (.string ⟨p2.toArray⟩) := by rw [hX.2.2.cell (p := ⟨g, 2, none⟩) hgl]; exact z2
                  have yl : g < wr.heap.size := Nat.lt_of_lt_of_le hgl hX.2.2.size
                  have HX := Lib.hid hX
                  have HLX := Lib.hid (H3.out.1.past hX.2.2)
                  have xi := ixP2 v2.heap.size
                  clear hX
                  cases hI : intB p2 13
                  · have HG : Hid (¬ goodL t.data.toList) := Lib.hid (fun hg => by have := HGP.out hg; rw [hI] at this; simp at this)
                    have HI2 : Hid (∀ w', LibW w' → Calls Tryz.prog 26 #[.string ⟨p2.toArray⟩, .int .i64 13] w' fun e w'' => e = .returned (.tuple #[.int .i64 0, .bool false]) ∧ Below w'.heap.size w' w'') := Lib.hid (fun w' h' => (HI.out p2 HPL.out.2.2.1 w' h').mono fun e w'' h => by unfold IntRes intR at h; rw [hI] at h; exact h)
                    clear hI
                    go_wp2_with (go_at_call 26; refine (HI2.out _ HLX.out).mono ?_; rintro e w5 ⟨rfl, hb5⟩)
                    go_ret3
                    exact prs_bad (H3.out.2.bel.trans (Below.mono (HX.out.2.2.trans (hb5.mono HX.out.2.2.size)) H3.out.2.bel.size)) HT.out HG.out HTN.out rfl
                  · have HIB := Lib.hid hI
                    have HI2 : Hid (∀ w', LibW w' → Calls Tryz.prog 26 #[.string ⟨p2.toArray⟩, .int .i64 13] w' fun e w'' => e = .returned (.tuple #[.int .i64 (intV p2), .bool true]) ∧ Below w'.heap.size w' w'') := Lib.hid (fun w' h' => (HI.out p2 HPL.out.2.2.1 w' h').mono fun e w'' h => by unfold IntRes intR at h; rw [hI] at h; exact h)
                    clear hI
                    go_upto_region 19 with (go_at_call 26; refine (HI2.out _ HLX.out).mono ?_; rintro e w5 ⟨rfl, hb5⟩)
                    have H5 : Hid (Blk w5 v2.heap.size (lz (intV p0) (intV p1) (intV p2) (intV p3) false 2) ∧ Below v2.heap.size v2 w5) := Lib.hid ⟨HX.out.2.1.past hb5, HX.out.2.2.trans (hb5.mono HX.out.2.2.size)⟩
                    have m0 := H5.out.1.c 2 _ rfl
                    have mf := H5.out.1.f 2
                    have ml := H5.out.1.lt
                    have HS : Hid (Blk (w5.setCell ⟨v2.heap.size, 2, none⟩ (.int .i64 (intV p2))) v2.heap.size (lz (intV p0) (intV p1) (intV p2) (intV p3) false 3)) := Lib.hid (H5.out.1.set 2 (.int .i64 (intV p2)))
                    have HSB : Hid (Below v2.heap.size v2 (w5.setCell ⟨v2.heap.size, 2, none⟩ (.int .i64 (intV p2)))) := Lib.hid (H5.out.2.setCell (Nat.le_refl _) _)
                    have HPR : Hid (∀ j p, j < 3 → [p0, p1, p2, p3][j]? = some p → intB p 13 = true) := Lib.hid (fun j p hj hp => by
                      by_cases e : j = 2
                      · subst e; simp at hp; rw [← hp]; exact HIB.out
                      · exact HX.out.1 j p (by omega) hp)
                    clear hb5
                    go_wp2_with fail
                    go_roundw
                    case rel => exact ⟨3, by omega, by go_num, HPR.out, HS.out, HSB.out⟩
                    case measure => simp [intOf]
                · have y0 : wr.cell? ⟨g, 3, none⟩ = some (.string ⟨p3.toArray⟩) := by rw [hX.2.2.cell (p := ⟨g, 3, none⟩) hgl]; exact z3
                  have yl : g < wr.heap.size := Nat.lt_of_lt_of_le hgl hX.2.2.size
                  have HX := Lib.hid hX
                  have HLX := Lib.hid (H3.out.1.past hX.2.2)
                  have xi := ixP3 v2.heap.size
                  clear hX
                  cases hI : intB p3 13
                  · have HG : Hid (¬ goodL t.data.toList) := Lib.hid (fun hg => by have := HGP.out hg; rw [hI] at this; simp at this)
                    have HI2 : Hid (∀ w', LibW w' → Calls Tryz.prog 26 #[.string ⟨p3.toArray⟩, .int .i64 13] w' fun e w'' => e = .returned (.tuple #[.int .i64 0, .bool false]) ∧ Below w'.heap.size w' w'') := Lib.hid (fun w' h' => (HI.out p3 HPL.out.2.2.2 w' h').mono fun e w'' h => by unfold IntRes intR at h; rw [hI] at h; exact h)
                    clear hI
                    go_wp2_with (go_at_call 26; refine (HI2.out _ HLX.out).mono ?_; rintro e w5 ⟨rfl, hb5⟩)
                    go_ret3
                    exact prs_bad (H3.out.2.bel.trans (Below.mono (HX.out.2.2.trans (hb5.mono HX.out.2.2.size)) H3.out.2.bel.size)) HT.out HG.out HTN.out rfl
                  · have HIB := Lib.hid hI
                    have HI2 : Hid (∀ w', LibW w' → Calls Tryz.prog 26 #[.string ⟨p3.toArray⟩, .int .i64 13] w' fun e w'' => e = .returned (.tuple #[.int .i64 (intV p3), .bool true]) ∧ Below w'.heap.size w' w'') := Lib.hid (fun w' h' => (HI.out p3 HPL.out.2.2.2 w' h').mono fun e w'' h => by unfold IntRes intR at h; rw [hI] at h; exact h)
                    clear hI
                    go_upto_region 19 with (go_at_call 26; refine (HI2.out _ HLX.out).mono ?_; rintro e w5 ⟨rfl, hb5⟩)
                    have H5 : Hid (Blk w5 v2.heap.size (lz (intV p0) (intV p1) (intV p2) (intV p3) false 3) ∧ Below v2.heap.size v2 w5) := Lib.hid ⟨HX.out.2.1.past hb5, HX.out.2.2.trans (hb5.mono HX.out.2.2.size)⟩
                    have m0 := H5.out.1.c 3 _ rfl
                    have mf := H5.out.1.f 3
                    have ml := H5.out.1.lt
                    have HS : Hid (Blk (w5.setCell ⟨v2.heap.size, 3, none⟩ (.int .i64 (intV p3))) v2.heap.size (lz (intV p0) (intV p1) (intV p2) (intV p3) false 4)) := Lib.hid (H5.out.1.set 3 (.int .i64 (intV p3)))
                    have HSB : Hid (Below v2.heap.size v2 (w5.setCell ⟨v2.heap.size, 3, none⟩ (.int .i64 (intV p3)))) := Lib.hid (H5.out.2.setCell (Nat.le_refl _) _)
                    have HPR : Hid (∀ j p, j < 4 → [p0, p1, p2, p3][j]? = some p → intB p 13 = true) := Lib.hid (fun j p hj hp => by
                      by_cases e : j = 3
                      · subst e; simp at hp; rw [← hp]; exact HIB.out
                      · exact HX.out.1 j p (by omega) hp)
                    clear hb5
                    go_wp2_with fail
                    go_roundw
                    case rel => exact ⟨4, by omega, by go_num, HPR.out, HS.out, HSB.out⟩
                    case measure => simp [intOf]
                · have m0 := hX.2.1.c 0 _ rfl; have m1 := hX.2.1.c 1 _ rfl; have m2 := hX.2.1.c 2 _ rfl; have m3 := hX.2.1.c 3 _ rfl; have m4 := hX.2.1.c 4 _ rfl
                  have ml := hX.2.1.lt
                  have HLR : Hid (t.data.toList = runT ⟨intV p0, intV p1, intV p2, intV p3, false⟩ ++ rest) := Lib.hid (by
                    have e := line_read HP.out HF.out.2 (hX.1 0 p0 (by omega) rfl) (hX.1 1 p1 (by omega) rfl) (hX.1 2 p2 (by omega) rfl) (hX.1 3 p3 (by omega) rfl)
                    rw [← HF.out.1] at e
                    rw [cut_text HCUT.out, e]
                    unfold runT
                    rw [List.append_assoc]; rfl)
                  have HOW := Lib.hid (H3.out.2.past hX.2.2)
                  have hbs := HOW.out.bel.size
                  clear hX
                  go_wp2_with (first | (at_builtin; refine wpList_append_lies _ rfl _ _ _ rfl w.heap.size 34 i0 (.agg #[.int .i64 0, .int .i64 0, .int .i64 0, .int .i64 0, .bool false]) 5 40 Tryz.underlying23 hi0 hz0 hz1 hz2 rfl (by decide) u rs.length (rnVs rs) rfl (own_past HOW.out.own ((Below.refl _ _).alloc (Nat.le_refl _) _)) ⟨wr.heap.size, 0, none⟩ 1 1 (rnV ⟨intV p0, intV p1, intV p2, intV p3, false⟩) rfl rfl (by intro j v hj; rw [Go.WideShapes.add_plain, World.cell?_alloc_new]; simpa [rnV] using hj) (by intro v hv; simp [rnV] at hv; rcases hv with h | h | h | h | h <;> subst h <;> rfl) (by decide) (by unfold maxLen; omega) (by omega) (by simp; omega) _ rfl ?_; intro g' cap' w7 hown hgrow hat hlt))
                  have HN := Lib.hid (OwR.app HOW.out ((Below.refl _ _).alloc (Nat.le_refl _) _) hown hgrow)
                  clear hown hgrow hat hlt
                  go_roundw
                  case rel =>
                    refine ⟨rs ++ [⟨intV p0, intV p1, intV p2, intV p3, false⟩], rB, _, rfl, by rw [List.length_append]; go_num, rfl, ?_, HN.out⟩
                    rw [HT.out, HLR.out, HRB.out, runsT_app]
                    show _ = runsT rs ++ (runT _ ++ []) ++ rest
                    rw [List.append_nil, List.append_assoc]
                  case measure =>
                    have h1 := congrArg List.length HLR.out
                    have h2 := congrArg List.length HRB.out
                    rw [List.length_append] at h1
                    rw [← Lib.size_eq] at h1 h2
                    have h3 : 1 ≤ (runT ⟨intV p0, intV p1, intV p2, intV p3, false⟩).length := by unfold runT; simp
                    show rB.size < t.size
                    omega
            · go_upto_region 13 with fail
              refine wp_world (fun V hV => ?_)
              have HV : Hid (Below v2.heap.size v2 V) := Lib.hid (by rw [hV]; (repeat (first | exact Below.refl _ _ | assumption | (refine Below.setCell ?_ (by first | (simp; done) | (simp; omega) | omega) _) | (refine Below.drew ?_) | (refine below_drewN ?_ _) | (refine Below.alloc ?_ (by first | (simp; done) | (simp; omega) | omega) _) | (refine Below.trans ?_ (Below.mono (by assumption) (by first | (simp; done) | (simp; omega) | omega))))))
              have hblk := fun vs (h : V = v2.alloc (.cells (List.toArray vs) 34)) => show Blk V v2.heap.size vs by rw [h]; exact Blk.new _ _ _ _ rfl
              have HVB := Lib.hid (hblk _ hV)
              clear hV hblk e1 e2 z4
              go_wp2_with fail
              go_loopw [63] (fun s63 wx => ∃ i : Nat, i ≤ 4 ∧ s63 = .int .i64 i ∧ (∀ j p, j < i → [p0, p1, p2, p3][j]? = some p → intB p 13 = true) ∧ Blk wx v2.heap.size (lz (intV p0) (intV p1) (intV p2) (intV p3) true i) ∧ Below v2.heap.size v2 wx) (fun s63 _ => 4 - (intOf s63).toNat)
              case atStart => exact ⟨0, by omega, rfl, fun j p h => by omega, HVB.out, HV.out⟩
              case round =>
                obtain ⟨i, hi, rfl, hX⟩ := hrel
                clear HV HVB
                rcases (show i = 0 ∨ i = 1 ∨ i = 2 ∨ i = 3 ∨ i = 4 by omega) with rfl | rfl | rfl | rfl | rfl
                · have y0 : wr.cell? ⟨g, 0, none⟩ = some (.string ⟨p0.toArray⟩) := by rw [hX.2.2.cell (p := ⟨g, 0, none⟩) hgl]; exact z0
                  have yl : g < wr.heap.size := Nat.lt_of_lt_of_le hgl hX.2.2.size
                  have HX := Lib.hid hX
                  have HLX := Lib.hid (H3.out.1.past hX.2.2)
                  have xi := ixP0 v2.heap.size
                  clear hX
                  cases hI : intB p0 13
                  · have HG : Hid (¬ goodL t.data.toList) := Lib.hid (fun hg => by have := HGP.out hg; rw [hI] at this; simp at this)
                    have HI2 : Hid (∀ w', LibW w' → Calls Tryz.prog 26 #[.string ⟨p0.toArray⟩, .int .i64 13] w' fun e w'' => e = .returned (.tuple #[.int .i64 0, .bool false]) ∧ Below w'.heap.size w' w'') := Lib.hid (fun w' h' => (HI.out p0 HPL.out.1 w' h').mono fun e w'' h => by unfold IntRes intR at h; rw [hI] at h; exact h)
                    clear hI
                    go_wp2_with (go_at_call 26; refine (HI2.out _ HLX.out).mono ?_; rintro e w5 ⟨rfl, hb5⟩)
                    go_ret3
                    exact prs_bad (H3.out.2.bel.trans (Below.mono (HX.out.2.2.trans (hb5.mono HX.out.2.2.size)) H3.out.2.bel.size)) HT.out HG.out HTN.out rfl
                  · have HIB := Lib.hid hI
                    have HI2 : Hid (∀ w', LibW w' → Calls Tryz.prog 26 #[.string ⟨p0.toArray⟩, .int .i64 13] w' fun e w'' => e = .returned (.tuple #[.int .i64 (intV p0), .bool true]) ∧ Below w'.heap.size w' w'') := Lib.hid (fun w' h' => (HI.out p0 HPL.out.1 w' h').mono fun e w'' h => by unfold IntRes intR at h; rw [hI] at h; exact h)
                    clear hI
                    go_upto_region 19 with (go_at_call 26; refine (HI2.out _ HLX.out).mono ?_; rintro e w5 ⟨rfl, hb5⟩)
                    have H5 : Hid (Blk w5 v2.heap.size (lz (intV p0) (intV p1) (intV p2) (intV p3) true 0) ∧ Below v2.heap.size v2 w5) := Lib.hid ⟨HX.out.2.1.past hb5, HX.out.2.2.trans (hb5.mono HX.out.2.2.size)⟩
                    have m0 := H5.out.1.c 0 _ rfl
                    have mf := H5.out.1.f 0
                    have ml := H5.out.1.lt
                    have HS : Hid (Blk (w5.setCell ⟨v2.heap.size, 0, none⟩ (.int .i64 (intV p0))) v2.heap.size (lz (intV p0) (intV p1) (intV p2) (intV p3) true 1)) := Lib.hid (H5.out.1.set 0 (.int .i64 (intV p0)))
                    have HSB : Hid (Below v2.heap.size v2 (w5.setCell ⟨v2.heap.size, 0, none⟩ (.int .i64 (intV p0)))) := Lib.hid (H5.out.2.setCell (Nat.le_refl _) _)
                    have HPR : Hid (∀ j p, j < 1 → [p0, p1, p2, p3][j]? = some p → intB p 13 = true) := Lib.hid (fun j p hj hp => by
                      by_cases e : j = 0
                      · subst e; simp at hp; rw [← hp]; exact HIB.out
                      · exact HX.out.1 j p (by omega) hp)
                    clear hb5
                    go_wp2_with fail
                    go_roundw
                    case rel => exact ⟨1, by omega, by go_num, HPR.out, HS.out, HSB.out⟩
                    case measure => simp [intOf]
                · have y0 : wr.cell? ⟨g, 1, none⟩ = some (.string ⟨p1.toArray⟩) := by rw [hX.2.2.cell (p := ⟨g, 1, none⟩) hgl]; exact z1
                  have yl : g < wr.heap.size := Nat.lt_of_lt_of_le hgl hX.2.2.size
                  have HX := Lib.hid hX
                  have HLX := Lib.hid (H3.out.1.past hX.2.2)
                  have xi := ixP1 v2.heap.size
                  clear hX
                  cases hI : intB p1 13
                  · have HG : Hid (¬ goodL t.data.toList) := Lib.hid (fun hg => by have := HGP.out hg; rw [hI] at this; simp at this)
                    have HI2 : Hid (∀ w', LibW w' → Calls Tryz.prog 26 #[.string ⟨p1.toArray⟩, .int .i64 13] w' fun e w'' => e = .returned (.tuple #[.int .i64 0, .bool false]) ∧ Below w'.heap.size w' w'') := Lib.hid (fun w' h' => (HI.out p1 HPL.out.2.1 w' h').mono fun e w'' h => by unfold IntRes intR at h; rw [hI] at h; exact h)
                    clear hI
                    go_wp2_with (go_at_call 26; refine (HI2.out _ HLX.out).mono ?_; rintro e w5 ⟨rfl, hb5⟩)
                    go_ret3
                    exact prs_bad (H3.out.2.bel.trans (Below.mono (HX.out.2.2.trans (hb5.mono HX.out.2.2.size)) H3.out.2.bel.size)) HT.out HG.out HTN.out rfl
                  · have HIB := Lib.hid hI
                    have HI2 : Hid (∀ w', LibW w' → Calls Tryz.prog 26 #[.string ⟨p1.toArray⟩, .int .i64 13] w' fun e w'' => e = .returned (.tuple #[.int .i64 (intV p1), .bool true]) ∧ Below w'.heap.size w' w'') := Lib.hid (fun w' h' => (HI.out p1 HPL.out.2.1 w' h').mono fun e w'' h => by unfold IntRes intR at h; rw [hI] at h; exact h)
                    clear hI
                    go_upto_region 19 with (go_at_call 26; refine (HI2.out _ HLX.out).mono ?_; rintro e w5 ⟨rfl, hb5⟩)
                    have H5 : Hid (Blk w5 v2.heap.size (lz (intV p0) (intV p1) (intV p2) (intV p3) true 1) ∧ Below v2.heap.size v2 w5) := Lib.hid ⟨HX.out.2.1.past hb5, HX.out.2.2.trans (hb5.mono HX.out.2.2.size)⟩
                    have m0 := H5.out.1.c 1 _ rfl
                    have mf := H5.out.1.f 1
                    have ml := H5.out.1.lt
                    have HS : Hid (Blk (w5.setCell ⟨v2.heap.size, 1, none⟩ (.int .i64 (intV p1))) v2.heap.size (lz (intV p0) (intV p1) (intV p2) (intV p3) true 2)) := Lib.hid (H5.out.1.set 1 (.int .i64 (intV p1)))
                    have HSB : Hid (Below v2.heap.size v2 (w5.setCell ⟨v2.heap.size, 1, none⟩ (.int .i64 (intV p1)))) := Lib.hid (H5.out.2.setCell (Nat.le_refl _) _)
                    have HPR : Hid (∀ j p, j < 2 → [p0, p1, p2, p3][j]? = some p → intB p 13 = true) := Lib.hid (fun j p hj hp => by
                      by_cases e : j = 1
                      · subst e; simp at hp; rw [← hp]; exact HIB.out
                      · exact HX.out.1 j p (by omega) hp)
                    clear hb5
                    go_wp2_with fail
                    go_roundw
                    case rel => exact ⟨2, by omega, by go_num, HPR.out, HS.out, HSB.out⟩
                    case measure => simp [intOf]
                · have y0 : wr.cell? ⟨g, 2, none⟩ = some (.string ⟨p2.toArray⟩) := by rw [hX.2.2.cell (p := ⟨g, 2, none⟩) hgl]; exact z2
                  have yl : g < wr.heap.size := Nat.lt_of_lt_of_le hgl hX.2.2.size
                  have HX := Lib.hid hX
                  have HLX := Lib.hid (H3.out.1.past hX.2.2)
                  have xi := ixP2 v2.heap.size
                  clear hX
                  cases hI : intB p2 13
                  · have HG : Hid (¬ goodL t.data.toList) := Lib.hid (fun hg => by have := HGP.out hg; rw [hI] at this; simp at this)
                    have HI2 : Hid (∀ w', LibW w' → Calls Tryz.prog 26 #[.string ⟨p2.toArray⟩, .int .i64 13] w' fun e w'' => e = .returned (.tuple #[.int .i64 0, .bool false]) ∧ Below w'.heap.size w' w'') := Lib.hid (fun w' h' => (HI.out p2 HPL.out.2.2.1 w' h').mono fun e w'' h => by unfold IntRes intR at h; rw [hI] at h; exact h)
                    clear hI
                    go_wp2_with (go_at_call 26; refine (HI2.out _ HLX.out).mono ?_; rintro e w5 ⟨rfl, hb5⟩)
                    go_ret3
                    exact prs_bad (H3.out.2.bel.trans (Below.mono (HX.out.2.2.trans (hb5.mono HX.out.2.2.size)) H3.out.2.bel.size)) HT.out HG.out HTN.out rfl
                  · have HIB := Lib.hid hI
                    have HI2 : Hid (∀ w', LibW w' → Calls Tryz.prog 26 #[.string ⟨p2.toArray⟩, .int .i64 13] w' fun e w'' => e = .returned (.tuple #[.int .i64 (intV p2), .bool true]) ∧ Below w'.heap.size w' w'') := Lib.hid (fun w' h' => (HI.out p2 HPL.out.2.2.1 w' h').mono fun e w'' h => by unfold IntRes intR at h; rw [hI] at h; exact h)
                    clear hI
                    go_upto_region 19 with (go_at_call 26; refine (HI2.out _ HLX.out).mono ?_; rintro e w5 ⟨rfl, hb5⟩)
                    have H5 : Hid (Blk w5 v2.heap.size (lz (intV p0) (intV p1) (intV p2) (intV p3) true 2) ∧ Below v2.heap.size v2 w5) := Lib.hid ⟨HX.out.2.1.past hb5, HX.out.2.2.trans (hb5.mono HX.out.2.2.size)⟩
                    have m0 := H5.out.1.c 2 _ rfl
                    have mf := H5.out.1.f 2
                    have ml := H5.out.1.lt
                    have HS : Hid (Blk (w5.setCell ⟨v2.heap.size, 2, none⟩ (.int .i64 (intV p2))) v2.heap.size (lz (intV p0) (intV p1) (intV p2) (intV p3) true 3)) := Lib.hid (H5.out.1.set 2 (.int .i64 (intV p2)))
                    have HSB : Hid (Below v2.heap.size v2 (w5.setCell ⟨v2.heap.size, 2, none⟩ (.int .i64 (intV p2)))) := Lib.hid (H5.out.2.setCell (Nat.le_refl _) _)
                    have HPR : Hid (∀ j p, j < 3 → [p0, p1, p2, p3][j]? = some p → intB p 13 = true) := Lib.hid (fun j p hj hp => by
                      by_cases e : j = 2
                      · subst e; simp at hp; rw [← hp]; exact HIB.out
                      · exact HX.out.1 j p (by omega) hp)
                    clear hb5
                    go_wp2_with fail
                    go_roundw
                    case rel => exact ⟨3, by omega, by go_num, HPR.out, HS.out, HSB.out⟩
                    case measure => simp [intOf]
                · have y0 : wr.cell? ⟨g, 3, none⟩ = some (.string ⟨p3.toArray⟩) := by rw [hX.2.2.cell (p := ⟨g, 3, none⟩) hgl]; exact z3
                  have yl : g < wr.heap.size := Nat.lt_of_lt_of_le hgl hX.2.2.size
                  have HX := Lib.hid hX
                  have HLX := Lib.hid (H3.out.1.past hX.2.2)
                  have xi := ixP3 v2.heap.size
                  clear hX
                  cases hI : intB p3 13
                  · have HG : Hid (¬ goodL t.data.toList) := Lib.hid (fun hg => by have := HGP.out hg; rw [hI] at this; simp at this)
                    have HI2 : Hid (∀ w', LibW w' → Calls Tryz.prog 26 #[.string ⟨p3.toArray⟩, .int .i64 13] w' fun e w'' => e = .returned (.tuple #[.int .i64 0, .bool false]) ∧ Below w'.heap.size w' w'') := Lib.hid (fun w' h' => (HI.out p3 HPL.out.2.2.2 w' h').mono fun e w'' h => by unfold IntRes intR at h; rw [hI] at h; exact h)
                    clear hI
                    go_wp2_with (go_at_call 26; refine (HI2.out _ HLX.out).mono ?_; rintro e w5 ⟨rfl, hb5⟩)
                    go_ret3
                    exact prs_bad (H3.out.2.bel.trans (Below.mono (HX.out.2.2.trans (hb5.mono HX.out.2.2.size)) H3.out.2.bel.size)) HT.out HG.out HTN.out rfl
                  · have HIB := Lib.hid hI
                    have HI2 : Hid (∀ w', LibW w' → Calls Tryz.prog 26 #[.string ⟨p3.toArray⟩, .int .i64 13] w' fun e w'' => e = .returned (.tuple #[.int .i64 (intV p3), .bool true]) ∧ Below w'.heap.size w' w'') := Lib.hid (fun w' h' => (HI.out p3 HPL.out.2.2.2 w' h').mono fun e w'' h => by unfold IntRes intR at h; rw [hI] at h; exact h)
                    clear hI
                    go_upto_region 19 with (go_at_call 26; refine (HI2.out _ HLX.out).mono ?_; rintro e w5 ⟨rfl, hb5⟩)
                    have H5 : Hid (Blk w5 v2.heap.size (lz (intV p0) (intV p1) (intV p2) (intV p3) true 3) ∧ Below v2.heap.size v2 w5) := Lib.hid ⟨HX.out.2.1.past hb5, HX.out.2.2.trans (hb5.mono HX.out.2.2.size)⟩
                    have m0 := H5.out.1.c 3 _ rfl
                    have mf := H5.out.1.f 3
                    have ml := H5.out.1.lt
                    have HS : Hid (Blk (w5.setCell ⟨v2.heap.size, 3, none⟩ (.int .i64 (intV p3))) v2.heap.size (lz (intV p0) (intV p1) (intV p2) (intV p3) true 4)) := Lib.hid (H5.out.1.set 3 (.int .i64 (intV p3)))
                    have HSB : Hid (Below v2.heap.size v2 (w5.setCell ⟨v2.heap.size, 3, none⟩ (.int .i64 (intV p3)))) := Lib.hid (H5.out.2.setCell (Nat.le_refl _) _)
                    have HPR : Hid (∀ j p, j < 4 → [p0, p1, p2, p3][j]? = some p → intB p 13 = true) := Lib.hid (fun j p hj hp => by
                      by_cases e : j = 3
                      · subst e; simp at hp; rw [← hp]; exact HIB.out
                      · exact HX.out.1 j p (by omega) hp)
                    clear hb5
                    go_wp2_with fail
                    go_roundw
                    case rel => exact ⟨4, by omega, by go_num, HPR.out, HS.out, HSB.out⟩
                    case measure => simp [intOf]
                · have m0 := hX.2.1.c 0 _ rfl; have m1 := hX.2.1.c 1 _ rfl; have m2 := hX.2.1.c 2 _ rfl; have m3 := hX.2.1.c 3 _ rfl; have m4 := hX.2.1.c 4 _ rfl
                  have ml := hX.2.1.lt
                  have HLR : Hid (t.data.toList = runT ⟨intV p0, intV p1, intV p2, intV p3, true⟩ ++ rest) := Lib.hid (by
                    have e := line_read HP.out HF.out.2 (hX.1 0 p0 (by omega) rfl) (hX.1 1 p1 (by omega) rfl) (hX.1 2 p2 (by omega) rfl) (hX.1 3 p3 (by omega) rfl)
                    rw [← HF.out.1] at e
                    rw [cut_text HCUT.out, e]
                    unfold runT
                    rw [List.append_assoc]; rfl)
                  have HOW := Lib.hid (H3.out.2.past hX.2.2)
                  have hbs := HOW.out.bel.size
                  clear hX
                  go_wp2_with (first | (at_builtin; refine wpList_append_lies _ rfl _ _ _ rfl w.heap.size 34 i0 (.agg #[.int .i64 0, .int .i64 0, .int .i64 0, .int .i64 0, .bool false]) 5 40 Tryz.underlying23 hi0 hz0 hz1 hz2 rfl (by decide) u rs.length (rnVs rs) rfl (own_past HOW.out.own ((Below.refl _ _).alloc (Nat.le_refl _) _)) ⟨wr.heap.size, 0, none⟩ 1 1 (rnV ⟨intV p0, intV p1, intV p2, intV p3, true⟩) rfl rfl (by intro j v hj; rw [Go.WideShapes.add_plain, World.cell?_alloc_new]; simpa [rnV] using hj) (by intro v hv; simp [rnV] at hv; rcases hv with h | h | h | h | h <;> subst h <;> rfl) (by decide) (by unfold maxLen; omega) (by omega) (by simp; omega) _ rfl ?_; intro g' cap' w7 hown hgrow hat hlt))
                  have HN := Lib.hid (OwR.app HOW.out ((Below.refl _ _).alloc (Nat.le_refl _) _) hown hgrow)
                  clear hown hgrow hat hlt
                  go_roundw
                  case rel =>
                    refine ⟨rs ++ [⟨intV p0, intV p1, intV p2, intV p3, true⟩], rB, _, rfl, by rw [List.length_append]; go_num, rfl, ?_, HN.out⟩
                    rw [HT.out, HLR.out, HRB.out, runsT_app]
                    show _ = runsT rs ++ (runT _ ++ []) ++ rest
                    rw [List.append_nil, List.append_assoc]
                  case measure =>
                    have h1 := congrArg List.length HLR.out
                    have h2 := congrArg List.length HRB.out
                    rw [List.length_append] at h1
                    rw [← Lib.size_eq] at h1 h2
                    have h3 : 1 ≤ (runT ⟨intV p0, intV p1, intV p2, intV p3, true⟩).length := by unfold runT; simp
                    show rB.size < t.size
                    omega
          · have h4' : ¬ p4 = okT ∧ ¬ p4 = faT := ⟨fun h => h4 (.inl h), fun h => h4 (.inr h)⟩
            obtain ⟨sp4, hsp4⟩ : ∃ x : ByteArray, x = ⟨p4.toArray⟩ := ⟨_, rfl⟩
            rw [← hsp4] at z4
            have e1 : (sp4.toList == [111, 107]) = false := by rw [str_eq, hsp4]; exact decide_eq_false h4'.1
            have e2 : (sp4.toList == [102, 97, 105, 108, 101, 100]) = false := by rw [str_eq, hsp4]; exact decide_eq_false h4'.2
            have HG : Hid (¬ goodL t.data.toList) := Lib.hid (fun hg => h4 (HGP.out hg).1)
            clear h4 h4' hsp4
            go_wp2_with fail
            go_ret3
            exact prs_bad H3.out.2.bel HT.out HG.out HTN.out rfl
        · have hN5' : ((N : Int) != 5) = true := by simp; omega
          have HG : Hid (¬ goodL t.data.toList) := Lib.hid (fun hg => by
            obtain ⟨-, p0, p1, p2, p3, p4, h, -⟩ := HGR.out hg
            apply hN5
            rw [HNN.out, h]; rfl)
          clear hN5
          go_wp2_with fail
          go_ret3
          exact prs_bad H2.out.2.1.bel HT.out HG.out HTN.out rfl
end Go.Proofs.YtcdcfkgdgimmcaaGreatDoor
