/- RunsPrint: the walk of the statement. Conditions: works and runs lie in memory; the library's variables read as listed (LibW). -/
import Derived.Test.YtcdcfkgdgimmcaaGreatDoorLeA
import Derived.Test.YtcdcfkgdgimmcaaGreatDoorPrA
import Derived.Test.YtcdcfkgdgimmcaaGreatDoorEqR
import Derived.Test.YtcdcfkgdgimmcaaGreatDoorCtR
import Derived.Test.YtcdcfkgdgimmcaaGreatDoorFaF
namespace Go.Proofs.YtcdcfkgdgimmcaaGreatDoor
open Go Go.RowKit
theorem countOne (s : ByteArray) (w : World) : Calls Tryz.prog 11 #[.string s, .string ⟨#[10]⟩] w fun e w' => e = .returned (.int .i64 ((s.data.toList.count 10 : Nat) : Int)) ∧ w = w' := by
  refine (Any.strings_Count_one Tryz.lays138 s 10 w).mono ?_
  rintro e w' ⟨rfl, rfl⟩
  exact ⟨rfl, rfl⟩
/-- The runs as a list. -/
def ruL (m : Nat) (rv : Nat → RunV) : List Ru := (List.range m).map fun k => ⟨(rv k).wk, (rv k).mc, (rv k).fr, (rv k).to, (rv k).fl⟩
theorem ruL_len (m : Nat) (rv : Nat → RunV) : (ruL m rv).length = m := by simp [ruL]
theorem ruL_in {w : World} {a : Option Addr} {m c : Nat} {rv : Nat → RunV} (h : IsRuns w a m c rv) : RnsIn w a (ruL m rv) := fun h0 => by
  rw [ruL_len] at h0
  obtain ⟨b, off, e, hc⟩ := h.2.2 h0
  refine ⟨b, off, e, fun i hi => ?_⟩
  rw [ruL_len] at hi
  obtain ⟨c0, c1, c2, c3, c4, -⟩ := hc i hi
  have e : (ruL m rv)[i]'(by rw [ruL_len]; exact hi) = ⟨(rv i).wk, (rv i).mc, (rv i).fr, (rv i).to, (rv i).fl⟩ := by simp [ruL]
  rw [e]
  exact ⟨c0, c1, c2, c3, c4⟩
set_option maxRecDepth 100000 in
set_option maxHeartbeats 3200000 in
theorem rp_err (v0 : Value) (a : Option Addr) (c : Nat) (l : List Ru) (z : Int) (w : World) (hn : l.length ≤ 9223372036854775807) (hR : RnsIn w a l) (hz : runsE l ≠ 0) :
    Calls Tryz.prog 3 #[v0, .slice a l.length c, .int .i64 z] w fun e w' => e = .returned (.bool true) ∧ Below w.heap.size w w' := by
  have HP := Lib.hid (Print_no a c l w hn hz hR)
  have HE : Hid (∀ w', Below w.heap.size w w' → Calls Tryz.prog 5 #[.slice a l.length c] w' fun e w'' => e = .returned (.int .i64 (runsE l)) ∧ Below w'.heap.size w' w'') := Lib.hid (fun w' hb => runsError_any a c l w' hn (hR.past hb))
  obtain ⟨E, hE⟩ : ∃ E, E = runsE l := ⟨_, rfl⟩
  rw [← hE] at HP HE hz
  obtain ⟨m, hm⟩ : ∃ m, m = l.length := ⟨_, rfl⟩
  rw [← hm] at HP HE ⊢
  have hz1 : (E != 0) = true := by simpa using hz
  clear hE hm hR hn
  go_enter Tryz.func3, Tryz.ntmps3
  go_upto_region 2 with (go_at_call 4; refine HP.out.mono ?_; rintro e w1 ⟨rfl, hb1⟩; have HB1 := Lib.hid hb1; clear hb1)
  go_upto_region 3 with (go_at_call 5; refine (HE.out _ HB1.out).mono ?_; rintro e w2 ⟨rfl, hb2⟩; have HB2 := Lib.hid (HB1.out.trans (hb2.mono HB1.out.size)); clear hb2)
  go_upto_region 4 with (go_at_call 6; refine (farms_any _).mono ?_; rintro e w3 ⟨rfl, hb3⟩; have HB3 := Lib.hid (HB2.out.trans (hb3.mono HB2.out.size)); clear hb3)
  go_wp2_with (go_at_call 6; refine (farms_any _).mono ?_; rintro e w4 ⟨rfl, hb4⟩)
  go_ret
  exact ⟨by simp, HB3.out.trans (hb4.mono HB3.out.size)⟩
set_option maxRecDepth 100000 in
set_option maxHeartbeats 3200000 in
theorem rp_long (v0 : Value) (a : Option Addr) (c : Nat) (l : List Ru) (z : Int) (w : World) (hL : LibW w) (hn : 100 < l.length) (hm63 : l.length ≤ 9223372036854775807) (hR : RnsIn w a l) (hz : runsE l = 0) :
    Calls Tryz.prog 3 #[v0, .slice a l.length c, .int .i64 z] w fun e w' => e = .returned (.bool true) ∧ Below w.heap.size w w' := by
  have HP := Lib.hid (Print_yes a c l w hL hz hR)
  have HE : Hid (∀ w', Below w.heap.size w w' → Calls Tryz.prog 5 #[.slice a l.length c] w' fun e w'' => e = .returned (.int .i64 0) ∧ Below w'.heap.size w' w'') := Lib.hid (fun w' hb => by rw [← hz]; exact runsError_any a c l w' hm63 (hR.past hb))
  obtain ⟨S, hS⟩ : ∃ S : ByteArray, S = ⟨(runsT l).toArray⟩ := ⟨_, rfl⟩
  rw [← hS] at HP
  obtain ⟨m, hm⟩ : ∃ m, m = l.length := ⟨_, rfl⟩
  rw [← hm] at HP HE hn ⊢
  have hni : (100 : Int) < (m : Int) := by omega
  clear hS hm hR hz hL hm63
  go_enter Tryz.func3, Tryz.ntmps3
  go_upto_region 2 with (go_at_call 4; refine HP.out.mono ?_; rintro e w1 ⟨rfl, hb1⟩; have HB1 := Lib.hid hb1; clear hb1)
  go_upto_region 3 with (go_at_call 5; refine (HE.out _ HB1.out).mono ?_; rintro e w2 ⟨rfl, hb2⟩; have HB2 := Lib.hid (HB1.out.trans (hb2.mono HB1.out.size)); clear hb2)
  go_wp2_with (go_at_call 6; refine (farms_any _).mono ?_; rintro e w3 ⟨rfl, hb3⟩; have HB3 := Lib.hid (HB2.out.trans (hb3.mono HB2.out.size)); clear hb3)
  go_ret
  exact ⟨rfl, HB3.out⟩
theorem cut_q (z : Int) (N : Nat) (h : N ≤ 10000) : ∃ q : Nat, wrap64 ((IntKind.u64.wrap z).tmod ((N : Int) + 1)) = q ∧ q ≤ N := by
  have h0 : 0 ≤ IntKind.u64.wrap z := wrap_u64_nonneg z
  have h1 := Int.tmod_nonneg ((N : Int) + 1) h0
  have h2 := Int.tmod_lt_of_pos (IntKind.u64.wrap z) (show (0 : Int) < (N : Int) + 1 by omega)
  exact ⟨((IntKind.u64.wrap z).tmod ((N : Int) + 1)).toNat, by unfold wrap64; omega, by omega⟩
theorem rp_step (n : Nat) (rs : Nat → RunV) (k : Nat) (h : 0 ≤ (rs k).wk) : firstE (firstN (rnE n rs) k) (whenE (decide ((n : Int) ≤ (rs k).wk)) 11) = firstN (rnE n rs) (k + 1) := by
  have e : whenE (decide ((n : Int) ≤ (rs k).wk)) 11 = rnE n rs k := by
    unfold rnE
    by_cases h' : (n : Int) ≤ (rs k).wk
    · rw [if_pos (.inr h'), decide_eq_true h']; rfl
    · rw [if_neg (by omega), decide_eq_false h']; rfl
  rw [e]
  rfl
/-- What Left leaves, seen from where it is compared. -/
def LfPost (X : Int) (Z : List Int) (w : World) (e : Ending) (w' : World) : Prop :=
  ∃ (al : Option Addr) (ln cl gl : Nat), e = .returned (.tuple #[.slice al ln cl, .int .i64 X]) ∧ Below w.heap.size w w' ∧ (X ≠ 0 → ln = 0) ∧ (X = 0 → ln = Z.length ∧ (0 < ln → al = some ⟨gl, 0, none⟩) ∧ ∀ i, i < ln → w'.cell? ⟨gl, 0 + i, none⟩ = some (.int .i64 (Z.getD i 0)))
theorem lf_of {n k : Nat} {rv : Nat → RunV} {w w' : World} {e : Ending} (h : LeftPost n k rv w e w') : LfPost (firstN (rnE n rv) k) (nmZ (fun i => !dnB rv k i) n) w e w' := by
  rcases h with ⟨h0, u, w2, rfl, -, hN, hB⟩ | ⟨h0, rfl, hB⟩
  · obtain ⟨g, a, c, rfl, h1, h2⟩ := hN.cells
    rw [h0]
    exact ⟨a, _, c, g, rfl, hB, fun h => absurd rfl h, fun _ => ⟨rfl, h1, h2⟩⟩
  · exact ⟨none, 0, 0, 0, rfl, hB, fun _ => rfl, fun h => absurd h h0⟩
set_option maxRecDepth 100000 in
set_option maxHeartbeats 6400000 in
theorem rp_most (a : Option Addr) (n c : Nat) (ks : Nat → Wk) (a2 : Option Addr) (c2 : Nat) (l : List Ru) (z : Int) (w : World) (hL : LibW w) (hW : IsWorks w a n c ks) (hR : RnsIn w a2 l) (hc1 : l.length ≤ c2) (hc2 : c2 ≤ maxLen) (hn : l.length ≤ 100) (hz : runsE l = 0) :
    Calls Tryz.prog 3 #[.slice a n c, .slice a2 l.length c2, .int .i64 z] w fun e w' => e = .returned (.bool true) ∧ Below w.heap.size w w' := by
  have hz' : rsE l = 0 := by unfold runsE at hz; rw [if_neg (by omega)] at hz; exact hz
  have HP := Lib.hid (Print_yes a2 c2 l w hL hz hR)
  have HE : Hid (∀ w', Below w.heap.size w w' → Calls Tryz.prog 5 #[.slice a2 l.length c2] w' fun e w'' => e = .returned (.int .i64 0) ∧ Below w'.heap.size w' w'') := Lib.hid (fun w' hb => by rw [← hz]; exact runsError_any a2 c2 l w' (by omega) (hR.past hb))
  have HT : Hid (∀ w', Below w.heap.size w w' → Calls Tryz.prog 7 #[.slice a2 l.length c2] w' fun e w'' => e = .returned (.string ⟨(runsT l).toArray⟩) ∧ Below w'.heap.size w' w'') := Lib.hid (fun w' hb => runsText_any a2 c2 l w' (hL.past hb) (by omega) hz' (hR.past hb))
  have hTl := runsT_len hz'
  obtain ⟨S, hS⟩ : ∃ S : ByteArray, S = ⟨(runsT l).toArray⟩ := ⟨_, rfl⟩
  have hSl : S.data.toList = runsT l := by rw [hS]
  have hSs : S.size ≤ 10000 := by rw [Lib.size_eq, hSl]; omega
  rw [← hS] at HP HT
  have HPA : Hid (∀ w', Below w.heap.size w w' → Calls Tryz.prog 8 #[.string S] w' fun e w'' => Below w'.heap.size w' w'' ∧ ∃ a c, e = .returned (.tuple #[.slice a l.length c, .int .i64 0, .int .i64 0]) ∧ RnsIn w'' a l ∧ l.length ≤ c ∧ c ≤ maxLen) := Lib.hid (fun w' hb => Parse_runs S l w' (hL.past hb) (by omega) hSl hz)
  have HQ : Hid (∀ w' a' c', Below w.heap.size w w' → RnsIn w' a' l → Calls Tryz.prog 9 #[.slice a2 l.length c2, .slice a' l.length c'] w' fun e w'' => e = .returned (.bool true) ∧ Below w'.heap.size w' w'') := Lib.hid (fun w' a' c' hb h => EqRn_yes a2 a' c2 c' l w' (by omega) (hR.past hb) h)
  have HL := Lib.hid hL; have HW := Lib.hid hW; have HR := Lib.hid hR; have HZ := Lib.hid hz'; have HS := Lib.hid hSl
  have HC2 : Hid (l.length ≤ c2 ∧ c2 ≤ maxLen) := Lib.hid ⟨hc1, hc2⟩
  obtain ⟨m, hm⟩ : ∃ m, m = l.length := ⟨_, rfl⟩
  rw [← hm] at HP HE HT HPA HQ HC2 hn ⊢
  have hni : ¬ (100 : Int) < (m : Int) := by omega
  have HML := Lib.hid hm
  clear hS hm hR hz hL hz' hW hc1 hc2 hTl hSl
  go_enter Tryz.func3, Tryz.ntmps3
  go_upto_region 2 with (go_at_call 4; refine HP.out.mono ?_; rintro e w1 ⟨rfl, hb1⟩; have HB1 := Lib.hid hb1; clear hb1)
  go_upto_region 3 with (go_at_call 5; refine (HE.out _ HB1.out).mono ?_; rintro e w2 ⟨rfl, hb2⟩; have HB2 := Lib.hid (HB1.out.trans (hb2.mono HB1.out.size)); clear hb2)
  go_upto_region 7 with (go_at_call 6; refine (farms_any _).mono ?_; rintro e w3 ⟨rfl, hb3⟩; have HB3 := Lib.hid (HB2.out.trans (hb3.mono HB2.out.size)); clear hb3)
  go_upto_region 8 with (go_at_call 7; refine (HT.out _ HB3.out).mono ?_; rintro e w4 ⟨rfl, hb4⟩; have HB4 := Lib.hid (HB3.out.trans (hb4.mono HB3.out.size)); clear hb4)
  go_upto_region 9 with (go_at_call 8; refine (HPA.out _ HB4.out).mono ?_; rintro e w5 ⟨hb5, a5, c5, rfl, hin, -, -⟩; have HIN := Lib.hid hin; have HB5 := Lib.hid (HB4.out.trans (hb5.mono HB4.out.size)); clear hb5 hin)
  have HQ5 := Lib.hid (HQ.out _ a5 c5 HB5.out HIN.out)
  clear HB1 HB2 HB3 HB4 HQ HPA HT HE HP
  go_upto_region 11 with (go_at_call 9; refine HQ5.out.mono ?_; rintro e w6 ⟨rfl, hb6⟩; have HB6 := Lib.hid (HB5.out.trans (hb6.mono HB5.out.size)); clear hb6)
  go_upto_region 12 with fail
  obtain ⟨q, hq, hqs⟩ := cut_q z S.size hSs
  rw [hq]
  clear hq
  have hJq : (S.extract 0 q).data.toList = (runsT l).take q := by rw [← HS.out]; simp
  obtain ⟨k, rest, hk, hcut, h10⟩ := runs_cut l q (by rw [← HS.out, ← Lib.size_eq]; exact hqs)
  obtain ⟨J, hJ⟩ : ∃ J, J = S.extract 0 q := ⟨_, rfl⟩
  rw [← hJ, hcut] at hJq
  have hkm : k ≤ m := by have := HML.out; omega
  have hMl : (l.take k).length = k := by rw [List.length_take]; omega
  have hJs : J.size ≤ 10000 := by rw [Lib.size_eq, hJ]; simp; have := hSs; rw [Lib.size_eq] at this; omega
  have HCN : Hid (∀ w, Calls Tryz.prog 11 #[.string J, .string ⟨#[10]⟩] w fun e w' => e = .returned (.int .i64 (k : Int)) ∧ w = w') := Lib.hid (fun w => by
    have h1 := countOne J w
    rw [hJq, List.count_append, runs_count, hMl, List.count_eq_zero_of_not_mem h10, Nat.add_zero] at h1
    exact h1)
  obtain ⟨ML, hML⟩ : ∃ ML, ML = l.take k := ⟨_, rfl⟩
  rw [← hML] at hJq hMl
  have HJQ := Lib.hid hJq
  have HMZ : Hid (rsE ML = 0) := Lib.hid (by rw [hML]; exact rsE_take HZ.out k)
  have HMR : Hid (RnsIn w a2 ML) := Lib.hid (fun h0 => by
    obtain ⟨b, off, e, hc⟩ := HR.out (by have := HML.out; omega)
    refine ⟨b, off, e, fun i hi => ?_⟩
    have := hc i (by have := HML.out; omega)
    have e2 : ML[i] = l[i]'(by have := HML.out; omega) := by subst hML; simp
    rw [e2]; exact this)
  have HMIS : Hid (IsRuns w a2 k c2 (rvF ML)) := Lib.hid (by
    have := isRuns_of HMR.out HMZ.out (c := c2) (by have := HC2.out.1; omega) HC2.out.2
    rwa [hMl] at this)
  have HWK0 : Hid (∀ j, j < k → 0 ≤ (rvF ML j).wk) := Lib.hid (fun j hj => by
    rw [rvF_at (by omega : j < ML.length)]
    have := rE_bd (rsE_get HMZ.out j (by omega)); exact this.1)
  have HLW := Lib.hid (HL.out.past HB6.out)
  have hSJ : S.extract 0 q = J := hJ.symm
  have hqi : ¬ (S.size : Int) < (q : Int) := by omega
  have hkmi : ¬ (m : Int) < (k : Int) := by omega
  have hkc2 : k ≤ c2 := by have := HC2.out.1; omega
  have HWE : Hid (∀ w', Below w.heap.size w w' → Calls Tryz.prog 12 #[.slice a n c] w' fun e w'' => e = .returned (.int .i64 (wkErr n ks)) ∧ Below w'.heap.size w' w'') := Lib.hid (fun w' hb => workError_any a n c ks w' (HW.out.below hb))
  clear hJ hcut hJq hML HQ5 HIN
  by_cases hE : wkErr n ks = 0
  · have hlf : Calls Tryz.prog 10 #[.slice a n c, .string J] w6 (LeftPost n ML.length (rvF ML) w6) := Left_any a n c ks J ML rest w6 HLW.out (HW.out.below HB6.out) hE HJQ.out h10 (by unfold runsE; rw [if_neg (by omega)]; exact HMZ.out) (by omega)
    rw [hMl] at hlf
    rw [hE] at HWE
    generalize rvF ML = rv at *
    obtain ⟨X, hX⟩ : ∃ X, X = firstN (rnE n rv) k := ⟨_, rfl⟩
    obtain ⟨Z, hZ⟩ : ∃ Z, Z = nmZ (fun i => !dnB rv k i) n := ⟨_, rfl⟩
    have HLF : Hid (Calls Tryz.prog 10 #[.slice a n c, .string J] w6 (LfPost X Z w6)) := Lib.hid (hlf.mono fun e w' h => by rw [hX, hZ]; exact lf_of h)
    have HXX := Lib.hid hX; have HZZ := Lib.hid hZ
    clear hlf hX hZ
    go_upto_region 13 with (go_at_call 10; refine HLF.out.mono ?_; rintro e w7 ⟨al, ln, cl, gl, rfl, hb7, hl1, hl2⟩; have HB7 := Lib.hid (HB6.out.trans (hb7.mono HB6.out.size)); have HL1 := Lib.hid hl1; have HL2 := Lib.hid hl2; clear hb7 hl1 hl2)
    have HWE7 := Lib.hid (HWE.out _ HB7.out)
    go_upto_region 15 with (first | (go_at_call 11; refine (HCN.out _).mono ?_; rintro e w' ⟨rfl, rfl⟩) | (go_at_call 12; refine HWE7.out.mono ?_; rintro e w8 ⟨rfl, hb8⟩; have HB8 := Lib.hid (And.intro (HB7.out.trans (hb8.mono HB7.out.size)) hb8); clear hb8))
    have HLC : Hid (X = 0 → ln = Z.length ∧ (0 < ln → al = some ⟨gl, 0, none⟩) ∧ ∀ w', Below w8.heap.size w8 w' → ∀ i, i < ln → w'.cell? ⟨gl, 0 + i, none⟩ = some (.int .i64 (Z.getD i 0))) := Lib.hid (fun hX => by
      obtain ⟨h1, h2, h3⟩ := HL2.out hX
      refine ⟨h1, h2, fun w' hb i hi => ?_⟩
      have hc := h3 i hi
      have hl := cell_lt hc; simp only at hl
      rw [hb.cell (p := ⟨gl, 0 + i, none⟩) (show gl < w8.heap.size by have := HB8.out.2.size; omega), HB8.out.2.cell (p := ⟨gl, 0 + i, none⟩) hl]
      exact hc)
    clear HL2 HCN HLF HWE7 hSJ hqi hkmi hkc2
    go_wp2_with fail
    go_loopw [9, 106] (fun s9 s106 wr => ∃ j : Nat, j ≤ k ∧ s106 = .int .i64 j ∧ s9 = .int .i64 (firstN (rnE n rv) j) ∧ Below w.heap.size w wr ∧ Below w8.heap.size w8 wr) (fun _ s106 _ => k - (intOf s106).toNat)
    case atStart => exact ⟨0, Nat.zero_le _, rfl, rfl, HB8.out.1, Below.refl _ _⟩
    case round =>
      obtain ⟨j, hj, rfl, rfl, hB, hB8⟩ := hrel
      have HBB := Lib.hid hB; have HB9 := Lib.hid hB8
      clear hB hB8
      by_cases hjk : j < k
      · have hjki : (j : Int) < (k : Int) := by omega
        have HST := Lib.hid (rp_step n rv j (HWK0.out j hjk))
        obtain ⟨b, off, rfl, hc⟩ := HMIS.out.2.2 (by omega)
        have hw := (hc j hjk).below HBB.out
        obtain ⟨K, hK⟩ : ∃ K, K = rv j := ⟨_, rfl⟩
        rw [← hK] at hw HST
        obtain ⟨wk, mc, fr, te, fl⟩ := K
        obtain ⟨Fk, hFk⟩ : ∃ Fk, Fk = firstN (rnE n rv) j := ⟨_, rfl⟩
        rw [← hFk] at HST ⊢
        simp only at HST
        clear hK hc hFk
        have c0 := hw.1; have c1 := hw.2.1; have c2 := hw.2.2.1; have c3 := hw.2.2.2.1; have c4 := hw.2.2.2.2.1
        simp only at c0 c1 c2 c3 c4
        have l0 := cell_lt c0; simp only at l0
        clear hw
        go_upto_region 19 with fail
        refine wp_world (fun W4 hW4 => ?_)
        have B4 : Below wr.heap.size wr W4 := by rw [hW4]; (repeat (first | exact Below.refl _ _ | assumption | (refine Below.setCell ?_ (by first | (simp; done) | (simp; omega) | omega) _) | (refine Below.drew ?_) | (refine below_drewN ?_ _) | (refine Below.alloc ?_ (by first | (simp; done) | (simp; omega) | omega) _) | (refine Below.trans ?_ (Below.mono (by assumption) (by first | (simp; done) | (simp; omega) | omega)))))
        have N4 : Blk W4 wr.heap.size [.int .i64 wk, .int .i64 mc, .int .i64 fr, .int .i64 te, .bool fl] := by rw [hW4]; exact Blk.new _ _ _ _ rfl
        have H4 := Lib.hid (And.intro (HBB.out.trans (B4.mono HBB.out.size)) (HB9.out.trans (B4.mono HB9.out.size)))
        have m0 := N4.c 0 _ rfl; have ml := N4.lt
        clear hW4 B4 N4 c0 c1 c2 c3 c4 l0 HBB HB9
        go_upto_region 20 with (first | (go_at_call 14; refine (When_any _ _ _).mono ?_; rintro e w' ⟨rfl, rfl⟩) | (go_at_call 13; refine (First2_new _ _ _ _ _ (heap_new _ _ _ (by simp))).mono ?_; rintro e w' ⟨rfl, rfl⟩; rw [HST.out]))
        refine wp_world (fun W5 hW5 => ?_)
        have H5 : Hid (Below w.heap.size w W5 ∧ Below w8.heap.size w8 W5) := Lib.hid (by rw [hW5]; exact ⟨Below.alloc H4.out.1 H4.out.1.size _, Below.alloc H4.out.2 H4.out.2.size _⟩)
        clear hW5 H4 m0 ml
        go_wp2_with fail
        go_roundw
        case rel => exact ⟨j + 1, by omega, by go_num, rfl, H5.out.1, H5.out.2⟩
        case measure => simp [intOf]; omega
      · have hjki : ¬ (j : Int) < (k : Int) := by omega
        have hje : j = k := by omega
        subst hje
        rw [← HXX.out]
        by_cases hX0 : X = 0
        · subst hX0
          obtain ⟨i0, hi0, hz0, hz1, hz2⟩ := info_parts infoInt
          have HLC2 := Lib.hid (HLC.out rfl)
          clear HLC HL1 HXX
          go_wp2_with fail
          have HRR := Lib.hid (HMIS.out.below HBB.out)
          have hnn : n ≤ 2000 := (wk_ok hE).1
          have HV := Lib.hid HWK0.out
          obtain ⟨we, rfl⟩ : ∃ we, we = wr := ⟨_, rfl⟩
          obtain ⟨f, hf⟩ : ∃ f : Nat → Bool, f = fun i => !dnB rv j i := ⟨_, rfl⟩
          rw [← hf] at HZZ
          have HFF : Hid (∀ i, f i = !dnB rv j i) := Lib.hid (fun i => by rw [hf])
          clear hf
          go_loopw [19, 132] (fun s19 s132 wq => ∃ (i : Nat) (u : Value), i ≤ n ∧ s132 = .int .i64 i ∧ u = s19 ∧ NmR we wq u (nmZ f i)) (fun _ s132 _ => n - (intOf s132).toNat)
          case atStart => exact ⟨0, _, Nat.zero_le _, rfl, rfl, NmR.nil _⟩
          case round =>
            obtain ⟨i, u, hi, rfl, rfl, hM⟩ := hrel
            have HM := Lib.hid hM
            by_cases hin : i < n
            · have hini : (i : Int) < (n : Int) := by omega
              have hL := nmZ_len f i
              have HFN := Lib.hid (show nmZ f (i + 1) = if f i = true then nmZ f i ++ [(i : Int)] else nmZ f i from rfl)
              obtain ⟨L, hLL⟩ : ∃ L, L = nmZ f i := ⟨_, rfl⟩
              rw [HFF.out i] at HFN
              rw [← hLL] at HM HFN hL
              clear hM hLL
              go_upto_region 27 with fail
              refine wp_world (fun W4 hW4 => ?_)
              have B4 : Below wr.heap.size wr W4 := by rw [hW4]; (repeat (first | exact Below.refl _ _ | assumption | (refine Below.setCell ?_ (by first | (simp; done) | (simp; omega) | omega) _) | (refine Below.drew ?_) | (refine below_drewN ?_ _) | (refine Below.alloc ?_ (by first | (simp; done) | (simp; omega) | omega) _) | (refine Below.trans ?_ (Below.mono (by assumption) (by first | (simp; done) | (simp; omega) | omega)))))
              have N4 : Blk W4 wr.heap.size [.int .i64 i] := by rw [hW4]; exact Blk.new _ _ _ _ rfl
              have H4 := Lib.hid (And.intro (HM.out.past B4) N4)
              have HC := Lib.hid (rpContains_any a2 j c2 rv i wr.heap.size W4 (HRR.out.below (HM.out.past B4).bel) N4 HV.out)
              clear hW4 B4 N4 HM
              generalize wr.heap.size = pi at *
              obtain ⟨vb, hvb⟩ : ∃ vb, vb = dnB rv j i := ⟨_, rfl⟩
              rw [← hvb] at HC HFN
              clear hvb
              go_wp2_with fail
              refine (HC.out).mono ?_
              rintro e w6 ⟨rfl, hb⟩
              have H6 := Lib.hid (And.intro (H4.out.1.past hb) (H4.out.2.past hb))
              clear hb HC H4
              cases vb
              · have p0 := H6.out.2.c 0 _ rfl; have pl := H6.out.2.lt
                have hbs := H6.out.1.bel.size
                go_wp2_with (first | (at_builtin; refine wpList_append_lies _ rfl _ _ _ rfl we.heap.size 3 i0 (.int .i64 0) 1 8 Tryz.underlying36 hi0 hz0 hz1 hz2 rfl (by decide) u L.length (L.map (Value.int .i64)) rfl (own_past H6.out.1.own (by (repeat (first | exact Below.refl _ _ | assumption | (refine Below.setCell ?_ (by first | (simp; done) | (simp; omega) | omega) _) | (refine Below.drew ?_) | (refine below_drewN ?_ _) | (refine Below.alloc ?_ (by first | (simp; done) | (simp; omega) | omega) _) | (refine Below.trans ?_ (Below.mono (by assumption) (by first | (simp; done) | (simp; omega) | omega))))))) ⟨w6.heap.size, 0, none⟩ 1 1 [.int .i64 i] rfl rfl (by intro j u hj; match j, hj with | 0, hj => (simp at hj; subst hj; simp [Addr.add])) (by intro u hu; simp at hu; subst hu; rfl) (by decide) (by unfold maxLen; omega) (by omega) (by simp; omega) _ rfl ?_; intro g' cap w7 hown hgrow hat hlt))
                have HN := Lib.hid (NmR.app H6.out.1 (by (repeat (first | exact Below.refl _ _ | assumption | (refine Below.setCell ?_ (by first | (simp; done) | (simp; omega) | omega) _) | (refine Below.drew ?_) | (refine below_drewN ?_ _) | (refine Below.alloc ?_ (by first | (simp; done) | (simp; omega) | omega) _) | (refine Below.trans ?_ (Below.mono (by assumption) (by first | (simp; done) | (simp; omega) | omega)))))) hown hgrow)
                clear hown hgrow hat hlt
                go_roundw
                case rel => exact ⟨i + 1, _, by omega, by go_num, rfl, by rw [HFN.out]; simpa using HN.out⟩
                case measure => simp [intOf]; omega
              · go_wp2_with fail
                go_roundw
                case rel => exact ⟨i + 1, _, by omega, by go_num, rfl, by rw [HFN.out]; simpa using H6.out.1⟩
                case measure => simp [intOf]; omega
            · have hini : ¬ (i : Int) < (n : Int) := by omega
              have hie : i = n := by omega
              have HM2 := Lib.hid (show NmR we wr u Z by rw [HZZ.out, ← hie]; exact HM.out)
              obtain ⟨gd, ad, cd, rfl, had, hcd⟩ := HM2.out.cells
              obtain ⟨hll, hla, hlc⟩ := HLC2.out
              subst hll
              have hZn : Z.length ≤ n := by rw [HZZ.out]; exact nmZ_len _ _
              have HEQ := Lib.hid (EqI_yes gl 0 gd 0 Z.length cl cd al ad (fun i => Z.getD i 0) wr hla (hlc wr (HB9.out.trans (HM2.out.bel.mono HB9.out.size))) had hcd (by omega))
              clear hM had hcd hla hlc
              go_wp2_with fail
              refine (HEQ.out).mono ?_
              rintro e w9 ⟨rfl, hbb⟩
              have HB10 := Lib.hid (HBB.out.trans (Below.mono (HM2.out.bel.trans (hbb.mono HM2.out.bel.size)) HBB.out.size))
              clear hbb HEQ
              go_wp2_with fail
              go_ret
              exact ⟨by simp, HB10.out⟩
        · have hX1 : (X != 0) = true := by simpa using hX0
          have hl0 := HL1.out hX0
          subst hl0
          go_wp2_with fail
          go_ret
          exact ⟨by simp, HBB.out⟩
  · have HLF := Lib.hid (Left_no a n c ks J w6 (HW.out.below HB6.out) hE)
    obtain ⟨E, hEE⟩ : ∃ E, E = wkErr n ks := ⟨_, rfl⟩
    rw [← hEE] at HLF HWE hE
    have hE1 : (E != 0) = true := by simpa using hE
    have hE2 : (E == 0) = false := by simpa using hE
    clear hEE
    go_upto_region 13 with (go_at_call 10; refine HLF.out.mono ?_; rintro e w7 ⟨rfl, hb7⟩; have HB7 := Lib.hid (HB6.out.trans (hb7.mono HB6.out.size)); clear hb7)
    have HWE7 := Lib.hid (HWE.out _ HB7.out)
    go_wp2_with (first | (go_at_call 11; refine (HCN.out _).mono ?_; rintro e w' ⟨rfl, rfl⟩) | (go_at_call 12; refine HWE7.out.mono ?_; rintro e w8 ⟨rfl, hb8⟩))
    go_ret
    exact ⟨by simp, HB7.out.trans (hb8.mono HB7.out.size)⟩
/-- THE WALK OF THE STATEMENT. -/
theorem rp_walk (a : Option Addr) (n c : Nat) (ks : Nat → Wk) (a2 : Option Addr) (m c2 : Nat) (rv : Nat → RunV) (z : Int) (w : World) (hL : LibW w) (h : IsWorks w a n c ks) (h2 : IsRuns w a2 m c2 rv) :
    Calls Tryz.prog 3 #[.slice a n c, .slice a2 m c2, .int .i64 z] w fun e w' => e = .returned (.bool true) ∧ Below w.heap.size w w' := by
  have hR := ruL_in h2
  have hl := ruL_len m rv
  have h1 := h2.1; have h3 := h2.2.1
  have h4 : c2 ≤ 9223372036854775807 := by unfold maxLen at h3; omega
  generalize ruL m rv = l at hR hl
  subst hl
  by_cases hE : runsE l = 0
  · rcases Nat.lt_or_ge 100 l.length with h5 | h5
    · exact rp_long _ a2 c2 l z w hL h5 (by omega) hR hE
    · exact rp_most a n c ks a2 c2 l z w hL h hR h1 h3 h5 hE
  · exact rp_err _ a2 c2 l z w (by omega) hR hE
end Go.Proofs.YtcdcfkgdgimmcaaGreatDoor
