/- dyelaw2.compiled's inner function at any step. Conditions: what the theorem names. -/
import Derived.Test.YtbaocallhnehfaaGreatDoorPsB
import Derived.Test.YtbaocallhnehfaaGreatDoorPrI
import Derived.Test.YtbaocallhnehfaaGreatDoorPrG
set_option linter.unusedSimpArgs false
set_option linter.unusedVariables false
namespace Go.Proofs.YtbaocallhnehfaaGreatDoor
open Go Go.RowKit
theorem idxT_is {l : List UInt8} : ∀ {G : List PN} {k : Nat} {p : PN}, G[k]? = some p → keyT p = l → (∀ i q, i < k → G[i]? = some q → keyT q ≠ l) → idxT l G = some k
  | [], k, p, h, _, _ => by simp at h
  | q :: G, 0, p, h, hp, _ => by
    simp at h; subst h
    rw [idxT_cons, if_pos hp]
  | q :: G, k + 1, p, h, hp, hb => by
    simp at h
    rw [idxT_cons, if_neg (hb 0 q (Nat.succ_pos k) rfl), idxT_is h hp (fun i r hi hr => hb (i + 1) r (Nat.succ_lt_succ hi) (by simpa using hr))]; rfl
theorem idxT_no {l : List UInt8} : ∀ {G : List PN}, (∀ i q, i < G.length → G[i]? = some q → keyT q ≠ l) → idxT l G = none
  | [], _ => rfl
  | q :: G, hb => by
    rw [idxT_cons, if_neg (hb 0 q (by simp) rfl), idxT_no (fun i r hi hr => hb (i + 1) r (by simpa using hi) (by simpa using hr))]; rfl
/-- What the inner function leaves. -/
def NdQ (Y : Nat → Prop) (w0 w : World) (pt pp pn pg mm : Nat) (a : Option Addr) (c : Nat) (out : ByteArray) (S : Nat → StepD) (n : Nat) (u : Value) (R : PS × Nat) (e : Ending) (w' : World) : Prop :=
  ∃ u', e = .returned (.int .i64 (R.2 : Int)) ∧ NdH Y w0 w' pt pp pn pg mm a c out S n R.1 u' ∧ Tch (TD mm pg u) w w' ∧ (u'.ownBlock = u.ownBlock ∨ ∀ b, u'.ownBlock = some b → w.heap.size ≤ b)
theorem TD_new {mm pg : Nat} {u : Value} {w w1 : World} {b : Nat} (hb : w.heap.size ≤ b) (h1 : mm < w.heap.size) (h3 : pg < w.heap.size) (hu : ∀ c, u.ownBlock = some c → c < w.heap.size) : ¬ TD mm pg u b := by
  rintro (h | h | h)
  · omega
  · omega
  · have := hu b h; omega
set_option maxRecDepth 100000 in
set_option maxHeartbeats 12800000 in
theorem needD_any {w0 : World} {pt pp pn pg mm : Nat} {a : Option Addr} {c : Nat} {out : ByteArray} {S : Nat → StepD} {n : Nat} (hg : GoodS S n) (hS : StepsAt w0 a c n S) : ∀ (f j : Nat) (s : PS) (u : Value) (w : World) (Y : Nat → Prop), j < f → j < n → OkP n s → RbP s → (∀ b, Y b → b < w.heap.size) → (∀ b, Y b → w0.heap.size ≤ b) → NdH Y w0 w pt pp pn pg mm a c out S n s u →
    Calls Tryz.prog 23 #[.string (S j).nm, .pointer (some ⟨pt, 0, none⟩), .pointer (some ⟨pp, 0, none⟩), .pointer (some ⟨pn, 0, none⟩), .pointer (some ⟨pg, 0, none⟩)] w (NdQ Y w0 w pt pp pn pg mm a c out S n u (needP S n f s j)) := by
  intro f
  induction f with
  | zero => intro j s u w Y hf; omega
  | succ f ih =>
    intro j s u w Y hf hj hs hrb hy hyw h
    have HY := Lib.hid (And.intro hy hyw)
    have HH := Lib.hid h
    have HST := Lib.hid (hS.s j hj)
    have HOK := Lib.hid (And.intro hs hrb)
    have HG := Lib.hid hg
    have hn0 : 0 < n := by omega
    have HND := Lib.hid (show needP S n (f + 1) s j = match s.M j with
      | some r => (s, r)
      | none => match idS (S j) with
        | some q => (⟨(needP S n f s ((posL S n j).getD q 0)).1.G, upM (needP S n f s ((posL S n j).getD q 0)).1.M j (needP S n f s ((posL S n j).getD q 0)).2⟩, (needP S n f s ((posL S n j).getD q 0)).2)
        | none => putP (needT (needP S n f) (posL S n j) (posL S n j).length s).1 j (nodeP S j (needT (needP S n f) (posL S n j) (posL S n j).length s).2) from rfl)
    have HIH : Hid (∀ t x, (S j).ins[t]? = some x → (posL S n j).getD t 0 < j ∧ ∀ (s : PS) (u : Value) (w : World) (Y : Nat → Prop), OkP n s → RbP s → (∀ b, Y b → b < w.heap.size) → (∀ b, Y b → w0.heap.size ≤ b) → NdH Y w0 w pt pp pn pg mm a c out S n s u → Calls Tryz.prog 23 #[.string x, .pointer (some ⟨pt, 0, none⟩), .pointer (some ⟨pp, 0, none⟩), .pointer (some ⟨pn, 0, none⟩), .pointer (some ⟨pg, 0, none⟩)] w (NdQ Y w0 w pt pp pn pg mm a c out S n u (needP S n f s ((posL S n j).getD t 0)))) := Lib.hid (fun t x hx => by
      obtain ⟨m, h1, h2, h3, h4⟩ := hg.ins hj hx
      rw [h3]
      exact ⟨h1, fun s u w Y hs hr hy hyw hw => by rw [bs_ext h4]; exact ih m s u w Y (by omega) (by omega) hs hr hy hyw hw⟩)
    have HPM := Lib.hid (fun (s : PS) (u : Value) (w w' : World) (r : Nat) (h : NdH Y w0 w pt pp pn pg mm a c out S n s u) (hM : s.M j = none) hm hw => h.putM (w' := w') (r := r) hg hj hM hm hw)
    have HKO := Lib.hid (fun (s : PS) (m : Nat) (hm : m < j) (hs : OkP n s) => needP_ok hg f m s (by omega) (by omega) hs)
    have HKR := Lib.hid (fun (s : PS) (m : Nat) (hm : m < j) (hs : RbP s) => needP_rb hn0 (fun i hi => (hS.s i hi).rb) f m s (by omega) hs)
    have HKT := Lib.hid (fun (s : PS) (hs : RbP s) t => needT_rb (S := S) (f := f) hn0 j (fun i s hi => needP_rb hn0 (fun i hi => (hS.s i hi).rb) f i s hi) s hs t)
    have HPOS := Lib.hid (hg.uniq (Nat.le_refl n) hj)
    have HCN := Lib.hid (fun (M : Nat → Option Nat) => (show cntM M n ≤ 100 from Nat.le_trans (cntM_le M n) hg.le))
    have q0 := h.qm.c 0 _ rfl; have ql := h.qm.lt
    cases hM : s.M j with
    | some r =>
      have HV := Lib.hid (mdT_some hg hj hM)
      have HR : Hid (needP S n (f + 1) s j = (s, r)) := Lib.hid (by rw [HND.out, hM])
      have HNZ := Lib.hid HST.out.n
      obtain ⟨nm, hnm⟩ : ∃ nm, nm = (S j).nm := ⟨_, rfl⟩
      rw [← hnm] at HV HNZ
      rw [← hnm]
      clear hnm ih hg hS h hs hM hy hyw hrb HND HIH HPM HKO HKR HKT HPOS HCN
      go_enter Tryz.func23, Tryz.ntmps23
      go_wp2_with (at_lookup; refine wpList_lookS1 rfl _ _ 49 3 rfl Tryz.underlying49 (zeroI _) mm _ rfl (HH.out.om.past (by (repeat (first | exact Below.refl _ _ | assumption | (refine Below.setCell ?_ (by first | (simp; done) | (simp; omega) | omega) _) | (refine Below.drew ?_) | (refine below_drewN ?_ _) | (refine Below.alloc ?_ (by first | (simp; done) | (simp; omega) | omega) _) | (refine Below.trans ?_ (Below.mono (by assumption) (by first | (simp; done) | (simp; omega) | omega))))))) nm HNZ.out rfl ?_; rw [HV.out.1, HV.out.2])
      go_ret
      exact ⟨u, by rw [HR.out]; rfl, by rw [HR.out]; exact HH.out.past (by (repeat (first | exact Below.refl _ _ | assumption | (refine Below.setCell ?_ (by first | (simp; done) | (simp; omega) | omega) _) | (refine Below.drew ?_) | (refine below_drewN ?_ _) | (refine Below.alloc ?_ (by first | (simp; done) | (simp; omega) | omega) _) | (refine Below.trans ?_ (Below.mono (by assumption) (by first | (simp; done) | (simp; omega) | omega)))))), Tch.of_below (by (repeat (first | exact Below.refl _ _ | assumption | (refine Below.setCell ?_ (by first | (simp; done) | (simp; omega) | omega) _) | (refine Below.drew ?_) | (refine below_drewN ?_ _) | (refine Below.alloc ?_ (by first | (simp; done) | (simp; omega) | omega) _) | (refine Below.trans ?_ (Below.mono (by assumption) (by first | (simp; done) | (simp; omega) | omega)))))), .inl rfl⟩
    | none =>
      have HV := Lib.hid (mdT_none hg hj hM)
      have HMN := Lib.hid hM
      rw [hM] at HND
      simp only at HND
      have HSA := Lib.hid (fun (k : Nat) (w' : World) hk hni hnr hi hr => idle_any (S j) k w' hk hni hnr hi hr (hS.s j hj).bk (hS.s j hj).br)
      have HSO := Lib.hid (st_ok (fstN_zero hg.z j hj))
      have HIL := Lib.hid (fun q => idS_lt (S := S) (q := q) hg hj)
      have HJ := Lib.hid hj
      have HJF : Hid (j < f + 1) := Lib.hid hf
      have HNP := Lib.hid (fun ks => (show nodeP S j ks = ⟨(S j).op, ks, (S j).ints, (S j).reals⟩ from rfl))
      have HPL : Hid ((posL S n j).length = (S j).ins.length) := Lib.hid (by unfold posL; simp)
      have HIV : Hid (idV (S j) = match idS (S j) with | some q => (q : Int) | none => -1) := Lib.hid rfl
      have HRW := Lib.hid hS.r
      obtain ⟨bs0, os0, rfl, hrow⟩ := (hS.r.past h.b).get hj
      have hsc := cell_lt (hrow 0 _ rfl)
      simp only at hsc
      have HROW : Hid (∀ w', Below w.heap.size w w' → ∀ q x, (stL (S j))[q]? = some x → w'.cell? ⟨bs0, os0 + j * 5 + q, none⟩ = some x) := Lib.hid (fun w' hb q x hx => by rw [hb.cell (p := ⟨bs0, os0 + j * 5 + q, none⟩) hsc]; exact hrow q x hx)
      have HNC : Hid (n ≤ c ∧ c ≤ 9223372036854775807) := Lib.hid ⟨hS.r.lc, by have := hS.r.lm; unfold maxLen at this; omega⟩
      obtain ⟨sj, hsj⟩ : ∃ sj, sj = S j := ⟨_, rfl⟩
      have HNM : Hid ((S j).nm = sj.nm) := Lib.hid (by rw [hsj])
      have HINL : Hid ((S j).ins = sj.ins) := Lib.hid (by rw [hsj])
      rw [← hsj] at HST HIH HPM HPOS HV HSA HSO HIL HNP HPL HIV HND HROW
      rw [← hsj]
      clear hsj ih hg hS h hs hM hy hyw hrb hrow hsc
      obtain ⟨nm, op, ins, ints, reals, ia, ic, na, nc, ra, rc⟩ := sj
      obtain ⟨-, -, k, hk, -, hl1, hl2, hl3, -⟩ := HSO.out
      have HSE := Lib.hid (fun (w' : World) hi hr => HSA.out k w' hk hl2 hl3 hi hr)
      have HK := Lib.hid (And.intro hk (And.intro hl1 (And.intro hl2 hl3)))
      clear hk hl1 hl2 hl3 HSA HSO
      unfold stL at HROW
      simp only at HIH HPM HPOS HV HSE HIL HNP HPL HK HND HNM HINL HROW
      go_enter Tryz.func23, Tryz.ntmps23
      go_upto_region 4 with (at_lookup; refine wpList_lookS1 rfl _ _ 49 3 rfl Tryz.underlying49 (zeroI _) mm _ rfl (HH.out.om.past (by (repeat (first | exact Below.refl _ _ | assumption | (refine Below.setCell ?_ (by first | (simp; done) | (simp; omega) | omega) _) | (refine Below.drew ?_) | (refine below_drewN ?_ _) | (refine Below.alloc ?_ (by first | (simp; done) | (simp; omega) | omega) _) | (refine Below.trans ?_ (Below.mono (by assumption) (by first | (simp; done) | (simp; omega) | omega))))))) nm HST.out.n rfl ?_; rw [HV.out.1, HV.out.2])
      refine wp_world (fun W1 hW1 => ?_)
      obtain ⟨pq, hpq⟩ : ∃ pq, pq = w.heap.size := ⟨_, rfl⟩
      have H1 : Hid (Blk W1 pq [.string nm] ∧ Below w.heap.size w W1 ∧ w.heap.size ≤ pq) := Lib.hid (by rw [hW1, hpq]; exact ⟨Blk.new _ _ _ _ rfl, by (repeat (first | exact Below.refl _ _ | assumption | (refine Below.setCell ?_ (by first | (simp; done) | (simp; omega) | omega) _) | (refine Below.drew ?_) | (refine below_drewN ?_ _) | (refine Below.alloc ?_ (by first | (simp; done) | (simp; omega) | omega) _) | (refine Below.trans ?_ (Below.mono (by assumption) (by first | (simp; done) | (simp; omega) | omega))))), Nat.le_refl _⟩)
      rw [← hpq]
      clear hW1 hpq q0 ql
      have hji : (j : Int) < (n : Int) := by have := HJ.out; omega
      have hnc := HNC.out.1
      have hcm := HNC.out.2
      have HCC : Hid (∀ w', Below w.heap.size w w' → w'.cell? ⟨pp, 0, none⟩ = some (.slice (some ⟨bs0, os0, none⟩) n c) ∧ w'.cell? ⟨bs0, os0 + j * 5, none⟩ = some (.string nm) ∧ w'.cell? ⟨bs0, os0 + j * 5 + 1, none⟩ = some (.string op) ∧ w'.cell? ⟨bs0, os0 + j * 5 + 2, none⟩ = some (.slice ia ins.length ic) ∧ w'.cell? ⟨bs0, os0 + j * 5 + 3, none⟩ = some (.slice na ints.length nc) ∧ w'.cell? ⟨bs0, os0 + j * 5 + 4, none⟩ = some (.slice ra reals.length rc)) := Lib.hid (fun w' hb => ⟨(HH.out.qp.past hb).c 0 _ rfl, HROW.out w' hb 0 _ rfl, HROW.out w' hb 1 _ rfl, HROW.out w' hb 2 _ rfl, HROW.out w' hb 3 _ rfl, HROW.out w' hb 4 _ rfl⟩)
      have HIX : Hid (∀ w', Below W1.heap.size W1 w' → Calls Tryz.prog 24 #[.slice (some ⟨bs0, os0, none⟩) n c, .func (.func 25) #[] #[.pointer (some ⟨pq, 0, none⟩)]] w' fun e w'' => e = .returned (.int .i64 (j : Int)) ∧ Below w'.heap.size w' w'') := Lib.hid (fun w' hb => IndexStep _ c n j pq S nm w' (HRW.out.past (HH.out.b.trans ((H1.out.2.1.trans (hb.mono H1.out.2.1.size)).mono HH.out.b.size))) HPOS.out (H1.out.1.past hb))
      clear HROW HRW HPOS
      go_cut [9] (fun s9 wx => ∃ pa, s9 = .pointer (some ⟨pa, 0, none⟩) ∧ w.heap.size ≤ pa ∧ pa ≠ pq ∧ Below W1.heap.size W1 wx ∧ Blk wx pa [.string nm, .string op, .slice ia ins.length ic, .slice na ints.length nc, .slice ra reals.length rc])
      case first =>
        refine wp_region_C (fun w' => w'.cell? ⟨pp, 0, none⟩ = some (.slice (some ⟨bs0, os0, none⟩) n c) ∧ w'.cell? ⟨bs0, os0 + j * 5, none⟩ = some (.string nm) ∧ w'.cell? ⟨bs0, os0 + j * 5 + 1, none⟩ = some (.string op) ∧ w'.cell? ⟨bs0, os0 + j * 5 + 2, none⟩ = some (.slice ia ins.length ic) ∧ w'.cell? ⟨bs0, os0 + j * 5 + 3, none⟩ = some (.slice na ints.length nc) ∧ w'.cell? ⟨bs0, os0 + j * 5 + 4, none⟩ = some (.slice ra reals.length rc)) 9 10 (by kernel_rfl) rfl ?_
        refine wpAnyC_worldP (fun X0 hX0 => ?_)
        have HB0 : Hid (Below W1.heap.size W1 X0) := Lib.hid (by rw [hX0]; exact (Below.refl _ _).drew)
        have HBW : Hid (∀ X, Below W1.heap.size W1 X → Below w.heap.size w X) := Lib.hid (fun X hb => H1.out.2.1.trans (hb.mono H1.out.2.1.size))
        clear hX0
        have hC := HCC.out X0 (HBW.out X0 HB0.out)
        refine wpAnyC_take (i := 0) (v := .pointer (some ⟨pp, 0, none⟩)) rfl (by kernel_rfl) (by kernel_rfl) (fun _ _ _ h => h) (.inl ⟨rfl, fun w' hw' => ?_⟩) hC ?_
        · obtain ⟨k0, k1, k2, k3, k4, k5⟩ := hw'
          go_simp
        refine wpAnyC_act (by rfl) ?_
        simp only [Act.put, List.setIfInBounds_toArray, List.set_cons_zero, List.set_cons_succ]
        refine wpAnyC_take (i := 1) (v := .slice (some ⟨bs0, os0, none⟩) n c) rfl (by kernel_rfl) (by kernel_rfl) (fun _ _ _ h => h) (.inl ⟨rfl, fun w' hw' => ?_⟩) hC ?_
        · obtain ⟨k0, k1, k2, k3, k4, k5⟩ := hw'
          go_simp
        refine wpAnyC_act (by rfl) ?_
        simp only [Act.put, List.setIfInBounds_toArray, List.set_cons_zero, List.set_cons_succ]
        refine wpAnyC_take (i := 2) (v := .pointer (some ⟨pp, 0, none⟩)) rfl (by kernel_rfl) (by kernel_rfl) (fun _ _ _ h => h) (.inl ⟨rfl, fun w' hw' => ?_⟩) hC ?_
        · obtain ⟨k0, k1, k2, k3, k4, k5⟩ := hw'
          go_simp
        refine wpAnyC_act (by rfl) ?_
        simp only [Act.put, List.setIfInBounds_toArray, List.set_cons_zero, List.set_cons_succ]
        refine wpAnyC_take (i := 3) (v := .slice (some ⟨bs0, os0, none⟩) n c) rfl (by kernel_rfl) (by kernel_rfl) (fun _ _ _ h => h) (.inl ⟨rfl, fun w' hw' => ?_⟩) hC ?_
        · obtain ⟨k0, k1, k2, k3, k4, k5⟩ := hw'
          go_simp
        refine wpAnyC_act (by rfl) ?_
        simp only [Act.put, List.setIfInBounds_toArray, List.set_cons_zero, List.set_cons_succ]
        refine wpAnyC_take (i := 4) (v := .func (.func 25) #[] #[.pointer (some ⟨pq, 0, none⟩)]) rfl (by kernel_rfl) (by kernel_rfl) (fun _ _ _ h => h) (.inl ⟨rfl, fun w' hw' => ?_⟩) hC ?_
        · obtain ⟨k0, k1, k2, k3, k4, k5⟩ := hw'
          go_simp
        refine wpAnyC_act (by rfl) ?_
        simp only [Act.put, List.setIfInBounds_toArray, List.set_cons_zero, List.set_cons_succ]
        clear hC
        refine wpAnyC_two' (i := 5) (j := 8) rfl rfl (by kernel_rfl) (fun K hK => ?_) (fun K hK => ?_)
        · go_simp
          refine (HIX.out X0 HB0.out).mono ?_
          rintro e X1 ⟨rfl, hb⟩
          have HB1 := Lib.hid (HB0.out.trans (hb.mono HB0.out.size))
          go_simp
          refine hK _ _ (fun _ => HCC.out _ (HBW.out _ HB1.out)) ?_
          clear hK K
          have hC := HCC.out _ (HBW.out _ HB1.out)
          refine wpAnyC_take (i := 6) (v := .pointer (some ⟨bs0, os0 + j * 5, none⟩)) rfl (by kernel_rfl) (by kernel_rfl) (fun _ _ _ h => h) (.inl ⟨rfl, fun w' hw' => ?_⟩) hC ?_
          · obtain ⟨k0, k1, k2, k3, k4, k5⟩ := hw'
            go_simp
          refine wpAnyC_act (by rfl) ?_
          simp only [Act.put, List.setIfInBounds_toArray, List.set_cons_zero, List.set_cons_succ]
          refine wpAnyC_take (i := 7) (v := .agg #[.string nm, .string op, .slice ia ins.length ic, .slice na ints.length nc, .slice ra reals.length rc]) rfl (by kernel_rfl) (by kernel_rfl) (fun _ _ _ h => h) (.inl ⟨rfl, fun w' hw' => ?_⟩) hC ?_
          · obtain ⟨k0, k1, k2, k3, k4, k5⟩ := hw'
            go_simp
          refine wpAnyC_act (by rfl) ?_
          simp only [Act.put, List.setIfInBounds_toArray, List.set_cons_zero, List.set_cons_succ]
          clear hC
          refine wpAnyC_one (i := 8) rfl (by kernel_rfl) (fun K hK => ?_)
          go_simp
          refine hK _ _ (fun _ => HCC.out _ (HBW.out _ (HB1.out.alloc HB1.out.size _))) ?_
          clear hK K
          refine wpAnyC_worldP (fun X2 hX => ?_)
          have hbl : Below X1.heap.size X1 X2 := by rw [hX]; exact (Below.refl _ _).alloc (Nat.le_refl _) _
          have hfl : Blk X2 X1.heap.size [.string ⟨#[]⟩, .string ⟨#[]⟩, .slice none 0 0, .slice none 0 0, .slice none 0 0] := by rw [hX]; exact Blk.new _ _ _ _ rfl
          obtain ⟨pa, hpa⟩ : ∃ pa, pa = X1.heap.size := ⟨_, rfl⟩
          have HPA : Hid (W1.heap.size ≤ pa) := Lib.hid (by rw [hpa]; exact HB1.out.size)
          have HFL : Hid (Blk X2 pa [.string ⟨#[]⟩, .string ⟨#[]⟩, .slice none 0 0, .slice none 0 0, .slice none 0 0]) := Lib.hid (by rw [hpa]; exact hfl)
          rw [← hpa]
          have HB2 := Lib.hid (HB1.out.trans (hbl.mono HB1.out.size))
          clear hX hbl hfl hpa
          have hC := HCC.out X2 (HBW.out _ HB2.out)
          have z0 := HFL.out.c 0 _ rfl; have z1 := HFL.out.c 1 _ rfl; have z2 := HFL.out.c 2 _ rfl; have z3 := HFL.out.c 3 _ rfl; have z4 := HFL.out.c 4 _ rfl; have zl := HFL.out.lt; have zf := HFL.out.f
          refine wpAnyC_one (i := 9) rfl (by kernel_rfl) (fun K hK => ?_)
          go_simp
          refine hK _ _ (fun h => by rw [getD_setSelf] at h; cases h) ?_
          clear hK K hC z0 z1 z2 z3 z4 zl zf
          refine wpAnyC_done (by kernel_rfl) ?_
          refine nf_exit (fun W6 hW6 => ?_)
          have ht6 : Tch (fun b => b = pa) X2 W6 := by rw [hW6]; exact (((((Tch.refl (fun b => b = pa) X2).set ⟨pa, 0, none⟩ (.string nm) rfl).set ⟨pa, 1, none⟩ (.string op) rfl).set ⟨pa, 2, none⟩ (.slice ia ins.length ic) rfl).set ⟨pa, 3, none⟩ (.slice na ints.length nc) rfl).set ⟨pa, 4, none⟩ (.slice ra reals.length rc) rfl
          have HX6 : Hid (Blk W6 pa [.string nm, .string op, .slice ia ins.length ic, .slice na ints.length nc, .slice ra reals.length rc] ∧ Tch (fun b => b = pa) X2 W6) := Lib.hid ⟨by rw [hW6]; simpa using ((((HFL.out.set 0 (.string nm)).set 1 (.string op)).set 2 (.slice ia ins.length ic)).set 3 (.slice na ints.length nc)).set 4 (.slice ra reals.length rc), ht6⟩
          clear hW6 ht6
          go_wp2_with fail
          go_meet
          have hlt1 := H1.out.1.lt
          have hpal := HPA.out
          exact ⟨pa, rfl, Nat.le_trans H1.out.2.1.size HPA.out, by omega, HB2.out.trans (HX6.out.2.to_below HB2.out.size (fun b hb => by rw [hb]; exact HPA.out)), HX6.out.1⟩
        · go_simp
          refine hK _ _ (fun _ => HCC.out _ (HBW.out _ (HB0.out.alloc HB0.out.size _))) ?_
          clear hK K
          refine wpAnyC_worldP (fun X1 hX => ?_)
          have hbl : Below X0.heap.size X0 X1 := by rw [hX]; exact (Below.refl _ _).alloc (Nat.le_refl _) _
          have hfl : Blk X1 X0.heap.size [.string ⟨#[]⟩, .string ⟨#[]⟩, .slice none 0 0, .slice none 0 0, .slice none 0 0] := by rw [hX]; exact Blk.new _ _ _ _ rfl
          obtain ⟨pa, hpa⟩ : ∃ pa, pa = X0.heap.size := ⟨_, rfl⟩
          have HPA : Hid (W1.heap.size ≤ pa) := Lib.hid (by rw [hpa]; exact HB0.out.size)
          have HFL : Hid (Blk X1 pa [.string ⟨#[]⟩, .string ⟨#[]⟩, .slice none 0 0, .slice none 0 0, .slice none 0 0]) := Lib.hid (by rw [hpa]; exact hfl)
          rw [← hpa]
          have HB1 := Lib.hid (HB0.out.trans (hbl.mono HB0.out.size))
          clear hX hbl hfl hpa
          refine wpAnyC_one (i := 5) rfl (by kernel_rfl) (fun K hK => ?_)
          go_simp
          refine (HIX.out X1 HB1.out).mono ?_
          rintro e X2 ⟨rfl, hb⟩
          have HB2 := Lib.hid (HB1.out.trans (hb.mono HB1.out.size))
          have HFL := Lib.hid (HFL.out.past hb)
          go_simp
          refine hK _ _ (fun _ => HCC.out _ (HBW.out _ HB2.out)) ?_
          clear hK K
          have hC := HCC.out _ (HBW.out _ HB2.out)
          refine wpAnyC_take (i := 6) (v := .pointer (some ⟨bs0, os0 + j * 5, none⟩)) rfl (by kernel_rfl) (by kernel_rfl) (fun _ _ _ h => h) (.inl ⟨rfl, fun w' hw' => ?_⟩) hC ?_
          · obtain ⟨k0, k1, k2, k3, k4, k5⟩ := hw'
            go_simp
          refine wpAnyC_act (by rfl) ?_
          simp only [Act.put, List.setIfInBounds_toArray, List.set_cons_zero, List.set_cons_succ]
          refine wpAnyC_take (i := 7) (v := .agg #[.string nm, .string op, .slice ia ins.length ic, .slice na ints.length nc, .slice ra reals.length rc]) rfl (by kernel_rfl) (by kernel_rfl) (fun _ _ _ h => h) (.inl ⟨rfl, fun w' hw' => ?_⟩) hC ?_
          · obtain ⟨k0, k1, k2, k3, k4, k5⟩ := hw'
            go_simp
          refine wpAnyC_act (by rfl) ?_
          simp only [Act.put, List.setIfInBounds_toArray, List.set_cons_zero, List.set_cons_succ]
          clear hC
          have hC := HCC.out X2 (HBW.out _ HB2.out)
          have z0 := HFL.out.c 0 _ rfl; have z1 := HFL.out.c 1 _ rfl; have z2 := HFL.out.c 2 _ rfl; have z3 := HFL.out.c 3 _ rfl; have z4 := HFL.out.c 4 _ rfl; have zl := HFL.out.lt; have zf := HFL.out.f
          refine wpAnyC_one (i := 9) rfl (by kernel_rfl) (fun K hK => ?_)
          go_simp
          refine hK _ _ (fun h => by rw [getD_setSelf] at h; cases h) ?_
          clear hK K hC z0 z1 z2 z3 z4 zl zf
          refine wpAnyC_done (by kernel_rfl) ?_
          refine nf_exit (fun W6 hW6 => ?_)
          have ht6 : Tch (fun b => b = pa) X2 W6 := by rw [hW6]; exact (((((Tch.refl (fun b => b = pa) X2).set ⟨pa, 0, none⟩ (.string nm) rfl).set ⟨pa, 1, none⟩ (.string op) rfl).set ⟨pa, 2, none⟩ (.slice ia ins.length ic) rfl).set ⟨pa, 3, none⟩ (.slice na ints.length nc) rfl).set ⟨pa, 4, none⟩ (.slice ra reals.length rc) rfl
          have HX6 : Hid (Blk W6 pa [.string nm, .string op, .slice ia ins.length ic, .slice na ints.length nc, .slice ra reals.length rc] ∧ Tch (fun b => b = pa) X2 W6) := Lib.hid ⟨by rw [hW6]; simpa using ((((HFL.out.set 0 (.string nm)).set 1 (.string op)).set 2 (.slice ia ins.length ic)).set 3 (.slice na ints.length nc)).set 4 (.slice ra reals.length rc), ht6⟩
          clear hW6 ht6
          go_wp2_with fail
          go_meet
          have hlt1 := H1.out.1.lt
          have hpal := HPA.out
          exact ⟨pa, rfl, Nat.le_trans H1.out.2.1.size HPA.out, by omega, HB2.out.trans (HX6.out.2.to_below HB2.out.size (fun b hb => by rw [hb]; exact HPA.out)), HX6.out.1⟩
      case rest =>
        obtain ⟨pa, rfl, hpa, hpaq, hbx, hkx⟩ := hcut
        have H2 := Lib.hid (And.intro hkx (And.intro (H1.out.1.past hbx) (And.intro (H1.out.2.1.trans (hbx.mono H1.out.2.1.size)) (And.intro hpa (And.intro H1.out.2.2 hpaq)))))
        clear hpa hpaq hbx hkx H1 HCC HIX HNC hji hnc hcm
        obtain ⟨W2, hW2⟩ : ∃ W2, W2 = wc := ⟨_, rfl⟩
        rw [← hW2] at H2
        rw [← hW2]
        clear hW2
        have m0 := H2.out.1.c 0 _ rfl; have m1 := H2.out.1.c 1 _ rfl; have m2 := H2.out.1.c 2 _ rfl; have m3 := H2.out.1.c 3 _ rfl; have m4 := H2.out.1.c 4 _ rfl; have ml := H2.out.1.lt
        obtain ⟨iv, hiv⟩ : ∃ iv, iv = idV ⟨nm, op, ins, ints, reals, ia, ic, na, nc, ra, rc⟩ := ⟨_, rfl⟩
        rw [← hiv] at HSE HIV
        clear hiv
        go_upto_region 6 with (go_at_call 26; refine (HSE.out _ (HST.out.k.past (HH.out.b.trans (H2.out.2.2.1.mono HH.out.b.size))) (HST.out.r.past (HH.out.b.trans (H2.out.2.2.1.mono HH.out.b.size)))).mono ?_; rintro e W3 ⟨rfl, rfl⟩)
        clear m0 m1 m2 m3 m4 ml HSE
        have HH2 := Lib.hid (HH.out.past H2.out.2.2.1)
        have HTN : Hid (∀ b, w.heap.size ≤ b → ¬ TD mm pg u b) := Lib.hid (fun b hb => TD_new (w1 := w) hb HH.out.om.lt HH.out.qg.lt (fun c hc => by
          obtain ⟨ns, -, hr, -⟩ := HH.out.gn
          exact hr.lt hc))
        cases hid : idS ⟨nm, op, ins, ints, reals, ia, ic, na, nc, ra, rc⟩ with
        | some q =>
          rw [hid] at HND HIV
          simp only at HND HIV
          have hq := HIL.out q hid
          have hiv0 : (0 : Int) ≤ iv := by rw [HIV.out]; omega
          obtain ⟨x, hx⟩ : ∃ x, ins[q]? = some x := ⟨_, List.getElem?_eq_getElem hq⟩
          obtain ⟨bi, oi, hia, ci⟩ := (HST.out.i.past (HH.out.b.trans (H2.out.2.2.1.mono HH.out.b.size))).get hx
          simp only at hia
          obtain ⟨hmj, hcall⟩ := HIH.out q x hx
          have HC1 := Lib.hid hcall
          have HIC : Hid (ins.length ≤ ic ∧ ic ≤ 9223372036854775807) := Lib.hid (by have h1 := HST.out.bi.1; have h2 := HST.out.bi.2; unfold maxLen at h2; exact ⟨h1, by simp only at h2; omega⟩)
          obtain ⟨m, hm⟩ : ∃ m, m = (posL S n j).getD q 0 := ⟨_, rfl⟩
          rw [← hm] at HC1 HND hmj
          have HMJ := Lib.hid hmj
          have HKM := Lib.hid (HKO.out s m hmj HOK.out.1)
          obtain ⟨T, hT⟩ : ∃ T, T = needP S n f s m := ⟨_, rfl⟩
          have HCT : Hid (Calls Tryz.prog 23 #[.string x, .pointer (some ⟨pt, 0, none⟩), .pointer (some ⟨pp, 0, none⟩), .pointer (some ⟨pn, 0, none⟩), .pointer (some ⟨pg, 0, none⟩)] W2.drew (NdQ Y w0 W2.drew pt pp pn pg mm (some ⟨bs0, os0, none⟩) c out S n u T)) := Lib.hid (by rw [hT]; exact HC1.out s u W2.drew Y HOK.out.1 HOK.out.2 (fun b hb => Nat.lt_of_lt_of_le (HY.out.1 b hb) (H2.out.2.2.1.drew).size) HY.out.2 (HH2.out.past ((Below.refl _ _).drew)))
          rw [← hT] at HND HKM
          have HQI := Lib.hid (show iv = (q : Int) from HIV.out)
          subst hia
          have hqi : (q : Int) < (ins.length : Int) := by omega
          obtain ⟨hic1, hic2⟩ := HIC.out
          have HCP : Hid (∀ w', Below W2.heap.size W2 w' → w'.cell? ⟨pt, 0, none⟩ = some (.map (some mm)) ∧ w'.cell? ⟨pn, 0, none⟩ = some (.func (.func 23) #[] #[.pointer (some ⟨pt, 0, none⟩), .pointer (some ⟨pp, 0, none⟩), .pointer (some ⟨pn, 0, none⟩), .pointer (some ⟨pg, 0, none⟩)]) ∧ w'.cell? ⟨pa, 2, none⟩ = some (.slice (some ⟨bi, oi, none⟩) ins.length ic) ∧ w'.cell? ⟨bi, oi + q, none⟩ = some (.string x) ∧ w'.cell? ⟨pq, 0, none⟩ = some (.string nm)) := Lib.hid (fun w' hb => ⟨(HH2.out.qm.past hb).c 0 _ rfl, (HH2.out.qf.past hb).c 0 _ rfl, (H2.out.1.past hb).c 2 _ rfl, (hb.cell (p := ⟨bi, oi + q, none⟩) (cell_lt ci)).trans ci, (H2.out.2.1.past hb).c 0 _ rfl⟩)
          have HCX : Hid (∀ w', Below w0.heap.size w0 w' → w'.cell? ⟨bi, oi + q, none⟩ = some (.string x)) := Lib.hid (fun w' hb => by
            obtain ⟨b', o', e, hc⟩ := (HST.out.i.past hb).get hx
            simp only [Option.some.injEq, Addr.mk.injEq, and_true] at e
            obtain ⟨rfl, rfl⟩ := e
            exact hc)
          clear hx hcall hmj hm hT hid hq ci HC1 HIH
          go_upto_region 7 with fail
          try rw [HQI.out]
          refine wp_region_C (fun w' => w'.cell? ⟨pt, 0, none⟩ = some (.map (some mm)) ∧ w'.cell? ⟨pn, 0, none⟩ = some (.func (.func 23) #[] #[.pointer (some ⟨pt, 0, none⟩), .pointer (some ⟨pp, 0, none⟩), .pointer (some ⟨pn, 0, none⟩), .pointer (some ⟨pg, 0, none⟩)]) ∧ w'.cell? ⟨pa, 2, none⟩ = some (.slice (some ⟨bi, oi, none⟩) ins.length ic) ∧ w'.cell? ⟨bi, oi + q, none⟩ = some (.string x) ∧ w'.cell? ⟨pq, 0, none⟩ = some (.string nm)) 9 10 (by kernel_rfl) rfl ?_
          have hC := HCP.out W2.drew ((Below.refl _ _).drew)
          refine wpAnyC_take (i := 0) (v := .map (some mm)) rfl (by kernel_rfl) (by kernel_rfl) (fun _ _ _ h => h) (.inl ⟨rfl, fun w' hw' => ?_⟩) hC ?_
          · obtain ⟨k0, k1, k2, k3, k4⟩ := hw'
            go_simp
          refine wpAnyC_act (by rfl) ?_
          simp only [Act.put, List.setIfInBounds_toArray, List.set_cons_zero, List.set_cons_succ]
          refine wpAnyC_take (i := 1) (v := .string nm) rfl (by kernel_rfl) (by kernel_rfl) (fun _ _ _ h => h) (.inl ⟨rfl, fun w' hw' => ?_⟩) hC ?_
          · obtain ⟨k0, k1, k2, k3, k4⟩ := hw'
            go_simp
          refine wpAnyC_act (by rfl) ?_
          simp only [Act.put, List.setIfInBounds_toArray, List.set_cons_zero, List.set_cons_succ]
          refine wpAnyC_take (i := 2) (v := .func (.func 23) #[] #[.pointer (some ⟨pt, 0, none⟩), .pointer (some ⟨pp, 0, none⟩), .pointer (some ⟨pn, 0, none⟩), .pointer (some ⟨pg, 0, none⟩)]) rfl (by kernel_rfl) (by kernel_rfl) (fun _ _ _ h => h) (.inl ⟨rfl, fun w' hw' => ?_⟩) hC ?_
          · obtain ⟨k0, k1, k2, k3, k4⟩ := hw'
            go_simp
          refine wpAnyC_act (by rfl) ?_
          simp only [Act.put, List.setIfInBounds_toArray, List.set_cons_zero, List.set_cons_succ]
          refine wpAnyC_take (i := 3) (v := .pointer (some ⟨pa, 2, none⟩)) rfl (by kernel_rfl) (by kernel_rfl) (fun _ _ _ h => h) (.inl ⟨rfl, fun w' hw' => ?_⟩) hC ?_
          · obtain ⟨k0, k1, k2, k3, k4⟩ := hw'
            go_simp
          refine wpAnyC_act (by rfl) ?_
          simp only [Act.put, List.setIfInBounds_toArray, List.set_cons_zero, List.set_cons_succ]
          refine wpAnyC_take (i := 4) (v := .slice (some ⟨bi, oi, none⟩) ins.length ic) rfl (by kernel_rfl) (by kernel_rfl) (fun _ _ _ h => h) (.inl ⟨rfl, fun w' hw' => ?_⟩) hC ?_
          · obtain ⟨k0, k1, k2, k3, k4⟩ := hw'
            go_simp
          refine wpAnyC_act (by rfl) ?_
          simp only [Act.put, List.setIfInBounds_toArray, List.set_cons_zero, List.set_cons_succ]
          refine wpAnyC_take (i := 5) (v := .int .i64 (q : Int)) rfl (by kernel_rfl) (by kernel_rfl) (fun _ _ _ h => h) (.inl ⟨rfl, fun w' hw' => ?_⟩) hC ?_
          · obtain ⟨k0, k1, k2, k3, k4⟩ := hw'
            go_simp
          refine wpAnyC_act (by rfl) ?_
          simp only [Act.put, List.setIfInBounds_toArray, List.set_cons_zero, List.set_cons_succ]
          refine wpAnyC_take (i := 6) (v := .pointer (some ⟨bi, oi + q, none⟩)) rfl (by kernel_rfl) (by kernel_rfl) (fun _ _ _ h => h) (.inl ⟨rfl, fun w' hw' => ?_⟩) hC ?_
          · obtain ⟨k0, k1, k2, k3, k4⟩ := hw'
            go_simp
          refine wpAnyC_act (by rfl) ?_
          simp only [Act.put, List.setIfInBounds_toArray, List.set_cons_zero, List.set_cons_succ]
          refine wpAnyC_take (i := 7) (v := .string x) rfl (by kernel_rfl) (by kernel_rfl) (fun _ _ _ h => h) (.inl ⟨rfl, fun w' hw' => ?_⟩) hC ?_
          · obtain ⟨k0, k1, k2, k3, k4⟩ := hw'
            go_simp
          refine wpAnyC_act (by rfl) ?_
          simp only [Act.put, List.setIfInBounds_toArray, List.set_cons_zero, List.set_cons_succ]
          refine wpAnyC_one (i := 8) rfl (by kernel_rfl) (fun K hK => ?_)
          go_simp
          go_simp
          refine HCT.out.mono ?_
          rintro e W3 ⟨u3, rfl, hg3, ht3, hu3⟩
          have H3 := Lib.hid (And.intro hg3 (And.intro ht3 hu3))
          clear hg3 ht3 hu3
          have hC3 := And.intro (H3.out.1.qm.c 0 _ rfl) (And.intro (H3.out.1.qf.c 0 _ rfl) (And.intro ((H2.out.1.drew.tch H3.out.2.1 (HTN.out pa H2.out.2.2.2.1)).c 2 _ rfl) (And.intro (HCX.out _ H3.out.1.b) ((H2.out.2.1.drew.tch H3.out.2.1 (HTN.out pq H2.out.2.2.2.2.1)).c 0 _ rfl))))
          go_simp
          refine hK _ _ (fun _ => hC3) ?_
          clear hK K hC hC3
          refine wpAnyC_one (i := 9) rfl (by kernel_rfl) (fun K hK => ?_)
          refine step_putS rfl _ _ _ 49 3 rfl Tryz.underlying49 mm _ rfl H3.out.1.om (by have := HCN.out T.1.M; unfold maxLen; omega) nm HST.out.n rfl (.int .i64 (T.2 : Int)) rfl ?_
          intro W4 hm4 hg4
          have HMT := Lib.hid (show T.1.M j = none by rw [HKM.out.far j HMJ.out]; exact HMN.out)
          have H4 := Lib.hid (HPM.out T.1 u3 W3 W4 T.2 H3.out.1 HMT.out hm4 hg4)
          clear hm4 hg4
          refine hK _ _ (fun h => by rw [getD_setSelf] at h; cases h) ?_
          clear hK K
          refine wpAnyC_done (by kernel_rfl) ?_
          refine nf_exit (fun W5 hW5 => ?_)
          have hb5 : Below W4.heap.size W4 W5 := by rw [hW5]; (repeat (first | exact Below.refl _ _ | assumption | (refine Below.setCell ?_ (by first | (simp; done) | (simp; omega) | omega) _) | (refine Below.drew ?_) | (refine below_drewN ?_ _) | (refine Below.alloc ?_ (by first | (simp; done) | (simp; omega) | omega) _) | (refine Below.trans ?_ (Below.mono (by assumption) (by first | (simp; done) | (simp; omega) | omega)))))
          have H5 := Lib.hid (H4.out.1.past hb5)
          have HB5 := Lib.hid hb5
          have hmpq : pq ≠ mm := fun e => by have h1 := H2.out.2.2.2.2.1; have h2 := HH.out.om.lt; omega
          have HQ5 := Lib.hid (((H2.out.2.1.drew.tch H3.out.2.1 (HTN.out pq H2.out.2.2.2.2.1)).tch H4.out.2 hmpq).past hb5)
          clear hW5 hb5 hmpq
          have HV5 := Lib.hid (mdT_some (r := T.2) HG.out HJ.out (M := upM T.1.M j T.2) (by unfold upM; rw [if_pos rfl]))
          rw [HNM.out] at HV5
          have q0 := H5.out.qm.c 0 _ rfl; have ql := H5.out.qm.lt
          have qq := HQ5.out.c 0 _ rfl; have qql := HQ5.out.lt
          go_wp2_with (at_lookup; refine wpList_lookS0 rfl _ _ 49 3 rfl Tryz.underlying49 (zeroI _) mm _ rfl H5.out.om nm HST.out.n rfl ?_; rw [HV5.out.1])
          go_ret
          refine ⟨u3, by rw [HND.out]; rfl, by rw [HND.out]; exact H5.out, ?_, ?_⟩
          · have t1 : Tch (TD mm pg u) w W2.drew := Tch.of_below (H2.out.2.2.1.drew)
            have t2 := (t1.then H3.out.2.1 (fun i _ hi => hi)).then (H4.out.2.mono (T := TD mm pg u) (fun b _ hb => .inl hb)) (fun i _ hi => hi)
            exact t2.then (Tch.of_below (S := TD mm pg u) HB5.out) (fun i _ hi => hi)
          · rcases H3.out.2.2 with h | h
            · exact .inl h
            · exact .inr (fun b hb => Nat.le_trans H2.out.2.2.1.size (by simpa using h b hb))
        | none =>
          rw [hid] at HND HIV
          simp only at HND HIV
          have hiv0 : ¬ (0 : Int) ≤ iv := by rw [HIV.out]; omega
          have HB9 := Lib.hid (show ints.length ≤ 9 ∧ reals.length ≤ 9 ∧ ins.length ≤ 9 by have h1 := F_lens (opK_name HK.out.1).1; have h2 := HK.out.2; omega)
          clear hid
          have m1 := H2.out.1.c 1 _ rfl; have m3 := H2.out.1.c 3 _ rfl; have m4 := H2.out.1.c 4 _ rfl; have ml := H2.out.1.lt
          go_upto_region 10 with fail
          clear hiv0 m1 m3 m4 ml
          refine wp_world (fun W6 hW6 => ?_)
          obtain ⟨pb, hpb⟩ : ∃ pb, pb = W2.heap.size := ⟨_, rfl⟩
          have H6 : Hid (Blk W6 pb [.string op, .slice none 0 0, .slice na ints.length nc, .slice ra reals.length rc] ∧ Below W2.heap.size W2 W6 ∧ W2.heap.size ≤ pb) := Lib.hid (by
            rw [hW6, hpb]
            refine ⟨?_, by (repeat (first | exact Below.refl _ _ | assumption | (refine Below.setCell ?_ (by first | (simp; done) | (simp; omega) | omega) _) | (refine Below.drew ?_) | (refine below_drewN ?_ _) | (refine Below.alloc ?_ (by first | (simp; done) | (simp; omega) | omega) _) | (refine Below.trans ?_ (Below.mono (by assumption) (by first | (simp; done) | (simp; omega) | omega))))), Nat.le_refl _⟩
            exact Blk.new _ _ _ _ rfl)
          rw [← hpb]
          clear hW6 hpb
          have HLP : Hid (LpH Y w0 w pt pp pn pg mm (some ⟨bs0, os0, none⟩) c out S n u pa pb pq [.string nm, .string op, .slice ia ins.length ic, .slice na ints.length nc, .slice ra reals.length rc] nm op (.slice na ints.length nc) (.slice ra reals.length rc) (fun b => Y b ∨ (w.heap.size ≤ b ∧ b < W6.heap.size)) W6 s [] (.slice none 0 0) u) := Lib.hid (by
            obtain ⟨hk6, hb6, hpb6⟩ := H6.out
            obtain ⟨k2, k2q, b2, hpa2, hpq2, hpaq⟩ := H2.out
            have hbw := b2.trans (hb6.mono b2.size)
            have h0 := HH.out
            have hul : ∀ b, u.ownBlock = some b → b < w.heap.size := fun b hb => by obtain ⟨ns, -, hr, -⟩ := h0.gn; exact hr.lt hb
            have hpa := (k2.past hb6).lt
            have hpq := (k2q.past hb6).lt
            have hpal := k2.lt
            have hpql := k2q.lt
            have h2s := b2.size
            have hpb2 := hk6.lt
            refine ⟨(h0.weak (Y' := fun b => Y b ∨ (w.heap.size ≤ b ∧ b < W6.heap.size)) (fun b hb hx => by rcases hx with hx | hx; exact hx; omega) (fun b hb hx => by rcases hx with hx | hx; exact (h0.su b hb).2.1 hx; have := hul b hb; omega)).past hbw, fun b hb => ?_, fun b hb => ?_, fun b hb => .inl hb, fun b hb => ?_, k2.past hb6, hk6, k2q.past hb6, NewRow.nil _ _ _, fun b hb => by simp [Value.ownBlock] at hb, by omega, Tch.of_below hbw, .inl rfl, fun b hb => ?_, h0.b.size⟩
            · rcases hb with hb | hb
              · exact Nat.lt_of_lt_of_le (HY.out.1 b hb) hbw.size
              · exact hb.2
            · rcases hb with hb | hb
              · exact HY.out.2 b hb
              · exact Nat.le_trans h0.b.size hb.1
            · rcases hb with e | e | e | e
              · rw [e]; exact ⟨.inr ⟨hpa2, hpa⟩, hpa2⟩
              · rw [e]; exact ⟨.inr ⟨by omega, hpb2⟩, by omega⟩
              · rw [e]; exact ⟨.inr ⟨hpq2, hpq⟩, hpq2⟩
              · simp [Value.ownBlock] at e
            · rcases hb with e | e | e | e | e <;> rw [e]
              · exact h0.qm.lt
              · exact h0.qp.lt
              · exact h0.qf.lt
              · exact h0.qg.lt
              · exact h0.om.lt)
          have HTO := Lib.hid (fun t ht => needT_ok HG.out f j s (by have := HJF.out; omega) HJ.out HOK.out.1 t ht)
          rw [HINL.out] at HTO
          obtain ⟨TT, hTT⟩ : ∃ TT : Nat → PS × List Int, TT = fun t => needT (needP S n f) (posL S n j) t s := ⟨_, rfl⟩
          have HT0 : Hid (TT 0 = (s, [])) := Lib.hid (by rw [hTT]; rfl)
          have HTS : Hid (∀ t, TT (t + 1) = ((needP S n f (TT t).1 ((posL S n j).getD t 0)).1, (TT t).2 ++ [((needP S n f (TT t).1 ((posL S n j).getD t 0)).2 : Int)])) := Lib.hid (fun t => by rw [hTT]; rfl)
          have HTO2 : Hid (∀ t, t ≤ ins.length → OkP n (TT t).1 ∧ (∀ i, j ≤ i → (TT t).1.M i = s.M i) ∧ (TT t).2.length = t ∧ ∀ u ∈ (TT t).2, 0 ≤ u ∧ u < 100) := Lib.hid (by rw [hTT]; exact HTO.out)
          have HTR : Hid (∀ t, RbP (TT t).1) := Lib.hid (by rw [hTT]; exact fun t => HKT.out s HOK.out.2 t)
          rw [HPL.out] at HND
          have HND2 : Hid (needP S n (f + 1) s j = putP (TT ins.length).1 j (nodeP S j (TT ins.length).2)) := Lib.hid (by rw [HND.out, hTT])
          clear hTT HTO HND H6
          have m2 := HLP.out.a.c 2 _ rfl; have ml := HLP.out.a.lt
          go_wp2_with fail
          clear m2 ml
          go_loopw [63] (fun s63 wr => ∃ t : Nat, t ≤ ins.length ∧ s63 = .int .i64 t ∧ ∃ Yt vN uT, LpH Y w0 w pt pp pn pg mm (some ⟨bs0, os0, none⟩) c out S n u pa pb pq [.string nm, .string op, .slice ia ins.length ic, .slice na ints.length nc, .slice ra reals.length rc] nm op (.slice na ints.length nc) (.slice ra reals.length rc) Yt wr (TT t).1 (TT t).2 vN uT) (fun s63 _ => ins.length - (intOf s63).toNat)
          case atStart => exact ⟨0, Nat.zero_le _, rfl, _, _, _, by rw [HT0.out]; exact HLP.out⟩
          case round =>
            obtain ⟨t, ht, rfl, Yt, vN, uT, hlp⟩ := hrel
            have HLT := Lib.hid hlp
            clear hlp
            by_cases htl : t < ins.length
            · have hti : (t : Int) < (ins.length : Int) := by omega
              obtain ⟨x, hx⟩ : ∃ x, ins[t]? = some x := ⟨_, List.getElem?_eq_getElem htl⟩
              obtain ⟨bi, oi, hia, ci⟩ := (HST.out.i.past HLT.out.g.b).get hx
              simp only at hia
              subst hia
              obtain ⟨hmj, hcall⟩ := HIH.out t x hx
              have HC1 := Lib.hid hcall
              have hic1 : ins.length ≤ ic := HST.out.bi.1
              have hic2 : ic ≤ 9223372036854775807 := by have h2 := HST.out.bi.2; unfold maxLen at h2; simp only at h2; omega
              have li := cell_lt ci; simp only at li
              obtain ⟨m, hm⟩ : ∃ m, m = (posL S n j).getD t 0 := ⟨_, rfl⟩
              have HTT := Lib.hid (HTS.out t)
              rw [← hm] at HC1 HTT
              have HOT := Lib.hid (And.intro (HTO2.out t ht).1 (HTR.out t))
              have HLN := Lib.hid (HTO2.out t ht).2.2.1
              obtain ⟨sT, hsT⟩ : ∃ sT, sT = (TT t).1 := ⟨_, rfl⟩
              obtain ⟨l, hl⟩ : ∃ l, l = (TT t).2 := ⟨_, rfl⟩
              rw [← hsT] at HTT HOT HLT
              rw [← hl] at HTT HLN HLT
              obtain ⟨R, hR⟩ : ∃ R, R = needP S n f sT m := ⟨_, rfl⟩
              have HCT : Hid (∀ X, Below wr.heap.size wr X → Calls Tryz.prog 23 #[.string x, .pointer (some ⟨pt, 0, none⟩), .pointer (some ⟨pp, 0, none⟩), .pointer (some ⟨pn, 0, none⟩), .pointer (some ⟨pg, 0, none⟩)] X (NdQ Yt w0 X pt pp pn pg mm (some ⟨bs0, os0, none⟩) c out S n uT R)) := Lib.hid (fun X hb => by rw [hR]; exact HC1.out sT uT X Yt HOT.out.1 HOT.out.2 (fun b hb2 => Nat.lt_of_lt_of_le (HLT.out.yl b hb2) hb.size) HLT.out.yw (HLT.out.g.past hb))
              rw [← hR] at HTT
              clear hx hcall hmj hm hsT hl hR HC1
              go_upto_region 13 with fail
              clear ci li
              refine wp_region_C (fun w' => w'.cell? ⟨pb, 1, none⟩ = some vN ∧ w'.cell? ⟨pn, 0, none⟩ = some (.func (.func 23) #[] #[.pointer (some ⟨pt, 0, none⟩), .pointer (some ⟨pp, 0, none⟩), .pointer (some ⟨pn, 0, none⟩), .pointer (some ⟨pg, 0, none⟩)])) 8 9 (by kernel_rfl) rfl ?_
              refine wpAnyC_worldP (fun X0 hX0 => ?_)
              have HX0 : Hid (Below wr.heap.size wr X0) := Lib.hid (by rw [hX0]; exact (Below.refl _ _).drew)
              clear hX0
              have HL0 := Lib.hid (HLT.out.past HX0.out)
              have hC := And.intro (HL0.out.b.c 1 _ rfl) (HL0.out.g.qf.c 0 _ rfl)
              refine wpAnyC_take (i := 0) (v := .pointer (some ⟨pb, 1, none⟩)) rfl (by kernel_rfl) (by kernel_rfl) (fun _ _ _ h => h) (.inl ⟨rfl, fun w' hw' => ?_⟩) hC ?_
              · obtain ⟨k0, k1⟩ := hw'
                go_simp
              refine wpAnyC_act (by rfl) ?_
              simp only [Act.put, List.setIfInBounds_toArray, List.set_cons_zero, List.set_cons_succ]
              refine wpAnyC_take (i := 1) (v := vN) rfl (by kernel_rfl) (by kernel_rfl) (fun _ _ _ h => h) (.inl ⟨rfl, fun w' hw' => ?_⟩) hC ?_
              · obtain ⟨k0, k1⟩ := hw'
                go_simp
              refine wpAnyC_act (by rfl) ?_
              simp only [Act.put, List.setIfInBounds_toArray, List.set_cons_zero, List.set_cons_succ]
              refine wpAnyC_take (i := 2) (v := .func (.func 23) #[] #[.pointer (some ⟨pt, 0, none⟩), .pointer (some ⟨pp, 0, none⟩), .pointer (some ⟨pn, 0, none⟩), .pointer (some ⟨pg, 0, none⟩)]) rfl (by kernel_rfl) (by kernel_rfl) (fun _ _ _ h => h) (.inl ⟨rfl, fun w' hw' => ?_⟩) hC ?_
              · obtain ⟨k0, k1⟩ := hw'
                go_simp
              refine wpAnyC_act (by rfl) ?_
              simp only [Act.put, List.setIfInBounds_toArray, List.set_cons_zero, List.set_cons_succ]
              refine wpAnyC_take (i := 3) (v := .string x) rfl (by kernel_rfl) (by kernel_rfl) (fun _ _ _ h => h) (.inl ⟨rfl, fun w' hw' => ?_⟩) hC ?_
              · obtain ⟨k0, k1⟩ := hw'
                go_simp
              refine wpAnyC_act (by rfl) ?_
              simp only [Act.put, List.setIfInBounds_toArray, List.set_cons_zero, List.set_cons_succ]
              clear hC
              refine wpAnyC_one (i := 4) rfl (by kernel_rfl) (fun K hK => ?_)
              go_simp
              go_simp
              refine (HCT.out X0 HX0.out).mono ?_
              rintro e W7 ⟨u7, rfl, hg7, ht7, hu7⟩
              have HL7 := Lib.hid (HL0.out.call hg7 ht7 hu7)
              clear hg7 ht7 hu7 HCT
              have hC7 := And.intro (HL7.out.b.c 1 _ rfl) (HL7.out.g.qf.c 0 _ rfl)
              go_simp
              refine hK _ _ (fun _ => hC7) ?_
              clear hK K hC7
              refine wpAnyC_one (i := 5) rfl (by kernel_rfl) (fun K hK => ?_)
              go_simp
              refine hK _ _ (fun _ => And.intro ((HL7.out.b.alloc _).c 1 _ rfl) ((HL7.out.g.qf.alloc _).c 0 _ rfl)) ?_
              clear hK K
              refine wpAnyC_worldP (fun X8 hX8 => ?_)
              have hb8 : Below W7.heap.size W7 X8 := by rw [hX8]; exact (Below.refl _ _).alloc (Nat.le_refl _) _
              have HN8 : Hid (Blk X8 W7.heap.size [.int .i64 (R.2 : Int)]) := Lib.hid (by rw [hX8]; exact Blk.new _ _ _ _ rfl)
              have HL8 := Lib.hid (HL7.out.past hb8)
              clear hX8 hb8
              obtain ⟨iI, hI0, hI1, hI2, hI3⟩ := info_parts infoIntN
              refine wpAnyC_one (i := 6) rfl (by kernel_rfl) (fun K hK => ?_)
              refine step_append_row rfl (.tmp 68) (.tmp 72) 35 rfl Tryz.underlying35 hI0 hI1 hI2 hI3 rfl (by decide) (v := vN) rfl HL8.out.v.1 ⟨W7.heap.size, 0, none⟩ 1 [.int .i64 (R.2 : Int)] rfl rfl (fun q v hv => by rw [Addr.add_lit, Nat.zero_add]; exact HN8.out.c q v hv) (fun v hv => by rw [List.mem_singleton.1 hv]; rfl) (by have h1 := HB9.out; have h2 := HLN.out; unfold maxLen; omega) (by have h1 := HB9.out; have h2 := HLN.out; omega) ?_
              intro ao9 cp9 W9 hr9 hg9 ho9
              have ht9 : Tch (fun b => vN.ownBlock = some b) X8 W9 := Tch.of_grown hg9 (fun b hb => hb)
              have hpb9 := HL8.out.b.tch ht9 (fun e => (HL8.out.z pb e).2.1 rfl)
              have hpn9 := HL8.out.g.qf.tch ht9 (fun e => by have h1 := (HL8.out.yc pn (.inr (.inr (.inr e)))).2; have h2 := HL8.out.fx pn (.inr (.inr (.inl rfl))); omega)
              have HP9 := Lib.hid (And.intro hpb9 hpn9)
              have HR9 := Lib.hid (And.intro hr9 (And.intro hg9 ho9))
              clear ht9 hpb9 hpn9 hr9 hg9 ho9 hI0 hI1 hI2 hI3
              have hC9 := And.intro (HP9.out.1.c 1 _ rfl) (HP9.out.2.c 0 _ rfl)
              refine hK _ _ (fun _ => hC9) ?_
              clear hK K
              refine wpAnyC_act (by rfl) ?_
              simp only [Act.put, List.setIfInBounds_toArray, List.set_cons_zero, List.set_cons_succ]
              have hC := hC9
              refine wpAnyC_take (i := 7) (v := .pointer (some ⟨pb, 1, none⟩)) rfl (by kernel_rfl) (by kernel_rfl) (fun _ _ _ h => h) (.inl ⟨rfl, fun w' hw' => ?_⟩) hC ?_
              · obtain ⟨k0, k1⟩ := hw'
                go_simp
              refine wpAnyC_act (by rfl) ?_
              simp only [Act.put, List.setIfInBounds_toArray, List.set_cons_zero, List.set_cons_succ]
              clear hC hC9
              have z1 := HP9.out.1.c 1 _ rfl; have zl := HP9.out.1.lt; have zf := HP9.out.1.f
              refine wpAnyC_one (i := 8) rfl (by kernel_rfl) (fun K hK => ?_)
              go_simp
              refine hK _ _ (fun h => by rw [getD_setSelf] at h; cases h) ?_
              clear hK K z1 zl zf
              refine wpAnyC_done (by kernel_rfl) ?_
              refine nf_any (fun W10 hW10 => ?_)
              obtain ⟨Yt', hl10⟩ := HL8.out.app HR9.out.1 HR9.out.2.1 HR9.out.2.2 hW10
              have HL10 := Lib.hid hl10
              clear hl10 hW10
              go_wp2_with fail
              go_roundw
              case rel => exact ⟨t + 1, by omega, by go_num, Yt', _, _, by rw [HTT.out]; exact HL10.out⟩
              case measure => simp [intOf] <;> omega
            · have hti : ¬ (t : Int) < (ins.length : Int) := by omega
              obtain rfl : t = ins.length := by omega
              have HLN := Lib.hid (HTO2.out _ (Nat.le_refl _)).2.2.1
              have HLM := Lib.hid (show (TT ins.length).1.M j = none by rw [(HTO2.out _ (Nat.le_refl _)).2.1 j (Nat.le_refl _)]; exact HMN.out)
              have HLU := Lib.hid (HTO2.out _ (Nat.le_refl _)).2.2.2
              have HLO := Lib.hid (And.intro (HTO2.out _ (Nat.le_refl _)).1 (HTR.out ins.length))
              rw [HNP.out] at HND2
              obtain ⟨sT, hsT⟩ : ∃ sT, sT = (TT ins.length).1 := ⟨_, rfl⟩
              obtain ⟨l, hl⟩ : ∃ l, l = (TT ins.length).2 := ⟨_, rfl⟩
              rw [← hsT] at HND2 HLT HLM HLO
              rw [← hl] at HND2 HLT HLN HLU
              clear hsT hl HTS HT0 HTO2 HTR HLP
              obtain ⟨aoN, cpN, rfl⟩ := HLT.out.v.form
              obtain ⟨aoU, cpU, rfl⟩ : ∃ a c, uT = .slice a sT.G.length c := by obtain ⟨ns, -, ⟨-, a, c, e, -⟩, -⟩ := HLT.out.g.gn; exact ⟨a, c, e⟩
              have HPUT := Lib.hid (show putP sT j ⟨op, l, ints, reals⟩ = match idxT (keyT ⟨op, l, ints, reals⟩) sT.G with | some i => (⟨sT.G, upM sT.M j i⟩, i) | none => (⟨sT.G ++ [⟨op, l, ints, reals⟩], upM sT.M j sT.G.length⟩, sT.G.length) from rfl)
              have HQ0 : Hid (PnOk ⟨op, l, ints, reals⟩ ∧ l.length ≤ 9) := Lib.hid (by
                obtain ⟨hk27, hop⟩ := opK_name HK.out.1
                have h4 := HLN.out
                have h5 := HK.out.2.1
                have h6 := HB9.out
                exact ⟨⟨k, hk27, hop, by show l.length = _; rw [h4, h5], HK.out.2.2.1, HK.out.2.2.2, fun i hi => by have := HLU.out i hi; unfold Int64; omega, HST.out.kb⟩, by omega⟩)
              have HPK : Hid (∀ p ∈ sT.G, PnOk p ∧ (∀ v ∈ p.reals, v < 2 ^ 32) ∧ p.ins.length ≤ 9 ∧ p.ints.length ≤ 9 ∧ p.reals.length ≤ 9) := Lib.hid (fun p hp => by
                obtain ⟨k3, hk3, e1, e2, e3, e4, e5, e6⟩ := HLO.out.1.g p hp
                obtain ⟨h1, h2, h3⟩ := F_lens hk3
                exact ⟨⟨k3, hk3, e1, e2, e3, e4, e5, e6⟩, HLO.out.2 p hp, by omega, by omega, by omega⟩)
              have HLG := Lib.hid (show sT.G.length ≤ 100 from Nat.le_trans HLO.out.1.len HG.out.le)
              have g0 := HLT.out.g.qg.c 0 _ rfl; have gl := HLT.out.g.qg.lt
              go_wp2_with fail
              clear g0 gl
              go_loopw [79] (fun s79 wx => ∃ k2 : Nat, k2 ≤ sT.G.length ∧ s79 = .int .i64 k2 ∧ (∀ i q, i < k2 → sT.G[i]? = some q → keyT q ≠ keyT ⟨op, l, ints, reals⟩ ) ∧ LpH Y w0 w pt pp pn pg mm (some ⟨bs0, os0, none⟩) c out S n u pa pb pq [.string nm, .string op, .slice ia ins.length ic, .slice na ints.length nc, .slice ra reals.length rc] nm op (.slice na ints.length nc) (.slice ra reals.length rc) Yt wx sT l (.slice aoN l.length cpN) (.slice aoU sT.G.length cpU)) (fun s79 _ => sT.G.length - (intOf s79).toNat)
              case atStart => exact ⟨0, Nat.zero_le _, rfl, fun i p hi => absurd hi (Nat.not_lt_zero _), HLT.out⟩
              case round =>
                obtain ⟨k2, hk2, rfl, hE, hlx⟩ := hrel
                have HLX := Lib.hid (And.intro hE hlx)
                clear hE hlx
                by_cases hkl : k2 < sT.G.length
                · have hki : (k2 : Int) < (sT.G.length : Int) := by omega
                  obtain ⟨p, hp⟩ : ∃ p, sT.G[k2]? = some p := ⟨_, List.getElem?_eq_getElem hkl⟩
                  have HPP := Lib.hid hp
                  obtain ⟨ns, ao, cap, e, hN, hnl, hAt⟩ := HLX.out.2.g.gn.isNodes
                  simp only [Value.slice.injEq, true_and] at e
                  obtain ⟨e1, e2⟩ := e
                  subst e1 e2
                  obtain ⟨nd, hnd⟩ : ∃ nd, ns[k2]? = some nd := ⟨_, List.getElem?_eq_getElem (by omega)⟩
                  have hd := hAt k2 nd p hnd hp
                  obtain ⟨bn, on, hao, hcn, -⟩ := hN.get hnd
                  have hcu1 := hN.lc
                  have hcu2 : cpU ≤ 9223372036854775807 := by have := hN.lm; unfold maxLen at this; omega
                  rw [hnl] at hcu1
                  obtain ⟨hpk, hpr, hp9⟩ := HPK.out p (List.mem_of_getElem? hp)
                  have x0 := hcn.c0; have x1 := hcn.c1; have x2 := hcn.c2; have x3 := hcn.c3; have xl := cell_lt x0
                  simp only at xl
                  have HSN : Hid (sameN p ⟨op, l, ints, reals⟩ ↔ keyT p = keyT ⟨op, l, ints, reals⟩ ) := Lib.hid ⟨keyT_same, fun h => keyT_inj hpk HQ0.out.1 hpr HST.out.rb h⟩
                  have HNX : Hid (keyT p ≠ keyT ⟨op, l, ints, reals⟩ → ∀ i q, i < k2 + 1 → sT.G[i]? = some q → keyT q ≠ keyT ⟨op, l, ints, reals⟩ ) := Lib.hid (fun h i q hi hq => by
                    by_cases e : i < k2
                    · exact HLX.out.1 i q e hq
                    · obtain rfl : i = k2 := by omega
                      rw [hp] at hq; cases hq
                      exact h)
                  obtain ⟨d1, d2, d3, d4, di, dk, dr, db, -, -, -⟩ := hd
                  obtain ⟨op3, ins3, ints3, reals3⟩ := p
                  obtain ⟨op2, ins2, ints2, reals2, ia2, ic2, na2, nc2, ra2, rc2⟩ := nd
                  simp only at d1 d2 d3 d4 di dk dr hp9 x0 x1 x2 x3
                  subst d1 d2 d3 d4
                  obtain ⟨db1, db2, db3, db4, db5, db6⟩ := db
                  simp only at db1 db2 db3 db4 db5 db6
                  have hlc := HLX.out.2.v.bd
                  have hw0 : ∀ w', Below wr.heap.size wr w' → Below w0.heap.size w0 w' := fun w' hb => HLX.out.2.g.b.trans (hb.mono HLX.out.2.g.b.size)
                  have HE1 := Lib.hid (fun w' (hb : Below wr.heap.size wr w') => eqI_dec ins2 l ic2 cpN ia2 aoN w' (by omega) (by have := HQ0.out.2; omega) ⟨db1, db2⟩ hlc (di.past hb) ((HLX.out.2.v.past hb).ints.zero))
                  have HE2 := Lib.hid (fun w' (hb : Below wr.heap.size wr w') => eqI_dec ints2 ints nc2 nc na2 na w' (by omega) (by have := HB9.out; omega) ⟨db3, db4⟩ HST.out.bk (dk.past hb) (HST.out.k.past (hw0 w' hb)))
                  have HE3 := Lib.hid (fun w' (hb : Below wr.heap.size wr w') => eqR_dec reals2 reals rc2 rc ra2 ra w' (by omega) (by have := HB9.out; omega) ⟨db5, db6⟩ HST.out.br (dr.past hb) (HST.out.r.past (hw0 w' hb)))
                  have HSM : Hid (((op2.toList == op.toList) = true ∧ decide (ins2 = l) = true ∧ decide (ints2 = ints) = true ∧ decide (reals2.map (cn .f32) = reals.map (cn .f32)) = true) ↔ keyT ⟨op2, ins2, ints2, reals2⟩ = keyT ⟨op, l, ints, reals⟩ ) := Lib.hid (by
                    rw [← HSN.out, Lib.bytes_beq_iff]
                    simp only [decide_eq_true_eq]
                    exact Iff.rfl)
                  obtain ⟨B1, hB1⟩ : ∃ B, B = decide (ins2 = l) := ⟨_, rfl⟩
                  obtain ⟨B2, hB2⟩ : ∃ B, B = decide (ints2 = ints) := ⟨_, rfl⟩
                  obtain ⟨B3, hB3⟩ : ∃ B, B = decide (reals2.map (cn .f32) = reals.map (cn .f32)) := ⟨_, rfl⟩
                  rw [← hB1, ← hB2, ← hB3] at HSM
                  simp only [← hB1] at HE1
                  simp only [← hB2] at HE2
                  simp only [← hB3] at HE3
                  subst hao
                  clear hp hAt hnd hN hcn hnl hpk hpr hp9 HSN di dk dr db1 db2 db3 db4 db5 db6 hlc hw0 hB1 hB2 hB3
                  go_upto_region 18 with fail
                  refine wp_world (fun WZ hWZ => ?_)
                  obtain ⟨pz, hpz⟩ : ∃ pz, pz = wr.heap.size := ⟨_, rfl⟩
                  have HZ : Hid (Blk WZ pz [.string op2, .slice ia2 ins2.length ic2, .slice na2 ints2.length nc2, .slice ra2 reals2.length rc2] ∧ Blk WZ pb [.string op, .slice aoN l.length cpN, .slice na ints.length nc, .slice ra reals.length rc] ∧ Below wr.heap.size wr WZ) := Lib.hid (by
                    rw [hWZ, hpz]
                    exact ⟨Blk.new _ _ _ _ rfl, HLX.out.2.b.past (by (repeat (first | exact Below.refl _ _ | assumption | (refine Below.setCell ?_ (by first | (simp; done) | (simp; omega) | omega) _) | (refine Below.drew ?_) | (refine below_drewN ?_ _) | (refine Below.alloc ?_ (by first | (simp; done) | (simp; omega) | omega) _) | (refine Below.trans ?_ (Below.mono (by assumption) (by first | (simp; done) | (simp; omega) | omega)))))), by (repeat (first | exact Below.refl _ _ | assumption | (refine Below.setCell ?_ (by first | (simp; done) | (simp; omega) | omega) _) | (refine Below.drew ?_) | (refine below_drewN ?_ _) | (refine Below.alloc ?_ (by first | (simp; done) | (simp; omega) | omega) _) | (refine Below.trans ?_ (Below.mono (by assumption) (by first | (simp; done) | (simp; omega) | omega)))))⟩)
                  rw [← hpz]
                  clear hWZ hpz x0 x1 x2 x3 xl
                  have y0 := HZ.out.1.c 0 _ rfl
                  have y1 := HZ.out.1.c 1 _ rfl
                  have y2 := HZ.out.1.c 2 _ rfl
                  have y3 := HZ.out.1.c 3 _ rfl
                  have yl := HZ.out.1.lt
                  have z0 := HZ.out.2.1.c 0 _ rfl
                  have z1 := HZ.out.2.1.c 1 _ rfl
                  have z2 := HZ.out.2.1.c 2 _ rfl
                  have z3 := HZ.out.2.1.c 3 _ rfl
                  have zl := HZ.out.2.1.lt
                  cases hc0 : (op2.toList == op.toList)
                  case false =>
                    rw [hc0] at HSM
                    go_wp2_with (first | (go_at_call 10; (first | (with_reducible refine (HE1.out _ HZ.out.2.2).mono ?_) | (with_reducible refine (HE2.out _ HZ.out.2.2).mono ?_)); rintro e w1 ⟨rfl, hb⟩; have HZ := Lib.hid (And.intro (HZ.out.1.past hb) (And.intro (HZ.out.2.1.past hb) (HZ.out.2.2.trans (hb.mono HZ.out.2.2.size)))); clear hb y0 y1 y2 y3 yl z0 z1 z2 z3 zl; have y0 := HZ.out.1.c 0 _ rfl; have y1 := HZ.out.1.c 1 _ rfl; have y2 := HZ.out.1.c 2 _ rfl; have y3 := HZ.out.1.c 3 _ rfl; have yl := HZ.out.1.lt; have z0 := HZ.out.2.1.c 0 _ rfl; have z1 := HZ.out.2.1.c 1 _ rfl; have z2 := HZ.out.2.1.c 2 _ rfl; have z3 := HZ.out.2.1.c 3 _ rfl; have zl := HZ.out.2.1.lt) | (go_at_call 11; refine (HE3.out _ HZ.out.2.2).mono ?_; rintro e w1 ⟨rfl, hb⟩; have HZ := Lib.hid (And.intro (HZ.out.1.past hb) (And.intro (HZ.out.2.1.past hb) (HZ.out.2.2.trans (hb.mono HZ.out.2.2.size)))); clear hb y0 y1 y2 y3 yl z0 z1 z2 z3 zl; have y0 := HZ.out.1.c 0 _ rfl; have y1 := HZ.out.1.c 1 _ rfl; have y2 := HZ.out.1.c 2 _ rfl; have y3 := HZ.out.1.c 3 _ rfl; have yl := HZ.out.1.lt; have z0 := HZ.out.2.1.c 0 _ rfl; have z1 := HZ.out.2.1.c 1 _ rfl; have z2 := HZ.out.2.1.c 2 _ rfl; have z3 := HZ.out.2.1.c 3 _ rfl; have zl := HZ.out.2.1.lt))
                    go_roundw
                    case rel => exact ⟨k2 + 1, by omega, by go_num, HNX.out (fun h => by have := HSM.out.2 h; simp_all), HLX.out.2.past HZ.out.2.2⟩
                    case measure => simp [intOf] <;> omega
                  case true =>
                    rw [hc0] at HSM
                    cases B1
                    case false =>
                      go_wp2_with (first | (go_at_call 10; (first | (with_reducible refine (HE1.out _ HZ.out.2.2).mono ?_) | (with_reducible refine (HE2.out _ HZ.out.2.2).mono ?_)); rintro e w1 ⟨rfl, hb⟩; have HZ := Lib.hid (And.intro (HZ.out.1.past hb) (And.intro (HZ.out.2.1.past hb) (HZ.out.2.2.trans (hb.mono HZ.out.2.2.size)))); clear hb y0 y1 y2 y3 yl z0 z1 z2 z3 zl; have y0 := HZ.out.1.c 0 _ rfl; have y1 := HZ.out.1.c 1 _ rfl; have y2 := HZ.out.1.c 2 _ rfl; have y3 := HZ.out.1.c 3 _ rfl; have yl := HZ.out.1.lt; have z0 := HZ.out.2.1.c 0 _ rfl; have z1 := HZ.out.2.1.c 1 _ rfl; have z2 := HZ.out.2.1.c 2 _ rfl; have z3 := HZ.out.2.1.c 3 _ rfl; have zl := HZ.out.2.1.lt) | (go_at_call 11; refine (HE3.out _ HZ.out.2.2).mono ?_; rintro e w1 ⟨rfl, hb⟩; have HZ := Lib.hid (And.intro (HZ.out.1.past hb) (And.intro (HZ.out.2.1.past hb) (HZ.out.2.2.trans (hb.mono HZ.out.2.2.size)))); clear hb y0 y1 y2 y3 yl z0 z1 z2 z3 zl; have y0 := HZ.out.1.c 0 _ rfl; have y1 := HZ.out.1.c 1 _ rfl; have y2 := HZ.out.1.c 2 _ rfl; have y3 := HZ.out.1.c 3 _ rfl; have yl := HZ.out.1.lt; have z0 := HZ.out.2.1.c 0 _ rfl; have z1 := HZ.out.2.1.c 1 _ rfl; have z2 := HZ.out.2.1.c 2 _ rfl; have z3 := HZ.out.2.1.c 3 _ rfl; have zl := HZ.out.2.1.lt))
                      go_roundw
                      case rel => exact ⟨k2 + 1, by omega, by go_num, HNX.out (fun h => by have := HSM.out.2 h; simp_all), HLX.out.2.past HZ.out.2.2⟩
                      case measure => simp [intOf] <;> omega
                    case true =>
                      cases B2
                      case false =>
                        go_wp2_with (first | (go_at_call 10; (first | (with_reducible refine (HE1.out _ HZ.out.2.2).mono ?_) | (with_reducible refine (HE2.out _ HZ.out.2.2).mono ?_)); rintro e w1 ⟨rfl, hb⟩; have HZ := Lib.hid (And.intro (HZ.out.1.past hb) (And.intro (HZ.out.2.1.past hb) (HZ.out.2.2.trans (hb.mono HZ.out.2.2.size)))); clear hb y0 y1 y2 y3 yl z0 z1 z2 z3 zl; have y0 := HZ.out.1.c 0 _ rfl; have y1 := HZ.out.1.c 1 _ rfl; have y2 := HZ.out.1.c 2 _ rfl; have y3 := HZ.out.1.c 3 _ rfl; have yl := HZ.out.1.lt; have z0 := HZ.out.2.1.c 0 _ rfl; have z1 := HZ.out.2.1.c 1 _ rfl; have z2 := HZ.out.2.1.c 2 _ rfl; have z3 := HZ.out.2.1.c 3 _ rfl; have zl := HZ.out.2.1.lt) | (go_at_call 11; refine (HE3.out _ HZ.out.2.2).mono ?_; rintro e w1 ⟨rfl, hb⟩; have HZ := Lib.hid (And.intro (HZ.out.1.past hb) (And.intro (HZ.out.2.1.past hb) (HZ.out.2.2.trans (hb.mono HZ.out.2.2.size)))); clear hb y0 y1 y2 y3 yl z0 z1 z2 z3 zl; have y0 := HZ.out.1.c 0 _ rfl; have y1 := HZ.out.1.c 1 _ rfl; have y2 := HZ.out.1.c 2 _ rfl; have y3 := HZ.out.1.c 3 _ rfl; have yl := HZ.out.1.lt; have z0 := HZ.out.2.1.c 0 _ rfl; have z1 := HZ.out.2.1.c 1 _ rfl; have z2 := HZ.out.2.1.c 2 _ rfl; have z3 := HZ.out.2.1.c 3 _ rfl; have zl := HZ.out.2.1.lt))
                        go_roundw
                        case rel => exact ⟨k2 + 1, by omega, by go_num, HNX.out (fun h => by have := HSM.out.2 h; simp_all), HLX.out.2.past HZ.out.2.2⟩
                        case measure => simp [intOf] <;> omega
                      case true =>
                        cases B3
                        case false =>
                          go_wp2_with (first | (go_at_call 10; (first | (with_reducible refine (HE1.out _ HZ.out.2.2).mono ?_) | (with_reducible refine (HE2.out _ HZ.out.2.2).mono ?_)); rintro e w1 ⟨rfl, hb⟩; have HZ := Lib.hid (And.intro (HZ.out.1.past hb) (And.intro (HZ.out.2.1.past hb) (HZ.out.2.2.trans (hb.mono HZ.out.2.2.size)))); clear hb y0 y1 y2 y3 yl z0 z1 z2 z3 zl; have y0 := HZ.out.1.c 0 _ rfl; have y1 := HZ.out.1.c 1 _ rfl; have y2 := HZ.out.1.c 2 _ rfl; have y3 := HZ.out.1.c 3 _ rfl; have yl := HZ.out.1.lt; have z0 := HZ.out.2.1.c 0 _ rfl; have z1 := HZ.out.2.1.c 1 _ rfl; have z2 := HZ.out.2.1.c 2 _ rfl; have z3 := HZ.out.2.1.c 3 _ rfl; have zl := HZ.out.2.1.lt) | (go_at_call 11; refine (HE3.out _ HZ.out.2.2).mono ?_; rintro e w1 ⟨rfl, hb⟩; have HZ := Lib.hid (And.intro (HZ.out.1.past hb) (And.intro (HZ.out.2.1.past hb) (HZ.out.2.2.trans (hb.mono HZ.out.2.2.size)))); clear hb y0 y1 y2 y3 yl z0 z1 z2 z3 zl; have y0 := HZ.out.1.c 0 _ rfl; have y1 := HZ.out.1.c 1 _ rfl; have y2 := HZ.out.1.c 2 _ rfl; have y3 := HZ.out.1.c 3 _ rfl; have yl := HZ.out.1.lt; have z0 := HZ.out.2.1.c 0 _ rfl; have z1 := HZ.out.2.1.c 1 _ rfl; have z2 := HZ.out.2.1.c 2 _ rfl; have z3 := HZ.out.2.1.c 3 _ rfl; have zl := HZ.out.2.1.lt))
                          go_roundw
                          case rel => exact ⟨k2 + 1, by omega, by go_num, HNX.out (fun h => by have := HSM.out.2 h; simp_all), HLX.out.2.past HZ.out.2.2⟩
                          case measure => simp [intOf] <;> omega
                        case true =>
                          have hx := idxT_is HPP.out (HSM.out.1 (by simp)) HLX.out.1
                          have HR : Hid (needP S n (f + 1) s j = (⟨sT.G, upM sT.M j k2⟩, k2)) := Lib.hid (by rw [HND2.out, HPUT.out, hx])
                          clear hx HND2 HPUT
                          go_wp2_with (first | (go_at_call 10; (first | (with_reducible refine (HE1.out _ HZ.out.2.2).mono ?_) | (with_reducible refine (HE2.out _ HZ.out.2.2).mono ?_)); rintro e w1 ⟨rfl, hb⟩; have HZ := Lib.hid (And.intro (HZ.out.1.past hb) (And.intro (HZ.out.2.1.past hb) (HZ.out.2.2.trans (hb.mono HZ.out.2.2.size)))); clear hb y0 y1 y2 y3 yl z0 z1 z2 z3 zl; have y0 := HZ.out.1.c 0 _ rfl; have y1 := HZ.out.1.c 1 _ rfl; have y2 := HZ.out.1.c 2 _ rfl; have y3 := HZ.out.1.c 3 _ rfl; have yl := HZ.out.1.lt; have z0 := HZ.out.2.1.c 0 _ rfl; have z1 := HZ.out.2.1.c 1 _ rfl; have z2 := HZ.out.2.1.c 2 _ rfl; have z3 := HZ.out.2.1.c 3 _ rfl; have zl := HZ.out.2.1.lt) | (go_at_call 11; refine (HE3.out _ HZ.out.2.2).mono ?_; rintro e w1 ⟨rfl, hb⟩; have HZ := Lib.hid (And.intro (HZ.out.1.past hb) (And.intro (HZ.out.2.1.past hb) (HZ.out.2.2.trans (hb.mono HZ.out.2.2.size)))); clear hb y0 y1 y2 y3 yl z0 z1 z2 z3 zl; have y0 := HZ.out.1.c 0 _ rfl; have y1 := HZ.out.1.c 1 _ rfl; have y2 := HZ.out.1.c 2 _ rfl; have y3 := HZ.out.1.c 3 _ rfl; have yl := HZ.out.1.lt; have z0 := HZ.out.2.1.c 0 _ rfl; have z1 := HZ.out.2.1.c 1 _ rfl; have z2 := HZ.out.2.1.c 2 _ rfl; have z3 := HZ.out.2.1.c 3 _ rfl; have zl := HZ.out.2.1.lt; have HL3 := Lib.hid (HLX.out.2.past HZ.out.2.2); have q0 := HL3.out.g.qm.c 0 _ rfl; have ql := HL3.out.g.qm.lt; have qq := HL3.out.q.c 0 _ rfl; have qql := HL3.out.q.lt) | (at_mapUpdate; refine wpList_putS rfl _ _ _ 49 3 rfl Tryz.underlying49 mm _ rfl HL3.out.g.om (by have := HCN.out sT.M; unfold maxLen; omega) nm HST.out.n rfl (.int .i64 (k2 : Int)) rfl ?_; intro W9 hm9 hg9))
                          go_ret
                          have h9 := HPM.out sT _ _ W9 k2 HL3.out.give HLM.out hm9 hg9
                          exact ⟨_, by rw [HR.out]; rfl, by rw [HR.out]; exact h9.1, HL3.out.t.then (h9.2.mono (T := TD mm pg u) (fun _ _ e => .inl e)) (fun _ _ e => e), HL3.out.o⟩
                · have hki : ¬ (k2 : Int) < (sT.G.length : Int) := by omega
                  obtain rfl : k2 = sT.G.length := by omega
                  have hx := idxT_no (fun i q hi hq => HLX.out.1 i q hi hq)
                  have HR : Hid (needP S n (f + 1) s j = (⟨sT.G ++ [⟨op, l, ints, reals⟩], upM sT.M j sT.G.length⟩, sT.G.length)) := Lib.hid (by rw [HND2.out, HPUT.out, hx])
                  have HGX := Lib.hid HLX.out.2.give
                  obtain ⟨ns, hn1, hn2, -⟩ := HGX.out.gn
                  have HNS := Lib.hid (And.intro hn1 hn2)
                  clear hx HND2 HPUT hn1 hn2
                  have g0 := HGX.out.qg.c 0 _ rfl; have gl := HGX.out.qg.lt
                  have b0 := HLX.out.2.b.c 0 _ rfl; have b1 := HLX.out.2.b.c 1 _ rfl; have b2 := HLX.out.2.b.c 2 _ rfl; have b3 := HLX.out.2.b.c 3 _ rfl; have bl := HLX.out.2.b.lt
                  have hub : (sT.G.length : Int) ≤ 100 := by have := HLG.out; omega
                  obtain ⟨i0, hi0, hz0, hz1, hz2⟩ := info_parts infoNode
                  have HRW : Hid (RowV wr 4 (Value.slice aoU sT.G.length cpU) sT.G.length (ns.flatMap ndCells)) := Lib.hid HNS.out.2
                  have hsu : ∀ b, (Value.slice aoU sT.G.length cpU).ownBlock = some b → b ≠ pg := fun b hb e => by rw [e] at hb; exact (HGX.out.su pg hb).1 (.inr (.inr (.inr (.inl rfl))))
                  have HSU := Lib.hid hsu
                  clear hsu
                  go_upto_region 23 with (at_builtin; refine wpList_append_row (v := (Value.slice aoU sT.G.length cpU)) _ rfl _ _ 25 rfl Tryz.underlying25 hi0 hz0 hz1 hz2 rfl (by decide) rfl (HRW.out.past ((Below.refl _ _).alloc (Nat.le_refl _) _)) ⟨wr.heap.size, 0, none⟩ 1 [.string op, .slice aoN l.length cpN, .slice na ints.length nc, .slice ra reals.length rc] rfl rfl (four_new _ _ _ _ _ _) (four_one _ _ _ _ _ _ _ _ _ _) (by have := HLG.out; unfold maxLen; omega) (by have := HLG.out; omega) ?_; intro ao5 cap5 w6 hR6 hG6 ho6; have H6 := Lib.hid (And.intro hR6 (And.intro hG6 ho6)); have hg6 := (HGX.out.qg.past ((Below.refl _ wr).alloc (Nat.le_refl _) _)).tch (Tch.of_grown (S := fun b => (Value.slice aoU sT.G.length cpU).ownBlock = some b) hG6 (fun b hb => hb)) (fun e => HSU.out pg e rfl); have g6 := hg6.c 0 _ rfl; have gf := hg6.f; have gl6 := hg6.lt; clear hR6 hG6 ho6 hg6)
                  refine wp_world (fun w7 hW7 => ?_)
                  have hfin := HLX.out.2.fin (u7 := .slice ao5 (sT.G.length + 1) cap5) HY.out.1 HST.out.k HST.out.r HST.out.bk HST.out.br ((Below.refl _ wr).alloc (Nat.le_refl _) _) (fun ns2 e1 e2 => by rw [e2.uniq (HRW.out.past ((Below.refl _ _).alloc (Nat.le_refl _) _))]; exact H6.out.1) H6.out.2.1 H6.out.2.2 hW7
                  have HF := Lib.hid hfin
                  have HQ7 : Hid (Blk w7 pq [.string nm]) := Lib.hid (by
                    have hn := HLX.out.2.nt pq (.inr (.inr (.inl rfl)))
                    exact ((HLX.out.2.q.past ((Below.refl _ wr).alloc (Nat.le_refl _) _)).tch (Tch.of_grown (S := fun b => (Value.slice aoU sT.G.length cpU).ownBlock = some b) H6.out.2.1 (fun b hb => hb)) (fun e => hn (.inr (.inr e)))).tch (S := fun b => b = pg) (by rw [hW7]; exact (Tch.refl (fun b => b = pg) _).set ⟨pg, 0, none⟩ _ rfl) (fun e => hn (.inr (.inl e))))
                  clear hfin hW7 g0 gl b0 b1 b2 b3 bl g6 gf gl6 hi0 hz0 hz1 hz2
                  have q0 := HF.out.1.qm.c 0 _ rfl; have ql := HF.out.1.qm.lt
                  have g0 := HF.out.1.qg.c 0 _ rfl; have gl := HF.out.1.qg.lt
                  have qq := HQ7.out.c 0 _ rfl; have qql := HQ7.out.lt
                  go_wp2_with (at_mapUpdate; refine wpList_putS rfl _ _ _ 49 3 rfl Tryz.underlying49 mm _ rfl HF.out.1.om (by have := HCN.out sT.M; unfold maxLen; simp only; omega) nm HST.out.n rfl (.int .i64 (sT.G.length : Int)) rfl ?_; intro W10 hm10 hg10; have H10 := Lib.hid (HPM.out _ _ w7 W10 sT.G.length HF.out.1 HLM.out hm10 hg10); clear g0 gl q0 ql qq qql; have g0 := H10.out.1.qg.c 0 _ rfl; have gl := H10.out.1.qg.lt)
                  go_ret
                  exact ⟨_, by rw [HR.out]; rfl, by rw [HR.out]; exact H10.out.1, HF.out.2.1.then (H10.out.2.mono (T := TD mm pg u) (fun _ _ e => .inl e)) (fun _ _ e => e), HF.out.2.2⟩
end Go.Proofs.YtbaocallhnehfaaGreatDoor
