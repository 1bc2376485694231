/- node.Compile's inner function at any step. Conditions: what the theorem names. -/
import Derived.Test.YtbaocallhnehfaaGreatDoorPrL
import Derived.Test.YtbaocallhnehfaaGreatDoorPrC
import Derived.Test.YtbaocallhnehfaaGreatDoorQE
import Derived.Deep.QuietTactic
import Derived.BigQuiet
set_option linter.unusedSimpArgs false
set_option linter.unusedVariables false
namespace Go.Proofs.YtbaocallhnehfaaGreatDoor
open Go Go.RowKit
theorem nf_any {F : Exit → Act → World → Prop} {e : Exit} {a : Act} {w : World} (h : ∀ W, W = w → F e a W) : F e a w := h w rfl
theorem bs_ext {x y : ByteArray} (h : x.data.toList = y.data.toList) : x = y := by rw [← bs_of x, h, bs_of]
theorem mdT_some {S : Nat → StepD} {n j r : Nat} (h : GoodS S n) (hj : j < n) {M : Nat → Option Nat} (hM : M j = some r) : (mdS S n M (S j).nm.data.toList).getD (.int .i64 0) = .int .i64 (r : Int) ∧ (mdS S n M (S j).nm.data.toList).isSome = true := by
  rw [mdS_at h hj, hM]; exact ⟨rfl, rfl⟩
theorem mdT_none {S : Nat → StepD} {n j : Nat} (h : GoodS S n) (hj : j < n) {M : Nat → Option Nat} (hM : M j = none) : (mdS S n M (S j).nm.data.toList).getD (.int .i64 0) = .int .i64 0 ∧ (mdS S n M (S j).nm.data.toList).isSome = false := by
  rw [mdS_at h hj, hM]; exact ⟨rfl, rfl⟩
/-- What the inner function leaves. -/
def NdP (Y : Nat → Prop) (w0 w : World) (pm ps pn pk pg mm ms mk : Nat) (S : Nat → StepD) (n : Nat) (u : Value) (R : PS × Nat) (e : Ending) (w' : World) : Prop :=
  ∃ u', e = .returned (.int .i64 (R.2 : Int)) ∧ NdG Y w0 w' pm ps pn pk pg mm ms mk S n R.1 u' ∧ Tch (TS mm mk pg u) w w' ∧ (u'.ownBlock = u.ownBlock ∨ ∀ b, u'.ownBlock = some b → w.heap.size ≤ b)
theorem TS_new {mm mk pg : Nat} {u : Value} {w w1 : World} {b : Nat} (hb : w.heap.size ≤ b) (h1 : mm < w.heap.size) (h2 : mk < w.heap.size) (h3 : pg < w.heap.size) (hu : ∀ c, u.ownBlock = some c → c < w.heap.size) : ¬ TS mm mk pg u b := by
  rintro (h | h | h | h)
  · omega
  · omega
  · omega
  · have := hu b h; omega
set_option maxRecDepth 100000 in
set_option maxHeartbeats 12800000 in
theorem need_any {w0 : World} {pm ps pn pk pg mm ms mk : Nat} {S : Nat → StepD} {n : Nat} (hg : GoodS S n) (hA : ∀ j, j < n → StepAt w0 (S j)) (hL : LibW w0) : ∀ (f j : Nat) (s : PS) (u : Value) (w : World) (Y : Nat → Prop), j < f → j < n → OkP n s → (∀ b, Y b → b < w.heap.size) → NdG Y w0 w pm ps pn pk pg mm ms mk S n s u →
    Calls Tryz.prog 14 #[.string (S j).nm, .pointer (some ⟨pm, 0, none⟩), .pointer (some ⟨ps, 0, none⟩), .pointer (some ⟨pn, 0, none⟩), .pointer (some ⟨pk, 0, none⟩), .pointer (some ⟨pg, 0, none⟩)] w (NdP Y w0 w pm ps pn pk pg mm ms mk S n u (needP S n f s j)) := by
  intro f
  induction f with
  | zero => intro j s u w Y hf; omega
  | succ f ih =>
    intro j s u w Y hf hj hs hy h
    have HY := Lib.hid hy
    have HH := Lib.hid h
    have HST := Lib.hid (hA j hj)
    have HOK := Lib.hid hs
    have HG := Lib.hid hg
    have HL := Lib.hid hL
    have HND := Lib.hid (show needP S n (f + 1) s j = match s.M j with
      | some r => (s, r)
      | none => match idS (S j) with
        | some q => (⟨(needP S n f s ((posL S n j).getD q 0)).1.G, upM (needP S n f s ((posL S n j).getD q 0)).1.M j (needP S n f s ((posL S n j).getD q 0)).2⟩, (needP S n f s ((posL S n j).getD q 0)).2)
        | none => putP (needT (needP S n f) (posL S n j) (posL S n j).length s).1 j (nodeP S j (needT (needP S n f) (posL S n j) (posL S n j).length s).2) from rfl)
    have HIH : Hid (∀ t x, (S j).ins[t]? = some x → (posL S n j).getD t 0 < j ∧ ∀ (s : PS) (u : Value) (w : World) (Y : Nat → Prop), OkP n s → (∀ b, Y b → b < w.heap.size) → NdG Y w0 w pm ps pn pk pg mm ms mk S n s u → Calls Tryz.prog 14 #[.string x, .pointer (some ⟨pm, 0, none⟩), .pointer (some ⟨ps, 0, none⟩), .pointer (some ⟨pn, 0, none⟩), .pointer (some ⟨pk, 0, none⟩), .pointer (some ⟨pg, 0, none⟩)] w (NdP Y w0 w pm ps pn pk pg mm ms mk S n u (needP S n f s ((posL S n j).getD t 0)))) := Lib.hid (fun t x hx => by
      obtain ⟨m, h1, h2, h3, h4⟩ := hg.ins hj hx
      rw [h3]
      exact ⟨h1, fun s u w Y hs hy hw => by rw [bs_ext h4]; exact ih m s u w Y (by omega) (by omega) hs hy hw⟩)
    have HPM := Lib.hid (fun (s : PS) (u : Value) (w w' : World) (r : Nat) (h : NdG Y w0 w pm ps pn pk pg mm ms mk S n s u) (hM : s.M j = none) hm hw => h.putM (w' := w') (r := r) hg hj hM hm hw)
    have HKO := Lib.hid (fun (s : PS) (m : Nat) (hm : m < j) (hs : OkP n s) => needP_ok hg f m s (by omega) (by omega) hs)
    have HSP := Lib.hid (spS_at hg hj)
    have HCN := Lib.hid (fun (M : Nat → Option Nat) => (show cntM M n ≤ 100 from Nat.le_trans (cntM_le M n) hg.le))
    have q0 := h.qm.c 0 _ rfl; have ql := h.qm.lt
    cases hM : s.M j with
    | some r =>
      have HV := Lib.hid (mdT_some hg hj hM)
      have HR : Hid (needP S n (f + 1) s j = (s, r)) := Lib.hid (by rw [HND.out, hM])
      have HNZ := Lib.hid HST.out.n
      obtain ⟨nm, hnm⟩ : ∃ nm, nm = (S j).nm := ⟨_, rfl⟩
      rw [← hnm] at HV HNZ
      rw [← hnm]
      clear hnm ih hg hA hL h hs hM hy HND HIH HPM HKO HSP HCN
      go_enter Tryz.func14, Tryz.ntmps14
      go_wp2_with (at_lookup; refine wpList_lookS1 rfl _ _ 49 3 rfl Tryz.underlying49 (zeroI _) mm _ rfl HH.out.om nm HNZ.out rfl ?_; rw [HV.out.1, HV.out.2])
      go_ret
      exact ⟨u, by rw [HR.out]; rfl, by rw [HR.out]; exact HH.out, Tch.refl _ _, .inl rfl⟩
    | none =>
      have HV := Lib.hid (mdT_none hg hj hM)
      have HMN := Lib.hid hM
      rw [hM] at HND
      simp only at HND
      have s0 := h.qs.c 0 _ rfl; have sl := h.qs.lt
      have HSA := Lib.hid (fun (k : Nat) (w' : World) hk hni hnr hi hr => same_any (S j) k w' hk hni hnr hi hr (hA j hj).bk (hA j hj).br)
      have HSO := Lib.hid (st_ok (fstN_zero hg.z j hj))
      have HIL := Lib.hid (fun q => idS_lt (S := S) (q := q) hg hj)
      have HJ := Lib.hid hj
      have HJF : Hid (j < f + 1) := Lib.hid hf
      have HNP := Lib.hid (fun ks => (show nodeP S j ks = ⟨(S j).op, ks, (S j).ints, (S j).reals⟩ from rfl))
      have HPL : Hid ((posL S n j).length = (S j).ins.length) := Lib.hid (by unfold posL; simp)
      have HIV : Hid (idV (S j) = match idS (S j) with | some q => (q : Int) | none => -1) := Lib.hid rfl
      obtain ⟨sj, hsj⟩ : ∃ sj, sj = S j := ⟨_, rfl⟩
      have HNM : Hid ((S j).nm = sj.nm) := Lib.hid (by rw [hsj])
      have HINL : Hid ((S j).ins = sj.ins) := Lib.hid (by rw [hsj])
      rw [← hsj] at HST HIH HPM HSP HV HSA HSO HIL HNP HPL HIV HND
      rw [← hsj]
      clear hsj ih hg hA hL h hs hM hy
      obtain ⟨nm, op, ins, ints, reals, ia, ic, na, nc, ra, rc⟩ := sj
      obtain ⟨-, -, k, hk, -, hl1, hl2, hl3, -⟩ := HSO.out
      have HSE := Lib.hid (fun (w' : World) hi hr => HSA.out k w' hk hl2 hl3 hi hr)
      have HK := Lib.hid (And.intro hk (And.intro hl1 (And.intro hl2 hl3)))
      clear hk hl1 hl2 hl3 HSA HSO
      unfold stV at HSP HSE
      simp only at HIH HPM HSP HV HSE HIL HNP HPL HK HND HNM HINL
      go_enter Tryz.func14, Tryz.ntmps14
      go_upto_region 5 with (first | (at_lookup; refine wpList_lookS1 rfl _ _ 49 3 rfl Tryz.underlying49 (zeroI _) mm _ rfl HH.out.om nm HST.out.n rfl ?_; rw [HV.out.1, HV.out.2]) | (at_lookup; refine wpList_lookS0 rfl _ _ 45 48 rfl Tryz.underlying45 (zeroStep _) ms n rfl HH.out.os nm HST.out.n rfl ?_; rw [HSP.out]; simp only [Option.getD_some]))
      refine wp_world (fun W1 hW1 => ?_)
      have H1p : Blk W1 w.heap.size [.string nm, .string op, .slice ia ins.length ic, .slice na ints.length nc, .slice ra reals.length rc] ∧ Below w.heap.size w W1 := by rw [hW1]; exact ⟨Blk.new _ _ _ _ rfl, by (repeat (first | exact Below.refl _ _ | assumption | (refine Below.setCell ?_ (by first | (simp; done) | (simp; omega) | omega) _) | (refine Below.drew ?_) | (refine below_drewN ?_ _) | (refine Below.alloc ?_ (by first | (simp; done) | (simp; omega) | omega) _) | (refine Below.trans ?_ (Below.mono (by assumption) (by first | (simp; done) | (simp; omega) | omega)))))⟩
      obtain ⟨pa, hpa⟩ : ∃ pa, pa = w.heap.size := ⟨_, rfl⟩
      have H1 : Hid (Blk W1 pa [.string nm, .string op, .slice ia ins.length ic, .slice na ints.length nc, .slice ra reals.length rc] ∧ Below w.heap.size w W1 ∧ w.heap.size ≤ pa) := Lib.hid (by rw [hpa]; exact ⟨H1p.1, H1p.2, Nat.le_refl _⟩)
      rw [← hpa]
      clear hW1 H1p hpa q0 ql s0 sl
      have m0 := H1.out.1.c 0 _ rfl; have m1 := H1.out.1.c 1 _ rfl; have m2 := H1.out.1.c 2 _ rfl; have m3 := H1.out.1.c 3 _ rfl; have m4 := H1.out.1.c 4 _ rfl; have ml := H1.out.1.lt
      obtain ⟨iv, hiv⟩ : ∃ iv, iv = idV ⟨nm, op, ins, ints, reals, ia, ic, na, nc, ra, rc⟩ := ⟨_, rfl⟩
      rw [← hiv] at HSE HIV
      clear hiv
      go_upto_region 6 with (go_at_call 15; refine (HSE.out _ (HST.out.k.past (HH.out.b.trans (H1.out.2.1.mono HH.out.b.size))) (HST.out.r.past (HH.out.b.trans (H1.out.2.1.mono HH.out.b.size)))).mono ?_; rintro e W2 ⟨rfl, hb2⟩)
      have H2 := Lib.hid (And.intro (H1.out.1.past hb2) (And.intro (H1.out.2.1.trans (hb2.mono H1.out.2.1.size)) H1.out.2.2))
      clear hb2 H1 m0 m1 m2 m3 m4 ml HSE
      have HH2 := Lib.hid (HH.out.past H2.out.2.1)
      have HTN : Hid (∀ b, w.heap.size ≤ b → ¬ TS mm mk pg u b) := Lib.hid (fun b hb => TS_new (w1 := w) hb HH.out.om.lt HH.out.ok.lt HH.out.qg.lt (fun c hc => by
        obtain ⟨ns, -, hr, -⟩ := HH.out.gn
        exact hr.lt hc))
      cases hid : idS ⟨nm, op, ins, ints, reals, ia, ic, na, nc, ra, rc⟩ with
      | some q =>
        rw [hid] at HND HIV
        simp only at HND HIV
        have hq := HIL.out q hid
        have hiv0 : (0 : Int) ≤ iv := by rw [HIV.out]; omega
        obtain ⟨x, hx⟩ : ∃ x, ins[q]? = some x := ⟨_, List.getElem?_eq_getElem hq⟩
        obtain ⟨bi, oi, hia, ci⟩ := (HST.out.i.past (HH.out.b.trans (H2.out.2.1.mono HH.out.b.size))).get hx
        simp only at hia
        obtain ⟨hmj, hcall⟩ := HIH.out q x hx
        have HC1 := Lib.hid hcall
        have HIC : Hid (ins.length ≤ ic ∧ ic ≤ 9223372036854775807) := Lib.hid (by have h1 := HST.out.bi.1; have h2 := HST.out.bi.2; unfold maxLen at h2; exact ⟨h1, by simp only at h2; omega⟩)
        obtain ⟨m, hm⟩ : ∃ m, m = (posL S n j).getD q 0 := ⟨_, rfl⟩
        rw [← hm] at HC1 HND hmj
        have HMJ := Lib.hid hmj
        have HKM := Lib.hid (HKO.out s m hmj HOK.out)
        obtain ⟨T, hT⟩ : ∃ T, T = needP S n f s m := ⟨_, rfl⟩
        have HCT : Hid (Calls Tryz.prog 14 #[.string x, .pointer (some ⟨pm, 0, none⟩), .pointer (some ⟨ps, 0, none⟩), .pointer (some ⟨pn, 0, none⟩), .pointer (some ⟨pk, 0, none⟩), .pointer (some ⟨pg, 0, none⟩)] W2.drew (NdP Y w0 W2.drew pm ps pn pk pg mm ms mk S n u T)) := Lib.hid (by rw [hT]; exact HC1.out s u W2.drew Y HOK.out (fun b hb => Nat.lt_of_lt_of_le (HY.out b hb) (H2.out.2.1.drew).size) (HH2.out.past ((Below.refl _ _).drew)))
        rw [← hT] at HND HKM
        have HQI := Lib.hid (show iv = (q : Int) from HIV.out)
        subst hia
        have hqi : (q : Int) < (ins.length : Int) := by omega
        obtain ⟨hic1, hic2⟩ := HIC.out
        have HCP : Hid (∀ w', Below W2.heap.size W2 w' → w'.cell? ⟨pm, 0, none⟩ = some (.map (some mm)) ∧ w'.cell? ⟨pn, 0, none⟩ = some (.func (.func 14) #[] #[.pointer (some ⟨pm, 0, none⟩), .pointer (some ⟨ps, 0, none⟩), .pointer (some ⟨pn, 0, none⟩), .pointer (some ⟨pk, 0, none⟩), .pointer (some ⟨pg, 0, none⟩)]) ∧ w'.cell? ⟨pa, 2, none⟩ = some (.slice (some ⟨bi, oi, none⟩) ins.length ic) ∧ w'.cell? ⟨bi, oi + q, none⟩ = some (.string x)) := Lib.hid (fun w' hb => ⟨(HH2.out.qm.past hb).c 0 _ rfl, (HH2.out.qf.past hb).c 0 _ rfl, (H2.out.1.past hb).c 2 _ rfl, (hb.cell (p := ⟨bi, oi + q, none⟩) (cell_lt ci)).trans ci⟩)
        have HCX : Hid (∀ w', Below w0.heap.size w0 w' → w'.cell? ⟨bi, oi + q, none⟩ = some (.string x)) := Lib.hid (fun w' hb => by
          obtain ⟨b', o', e, hc⟩ := (HST.out.i.past hb).get hx
          simp only [Option.some.injEq, Addr.mk.injEq, and_true] at e
          obtain ⟨rfl, rfl⟩ := e
          exact hc)
        clear hx hcall hmj hm hT hid hq ci HC1 HIH
        go_upto_region 7 with fail
        try rw [HQI.out]
        refine wp_region_C (fun w' => w'.cell? ⟨pm, 0, none⟩ = some (.map (some mm)) ∧ w'.cell? ⟨pn, 0, none⟩ = some (.func (.func 14) #[] #[.pointer (some ⟨pm, 0, none⟩), .pointer (some ⟨ps, 0, none⟩), .pointer (some ⟨pn, 0, none⟩), .pointer (some ⟨pk, 0, none⟩), .pointer (some ⟨pg, 0, none⟩)]) ∧ w'.cell? ⟨pa, 2, none⟩ = some (.slice (some ⟨bi, oi, none⟩) ins.length ic) ∧ w'.cell? ⟨bi, oi + q, none⟩ = some (.string x)) 9 10 (by kernel_rfl) rfl ?_
        have hC := HCP.out W2.drew ((Below.refl _ _).drew)
        refine wpAnyC_take (i := 0) (v := .map (some mm)) rfl (by kernel_rfl) (by kernel_rfl) (fun _ _ _ h => h) (.inl ⟨rfl, fun w' hw' => ?_⟩) hC ?_
        · obtain ⟨k0, k1, k2, k3⟩ := hw'
          go_simp
        refine wpAnyC_act (by rfl) ?_
        simp only [Act.put, List.setIfInBounds_toArray, List.set_cons_zero, List.set_cons_succ]
        refine wpAnyC_take (i := 1) (v := .string nm) rfl (by kernel_rfl) (by kernel_rfl) (fun _ _ _ h => h) (.inl ⟨rfl, fun w' hw' => ?_⟩) hC ?_
        · obtain ⟨k0, k1, k2, k3⟩ := hw'
          go_simp
        refine wpAnyC_act (by rfl) ?_
        simp only [Act.put, List.setIfInBounds_toArray, List.set_cons_zero, List.set_cons_succ]
        refine wpAnyC_take (i := 2) (v := .func (.func 14) #[] #[.pointer (some ⟨pm, 0, none⟩), .pointer (some ⟨ps, 0, none⟩), .pointer (some ⟨pn, 0, none⟩), .pointer (some ⟨pk, 0, none⟩), .pointer (some ⟨pg, 0, none⟩)]) rfl (by kernel_rfl) (by kernel_rfl) (fun _ _ _ h => h) (.inl ⟨rfl, fun w' hw' => ?_⟩) hC ?_
        · obtain ⟨k0, k1, k2, k3⟩ := hw'
          go_simp
        refine wpAnyC_act (by rfl) ?_
        simp only [Act.put, List.setIfInBounds_toArray, List.set_cons_zero, List.set_cons_succ]
        refine wpAnyC_take (i := 3) (v := .pointer (some ⟨pa, 2, none⟩)) rfl (by kernel_rfl) (by kernel_rfl) (fun _ _ _ h => h) (.inl ⟨rfl, fun w' hw' => ?_⟩) hC ?_
        · obtain ⟨k0, k1, k2, k3⟩ := hw'
          go_simp
        refine wpAnyC_act (by rfl) ?_
        simp only [Act.put, List.setIfInBounds_toArray, List.set_cons_zero, List.set_cons_succ]
        refine wpAnyC_take (i := 4) (v := .slice (some ⟨bi, oi, none⟩) ins.length ic) rfl (by kernel_rfl) (by kernel_rfl) (fun _ _ _ h => h) (.inl ⟨rfl, fun w' hw' => ?_⟩) hC ?_
        · obtain ⟨k0, k1, k2, k3⟩ := hw'
          go_simp
        refine wpAnyC_act (by rfl) ?_
        simp only [Act.put, List.setIfInBounds_toArray, List.set_cons_zero, List.set_cons_succ]
        refine wpAnyC_take (i := 5) (v := .int .i64 (q : Int)) rfl (by kernel_rfl) (by kernel_rfl) (fun _ _ _ h => h) (.inl ⟨rfl, fun w' hw' => ?_⟩) hC ?_
        · obtain ⟨k0, k1, k2, k3⟩ := hw'
          go_simp
        refine wpAnyC_act (by rfl) ?_
        simp only [Act.put, List.setIfInBounds_toArray, List.set_cons_zero, List.set_cons_succ]
        refine wpAnyC_take (i := 6) (v := .pointer (some ⟨bi, oi + q, none⟩)) rfl (by kernel_rfl) (by kernel_rfl) (fun _ _ _ h => h) (.inl ⟨rfl, fun w' hw' => ?_⟩) hC ?_
        · obtain ⟨k0, k1, k2, k3⟩ := hw'
          go_simp
        refine wpAnyC_act (by rfl) ?_
        simp only [Act.put, List.setIfInBounds_toArray, List.set_cons_zero, List.set_cons_succ]
        refine wpAnyC_take (i := 7) (v := .string x) rfl (by kernel_rfl) (by kernel_rfl) (fun _ _ _ h => h) (.inl ⟨rfl, fun w' hw' => ?_⟩) hC ?_
        · obtain ⟨k0, k1, k2, k3⟩ := hw'
          go_simp
        refine wpAnyC_act (by rfl) ?_
        simp only [Act.put, List.setIfInBounds_toArray, List.set_cons_zero, List.set_cons_succ]
        refine wpAnyC_one (i := 8) rfl (by kernel_rfl) (fun K hK => ?_)
        go_simp
        go_simp
        refine HCT.out.mono ?_
        rintro e W3 ⟨u3, rfl, hg3, ht3, hu3⟩
        have H3 := Lib.hid (And.intro hg3 (And.intro ht3 hu3))
        clear hg3 ht3 hu3
        have hC3 := And.intro (H3.out.1.qm.c 0 _ rfl) (And.intro (H3.out.1.qf.c 0 _ rfl) (And.intro ((H2.out.1.drew.tch H3.out.2.1 (HTN.out pa H2.out.2.2)).c 2 _ rfl) (HCX.out _ H3.out.1.b)))
        go_simp
        refine hK _ _ (fun _ => hC3) ?_
        clear hK K hC hC3
        refine wpAnyC_one (i := 9) rfl (by kernel_rfl) (fun K hK => ?_)
        refine step_putS rfl _ _ _ 49 3 rfl Tryz.underlying49 mm _ rfl H3.out.1.om (by have := HCN.out T.1.M; unfold maxLen; omega) nm HST.out.n rfl (.int .i64 (T.2 : Int)) rfl ?_
        intro W4 hm4 hg4
        have HMT := Lib.hid (show T.1.M j = none by rw [HKM.out.far j HMJ.out]; exact HMN.out)
        have H4 := Lib.hid (HPM.out T.1 u3 W3 W4 T.2 H3.out.1 HMT.out hm4 hg4)
        clear hm4 hg4
        refine hK _ _ (fun h => by rw [getD_setSelf] at h; cases h) ?_
        clear hK K
        refine wpAnyC_done (by kernel_rfl) ?_
        refine nf_exit (fun W5 hW5 => ?_)
        have hb5 : Below W4.heap.size W4 W5 := by rw [hW5]; (repeat (first | exact Below.refl _ _ | assumption | (refine Below.setCell ?_ (by first | (simp; done) | (simp; omega) | omega) _) | (refine Below.drew ?_) | (refine below_drewN ?_ _) | (refine Below.alloc ?_ (by first | (simp; done) | (simp; omega) | omega) _) | (refine Below.trans ?_ (Below.mono (by assumption) (by first | (simp; done) | (simp; omega) | omega)))))
        have H5 := Lib.hid (H4.out.1.past hb5)
        have HB5 := Lib.hid hb5
        clear hW5 hb5
        have HV5 := Lib.hid (mdT_some (r := T.2) HG.out HJ.out (M := upM T.1.M j T.2) (by unfold upM; rw [if_pos rfl]))
        rw [HNM.out] at HV5
        have q0 := H5.out.qm.c 0 _ rfl; have ql := H5.out.qm.lt
        go_wp2_with (at_lookup; refine wpList_lookS0 rfl _ _ 49 3 rfl Tryz.underlying49 (zeroI _) mm _ rfl H5.out.om nm HST.out.n rfl ?_; rw [HV5.out.1])
        go_ret
        refine ⟨u3, by rw [HND.out]; rfl, by rw [HND.out]; exact H5.out, ?_, ?_⟩
        · have t1 : Tch (TS mm mk pg u) w W2.drew := Tch.of_below (H2.out.2.1.drew)
          have t2 := (t1.then H3.out.2.1 (fun i _ hi => hi)).then (H4.out.2.mono (T := TS mm mk pg u) (fun b _ hb => .inl hb)) (fun i _ hi => hi)
          exact t2.then (Tch.of_below (S := TS mm mk pg u) HB5.out) (fun i _ hi => hi)
        · rcases H3.out.2.2 with h | h
          · exact .inl h
          · exact .inr (fun b hb => Nat.le_trans H2.out.2.1.size (by simpa using h b hb))
      | none =>
        rw [hid] at HND HIV
        simp only at HND HIV
        have hiv0 : ¬ (0 : Int) ≤ iv := by rw [HIV.out]; omega
        have HB9 := Lib.hid (show ints.length ≤ 9 ∧ reals.length ≤ 9 ∧ ins.length ≤ 9 by have h1 := F_lens (opK_name HK.out.1).1; have h2 := HK.out.2; omega)
        have HW0 : Hid (∀ X, Below W2.heap.size W2 X → Below w0.heap.size w0 X) := Lib.hid (fun X hb => HH2.out.b.trans (hb.mono HH2.out.b.size))
        have HCP : Hid (∀ w', Below W2.heap.size W2 w' → w'.cell? ⟨pa, 1, none⟩ = some (.string op) ∧ w'.cell? ⟨pa, 3, none⟩ = some (.slice na ints.length nc) ∧ w'.cell? ⟨pa, 4, none⟩ = some (.slice ra reals.length rc)) := Lib.hid (fun w' hb => ⟨(H2.out.1.past hb).c 1 _ rfl, (H2.out.1.past hb).c 3 _ rfl, (H2.out.1.past hb).c 4 _ rfl⟩)
        clear hid
        go_upto_region 9 with fail
        clear hiv0
        obtain ⟨iI, hI0, hI1, hI2, hI3⟩ := info_parts infoIntN
        obtain ⟨iR, hR0, hR1, hR2, hR3⟩ := info_parts infoF32N
        go_cut [12] (fun s12 wx => ∃ pb aoI cpI aoR cpR, s12 = .pointer (some ⟨pb, 0, none⟩) ∧ W2.heap.size ≤ pb ∧ Below W2.heap.size W2 wx ∧ Blk wx pb [.string op, .slice none 0 0, .slice aoI ints.length cpI, .slice aoR reals.length cpR] ∧ NewRow W2.heap.size wx 1 (.slice aoI ints.length cpI) ints.length (ints.map (Value.int .i64)) ∧ NewRow W2.heap.size wx 1 (.slice aoR reals.length cpR) reals.length (reals.map (Value.float .f32)) ∧ (∀ b, (Value.slice aoI ints.length cpI).ownBlock = some b → b ≠ pb) ∧ ∀ b, (Value.slice aoR reals.length cpR).ownBlock = some b → b ≠ pb)
        case first =>
          refine wp_region_C (fun w' => w'.cell? ⟨pa, 1, none⟩ = some (.string op) ∧ w'.cell? ⟨pa, 3, none⟩ = some (.slice na ints.length nc) ∧ w'.cell? ⟨pa, 4, none⟩ = some (.slice ra reals.length rc)) 10 11 (by kernel_rfl) rfl ?_
          refine wpAnyC_worldP (fun X0 hX0 => ?_)
          have HB0 : Hid (Below W2.heap.size W2 X0) := Lib.hid (by rw [hX0]; exact (Below.refl _ _).drew)
          clear hX0
          have hC := HCP.out X0 HB0.out
          refine wpAnyC_take (i := 0) (v := .pointer (some ⟨pa, 1, none⟩)) rfl (by kernel_rfl) (by kernel_rfl) (fun _ _ _ h => h) (.inl ⟨rfl, fun w' hw' => ?_⟩) hC ?_
          · obtain ⟨k0, k1, k2⟩ := hw'
            go_simp
          refine wpAnyC_act (by rfl) ?_
          simp only [Act.put, List.setIfInBounds_toArray, List.set_cons_zero, List.set_cons_succ]
          refine wpAnyC_take (i := 1) (v := .string op) rfl (by kernel_rfl) (by kernel_rfl) (fun _ _ _ h => h) (.inl ⟨rfl, fun w' hw' => ?_⟩) hC ?_
          · obtain ⟨k0, k1, k2⟩ := hw'
            go_simp
          refine wpAnyC_act (by rfl) ?_
          simp only [Act.put, List.setIfInBounds_toArray, List.set_cons_zero, List.set_cons_succ]
          refine wpAnyC_take (i := 2) (v := .pointer (some ⟨pa, 3, none⟩)) rfl (by kernel_rfl) (by kernel_rfl) (fun _ _ _ h => h) (.inl ⟨rfl, fun w' hw' => ?_⟩) hC ?_
          · obtain ⟨k0, k1, k2⟩ := hw'
            go_simp
          refine wpAnyC_act (by rfl) ?_
          simp only [Act.put, List.setIfInBounds_toArray, List.set_cons_zero, List.set_cons_succ]
          refine wpAnyC_take (i := 3) (v := .slice na ints.length nc) rfl (by kernel_rfl) (by kernel_rfl) (fun _ _ _ h => h) (.inl ⟨rfl, fun w' hw' => ?_⟩) hC ?_
          · obtain ⟨k0, k1, k2⟩ := hw'
            go_simp
          refine wpAnyC_act (by rfl) ?_
          simp only [Act.put, List.setIfInBounds_toArray, List.set_cons_zero, List.set_cons_succ]
          refine wpAnyC_take (i := 5) (v := .pointer (some ⟨pa, 4, none⟩)) rfl (by kernel_rfl) (by kernel_rfl) (fun _ _ _ h => h) (.inl ⟨rfl, fun w' hw' => ?_⟩) hC ?_
          · obtain ⟨k0, k1, k2⟩ := hw'
            go_simp
          refine wpAnyC_act (by rfl) ?_
          simp only [Act.put, List.setIfInBounds_toArray, List.set_cons_zero, List.set_cons_succ]
          refine wpAnyC_take (i := 6) (v := .slice ra reals.length rc) rfl (by kernel_rfl) (by kernel_rfl) (fun _ _ _ h => h) (.inl ⟨rfl, fun w' hw' => ?_⟩) hC ?_
          · obtain ⟨k0, k1, k2⟩ := hw'
            go_simp
          refine wpAnyC_act (by rfl) ?_
          simp only [Act.put, List.setIfInBounds_toArray, List.set_cons_zero, List.set_cons_succ]
          clear hC
          refine wpAnyC_two' (i := 4) (j := 9) rfl rfl (by kernel_rfl) (fun K hK => ?_) (fun K hK => ?_)
          · refine step_append_any rfl (.const (.slice none 0 0)) (.tmp 48) 35 rfl Tryz.underlying35 hI0 hI1 hI2 hI3 rfl rfl na ints.length nc (ints.map (Value.int .i64)) rfl (by simp) ((HST.out.k.past (HW0.out X0 HB0.out)).row) (one_ints ints) (by have := HB9.out; unfold maxLen; omega) (by have := HB9.out; omega) ?_
            intro vI X1 hrw hbl
            obtain ⟨aoI, cpI, rfl⟩ := hrw.form
            have HB1 := Lib.hid (HB0.out.trans (hbl.mono HB0.out.size))
            have HFA := Lib.hid (hrw.mono HB0.out.size)
            clear hrw hbl
            refine hK _ _ (fun _ => HCP.out _ HB1.out) ?_
            clear hK K
            refine wpAnyC_act (by rfl) ?_
            simp only [Act.put, List.setIfInBounds_toArray, List.set_cons_zero, List.set_cons_succ]
            refine wpAnyC_two' (i := 7) (j := 9) rfl rfl (by kernel_rfl) (fun K hK => ?_) (fun K hK => ?_)
            · refine step_append_any rfl (.const (.slice none 0 0)) (.tmp 51) 36 rfl Tryz.underlying36 hR0 hR1 hR2 hR3 rfl rfl ra reals.length rc (reals.map (Value.float .f32)) rfl (by simp) ((HST.out.r.past (HW0.out X1 HB1.out)).row) (one_reals reals) (by have := HB9.out; unfold maxLen; omega) (by have := HB9.out; omega) ?_
              intro vR X2 hrw hbl
              obtain ⟨aoR, cpR, rfl⟩ := hrw.form
              have HB2 := Lib.hid (HB1.out.trans (hbl.mono HB1.out.size))
              have HFR := Lib.hid (hrw.mono HB1.out.size)
              have HFA := Lib.hid (HFA.out.past hbl)
              clear hrw hbl
              refine hK _ _ (fun _ => HCP.out _ HB2.out) ?_
              clear hK K
              refine wpAnyC_act (by rfl) ?_
              simp only [Act.put, List.setIfInBounds_toArray, List.set_cons_zero, List.set_cons_succ]
              have hC := HCP.out X2 HB2.out
              refine wpAnyC_take (i := 8) (v := .agg #[.string op, .slice none 0 0, .slice aoI ints.length cpI, .slice aoR reals.length cpR]) rfl (by kernel_rfl) (by kernel_rfl) (fun _ _ _ h => h) (.inl ⟨rfl, fun w' hw' => ?_⟩) hC ?_
              · obtain ⟨k0, k1, k2⟩ := hw'
                go_simp
              refine wpAnyC_act (by rfl) ?_
              simp only [Act.put, List.setIfInBounds_toArray, List.set_cons_zero, List.set_cons_succ]
              clear hC
              refine wpAnyC_one (i := 9) rfl (by kernel_rfl) (fun K hK => ?_)
              go_simp
              refine hK _ _ (fun _ => HCP.out _ (HB2.out.alloc HB2.out.size _)) ?_
              clear hK K
              refine wpAnyC_worldP (fun X3 hX => ?_)
              have hbl : Below X2.heap.size X2 X3 := by rw [hX]; exact (Below.refl _ _).alloc (Nat.le_refl _) _
              have hfl : Blk X3 X2.heap.size [.string ⟨#[]⟩, .slice none 0 0, .slice none 0 0, .slice none 0 0] := by rw [hX]; exact Blk.new _ _ _ _ rfl
              obtain ⟨pb, hpb⟩ : ∃ pb, pb = X2.heap.size := ⟨_, rfl⟩
              have HPB : Hid (W2.heap.size ≤ pb) := Lib.hid (by rw [hpb]; exact HB2.out.size)
              have HFL : Hid (Blk X3 pb [.string ⟨#[]⟩, .slice none 0 0, .slice none 0 0, .slice none 0 0] ∧ w.heap.size ≤ pb) := Lib.hid ⟨by rw [hpb]; exact hfl, Nat.le_trans H2.out.2.1.size HPB.out⟩
              rw [← hpb]
              have HB3 := Lib.hid (HB2.out.trans (hbl.mono HB2.out.size))
              have HNA : Hid (∀ b, (Value.slice aoI ints.length cpI).ownBlock = some b → b ≠ pb) := Lib.hid (fun b hb e => by have h1 := HFA.out.1.lt hb; omega)
              have HFA := Lib.hid (HFA.out.past hbl)
              have HNR : Hid (∀ b, (Value.slice aoR reals.length cpR).ownBlock = some b → b ≠ pb) := Lib.hid (fun b hb e => by have h1 := HFR.out.1.lt hb; omega)
              have HFR := Lib.hid (HFR.out.past hbl)
              clear hX hbl hfl hpb
              have hC := HCP.out X3 HB3.out
              have z0 := HFL.out.1.c 0 _ rfl; have z1 := HFL.out.1.c 1 _ rfl; have z2 := HFL.out.1.c 2 _ rfl; have z3 := HFL.out.1.c 3 _ rfl; have zl := HFL.out.1.lt; have zf := HFL.out.1.f
              refine wpAnyC_one (i := 10) rfl (by kernel_rfl) (fun K hK => ?_)
              go_simp
              refine hK _ _ (fun h => by rw [getD_setSelf] at h; cases h) ?_
              clear hK K hC z0 z1 z2 z3 zl zf
              refine wpAnyC_done (by kernel_rfl) ?_
              refine nf_exit (fun W6 hW6 => ?_)
              have ht6 : Tch (fun b => b = pb) X3 W6 := by rw [hW6]; exact ((((Tch.refl (fun b => b = pb) X3).set ⟨pb, 0, none⟩ (.string op) rfl).set ⟨pb, 1, none⟩ (.slice none 0 0) rfl).set ⟨pb, 2, none⟩ (.slice aoI ints.length cpI) rfl).set ⟨pb, 3, none⟩ (.slice aoR reals.length cpR) rfl
              have HX6 : Hid (Blk W6 pb [.string op, .slice none 0 0, .slice aoI ints.length cpI, .slice aoR reals.length cpR] ∧ Tch (fun b => b = pb) X3 W6) := Lib.hid ⟨by rw [hW6]; simpa using (((HFL.out.1.set 0 (.string op)).set 1 (.slice none 0 0)).set 2 (.slice aoI ints.length cpI)).set 3 (.slice aoR reals.length cpR), ht6⟩
              clear hW6 ht6
              go_wp2_with fail
              go_meet
              exact ⟨pb, aoI, cpI, aoR, cpR, rfl, HPB.out, HB3.out.trans (HX6.out.2.to_below HB3.out.size (fun b hb => by rw [hb]; exact HPB.out)), HX6.out.1, ⟨HFA.out.1.tch HX6.out.2 (fun b hb => HNA.out b hb), HFA.out.2⟩, ⟨HFR.out.1.tch HX6.out.2 (fun b hb => HNR.out b hb), HFR.out.2⟩, HNA.out, HNR.out⟩
            · go_simp
              refine hK _ _ (fun _ => HCP.out _ (HB1.out.alloc HB1.out.size _)) ?_
              clear hK K
              refine wpAnyC_worldP (fun X2 hX => ?_)
              have hbl : Below X1.heap.size X1 X2 := by rw [hX]; exact (Below.refl _ _).alloc (Nat.le_refl _) _
              have hfl : Blk X2 X1.heap.size [.string ⟨#[]⟩, .slice none 0 0, .slice none 0 0, .slice none 0 0] := by rw [hX]; exact Blk.new _ _ _ _ rfl
              obtain ⟨pb, hpb⟩ : ∃ pb, pb = X1.heap.size := ⟨_, rfl⟩
              have HPB : Hid (W2.heap.size ≤ pb) := Lib.hid (by rw [hpb]; exact HB1.out.size)
              have HFL : Hid (Blk X2 pb [.string ⟨#[]⟩, .slice none 0 0, .slice none 0 0, .slice none 0 0] ∧ w.heap.size ≤ pb) := Lib.hid ⟨by rw [hpb]; exact hfl, Nat.le_trans H2.out.2.1.size HPB.out⟩
              rw [← hpb]
              have HB2 := Lib.hid (HB1.out.trans (hbl.mono HB1.out.size))
              have HNA : Hid (∀ b, (Value.slice aoI ints.length cpI).ownBlock = some b → b ≠ pb) := Lib.hid (fun b hb e => by have h1 := HFA.out.1.lt hb; omega)
              have HFA := Lib.hid (HFA.out.past hbl)
              clear hX hbl hfl hpb
              refine wpAnyC_one (i := 7) rfl (by kernel_rfl) (fun K hK => ?_)
              refine step_append_any rfl (.const (.slice none 0 0)) (.tmp 51) 36 rfl Tryz.underlying36 hR0 hR1 hR2 hR3 rfl rfl ra reals.length rc (reals.map (Value.float .f32)) rfl (by simp) ((HST.out.r.past (HW0.out X2 HB2.out)).row) (one_reals reals) (by have := HB9.out; unfold maxLen; omega) (by have := HB9.out; omega) ?_
              intro vR X3 hrw hbl
              obtain ⟨aoR, cpR, rfl⟩ := hrw.form
              have HB3 := Lib.hid (HB2.out.trans (hbl.mono HB2.out.size))
              have HFR := Lib.hid (hrw.mono HB2.out.size)
              have HNR : Hid (∀ b, (Value.slice aoR reals.length cpR).ownBlock = some b → b ≠ pb) := Lib.hid (fun b hb e => by have h1 := hrw.2 b hb; have h2 := HFL.out.1.lt; omega)
              have HFL := Lib.hid (And.intro (HFL.out.1.past hbl) HFL.out.2)
              have HFA := Lib.hid (HFA.out.past hbl)
              clear hrw hbl
              refine hK _ _ (fun _ => HCP.out _ HB3.out) ?_
              clear hK K
              refine wpAnyC_act (by rfl) ?_
              simp only [Act.put, List.setIfInBounds_toArray, List.set_cons_zero, List.set_cons_succ]
              have hC := HCP.out X3 HB3.out
              refine wpAnyC_take (i := 8) (v := .agg #[.string op, .slice none 0 0, .slice aoI ints.length cpI, .slice aoR reals.length cpR]) rfl (by kernel_rfl) (by kernel_rfl) (fun _ _ _ h => h) (.inl ⟨rfl, fun w' hw' => ?_⟩) hC ?_
              · obtain ⟨k0, k1, k2⟩ := hw'
                go_simp
              refine wpAnyC_act (by rfl) ?_
              simp only [Act.put, List.setIfInBounds_toArray, List.set_cons_zero, List.set_cons_succ]
              clear hC
              have hC := HCP.out X3 HB3.out
              have z0 := HFL.out.1.c 0 _ rfl; have z1 := HFL.out.1.c 1 _ rfl; have z2 := HFL.out.1.c 2 _ rfl; have z3 := HFL.out.1.c 3 _ rfl; have zl := HFL.out.1.lt; have zf := HFL.out.1.f
              refine wpAnyC_one (i := 10) rfl (by kernel_rfl) (fun K hK => ?_)
              go_simp
              refine hK _ _ (fun h => by rw [getD_setSelf] at h; cases h) ?_
              clear hK K hC z0 z1 z2 z3 zl zf
              refine wpAnyC_done (by kernel_rfl) ?_
              refine nf_exit (fun W6 hW6 => ?_)
              have ht6 : Tch (fun b => b = pb) X3 W6 := by rw [hW6]; exact ((((Tch.refl (fun b => b = pb) X3).set ⟨pb, 0, none⟩ (.string op) rfl).set ⟨pb, 1, none⟩ (.slice none 0 0) rfl).set ⟨pb, 2, none⟩ (.slice aoI ints.length cpI) rfl).set ⟨pb, 3, none⟩ (.slice aoR reals.length cpR) rfl
              have HX6 : Hid (Blk W6 pb [.string op, .slice none 0 0, .slice aoI ints.length cpI, .slice aoR reals.length cpR] ∧ Tch (fun b => b = pb) X3 W6) := Lib.hid ⟨by rw [hW6]; simpa using (((HFL.out.1.set 0 (.string op)).set 1 (.slice none 0 0)).set 2 (.slice aoI ints.length cpI)).set 3 (.slice aoR reals.length cpR), ht6⟩
              clear hW6 ht6
              go_wp2_with fail
              go_meet
              exact ⟨pb, aoI, cpI, aoR, cpR, rfl, HPB.out, HB3.out.trans (HX6.out.2.to_below HB3.out.size (fun b hb => by rw [hb]; exact HPB.out)), HX6.out.1, ⟨HFA.out.1.tch HX6.out.2 (fun b hb => HNA.out b hb), HFA.out.2⟩, ⟨HFR.out.1.tch HX6.out.2 (fun b hb => HNR.out b hb), HFR.out.2⟩, HNA.out, HNR.out⟩
          · go_simp
            refine hK _ _ (fun _ => HCP.out _ (HB0.out.alloc HB0.out.size _)) ?_
            clear hK K
            refine wpAnyC_worldP (fun X1 hX => ?_)
            have hbl : Below X0.heap.size X0 X1 := by rw [hX]; exact (Below.refl _ _).alloc (Nat.le_refl _) _
            have hfl : Blk X1 X0.heap.size [.string ⟨#[]⟩, .slice none 0 0, .slice none 0 0, .slice none 0 0] := by rw [hX]; exact Blk.new _ _ _ _ rfl
            obtain ⟨pb, hpb⟩ : ∃ pb, pb = X0.heap.size := ⟨_, rfl⟩
            have HPB : Hid (W2.heap.size ≤ pb) := Lib.hid (by rw [hpb]; exact HB0.out.size)
            have HFL : Hid (Blk X1 pb [.string ⟨#[]⟩, .slice none 0 0, .slice none 0 0, .slice none 0 0] ∧ w.heap.size ≤ pb) := Lib.hid ⟨by rw [hpb]; exact hfl, Nat.le_trans H2.out.2.1.size HPB.out⟩
            rw [← hpb]
            have HB1 := Lib.hid (HB0.out.trans (hbl.mono HB0.out.size))
            clear hX hbl hfl hpb
            refine wpAnyC_one (i := 4) rfl (by kernel_rfl) (fun K hK => ?_)
            refine step_append_any rfl (.const (.slice none 0 0)) (.tmp 48) 35 rfl Tryz.underlying35 hI0 hI1 hI2 hI3 rfl rfl na ints.length nc (ints.map (Value.int .i64)) rfl (by simp) ((HST.out.k.past (HW0.out X1 HB1.out)).row) (one_ints ints) (by have := HB9.out; unfold maxLen; omega) (by have := HB9.out; omega) ?_
            intro vI X2 hrw hbl
            obtain ⟨aoI, cpI, rfl⟩ := hrw.form
            have HB2 := Lib.hid (HB1.out.trans (hbl.mono HB1.out.size))
            have HFA := Lib.hid (hrw.mono HB1.out.size)
            have HNA : Hid (∀ b, (Value.slice aoI ints.length cpI).ownBlock = some b → b ≠ pb) := Lib.hid (fun b hb e => by have h1 := hrw.2 b hb; have h2 := HFL.out.1.lt; omega)
            have HFL := Lib.hid (And.intro (HFL.out.1.past hbl) HFL.out.2)
            clear hrw hbl
            refine hK _ _ (fun _ => HCP.out _ HB2.out) ?_
            clear hK K
            refine wpAnyC_act (by rfl) ?_
            simp only [Act.put, List.setIfInBounds_toArray, List.set_cons_zero, List.set_cons_succ]
            refine wpAnyC_one (i := 7) rfl (by kernel_rfl) (fun K hK => ?_)
            refine step_append_any rfl (.const (.slice none 0 0)) (.tmp 51) 36 rfl Tryz.underlying36 hR0 hR1 hR2 hR3 rfl rfl ra reals.length rc (reals.map (Value.float .f32)) rfl (by simp) ((HST.out.r.past (HW0.out X2 HB2.out)).row) (one_reals reals) (by have := HB9.out; unfold maxLen; omega) (by have := HB9.out; omega) ?_
            intro vR X3 hrw hbl
            obtain ⟨aoR, cpR, rfl⟩ := hrw.form
            have HB3 := Lib.hid (HB2.out.trans (hbl.mono HB2.out.size))
            have HFR := Lib.hid (hrw.mono HB2.out.size)
            have HNR : Hid (∀ b, (Value.slice aoR reals.length cpR).ownBlock = some b → b ≠ pb) := Lib.hid (fun b hb e => by have h1 := hrw.2 b hb; have h2 := HFL.out.1.lt; omega)
            have HFL := Lib.hid (And.intro (HFL.out.1.past hbl) HFL.out.2)
            have HFA := Lib.hid (HFA.out.past hbl)
            clear hrw hbl
            refine hK _ _ (fun _ => HCP.out _ HB3.out) ?_
            clear hK K
            refine wpAnyC_act (by rfl) ?_
            simp only [Act.put, List.setIfInBounds_toArray, List.set_cons_zero, List.set_cons_succ]
            have hC := HCP.out X3 HB3.out
            refine wpAnyC_take (i := 8) (v := .agg #[.string op, .slice none 0 0, .slice aoI ints.length cpI, .slice aoR reals.length cpR]) rfl (by kernel_rfl) (by kernel_rfl) (fun _ _ _ h => h) (.inl ⟨rfl, fun w' hw' => ?_⟩) hC ?_
            · obtain ⟨k0, k1, k2⟩ := hw'
              go_simp
            refine wpAnyC_act (by rfl) ?_
            simp only [Act.put, List.setIfInBounds_toArray, List.set_cons_zero, List.set_cons_succ]
            clear hC
            have hC := HCP.out X3 HB3.out
            have z0 := HFL.out.1.c 0 _ rfl; have z1 := HFL.out.1.c 1 _ rfl; have z2 := HFL.out.1.c 2 _ rfl; have z3 := HFL.out.1.c 3 _ rfl; have zl := HFL.out.1.lt; have zf := HFL.out.1.f
            refine wpAnyC_one (i := 10) rfl (by kernel_rfl) (fun K hK => ?_)
            go_simp
            refine hK _ _ (fun h => by rw [getD_setSelf] at h; cases h) ?_
            clear hK K hC z0 z1 z2 z3 zl zf
            refine wpAnyC_done (by kernel_rfl) ?_
            refine nf_exit (fun W6 hW6 => ?_)
            have ht6 : Tch (fun b => b = pb) X3 W6 := by rw [hW6]; exact ((((Tch.refl (fun b => b = pb) X3).set ⟨pb, 0, none⟩ (.string op) rfl).set ⟨pb, 1, none⟩ (.slice none 0 0) rfl).set ⟨pb, 2, none⟩ (.slice aoI ints.length cpI) rfl).set ⟨pb, 3, none⟩ (.slice aoR reals.length cpR) rfl
            have HX6 : Hid (Blk W6 pb [.string op, .slice none 0 0, .slice aoI ints.length cpI, .slice aoR reals.length cpR] ∧ Tch (fun b => b = pb) X3 W6) := Lib.hid ⟨by rw [hW6]; simpa using (((HFL.out.1.set 0 (.string op)).set 1 (.slice none 0 0)).set 2 (.slice aoI ints.length cpI)).set 3 (.slice aoR reals.length cpR), ht6⟩
            clear hW6 ht6
            go_wp2_with fail
            go_meet
            exact ⟨pb, aoI, cpI, aoR, cpR, rfl, HPB.out, HB3.out.trans (HX6.out.2.to_below HB3.out.size (fun b hb => by rw [hb]; exact HPB.out)), HX6.out.1, ⟨HFA.out.1.tch HX6.out.2 (fun b hb => HNA.out b hb), HFA.out.2⟩, ⟨HFR.out.1.tch HX6.out.2 (fun b hb => HNR.out b hb), HFR.out.2⟩, HNA.out, HNR.out⟩
        case rest =>
          obtain ⟨pb, aoI, cpI, aoR, cpR, rfl, hpb, hb6, hk6, hri, hrr, hni, hnr⟩ := hcut
          have HLP : Hid (LpI Y w0 w pm ps pn pk pg mm ms mk S n u pa pb [.string nm, .string op, .slice ia ins.length ic, .slice na ints.length nc, .slice ra reals.length rc] op (.slice aoI ints.length cpI) (.slice aoR reals.length cpR) ints.length reals.length (ints.map (Value.int .i64)) (reals.map (Value.float .f32)) (fun b => Y b ∨ (w.heap.size ≤ b ∧ b < wc.heap.size)) wc s [] (.slice none 0 0) u) := Lib.hid (by
            have hbw := H2.out.2.1.trans (hb6.mono H2.out.2.1.size)
            have h0 := HH.out
            have hul : ∀ b, u.ownBlock = some b → b < w.heap.size := fun b hb => by obtain ⟨ns, -, hr, -⟩ := h0.gn; exact hr.lt hb
            have hpa := (H2.out.1.past hb6).lt
            have hpa2 := H2.out.1.lt
            have h2s := H2.out.2.1.size
            have hpb2 := hk6.lt
            refine ⟨(h0.weak (Y' := fun b => Y b ∨ (w.heap.size ≤ b ∧ b < wc.heap.size)) (fun b hb hx => by rcases hx with hx | hx; exact hx; omega) (fun b hb hx => by rcases hx with hx | hx; exact (h0.su b hb).2.1 hx; have := hul b hb; omega)).past hbw, fun b hb => ?_, fun b hb => .inl hb, fun b hb => ?_, H2.out.1.past hb6, hk6, NewRow.nil _ _ _, hri.mono h2s, hrr.mono h2s, fun b hb => by simp [Value.ownBlock] at hb, fun b hb => ?_, by omega, Tch.of_below hbw, .inl rfl, fun b hb => ?_, h0.b.size⟩
            · rcases hb with hb | hb
              · exact Nat.lt_of_lt_of_le (HY.out b hb) hbw.size
              · exact hb.2
            · rcases hb with e | e | e | e | e
              · rw [e]; exact ⟨.inr ⟨H2.out.2.2, hpa⟩, H2.out.2.2⟩
              · rw [e]; exact ⟨.inr ⟨by omega, hpb2⟩, by omega⟩
              · exact ⟨.inr ⟨Nat.le_trans h2s (hri.2 b e), hri.1.lt e⟩, Nat.le_trans h2s (hri.2 b e)⟩
              · exact ⟨.inr ⟨Nat.le_trans h2s (hrr.2 b e), hrr.1.lt e⟩, Nat.le_trans h2s (hrr.2 b e)⟩
              · simp [Value.ownBlock] at e
            · rcases hb with e | e
              · exact hni b e
              · exact hnr b e
            · rcases hb with e | e | e | e | e | e | e | e <;> rw [e]
              · exact h0.qm.lt
              · exact h0.qs.lt
              · exact h0.qf.lt
              · exact h0.qk.lt
              · exact h0.qg.lt
              · exact h0.om.lt
              · exact h0.os.lt
              · exact h0.ok.lt)
          have HTO := Lib.hid (fun t ht => needT_ok HG.out f j s (by have := HJF.out; omega) HJ.out HOK.out t ht)
          rw [HINL.out] at HTO
          obtain ⟨TT, hTT⟩ : ∃ TT : Nat → PS × List Int, TT = fun t => needT (needP S n f) (posL S n j) t s := ⟨_, rfl⟩
          have HT0 : Hid (TT 0 = (s, [])) := Lib.hid (by rw [hTT]; rfl)
          have HTS : Hid (∀ t, TT (t + 1) = ((needP S n f (TT t).1 ((posL S n j).getD t 0)).1, (TT t).2 ++ [((needP S n f (TT t).1 ((posL S n j).getD t 0)).2 : Int)])) := Lib.hid (fun t => by rw [hTT]; rfl)
          have HTO2 : Hid (∀ t, t ≤ ins.length → OkP n (TT t).1 ∧ (∀ i, j ≤ i → (TT t).1.M i = s.M i) ∧ (TT t).2.length = t ∧ ∀ u ∈ (TT t).2, 0 ≤ u ∧ u < 100) := Lib.hid (by rw [hTT]; exact HTO.out)
          rw [HPL.out] at HND
          have HND2 : Hid (needP S n (f + 1) s j = putP (TT ins.length).1 j (nodeP S j (TT ins.length).2)) := Lib.hid (by rw [HND.out, hTT])
          clear hTT HTO HND hpb hb6 hk6 hri hrr hni hnr hI0 hI1 hI2 hI3 hR0 hR1 hR2 hR3 HCP HW0
          have m2 := HLP.out.a.c 2 _ rfl; have ml := HLP.out.a.lt
          go_wp2_with fail
          clear m2 ml
          go_loopw [57] (fun s57 wr => ∃ t : Nat, t ≤ ins.length ∧ s57 = .int .i64 t ∧ ∃ Yt vN uT, LpI Y w0 w pm ps pn pk pg mm ms mk S n u pa pb [.string nm, .string op, .slice ia ins.length ic, .slice na ints.length nc, .slice ra reals.length rc] op (.slice aoI ints.length cpI) (.slice aoR reals.length cpR) ints.length reals.length (ints.map (Value.int .i64)) (reals.map (Value.float .f32)) Yt wr (TT t).1 (TT t).2 vN uT) (fun s57 _ => ins.length - (intOf s57).toNat)
          case atStart => exact ⟨0, Nat.zero_le _, rfl, _, _, _, by rw [HT0.out]; exact HLP.out⟩
          case round =>
            obtain ⟨t, ht, rfl, Yt, vN, uT, hlp⟩ := hrel
            have HLT := Lib.hid hlp
            clear hlp
            by_cases htl : t < ins.length
            · have hti : (t : Int) < (ins.length : Int) := by omega
              obtain ⟨x, hx⟩ : ∃ x, ins[t]? = some x := ⟨_, List.getElem?_eq_getElem htl⟩
              obtain ⟨bi, oi, hia, ci⟩ := (HST.out.i.past HLT.out.g.b).get hx
              simp only at hia
              subst hia
              obtain ⟨hmj, hcall⟩ := HIH.out t x hx
              have HC1 := Lib.hid hcall
              have hic1 : ins.length ≤ ic := HST.out.bi.1
              have hic2 : ic ≤ 9223372036854775807 := by have h2 := HST.out.bi.2; unfold maxLen at h2; simp only at h2; omega
              have li := cell_lt ci; simp only at li
              obtain ⟨m, hm⟩ : ∃ m, m = (posL S n j).getD t 0 := ⟨_, rfl⟩
              have HTT := Lib.hid (HTS.out t)
              rw [← hm] at HC1 HTT
              have HOT := Lib.hid (HTO2.out t ht).1
              have HLN := Lib.hid (HTO2.out t ht).2.2.1
              obtain ⟨sT, hsT⟩ : ∃ sT, sT = (TT t).1 := ⟨_, rfl⟩
              obtain ⟨l, hl⟩ : ∃ l, l = (TT t).2 := ⟨_, rfl⟩
              rw [← hsT] at HTT HOT HLT
              rw [← hl] at HTT HLN HLT
              have HKM := Lib.hid (HKO.out sT m (by rw [hm]; exact hmj) HOT.out)
              obtain ⟨R, hR⟩ : ∃ R, R = needP S n f sT m := ⟨_, rfl⟩
              have HCT : Hid (∀ X, Below wr.heap.size wr X → Calls Tryz.prog 14 #[.string x, .pointer (some ⟨pm, 0, none⟩), .pointer (some ⟨ps, 0, none⟩), .pointer (some ⟨pn, 0, none⟩), .pointer (some ⟨pk, 0, none⟩), .pointer (some ⟨pg, 0, none⟩)] X (NdP Yt w0 X pm ps pn pk pg mm ms mk S n uT R)) := Lib.hid (fun X hb => by rw [hR]; exact HC1.out sT uT X Yt HOT.out (fun b hb2 => Nat.lt_of_lt_of_le (HLT.out.yl b hb2) hb.size) (HLT.out.g.past hb))
              rw [← hR] at HTT HKM
              clear hx hcall hmj hm hsT hl hR HC1
              go_upto_region 13 with fail
              clear ci li
              refine wp_region_C (fun w' => w'.cell? ⟨pb, 1, none⟩ = some vN ∧ w'.cell? ⟨pn, 0, none⟩ = some (.func (.func 14) #[] #[.pointer (some ⟨pm, 0, none⟩), .pointer (some ⟨ps, 0, none⟩), .pointer (some ⟨pn, 0, none⟩), .pointer (some ⟨pk, 0, none⟩), .pointer (some ⟨pg, 0, none⟩)])) 8 9 (by kernel_rfl) rfl ?_
              refine wpAnyC_worldP (fun X0 hX0 => ?_)
              have HX0 : Hid (Below wr.heap.size wr X0) := Lib.hid (by rw [hX0]; exact (Below.refl _ _).drew)
              clear hX0
              have HL0 := Lib.hid (HLT.out.past HX0.out)
              have hC := And.intro (HL0.out.b.c 1 _ rfl) (HL0.out.g.qf.c 0 _ rfl)
              refine wpAnyC_take (i := 0) (v := .pointer (some ⟨pb, 1, none⟩)) rfl (by kernel_rfl) (by kernel_rfl) (fun _ _ _ h => h) (.inl ⟨rfl, fun w' hw' => ?_⟩) hC ?_
              · obtain ⟨k0, k1⟩ := hw'
                go_simp
              refine wpAnyC_act (by rfl) ?_
              simp only [Act.put, List.setIfInBounds_toArray, List.set_cons_zero, List.set_cons_succ]
              refine wpAnyC_take (i := 1) (v := vN) rfl (by kernel_rfl) (by kernel_rfl) (fun _ _ _ h => h) (.inl ⟨rfl, fun w' hw' => ?_⟩) hC ?_
              · obtain ⟨k0, k1⟩ := hw'
                go_simp
              refine wpAnyC_act (by rfl) ?_
              simp only [Act.put, List.setIfInBounds_toArray, List.set_cons_zero, List.set_cons_succ]
              refine wpAnyC_take (i := 2) (v := .func (.func 14) #[] #[.pointer (some ⟨pm, 0, none⟩), .pointer (some ⟨ps, 0, none⟩), .pointer (some ⟨pn, 0, none⟩), .pointer (some ⟨pk, 0, none⟩), .pointer (some ⟨pg, 0, none⟩)]) rfl (by kernel_rfl) (by kernel_rfl) (fun _ _ _ h => h) (.inl ⟨rfl, fun w' hw' => ?_⟩) hC ?_
              · obtain ⟨k0, k1⟩ := hw'
                go_simp
              refine wpAnyC_act (by rfl) ?_
              simp only [Act.put, List.setIfInBounds_toArray, List.set_cons_zero, List.set_cons_succ]
              refine wpAnyC_take (i := 3) (v := .string x) rfl (by kernel_rfl) (by kernel_rfl) (fun _ _ _ h => h) (.inl ⟨rfl, fun w' hw' => ?_⟩) hC ?_
              · obtain ⟨k0, k1⟩ := hw'
                go_simp
              refine wpAnyC_act (by rfl) ?_
              simp only [Act.put, List.setIfInBounds_toArray, List.set_cons_zero, List.set_cons_succ]
              clear hC
              refine wpAnyC_one (i := 4) rfl (by kernel_rfl) (fun K hK => ?_)
              go_simp
              go_simp
              refine (HCT.out X0 HX0.out).mono ?_
              rintro e W7 ⟨u7, rfl, hg7, ht7, hu7⟩
              have HL7 := Lib.hid (HL0.out.call hg7 ht7 hu7)
              clear hg7 ht7 hu7 HCT
              have hC7 := And.intro (HL7.out.b.c 1 _ rfl) (HL7.out.g.qf.c 0 _ rfl)
              go_simp
              refine hK _ _ (fun _ => hC7) ?_
              clear hK K hC7
              refine wpAnyC_one (i := 5) rfl (by kernel_rfl) (fun K hK => ?_)
              go_simp
              refine hK _ _ (fun _ => And.intro ((HL7.out.b.alloc _).c 1 _ rfl) ((HL7.out.g.qf.alloc _).c 0 _ rfl)) ?_
              clear hK K
              refine wpAnyC_worldP (fun X8 hX8 => ?_)
              have hb8 : Below W7.heap.size W7 X8 := by rw [hX8]; exact (Below.refl _ _).alloc (Nat.le_refl _) _
              have HN8 : Hid (Blk X8 W7.heap.size [.int .i64 (R.2 : Int)]) := Lib.hid (by rw [hX8]; exact Blk.new _ _ _ _ rfl)
              have HL8 := Lib.hid (HL7.out.past hb8)
              clear hX8 hb8
              obtain ⟨iI, hI0, hI1, hI2, hI3⟩ := info_parts infoIntN
              refine wpAnyC_one (i := 6) rfl (by kernel_rfl) (fun K hK => ?_)
              refine step_append_row rfl (.tmp 62) (.tmp 66) 35 rfl Tryz.underlying35 hI0 hI1 hI2 hI3 rfl (by decide) (v := vN) rfl HL8.out.v.1 ⟨W7.heap.size, 0, none⟩ 1 [.int .i64 (R.2 : Int)] rfl rfl (fun q v hv => by rw [Addr.add_lit, Nat.zero_add]; exact HN8.out.c q v hv) (fun v hv => by rw [List.mem_singleton.1 hv]; rfl) (by have h1 := HB9.out; have h2 := HLN.out; unfold maxLen; omega) (by have h1 := HB9.out; have h2 := HLN.out; omega) ?_
              intro ao9 cp9 W9 hr9 hg9 ho9
              have ht9 : Tch (fun b => vN.ownBlock = some b) X8 W9 := Tch.of_grown hg9 (fun b hb => hb)
              have hpb9 := HL8.out.b.tch ht9 (fun e => (HL8.out.z pb e).2.1 rfl)
              have hpn9 := HL8.out.g.qf.tch ht9 (fun e => by have h1 := (HL8.out.yc pn (.inr (.inr (.inr (.inr e))))).2; have h2 := HL8.out.fx pn (.inr (.inr (.inl rfl))); omega)
              have HP9 := Lib.hid (And.intro hpb9 hpn9)
              have HR9 := Lib.hid (And.intro hr9 (And.intro hg9 ho9))
              clear ht9 hpb9 hpn9 hr9 hg9 ho9 hI0 hI1 hI2 hI3
              have hC9 := And.intro (HP9.out.1.c 1 _ rfl) (HP9.out.2.c 0 _ rfl)
              refine hK _ _ (fun _ => hC9) ?_
              clear hK K
              refine wpAnyC_act (by rfl) ?_
              simp only [Act.put, List.setIfInBounds_toArray, List.set_cons_zero, List.set_cons_succ]
              have hC := hC9
              refine wpAnyC_take (i := 7) (v := .pointer (some ⟨pb, 1, none⟩)) rfl (by kernel_rfl) (by kernel_rfl) (fun _ _ _ h => h) (.inl ⟨rfl, fun w' hw' => ?_⟩) hC ?_
              · obtain ⟨k0, k1⟩ := hw'
                go_simp
              refine wpAnyC_act (by rfl) ?_
              simp only [Act.put, List.setIfInBounds_toArray, List.set_cons_zero, List.set_cons_succ]
              clear hC hC9
              have z1 := HP9.out.1.c 1 _ rfl; have zl := HP9.out.1.lt; have zf := HP9.out.1.f
              refine wpAnyC_one (i := 8) rfl (by kernel_rfl) (fun K hK => ?_)
              go_simp
              refine hK _ _ (fun h => by rw [getD_setSelf] at h; cases h) ?_
              clear hK K z1 zl zf
              refine wpAnyC_done (by kernel_rfl) ?_
              refine nf_any (fun W10 hW10 => ?_)
              obtain ⟨Yt', hl10⟩ := HL8.out.app HR9.out.1 HR9.out.2.1 HR9.out.2.2 hW10
              have HL10 := Lib.hid hl10
              clear hl10 hW10
              go_wp2_with fail
              go_roundw
              case rel => exact ⟨t + 1, by omega, by go_num, Yt', _, _, by rw [HTT.out]; exact HL10.out⟩
              case measure => simp [intOf] <;> omega
            · have hti : ¬ (t : Int) < (ins.length : Int) := by omega
              obtain rfl : t = ins.length := by omega
              have HLN := Lib.hid (HTO2.out _ (Nat.le_refl _)).2.2.1
              have HLM := Lib.hid (show (TT ins.length).1.M j = none by rw [(HTO2.out _ (Nat.le_refl _)).2.1 j (Nat.le_refl _)]; exact HMN.out)
              have HLU := Lib.hid (HTO2.out _ (Nat.le_refl _)).2.2.2
              have HLO := Lib.hid (HTO2.out _ (Nat.le_refl _)).1
              rw [HNP.out] at HND2
              obtain ⟨sT, hsT⟩ : ∃ sT, sT = (TT ins.length).1 := ⟨_, rfl⟩
              obtain ⟨l, hl⟩ : ∃ l, l = (TT ins.length).2 := ⟨_, rfl⟩
              rw [← hsT] at HND2 HLT HLM HLO
              rw [← hl] at HND2 HLT HLN HLU
              clear hsT hl HTS HT0 HTO2 HLP
              obtain ⟨aoN, cpN, rfl⟩ := HLT.out.v.form
              have HPUT := Lib.hid (show putP sT j ⟨op, l, ints, reals⟩ = match idxT (keyT ⟨op, l, ints, reals⟩) sT.G with | some i => (⟨sT.G, upM sT.M j i⟩, i) | none => (⟨sT.G ++ [⟨op, l, ints, reals⟩], upM sT.M j sT.G.length⟩, sT.G.length) from rfl)
              obtain ⟨WT, hWT⟩ : ∃ WT, WT = bs (wordT l ints reals) := ⟨_, rfl⟩
              have hWS : WT.size ≤ 1000 := by
                rw [hWT, Lib.size_eq, bs_data]
                have h1 := numT_len (is := ints) (rs := reals) HST.out.kb
                have h2 := flatL_len intW 22 l (fun x hx => intW_len (by have := HLU.out x hx; unfold Int64; omega))
                have h3 := HB9.out
                have h4 := HLN.out
                show (wordT l ints reals).length ≤ 1000
                unfold wordT
                rw [List.length_append]
                omega
              have HWD : Hid (∀ w', Below wr.heap.size wr w' → Calls Tryz.prog 16 #[.agg #[.string op, .slice aoN l.length cpN, .slice aoI ints.length cpI, .slice aoR reals.length cpR]] w' fun e w'' => e = .returned (.string WT) ∧ Below w'.heap.size w' w'') := Lib.hid (fun w' hb => by
                rw [hWT]
                have h3 := HB9.out
                have h4 := HLN.out
                exact words_any op aoN aoI aoR l.length cpN ints.length cpI reals.length cpR l ints reals w' (HL.out.past (HLT.out.g.b.trans (hb.mono HLT.out.g.b.size))) rfl rfl rfl (by omega) (by omega) (by omega) (HLT.out.v.past hb).ints.zero (HLT.out.i.past hb).ints.zero ((HLT.out.r.past hb).reals.mono (Nat.zero_le _)) (fun i hi => by have := HLU.out i hi; unfold Int64; omega) HST.out.kb)
              have HKEY : Hid ((op ++ WT).data.toList = keyT ⟨op, l, ints, reals⟩) := Lib.hid (by rw [Go.Joins.data_append, hWT, bs_data]; rfl)
              have hops : op.size ≤ 8 := by
                obtain ⟨hk27, hop⟩ := opK_name HK.out.1
                rw [Lib.size_eq, hop, bs_data]; exact (F_small hk27).1
              have HKZ : Hid ((op ++ WT).size ≤ maxLen) := Lib.hid (by rw [ByteArray.size_append]; unfold maxLen; omega)
              have q1 : ¬ 9223372036854775807 < op.size + WT.size := by omega
              clear hWT
              have a1 := HLT.out.a.c 1 _ rfl; have al := HLT.out.a.lt
              have b0 := HLT.out.b.c 0 _ rfl; have b1 := HLT.out.b.c 1 _ rfl; have b2 := HLT.out.b.c 2 _ rfl; have b3 := HLT.out.b.c 3 _ rfl; have bl := HLT.out.b.lt
              go_upto_region 15 with fail
              refine wp_region_loose 5 (fun _ _ u => u = .string WT) (by kernel_rfl) (by kernel_rfl) ?_
              simp only [List.take_succ_cons, List.take_zero, List.drop_succ_cons, List.drop_zero]
              iterate 3 (refine loose_wanted rfl (fun K hK => ?_); go_simp; refine hK _ ?_; clear hK K)
              refine loose_step rfl (fun K hK => ?_)
              go_simp
              refine ⟨fun p => (HWD.out p.w p.h).mono ?_, ?_⟩
              · rintro e w' ⟨rfl, hb⟩
                exact ⟨_, rfl, rfl, p.h.trans (hb.mono p.h.size)⟩
              refine hK _ ?_
              clear hK K
              (refine loose_wanted rfl (fun K hK => ?_); go_simp; refine hK _ ?_; clear hK K)
              refine loose_nil (fun X hX => ?_)
              have HLX := Lib.hid (HLT.out.past hX)
              clear hX a1 al b0 b1 b2 b3 bl HWD HLT
              have HGX := Lib.hid HLX.out.give
              have k0 := HGX.out.qk.c 0 _ rfl; have kl := HGX.out.qk.lt
              have q0 := HGX.out.qm.c 0 _ rfl; have ql := HGX.out.qm.lt
              have HLG := Lib.hid HLO.out.len
              cases hx : idxT (keyT ⟨op, l, ints, reals⟩) sT.G with
              | some i0 =>
                have HVK : Hid ((knS sT.G (op ++ WT).data.toList).getD (.int .i64 0) = .int .i64 (i0 : Int) ∧ (knS sT.G (op ++ WT).data.toList).isSome = true) := Lib.hid (by rw [HKEY.out]; unfold knS; rw [hx]; exact ⟨rfl, rfl⟩)
                have HR : Hid (needP S n (f + 1) s j = (⟨sT.G, upM sT.M j i0⟩, i0)) := Lib.hid (by rw [HND2.out, HPUT.out, hx])
                clear hx HPUT HND2
                go_wp2_with (first | (at_lookup; refine wpList_lookS1 rfl _ _ 49 3 rfl Tryz.underlying49 (zeroI _) mk _ rfl HGX.out.ok (op ++ WT) HKZ.out rfl ?_; rw [HVK.out.1, HVK.out.2]) | (at_mapUpdate; refine wpList_putS rfl _ _ _ 49 3 rfl Tryz.underlying49 mm _ rfl HGX.out.om (by have := HCN.out sT.M; unfold maxLen; omega) nm HST.out.n rfl (.int .i64 (i0 : Int)) rfl ?_; intro W9 hm9 hg9))
                go_ret
                have h9 := HPM.out sT uT X W9 i0 HGX.out HLM.out hm9 hg9
                exact ⟨uT, by rw [HR.out]; rfl, by rw [HR.out]; exact h9.1, HLX.out.t.then (h9.2.mono (T := TS mm mk pg u) (fun _ _ e => .inl e)) (fun _ _ e => e), HLX.out.o⟩
              | none =>
                have HVK : Hid ((knS sT.G (op ++ WT).data.toList).getD (.int .i64 0) = .int .i64 0 ∧ (knS sT.G (op ++ WT).data.toList).isSome = false) := Lib.hid (by rw [HKEY.out]; unfold knS; rw [hx]; exact ⟨rfl, rfl⟩)
                have HR : Hid (needP S n (f + 1) s j = (⟨sT.G ++ [⟨op, l, ints, reals⟩], upM sT.M j sT.G.length⟩, sT.G.length)) := Lib.hid (by rw [HND2.out, HPUT.out, hx])
                have HXN := Lib.hid hx
                obtain ⟨ns, hn1, hn2, -⟩ := HGX.out.gn
                obtain ⟨aoU, cpU, rfl⟩ : ∃ a c, uT = .slice a sT.G.length c := by obtain ⟨-, a, c, e, -⟩ := hn2; exact ⟨a, c, e⟩
                have HNS := Lib.hid (And.intro hn1 hn2)
                have HG100 := Lib.hid (show sT.G.length ≤ 100 from Nat.le_trans HLG.out HG.out.le)
                clear hx HPUT HND2 hn1 hn2
                have g0 := HGX.out.qg.c 0 _ rfl; have gl := HGX.out.qg.lt
                have hub : (sT.G.length : Int) ≤ 100 := by have := HG100.out; omega
                go_upto_region 20 with (first | (at_lookup; refine wpList_lookS1 rfl _ _ 49 3 rfl Tryz.underlying49 (zeroI _) mk _ rfl HGX.out.ok (op ++ WT) HKZ.out rfl ?_; rw [HVK.out.1, HVK.out.2]) | (at_mapUpdate; refine wpList_putS rfl _ _ _ 49 3 rfl Tryz.underlying49 mk _ rfl HGX.out.ok (by have := HG100.out; unfold maxLen; omega) (op ++ WT) HKZ.out rfl (.int .i64 (sT.G.length : Int)) rfl ?_; intro W9 hm9 hg9))
                have hpk : pb ≠ mk := fun e => by have h1 := (HLX.out.yc pb (.inr (.inl rfl))).2; have h2 := HLX.out.fx mk (.inr (.inr (.inr (.inr (.inr (.inr (.inr rfl))))))); omega
                have H9 := Lib.hid (And.intro hm9 hg9)
                have hk9 := HGX.out.putK hm9 hg9
                have HP9 := Lib.hid hk9
                have hb9 := HLX.out.b.tch hk9.1 hpk
                have HB9b := Lib.hid hb9
                clear hm9 hg9 hk9 hb9 k0 kl g0 gl q0 ql
                have g0 := HP9.out.2.2.2.2.2.2.1.c 0 _ rfl; have gl := HP9.out.2.2.2.2.2.2.1.lt
                have b0 := HB9b.out.c 0 _ rfl; have b1 := HB9b.out.c 1 _ rfl; have b2 := HB9b.out.c 2 _ rfl; have b3 := HB9b.out.c 3 _ rfl; have bl := HB9b.out.lt
                obtain ⟨i0, hi0, hz0, hz1, hz2⟩ := info_parts infoNode
                have HRW : Hid (RowV W9 4 (.slice aoU sT.G.length cpU) sT.G.length (ns.flatMap ndCells)) := Lib.hid (HNS.out.2.tch HP9.out.1 (fun b hb e => by cases e; exact (HGX.out.su mk hb).1 (.inr (.inr (.inr (.inr (.inr (.inr (.inr rfl)))))))))
                have hsu : ∀ b, (Value.slice aoU sT.G.length cpU).ownBlock = some b → b ≠ pg := fun b hb e => by rw [e] at hb; exact (HGX.out.su pg hb).1 (.inr (.inr (.inr (.inr (.inl rfl)))))
                have HSU := Lib.hid hsu
                clear hsu
                go_upto_region 21 with (at_builtin; refine wpList_append_row (v := .slice aoU sT.G.length cpU) _ rfl _ _ 25 rfl Tryz.underlying25 hi0 hz0 hz1 hz2 rfl (by decide) rfl (HRW.out.past ((Below.refl _ _).alloc (Nat.le_refl _) _)) ⟨W9.heap.size, 0, none⟩ 1 [.string op, .slice aoN l.length cpN, .slice aoI ints.length cpI, .slice aoR reals.length cpR] rfl rfl (four_new _ _ _ _ _ _) (four_one _ _ _ _ _ _ _ _ _ _) (by have := HG100.out; unfold maxLen; omega) (by have := HG100.out; omega) ?_; intro ao5 cap5 w6 hR6 hG6 ho6; have H6 := Lib.hid (And.intro hR6 (And.intro hG6 ho6)); have hg6 := (HP9.out.2.2.2.2.2.2.1.past ((Below.refl _ W9).alloc (Nat.le_refl _) _)).tch (Tch.of_grown (S := fun b => (Value.slice aoU sT.G.length cpU).ownBlock = some b) hG6 (fun b hb => hb)) (fun e => HSU.out pg e rfl); have g6 := hg6.c 0 _ rfl; have gf := hg6.f; have gl6 := hg6.lt; clear hR6 hG6 ho6 hg6)
                refine wp_world (fun w7 hW7 => ?_)
                have hfin := HLX.out.fin (u7 := .slice ao5 (sT.G.length + 1) cap5) HY.out HXN.out HKEY.out H9.out.1 H9.out.2 ((Below.refl _ W9).alloc (Nat.le_refl _) _) (fun ns2 e1 e2 => by rw [e2.uniq (HRW.out.past ((Below.refl _ _).alloc (Nat.le_refl _) _))]; exact H6.out.1) H6.out.2.1 H6.out.2.2 hW7
                have HF := Lib.hid hfin
                clear hfin hW7 g0 gl b0 b1 b2 b3 bl g6 gf gl6 hi0 hz0 hz1 hz2
                have q0 := HF.out.1.qm.c 0 _ rfl; have ql := HF.out.1.qm.lt
                go_wp2_with (at_mapUpdate; refine wpList_putS rfl _ _ _ 49 3 rfl Tryz.underlying49 mm _ rfl HF.out.1.om (by have := HCN.out sT.M; unfold maxLen; simp only; omega) nm HST.out.n rfl (.int .i64 (sT.G.length : Int)) rfl ?_; intro W10 hm10 hg10)
                go_ret
                have h10 := HPM.out _ _ w7 W10 sT.G.length HF.out.1 HLM.out hm10 hg10
                exact ⟨_, by rw [HR.out]; rfl, by rw [HR.out]; exact h10.1, HF.out.2.1.then (h10.2.mono (T := TS mm mk pg u) (fun _ _ e => .inl e)) (fun _ _ e => e), HF.out.2.2⟩
end Go.Proofs.YtbaocallhnehfaaGreatDoor
