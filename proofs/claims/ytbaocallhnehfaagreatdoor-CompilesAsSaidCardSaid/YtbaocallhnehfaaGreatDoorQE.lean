/- node.CheckProgram at the program of one step 'a fill ..'. Conditions: its cells can be read. (with: HeldT, HeldU, NgF, NgG, NgH, NtF, NfR, NgI) -/
import Derived.Test.YtbaocallhnehfaaGreatDoorQD
import Derived.Test.YtbaocallhnehfaaGreatDoorNfB
import Derived.OrdersHeld
import Derived.Deep.RegionHeld3
import Derived.RowKit3
import Derived.StillTail
import Derived.Test.YtbaocallhnehfaaGreatDoorQC
import Derived.Lib.Split
namespace Go.Proofs.YtbaocallhnehfaaGreatDoor
open Go Go.RowKit
theorem zeroI (w : World) : (zeroValue 3).run Tryz.prog w = .ok (.int .i64 0) w := by kernel_rfl
theorem ownsMap_block {P : Program} {k : TypeId} {R : Value → Option (DataW Value × List MemPlace)} {w w' : World} {b n : Nat} {D : DataW Value} (h : w.ownsMap P k R b n D) (hb : w'.heap[b]? = w.heap[b]?) : w'.ownsMap P k R b n D := by
  obtain ⟨es, clock, h1, r⟩ := h
  exact ⟨es, clock, hb.trans h1, r⟩
def sA : ByteArray := ⟨#[97]⟩
def sFill : ByteArray := ⟨#[102, 105, 108, 108]⟩
theorem op_fill (w : World) : Calls Tryz.prog 29 #[.string ⟨#[102, 105, 108, 108]⟩] w fun e w' => ∃ a c, e = .returned (.tuple #[.agg #[.string ⟨#[102, 105, 108, 108]⟩, .slice a 0 c, .int .i64 1, .int .i64 0, .int .i64 4, .bool false], .int .i64 0]) ∧ Below w.heap.size w w' := by
  refine (Op_any ⟨#[102, 105, 108, 108]⟩ w (fun w' _ => forms_any w')).mono ?_
  rintro e w' ⟨⟨f, v, hf, rfl, a, c, rfl, -⟩ | ⟨hf, -⟩, hb⟩
  · have e1 : opF (⟨#[102, 105, 108, 108]⟩ : ByteArray).data.toList = some (F 1) := opF_F (k := 1) (by decide)
    rw [e1] at hf
    cases hf
    exact ⟨a, c, rfl, hb⟩
  · have e1 : opF (⟨#[102, 105, 108, 108]⟩ : ByteArray).data.toList = some (F 1) := opF_F (k := 1) (by decide)
    rw [e1] at hf
    cases hf
/-- The cells of the step. -/
structure OneAt (w : World) (b off : Nat) (ar : Option Addr) (cr : Nat) : Prop where
  c0 : w.cell? ⟨b, off, none⟩ = some (.string ⟨#[97]⟩)
  c1 : w.cell? ⟨b, off + 1, none⟩ = some (.string ⟨#[102, 105, 108, 108]⟩)
  c2 : w.cell? ⟨b, off + 2, none⟩ = some (.slice none 0 0)
  c3 : w.cell? ⟨b, off + 3, none⟩ = some (.slice none 0 0)
  c4 : w.cell? ⟨b, off + 4, none⟩ = some (.slice ar 4 cr)
theorem OneAt.past {w w' : World} {b off : Nat} {ar : Option Addr} {cr : Nat} (h : OneAt w b off ar cr) (hb : Below w.heap.size w w') : OneAt w' b off ar cr := by
  obtain ⟨h0, h1, h2, h3, h4⟩ := h
  have hl := cell_lt h0
  simp only at hl
  have g : ∀ j, w'.cell? ⟨b, j, none⟩ = w.cell? ⟨b, j, none⟩ := fun j => hb.cell (p := ⟨b, j, none⟩) hl
  exact ⟨by rw [g]; exact h0, by rw [g]; exact h1, by rw [g]; exact h2, by rw [g]; exact h3, by rw [g]; exact h4⟩
set_option maxRecDepth 100000 in
set_option maxHeartbeats 6400000 in
theorem check_one (b off c cr : Nat) (ar : Option Addr) (w : World) (h : OneAt w b off ar cr) : Calls Tryz.prog 13 #[.agg #[.slice (some ⟨b, off, none⟩) 1 c, .string ⟨#[97]⟩]] w fun e w' => e = .returned (.int .i64 0) ∧ Below w.heap.size w w' := by
  have hmm := @run_makeMap Tryz.prog
  have HH := Lib.hid h
  clear h
  go_enter Tryz.func13, Tryz.ntmps13
  go_wp2_with fail
  refine wp_world (fun W hW => ?_)
  obtain ⟨mb, hmb⟩ : ∃ mb, mb = w.heap.size + 1 := ⟨_, rfl⟩
  have HW : Hid (Below w.heap.size w W ∧ Blk W w.heap.size [.slice (some ⟨b, off, none⟩) 1 c, .string ⟨#[97]⟩] ∧ w.heap.size + 1 = mb ∧ W.ownsMap Tryz.prog 9 heldV mb 0 (.map [])) := Lib.hid (by
    rw [hW, hmb]
    refine ⟨by (repeat (first | exact Below.refl _ _ | assumption | (refine Below.setCell ?_ (by first | (simp; done) | (simp; omega) | omega) _) | (refine Below.drew ?_) | (refine below_drewN ?_ _) | (refine Below.alloc ?_ (by first | (simp; done) | (simp; omega) | omega) _) | (refine Below.trans ?_ (Below.mono (by assumption) (by first | (simp; done) | (simp; omega) | omega))))), (Blk.new _ _ _ _ rfl).alloc _, rfl, ?_⟩
    have h := World.ownsMap_made (w.alloc (.cells #[.slice (some ⟨b, off, none⟩) 1 c, .string ⟨#[97]⟩] 24)) Tryz.prog 9 heldV
    simpa using h)
  rw [show w.heap.size + 1 = mb from hmb.symm]
  clear hW hmb hmm
  have H1 := HH.out.past HW.out.1
  have c0 := H1.c0; have c1 := H1.c1; have c2 := H1.c2; have c3 := H1.c3; have c4 := H1.c4
  have cl := cell_lt c0; simp only at cl
  clear H1
  refine wp_loop_rounds 2 ?_
  rw [rounds_succ]
  go_upto_region 9 with fail
  refine wp_world (fun V hV => ?_)
  have HV : Hid (Blk V W.heap.size [.string ⟨#[97]⟩, .string ⟨#[102, 105, 108, 108]⟩, .slice none 0 0, .slice none 0 0, .slice ar 4 cr] ∧ Below W.heap.size W V) := Lib.hid (by rw [hV]; exact ⟨Blk.new _ _ _ _ rfl, by (repeat (first | exact Below.refl _ _ | assumption | (refine Below.setCell ?_ (by first | (simp; done) | (simp; omega) | omega) _) | (refine Below.drew ?_) | (refine below_drewN ?_ _) | (refine Below.alloc ?_ (by first | (simp; done) | (simp; omega) | omega) _) | (refine Below.trans ?_ (Below.mono (by assumption) (by first | (simp; done) | (simp; omega) | omega)))))⟩)
  clear hV c0 c1 c2 c3 c4 cl
  have HM : Hid (V.ownsMap Tryz.prog 9 heldV mb 0 (.map [])) := Lib.hid (ownsMap_block HW.out.2.2.2 (HV.out.2.block mb HW.out.2.2.2.lt))
  have m0 := HV.out.1.c 0 _ rfl; have m1 := HV.out.1.c 1 _ rfl; have m2 := HV.out.1.c 2 _ rfl; have m3 := HV.out.1.c 3 _ rfl; have m4 := HV.out.1.c 4 _ rfl
  have ml := HV.out.1.lt
  go_upto_region 13 with (first | (go_at_call 28; refine (isName_a _).mono ?_; rintro e v1 ⟨rfl, hb1⟩; replace HV := Lib.hid (And.intro (HV.out.1.past hb1) (HV.out.2.trans (hb1.mono HV.out.2.size))); replace HM := Lib.hid (ownsMap_block HM.out (hb1.block mb HM.out.lt)); clear hb1 m0 m1 m2 m3 m4 ml; have m0 := HV.out.1.c 0 _ rfl; have m1 := HV.out.1.c 1 _ rfl; have m2 := HV.out.1.c 2 _ rfl; have m3 := HV.out.1.c 3 _ rfl; have m4 := HV.out.1.c 4 _ rfl; have ml := HV.out.1.lt) | (at_lookup; refine wpList_look0 _ rfl _ _ 49 rfl 9 3 lawStr Tryz.underlying49 (zeroI _) mb 0 (.map []) rfl HM.out _ (keyS ⟨#[97]⟩) rfl (keyS_mk (by decide)) (.int .i64 0) rfl ?_))
  go_upto_region 14 with (go_at_call 29; refine (op_fill _).mono ?_; rintro e v1 ⟨fa, fc, rfl, hb1⟩; replace HV := Lib.hid (And.intro (HV.out.1.past hb1) (HV.out.2.trans (hb1.mono HV.out.2.size))); replace HM := Lib.hid (ownsMap_block HM.out (hb1.block mb HM.out.lt)); clear hb1 m0 m1 m2 m3 m4 ml)
  refine wp_world (fun U hU => ?_)
  have HU : Hid (Blk U v1.heap.size [.string ⟨#[102, 105, 108, 108]⟩, .slice fa 0 fc, .int .i64 1, .int .i64 0, .int .i64 4, .bool false] ∧ Below v1.heap.size v1 U) := Lib.hid (by rw [hU]; exact ⟨Blk.new _ _ _ _ rfl, by (repeat (first | exact Below.refl _ _ | assumption | (refine Below.setCell ?_ (by first | (simp; done) | (simp; omega) | omega) _) | (refine Below.drew ?_) | (refine below_drewN ?_ _) | (refine Below.alloc ?_ (by first | (simp; done) | (simp; omega) | omega) _) | (refine Below.trans ?_ (Below.mono (by assumption) (by first | (simp; done) | (simp; omega) | omega)))))⟩)
  clear hU
  have HS : Hid (Blk U W.heap.size [.string ⟨#[97]⟩, .string ⟨#[102, 105, 108, 108]⟩, .slice none 0 0, .slice none 0 0, .slice ar 4 cr] ∧ Below W.heap.size W U ∧ U.ownsMap Tryz.prog 9 heldV mb 0 (.map [])) := Lib.hid ⟨HV.out.1.past HU.out.2, HV.out.2.trans (HU.out.2.mono HV.out.2.size), ownsMap_block HM.out (HU.out.2.block mb HM.out.lt)⟩
  clear HV HM
  have m0 := HS.out.1.c 0 _ rfl; have m1 := HS.out.1.c 1 _ rfl; have m2 := HS.out.1.c 2 _ rfl; have m3 := HS.out.1.c 3 _ rfl; have m4 := HS.out.1.c 4 _ rfl
  have ml := HS.out.1.lt
  have f1 := HU.out.1.c 1 _ rfl; have f2 := HU.out.1.c 2 _ rfl; have f3 := HU.out.1.c 3 _ rfl; have f4 := HU.out.1.c 4 _ rfl
  have fl := HU.out.1.lt
  go_wp2_with fail
  refine wp_loop_rounds 1 ?_
  rw [rounds_succ]
  go_wp2_with (first | (go_at_call 30; refine (parameters_fill _ _).mono ?_; rintro e v2 ⟨rfl, hb2⟩; replace HS := Lib.hid (And.intro (HS.out.1.past hb2) (And.intro (HS.out.2.1.trans (hb2.mono HS.out.2.1.size)) (ownsMap_block HS.out.2.2 (hb2.block mb HS.out.2.2.lt)))); replace HU := Lib.hid (HU.out.1.past hb2); clear hb2 m0 m1 m2 m3 m4 ml f1 f2 f3 f4 fl; have m0 := HS.out.1.c 0 _ rfl; have ml := HS.out.1.lt; have f2 := HU.out.c 2 _ rfl; have fl := HU.out.lt) | (at_mapUpdate; refine wpList_mapUpdate_own _ rfl _ _ _ 49 rfl 9 3 lawStr Tryz.underlying49 heldV mb 0 (.map []) rfl HS.out.2.2 (by decide) _ _ (keyS ⟨#[97]⟩) rfl rfl (keyS_mk (by decide)) (.held (.int .i64 1)) [] rfl ?_; intro w3 hown3 hgrow3))
  have HG := Lib.hid (And.intro hown3 hgrow3)
  clear hown3 hgrow3 m0 ml f2 fl
  have hB3 : Blk w3 w.heap.size [.slice (some ⟨b, off, none⟩) 1 c, .string ⟨#[97]⟩] := ((HW.out.2.1.past HS.out.2.1).tch (Tch.of_grown (S := fun j => j = mb) HG.out.2 (fun j hj => by cases hj; rfl)) (fun e => by have := HW.out.2.2.1; omega))
  have p1 := hB3.c 1 _ rfl
  have pl := hB3.lt
  have hat : ((DataW.map []).put (keyS ⟨#[97]⟩) (DataW.held (Value.int .i64 1))).atKey (keyS ⟨#[97]⟩) (.held (Value.int .i64 0)) = .held (Value.int .i64 1) := Maps.atKey_put_same ⟨_, rfl⟩ (lawStr.key (keyS_mk (nm := ⟨#[97]⟩) (by decide))) _ _
  clear hB3
  rw [rounds_succ]
  go_wp2_with (first | (go_at_call 31; refine (outKind_1 _).mono ?_; rintro e v4 ⟨rfl, rfl⟩) | (at_lookup; refine wpList_look0 _ rfl _ _ 49 rfl 9 3 lawStr Tryz.underlying49 (zeroI _) mb 1 _ rfl HG.out.1 _ (keyS ⟨#[97]⟩) rfl (keyS_mk (by decide)) (.int .i64 1) hat ?_))
  go_ret
  have hB := HW.out.1.trans (HS.out.2.1.mono HW.out.1.size)
  exact ⟨rfl, hB.grown HG.out.2 hB.size (fun j hj => by cases hj; have := HW.out.2.2.1; omega)⟩
end Go.Proofs.YtbaocallhnehfaaGreatDoor

namespace Go.Proofs.YtbaocallhnehfaaGreatDoor
open Go Go.RowKit
section
variable {P : Program} {ops : Array Oper} {Q : Exit → Act → World → Prop} {md : Region.Mode} {C : World → Prop} {A : Nat}
/-- Whatever order is picked, and C holds behind every operation till number A has come up. -/
def wpAnyC (P : Program) (md : Region.Mode) (ops : Array Oper) (Q : Exit → Act → World → Prop) (C : World → Prop) (A : Nat) : Nat → Array Bool → Act → World → Prop
  | 0, listed, a, w => Region.ready md ops listed = [] ∧ Q .normal a w
  | fuel + 1, listed, a, w =>
    (Region.ready md ops listed = [] → Q .normal a w) ∧
    ∀ i ∈ Region.ready md ops listed, wpOp P ops Q i (fun a' w' => ((listed.setIfInBounds i true).getD A true = false → C w') ∧ wpAnyC P md ops Q C A fuel (listed.setIfInBounds i true) a' w') a w
theorem wpAny_of_C : ∀ (fuel : Nat) (listed : Array Bool) (a : Act) (w : World), wpAnyC P md ops Q C A fuel listed a w → wpAny P md ops Q fuel listed a w
  | 0, _, _, _, h => h
  | fuel + 1, _, _, _, h => ⟨h.1, fun i hi => wpOp_mono (fun a' w' h' => wpAny_of_C fuel _ a' w' h'.2) (h.2 i hi)⟩
theorem getD_setC {l : Array Bool} {i j : Nat} (h : j ≠ i) : (l.setIfInBounds i true).getD j true = l.getD j true := by
  simp only [Array.getD_eq_getD_getElem?, Array.getElem?_setIfInBounds_ne (Ne.symm h)]
/-- Number A waits for number i, by whatever road. -/
def waitsT (md : Region.Mode) (ops : Array Oper) (i : Nat) : Nat → Nat → Bool
  | 0, _ => false
  | f + 1, A => match ops[A]? with
    | some o => o.after.any fun e => Region.binds md e && (e.on == i || waitsT md ops i f e.on)
    | none => false
/-- What has come up had waited for nothing that has not. -/
def ClosedL (md : Region.Mode) (ops : Array Oper) (listed : Array Bool) : Prop := ∀ j oj, ops[j]? = some oj → listed.getD j false = true → ∀ e ∈ oj.after, Region.binds md e = true → listed.getD e.on false = true
theorem waits_listed {listed : Array Bool} {i : Nat} (hc : ClosedL md ops listed) : ∀ (f A : Nat), waitsT md ops i f A = true → listed.getD A false = true → listed.getD i false = true
  | 0, _, h, _ => by cases h
  | f + 1, A, h, hl => by
    unfold waitsT at h
    cases ho : ops[A]? with
    | none => rw [ho] at h; cases h
    | some o =>
      rw [ho] at h
      obtain ⟨e, he, hb⟩ := Array.any_eq_true'.1 h
      simp only [Bool.and_eq_true, Bool.or_eq_true, beq_iff_eq] at hb
      have h1 := hc A o ho hl e he hb.1
      rcases hb.2 with h2 | h2
      · rw [← h2]; exact h1
      · exact waits_listed hc f e.on h2 h1
theorem waits_ready {listed : Array Bool} {i f A : Nat} (hc : ClosedL md ops listed) (hw : waitsT md ops i f A = true) (hr : A ∈ Region.ready md ops listed) : listed.getD i false = true := by
  obtain ⟨-, o, ho, hall⟩ := mem_ready.1 hr
  cases f with
  | zero => cases hw
  | succ f =>
    unfold waitsT at hw
    rw [ho] at hw
    obtain ⟨e, he, hb⟩ := Array.any_eq_true'.1 hw
    simp only [Bool.and_eq_true, Bool.or_eq_true, beq_iff_eq] at hb
    have h1 := hall e he hb.1
    rcases hb.2 with h2 | h2
    · rw [← h2]; exact h1
    · exact waits_listed hc f e.on h2 h1
theorem closed_set {listed : Array Bool} {j : Nat} (hc : ClosedL md ops listed) (hr : j ∈ Region.ready md ops listed) : ClosedL md ops (listed.setIfInBounds j true) := fun k ok hk hl e he hb => by
  have up : ∀ m, listed.getD m false = true → (listed.setIfInBounds j true).getD m false = true := fun m hm => by
    by_cases h : m = j
    · subst h
      simp only [Array.getD_eq_getD_getElem?, Array.getElem?_setIfInBounds_self] at hm ⊢
      split
      · rfl
      · rename_i h; rw [Array.getElem?_eq_none (by omega)] at hm; cases hm
    · simp only [Array.getD_eq_getD_getElem?, Array.getElem?_setIfInBounds_ne (Ne.symm h)] at hm ⊢; exact hm
  by_cases hkj : k = j
  · subst hkj
    obtain ⟨-, o, ho, hall⟩ := mem_ready.1 hr
    rw [hk] at ho; cases ho
    exact up _ (hall e he hb)
  · have : listed.getD k false = true := by simp only [Array.getD_eq_getD_getElem?, Array.getElem?_setIfInBounds_ne (Ne.symm hkj)] at hl ⊢; exact hl
    exact up _ (hc k ok hk this e he hb)
/-- What may come up and yields its value in every world that meets C, and for which number A waits, may be taken first. -/
theorem wpAnyC_first {i : Nat} {oi : Oper} {v : Value} (hi : ops[i]? = some oi) (hsel : ∀ (j : Nat) (o : Oper) cs b, ops[j]? = some o → o.op ≠ .select cs b)
    (hQ : ∀ c a w, Q (.panic c) (a.put oi.dst v) w → Q (.panic c) a w) {d : Nat} (hA : waitsT md ops i d A = true) (hAi : A ≠ i) :
    ∀ (fuel : Nat) (listed : Array Bool) (a : Act) (w : World),
      (∀ j oj, ops[j]? = some oj → j ≠ i → listed.getD j true = false → (∀ e ∈ oj.after, Region.binds md e = true → e.on ≠ i) → oi.apart ops oj = true) →
      ClosedL md ops listed → listed.getD A true = false → i ∈ Region.ready md ops listed → YieldsIf P ops C oi v a → C w →
      wpAnyC P md ops Q C A fuel (listed.setIfInBounds i true) (a.put oi.dst v) w → wpAnyC P md ops Q C A (fuel + 1) listed a w := by
  intro fuel
  induction fuel with
  | zero =>
    intro listed a w _ _ hlA hr hy hS H
    refine ⟨fun h => (by rw [h] at hr; cases hr), fun j hj => ?_⟩
    by_cases hji : j = i
    · subst hji; exact hy.wpOp hi hS ⟨fun _ => hS, H⟩
    · have := ready_mono hj hji
      rw [H.1] at this
      cases this
  | succ fuel ih =>
    intro listed a w hfree hcl hlA hr hy hS H
    refine ⟨fun h => (by rw [h] at hr; cases hr), fun j hj => ?_⟩
    by_cases hji : j = i
    · subst hji; exact hy.wpOp hi hS ⟨fun _ => hS, H⟩
    · have h1 := H.2 j (ready_mono hj hji)
      obtain ⟨hjun, oj, hoj, hall⟩ := mem_ready.1 hj
      have hnot : ∀ e ∈ oj.after, Region.binds md e = true → e.on ≠ i := fun e he hb heq => by
        have h1 := hall e he hb
        have h0 := (mem_ready.1 hr).1
        rw [heq] at h1
        rcases Nat.lt_or_ge i listed.size with h' | h'
        · simp [h'] at h0 h1; rw [h0] at h1; cases h1
        · simp [Array.getElem?_eq_none h'] at h1
      have hjA : A ≠ j := fun h => by
        subst h
        have h0 := (mem_ready.1 hr).1
        have h1 := waits_ready hcl hA (by exact hj)
        rcases Nat.lt_or_ge i listed.size with h' | h'
        · simp [h'] at h0 h1; rw [h0] at h1; cases h1
        · simp [Array.getElem?_eq_none h'] at h1
      have hlA' : (listed.setIfInBounds j true).getD A true = false := by rw [getD_setC hjA]; exact hlA
      have h2 := wpOp_putIf hoj (hfree j oj hoj hji hjun hnot) (fun cs b => hsel i oi cs b hi) (fun cs b => hsel j oj cs b hoj) hQ hy h1
      have hfree' : ∀ k ok, ops[k]? = some ok → k ≠ i → (listed.setIfInBounds j true).getD k true = false →
          (∀ e ∈ ok.after, Region.binds md e = true → e.on ≠ i) → oi.apart ops ok = true := fun k ok hk hki hun hno => by
        refine hfree k ok hk hki ?_ hno
        by_cases hjk : j = k
        · subst hjk; exact hjun
        · rw [getD_set_ne true hjk] at hun; exact hun
      have hlA2 : ((listed.setIfInBounds i true).setIfInBounds j true).getD A true = false := by rw [getD_setC hjA, getD_setC hAi]; exact hlA
      refine wpOp_mono (fun a' w' h3 => ⟨fun _ => h3.2.1 hlA2, ih (listed.setIfInBounds j true) a' w' hfree' (closed_set hcl hj) hlA' (ready_mono hr (Ne.symm hji)) h3.1 (h3.2.1 hlA2) ?_⟩) h2
      rw [Array.setIfInBounds_comm _ _ hji]
      exact h3.2.2
def closedB (md : Region.Mode) (ops : Array Oper) (listed : Array Bool) : Bool := (List.range ops.size).all fun j => !(listed.getD j false) || (match ops[j]? with | some o => o.after.all fun e => !(Region.binds md e) || listed.getD e.on false | none => true)
theorem closedB_spec {listed : Array Bool} (h : closedB md ops listed = true) : ClosedL md ops listed := fun j oj hj hl e he hb => by
  unfold closedB at h
  rw [List.all_eq_true] at h
  have h1 := h j (List.mem_range.2 (Array.getElem?_eq_some_iff.1 hj).1)
  rw [hl, hj] at h1
  simp only [Bool.not_true, Bool.false_or] at h1
  have h2 := Array.all_eq_true'.1 h1 e he
  rw [hb] at h2
  simpa using h2
/-- The move of a walk. -/
theorem wpAnyC_take {i : Nat} {oi : Oper} {v : Value} {fuel : Nat} {listed : Array Bool} {a : Act} {w : World} (hi : ops[i]? = some oi)
    (hcl : closedB md ops listed = true) (hs : (Region.noSelect ops && Region.free md ops listed i && (Region.ready md ops listed).contains i && waitsT md ops i ops.size A && (A != i) && !(listed.getD A true)) = true)
    (hQ : ∀ c a w, Q (.panic c) (a.put oi.dst v) w → Q (.panic c) a w) (hy : YieldsIf P ops C oi v a) (hS : C w)
    (h : wpAnyC P md ops Q C A fuel (listed.setIfInBounds i true) (a.put oi.dst v) w) : wpAnyC P md ops Q C A (fuel + 1) listed a w := by
  simp only [Bool.and_eq_true, Bool.not_eq_true', bne_iff_ne, ne_eq] at hs
  obtain ⟨⟨⟨⟨⟨h1, h2⟩, h3⟩, h4⟩, h5⟩, h6⟩ := hs
  exact wpAnyC_first hi (Region.noSelect_spec h1) hQ h4 h5 fuel listed a w (Region.free_spec hi h2) (closedB_spec hcl) h6 (by simpa using h3) hy hS h
/-- The one that may come up. -/
theorem wpAnyC_one {i : Nat} {o : Oper} {fuel : Nat} {listed : Array Bool} {a : Act} {w : World} (ho : ops[i]? = some o) (hr : Region.ready md ops listed = [i])
    (h : ∀ K : Act → World → Prop, (∀ a w, ((listed.setIfInBounds i true).getD A true = false → C w) → wpAnyC P md ops Q C A fuel (listed.setIfInBounds i true) a w → K a w) → if Region.wanted o (yielded ops a.tmps) = true then Oper.wp P o a w K Q else K (a.put o.dst undef) w) :
    wpAnyC P md ops Q C A (fuel + 1) listed a w :=
  ⟨fun h0 => (by rw [hr] at h0; cases h0), fun j hj => by
    rw [hr] at hj
    have e : j = i := by simpa using hj
    subst e
    exact wpOp_step ho (fun K' hK => h K' (fun a w h1 h2 => hK a w ⟨h1, h2⟩))⟩
theorem wpAnyC_act {fuel : Nat} {listed : Array Bool} {a : Act} {dst : Option Tmp} {v : Value} {w : World} {d : Tmp} (hd : dst = some d) (h : wpAnyC P md ops Q C A fuel listed (a.put (some d) v) w) : wpAnyC P md ops Q C A fuel listed (a.put dst v) w := by rw [hd]; exact h
theorem wpAnyC_done {listed : Array Bool} {a : Act} {w : World} (hr : Region.ready md ops listed = []) (h : Q .normal a w) : wpAnyC P md ops Q C A 0 listed a w := ⟨hr, h⟩
theorem wp_region_C {id : Nat} {a : Act} {w : World} (C : World → Prop) (A n : Nat) (hm : P.follows .mixedOrders = true) (hn : ops.size = n) (h : wpAnyC P .any ops Q C A n (Array.replicate n false) a w.drew) : (Code.region id ops true).wp P Q a w := by
  subst hn
  exact wp_region_any hm (wpAny_of_C _ _ _ _ h)
theorem getD_setSelf (l : Array Bool) (A : Nat) : (l.setIfInBounds A true).getD A true = true := by
  simp only [Array.getD_eq_getD_getElem?, Array.getElem?_setIfInBounds_self]
  split <;> rfl
end
end Go.Proofs.YtbaocallhnehfaaGreatDoor

namespace Go.Proofs.YtbaocallhnehfaaGreatDoor
open Go Go.RowKit
section
variable {P : Program} {ops : Array Oper} {Q : Exit → Act → World → Prop} {md : Region.Mode} {C : World → Prop} {A : Nat}
theorem wpAnyC_firstU {i : Nat} {oi : Oper} {v : Value} (hi : ops[i]? = some oi) (hsel : ∀ (j : Nat) (o : Oper) cs b, ops[j]? = some o → o.op ≠ .select cs b)
    (hQ : ∀ c a w, Q (.panic c) (a.put oi.dst v) w → Q (.panic c) a w) (hAi : A ≠ i) :
    ∀ (fuel : Nat) (listed : Array Bool) (a : Act) (w : World),
      (∀ j oj, ops[j]? = some oj → j ≠ i → listed.getD j true = false → (∀ e ∈ oj.after, Region.binds md e = true → e.on ≠ i) → oi.apart ops oj = true) →
      (listed.getD A true = false → C w) → i ∈ Region.ready md ops listed → YieldsIf P ops (fun _ => True) oi v a →
      wpAnyC P md ops Q C A fuel (listed.setIfInBounds i true) (a.put oi.dst v) w → wpAnyC P md ops Q C A (fuel + 1) listed a w := by
  intro fuel
  induction fuel with
  | zero =>
    intro listed a w _ hS hr hy H
    refine ⟨fun h => (by rw [h] at hr; cases hr), fun j hj => ?_⟩
    by_cases hji : j = i
    · subst hji; exact hy.wpOp hi trivial ⟨fun h => hS (by rw [getD_setC hAi] at h; exact h), H⟩
    · have := ready_mono hj hji
      rw [H.1] at this
      cases this
  | succ fuel ih =>
    intro listed a w hfree hS hr hy H
    refine ⟨fun h => (by rw [h] at hr; cases hr), fun j hj => ?_⟩
    by_cases hji : j = i
    · subst hji; exact hy.wpOp hi trivial ⟨fun h => hS (by rw [getD_setC hAi] at h; exact h), H⟩
    · have h1 := H.2 j (ready_mono hj hji)
      obtain ⟨hjun, oj, hoj, hall⟩ := mem_ready.1 hj
      have hnot : ∀ e ∈ oj.after, Region.binds md e = true → e.on ≠ i := fun e he hb heq => by
        have h1 := hall e he hb
        have h0 := (mem_ready.1 hr).1
        rw [heq] at h1
        rcases Nat.lt_or_ge i listed.size with h' | h'
        · simp [h'] at h0 h1; rw [h0] at h1; cases h1
        · simp [Array.getElem?_eq_none h'] at h1
      have h2 := wpOp_putIf hoj (hfree j oj hoj hji hjun hnot) (fun cs b => hsel i oi cs b hi) (fun cs b => hsel j oj cs b hoj) hQ hy h1
      have hfree' : ∀ k ok, ops[k]? = some ok → k ≠ i → (listed.setIfInBounds j true).getD k true = false →
          (∀ e ∈ ok.after, Region.binds md e = true → e.on ≠ i) → oi.apart ops ok = true := fun k ok hk hki hun hno => by
        refine hfree k ok hk hki ?_ hno
        by_cases hjk : j = k
        · subst hjk; exact hjun
        · rw [getD_set_ne true hjk] at hun; exact hun
      have hl : ∀ {x}, (listed.setIfInBounds j true).getD A true = x → ((listed.setIfInBounds i true).setIfInBounds j true).getD A true = x := fun h => by
        rw [Array.setIfInBounds_comm _ _ (Ne.symm hji), getD_setC hAi]; exact h
      refine wpOp_mono (fun a' w' h3 => ⟨fun h => h3.2.1 (hl h), ih (listed.setIfInBounds j true) a' w' hfree' (fun h => h3.2.1 (hl h)) (ready_mono hr (Ne.symm hji)) h3.1 ?_⟩) h2
      rw [Array.setIfInBounds_comm _ _ hji]
      exact h3.2.2
/-- The move of a walk. -/
theorem wpAnyC_takeU {i : Nat} {oi : Oper} {v : Value} {fuel : Nat} {listed : Array Bool} {a : Act} {w : World} (hi : ops[i]? = some oi)
    (hs : (Region.noSelect ops && Region.free md ops listed i && (Region.ready md ops listed).contains i && (A != i)) = true)
    (hQ : ∀ c a w, Q (.panic c) (a.put oi.dst v) w → Q (.panic c) a w) (hy : YieldsIf P ops (fun _ => True) oi v a) (hS : listed.getD A true = false → C w)
    (h : wpAnyC P md ops Q C A fuel (listed.setIfInBounds i true) (a.put oi.dst v) w) : wpAnyC P md ops Q C A (fuel + 1) listed a w := by
  simp only [Bool.and_eq_true, bne_iff_ne, ne_eq] at hs
  obtain ⟨⟨⟨h1, h2⟩, h3⟩, h5⟩ := hs
  exact wpAnyC_firstU hi (Region.noSelect_spec h1) hQ h5 fuel listed a w (Region.free_spec hi h2) hS (by simpa using h3) hy h
end
end Go.Proofs.YtbaocallhnehfaaGreatDoor

namespace Go.Proofs.YtbaocallhnehfaaGreatDoor
open Go Go.RowKit
section
variable {P : Program}
/-- Some elements behind nothing, in a region that draws its order: a new row. -/
theorem step_append_new {ops : Array Oper} {o : Oper} {a : Act} {w : World} {K : Act → World → Prop} {Q : Exit → Act → World → Prop} {E : Prop} (hgd : o.guard = none) (s x : Operand) (t : TypeId)
    (ho : o.op = .call { callee := .builtin .append, args := #[s, x], argTypes := #[t, t] })
    {e : TypeId} {i : TypeInfo} {z : Value} {size bytes : Nat} (ht : P.underlying t = some (.slice e)) (hi : P.info? e = some i) (hz : i.zero = some z) (hsize : i.size = size) (hby : i.bytes = bytes) (hzs : z.cells.size = size) (hsz : 0 < size)
    (hs : a.eval s = .slice none 0 0) (ad : Addr) (m c : Nat) (news : List Value) (hx : a.eval x = .slice (some ad) m c) (hl : news.length = m * size) (hnews : ∀ j u, news[j]? = some u → w.cell? (ad.add j) = some u) (h1 : ∀ u ∈ news, u.oneCell' = true)
    (h63 : m ≤ maxLen) (hbytes : m * bytes ≤ 140737488355328)
    (hK : ∀ v' w', NewRow w.heap.size w' size v' m news → Below w.heap.size w w' → K (a.put o.dst v') w') :
    if Region.wanted o (yielded ops a.tmps) = true then Oper.wp P o a w K Q else E := by
  have hw : Region.wanted o (yielded ops a.tmps) = true := by simp [Region.wanted, hgd]
  rw [if_pos hw]
  subst hsize
  obtain ⟨v', w', hrun, r1, r2, -⟩ := run_append_own (P := P) w w.heap.size t o.type e i z i.size bytes ht hi hz rfl hby hzs hsz (.slice none 0 0) 0 [] (World.ownsRow_nil w _ e i.size) ad m c news hl hnews h1 (by omega) (by rw [Nat.zero_add]; exact hbytes) (Nat.le_refl _)
  unfold Oper.wp
  simp [execOp, ho, resolve, invoke, builtin, hs, hx, hrun, Result.andThen]
  rw [Nat.zero_add, List.nil_append] at r1
  exact hK v' w' ⟨RowV.of_own r1, fun b hb => (r1.lt b hb).1⟩ (Below.grown (Below.refl _ _) r2 (Nat.le_refl _) (fun j hj => by simp [Value.ownBlock] at hj))
end
section
variable {P : Program} {ops : Array Oper} {Q : Exit → Act → World → Prop} {md : Region.Mode} {C : World → Prop} {A : Nat}
/-- Two may come up. -/
theorem wpAnyC_two' {i j : Nat} {oi oj : Oper} {fuel : Nat} {listed : Array Bool} {a : Act} {w : World} (hoi : ops[i]? = some oi) (hoj : ops[j]? = some oj) (hr : Region.ready md ops listed = [i, j])
    (hi : ∀ K : Act → World → Prop, (∀ a w, ((listed.setIfInBounds i true).getD A true = false → C w) → wpAnyC P md ops Q C A fuel (listed.setIfInBounds i true) a w → K a w) → if Region.wanted oi (yielded ops a.tmps) = true then Oper.wp P oi a w K Q else K (a.put oi.dst undef) w)
    (hj : ∀ K : Act → World → Prop, (∀ a w, ((listed.setIfInBounds j true).getD A true = false → C w) → wpAnyC P md ops Q C A fuel (listed.setIfInBounds j true) a w → K a w) → if Region.wanted oj (yielded ops a.tmps) = true then Oper.wp P oj a w K Q else K (a.put oj.dst undef) w) :
    wpAnyC P md ops Q C A (fuel + 1) listed a w :=
  ⟨fun h0 => (by rw [hr] at h0; cases h0), fun k hk => by
    rw [hr] at hk
    rcases (show k = i ∨ k = j by simpa using hk) with rfl | rfl
    · exact wpOp_step hoi (fun K' hK => hi K' (fun a w h1 h2 => hK a w ⟨h1, h2⟩))
    · exact wpOp_step hoj (fun K' hK => hj K' (fun a w h1 h2 => hK a w ⟨h1, h2⟩))⟩
end
set_option maxRecDepth 100000 in
set_option maxHeartbeats 1600000 in
theorem same_fill (ar : Option Addr) (cr : Nat) (w : World) : Calls Tryz.prog 15 #[.agg #[.string ⟨#[97]⟩, .string ⟨#[102, 105, 108, 108]⟩, .slice none 0 0, .slice none 0 0, .slice ar 4 cr]] w fun e w' => e = .returned (.int .i64 (-1)) ∧ Below w.heap.size w w' := by
  go_enter Tryz.func15, Tryz.ntmps15
  go_wp2_with fail
  go_ret
  exact ⟨rfl, by (repeat (first | exact Below.refl _ _ | assumption | (refine Below.setCell ?_ (by first | (simp; done) | (simp; omega) | omega) _) | (refine Below.drew ?_) | (refine below_drewN ?_ _) | (refine Below.alloc ?_ (by first | (simp; done) | (simp; omega) | omega) _) | (refine Below.trans ?_ (Below.mono (by assumption) (by first | (simp; done) | (simp; omega) | omega)))))⟩
def stepV (ar : Option Addr) (cr : Nat) : Value := .agg #[.string ⟨#[97]⟩, .string ⟨#[102, 105, 108, 108]⟩, .slice none 0 0, .slice none 0 0, .slice ar 4 cr]
theorem zeroStep (w : World) : (zeroValue 48).run Tryz.prog w = .ok (.agg #[.string ⟨#[]⟩, .string ⟨#[]⟩, .slice none 0 0, .slice none 0 0, .slice none 0 0]) w := by kernel_rfl
/-- What the inner function works on. -/
structure NeedW (w : World) (pm ps pk pg mm ms mk : Nat) (ar : Option Addr) (cr : Nat) : Prop where
  m : Blk w pm [.map (some mm)]
  s : Blk w ps [.map (some ms)]
  k : Blk w pk [.map (some mk)]
  g : Blk w pg [.slice none 0 0, .int .i64 0]
  om : w.ownsMap Tryz.prog 9 heldV mm 0 (.map [])
  os : w.ownsMap Tryz.prog 9 heldV ms 1 ((DataW.map []).put (keyS ⟨#[97]⟩) (.held (stepV ar cr)))
  ok : w.ownsMap Tryz.prog 9 heldV mk 0 (.map [])
  ne : mm ≠ mk
  ne2 : pm ≠ pg
theorem NeedW.past {w w' : World} {pm ps pk pg mm ms mk : Nat} {ar : Option Addr} {cr : Nat} (h : NeedW w pm ps pk pg mm ms mk ar cr) (hb : Below w.heap.size w w') : NeedW w' pm ps pk pg mm ms mk ar cr :=
  ⟨h.m.past hb, h.s.past hb, h.k.past hb, h.g.past hb, ownsMap_block h.om (hb.block _ h.om.lt), ownsMap_block h.os (hb.block _ h.os.lt), ownsMap_block h.ok (hb.block _ h.ok.lt), h.ne, h.ne2⟩
theorem blk_ne_map {P : Program} {k : TypeId} {R : Value → Option (DataW Value × List MemPlace)} {w : World} {n b m : Nat} {v : Value} {vs : List Value} {D : DataW Value} (h : Blk w n (v :: vs)) (o : w.ownsMap P k R b m D) : n ≠ b := fun e => by
  subst e
  obtain ⟨es, clock, hb, -⟩ := o
  have := h.c 0 _ rfl
  simp [World.cell?, hb] at this
theorem nf_exit {next : Act → World → Prop} {Q : Exit → Act → World → Prop} {e : Exit} {a : Act} {w : World} (h : ∀ W, W = w → Exit.then next Q e a W) : Exit.then next Q e a w := h w rfl
theorem RealsAt.tch {B : Nat} {S : Nat → Prop} {w w' : World} {a : Option Addr} {l : List Nat} (h : RealsAt B w a l) (t : Tch S w w') (hn : ∀ b, S b → b < B) : RealsAt B w' a l := by
  rcases h with h | ⟨b, off, h1, h0, h2, h3⟩
  · exact .inl h
  · exact .inr ⟨b, off, h1, h0, Nat.lt_of_lt_of_le h2 t.size, fun i v hv => by rw [World.cell?_of_block (a := ⟨b, off + i, none⟩) (t.block b h2 (fun hS => by have := hn b hS; omega))]; exact h3 i v hv⟩
theorem NewRow.reals {B : Nat} {w : World} {a : Option Addr} {n c : Nat} {l : List Nat} (h : NewRow B w 1 (.slice a n c) n (l.map (Value.float .f32))) : RealsAt B w a l := by
  obtain ⟨⟨h0, ao, cap, e, h1, h2, h3⟩, h4⟩ := h
  injection e with e1 e2 e3
  subst e1 e3
  have hn : l.length = n := by simpa using h0
  rcases h3 with ⟨rfl, h3⟩ | ⟨b, off, rfl, h5, h6, h7⟩
  · exact .inl (List.eq_nil_of_length_eq_zero (by omega))
  · exact .inr ⟨b, off, rfl, h4 b rfl, h5, fun i v hv => h6 i _ (by rw [List.getElem?_map, hv]; rfl)⟩
/-- What the inner function leaves: one node. -/
def NeedP (pm pg mm mk : Nat) (w w' : World) : Prop := (∃ ao c, Blk w' pg [.slice ao 1 c, .int .i64 0]) ∧ Tch (fun b => b = pg ∨ b = mm ∨ b = mk) w w' ∧ pm = pm
theorem infoNode : (Tryz.prog.info? 38).map (fun i => (i.zero, i.size, i.bytes)) = some (some (.agg #[.string ⟨#[]⟩, .slice none 0 0, .slice none 0 0, .slice none 0 0]), 4, 88) := by kernel_rfl
theorem four_new (w : World) (ty : TypeId) (v0 v1 v2 v3 : Value) : ∀ j u, [v0, v1, v2, v3][j]? = some u → (w.alloc (.cells #[v0, v1, v2, v3] ty)).cell? ((⟨w.heap.size, 0, none⟩ : Addr).add j) = some u := fun j u hj => by
  rw [Addr.add_lit, Nat.zero_add, World.cell?_alloc_new]
  simpa using hj
theorem four_one (s : ByteArray) (a b c : Option Addr) (n m k d e f : Nat) : ∀ u ∈ [Value.string s, .slice a n d, .slice b m e, .slice c k f], u.oneCell' = true := fun u hu => by
  simp only [List.mem_cons, List.not_mem_nil, or_false] at hu
  rcases hu with rfl | rfl | rfl | rfl <;> rfl
theorem infoF32N : (Tryz.prog.info? 41).map (fun i => (i.zero, i.size, i.bytes)) = some (some (.float .f32 0), 1, 4) := by kernel_rfl
set_option maxRecDepth 100000 in
set_option maxHeartbeats 6400000 in
theorem need_one (pm ps pn pk pg mm ms mk : Nat) (br ro cr : Nat) (rs : List Nat) (w : World) (hL : LibW w) (h : NeedW w pm ps pk pg mm ms mk (some ⟨br, ro, none⟩) cr) (hr : rs.length = 4) (hR : RealsAt 0 w (some ⟨br, ro, none⟩) rs) :
    Calls Tryz.prog 14 #[.string ⟨#[97]⟩, .pointer (some ⟨pm, 0, none⟩), .pointer (some ⟨ps, 0, none⟩), .pointer (some ⟨pn, 0, none⟩), .pointer (some ⟨pk, 0, none⟩), .pointer (some ⟨pg, 0, none⟩)] w fun e w' => e = .returned (.int .i64 0) ∧ NeedP pm pg mm mk w w' := by
  have HH := Lib.hid (And.intro hL (And.intro h (And.intro hr hR)))
  have q0 := h.m.c 0 _ rfl; have ql := h.m.lt
  have s0 := h.s.c 0 _ rfl; have sl := h.s.lt
  have hat : ((DataW.map []).put (keyS ⟨#[97]⟩) (DataW.held (stepV (some ⟨br, ro, none⟩) cr))).atKey (keyS ⟨#[97]⟩) (.held (.agg #[.string ⟨#[]⟩, .string ⟨#[]⟩, .slice none 0 0, .slice none 0 0, .slice none 0 0])) = .held (stepV (some ⟨br, ro, none⟩) cr) := Maps.atKey_put_same ⟨_, rfl⟩ (lawStr.key (keyS_mk (nm := ⟨#[97]⟩) (by decide))) _ _
  unfold stepV at hat
  clear hL hr hR h
  go_enter Tryz.func14, Tryz.ntmps14
  go_upto_region 5 with (first | (at_lookup; refine wpList_look1 _ rfl _ _ 49 rfl 9 3 lawStr Tryz.underlying49 (zeroI _) mm 0 (.map []) rfl HH.out.2.1.om _ (keyS ⟨#[97]⟩) rfl (keyS_mk (by decide)) (.int .i64 0) false rfl rfl ?_) | (at_lookup; refine wpList_look0 _ rfl _ _ 45 rfl 9 48 lawStr Tryz.underlying45 (zeroStep _) ms 1 _ rfl HH.out.2.1.os _ (keyS ⟨#[97]⟩) rfl (keyS_mk (by decide)) _ hat ?_))
  refine wp_world (fun V hV => ?_)
  have HV : Hid (Blk V w.heap.size [.string ⟨#[97]⟩, .string ⟨#[102, 105, 108, 108]⟩, .slice none 0 0, .slice none 0 0, .slice (some ⟨br, ro, none⟩) 4 cr] ∧ Below w.heap.size w V) := Lib.hid (by rw [hV]; exact ⟨Blk.new _ _ _ _ rfl, by (repeat (first | exact Below.refl _ _ | assumption | (refine Below.setCell ?_ (by first | (simp; done) | (simp; omega) | omega) _) | (refine Below.drew ?_) | (refine below_drewN ?_ _) | (refine Below.alloc ?_ (by first | (simp; done) | (simp; omega) | omega) _) | (refine Below.trans ?_ (Below.mono (by assumption) (by first | (simp; done) | (simp; omega) | omega)))))⟩)
  clear hV hat q0 ql s0 sl
  have m0 := HV.out.1.c 0 _ rfl; have m1 := HV.out.1.c 1 _ rfl; have m2 := HV.out.1.c 2 _ rfl; have m3 := HV.out.1.c 3 _ rfl; have m4 := HV.out.1.c 4 _ rfl
  have ml := HV.out.1.lt
  go_upto_region 9 with (go_at_call 15; refine (same_fill _ _ _).mono ?_; rintro e v1 ⟨rfl, hb1⟩; replace HV := Lib.hid (And.intro (HV.out.1.past hb1) (HV.out.2.trans (hb1.mono HV.out.2.size))); clear hb1)
  obtain ⟨i0, hi0, hz0, hz1, hz2⟩ := info_parts infoF32N
  have HCP : Hid (∀ w', Below v1.heap.size v1 w' → w'.cell? ⟨w.heap.size, 1, none⟩ = some (.string ⟨#[102, 105, 108, 108]⟩) ∧ w'.cell? ⟨w.heap.size, 3, none⟩ = some (.slice none 0 0) ∧ w'.cell? ⟨w.heap.size, 4, none⟩ = some (.slice (some ⟨br, ro, none⟩) 4 cr)) := Lib.hid (fun w' h' => have h := HV.out.1.past h'; ⟨h.c 1 _ rfl, h.c 3 _ rfl, h.c 4 _ rfl⟩)
  clear m0 m1 m2 m3 m4 ml
  refine wp_region_C (fun w' => w'.cell? ⟨w.heap.size, 1, none⟩ = some (.string ⟨#[102, 105, 108, 108]⟩) ∧ w'.cell? ⟨w.heap.size, 3, none⟩ = some (.slice none 0 0) ∧ w'.cell? ⟨w.heap.size, 4, none⟩ = some (.slice (some ⟨br, ro, none⟩) 4 cr)) 10 11 (by kernel_rfl) rfl ?_
  have hC := HCP.out v1.drew ((Below.refl _ _).drew)
  refine wpAnyC_take (i := 0) (v := .pointer (some ⟨w.heap.size, 1, none⟩)) rfl (by kernel_rfl) (by kernel_rfl) (fun _ _ _ h => h) (.inl ⟨rfl, fun w' hw' => ?_⟩) hC ?_
  · obtain ⟨k0, k1, k2⟩ := hw'
    go_simp
  refine wpAnyC_act (by rfl) ?_
  simp only [Act.put, List.setIfInBounds_toArray, List.set_cons_zero, List.set_cons_succ]
  refine wpAnyC_take (i := 1) (v := .string ⟨#[102, 105, 108, 108]⟩) rfl (by kernel_rfl) (by kernel_rfl) (fun _ _ _ h => h) (.inl ⟨rfl, fun w' hw' => ?_⟩) hC ?_
  · obtain ⟨k0, k1, k2⟩ := hw'
    go_simp
  refine wpAnyC_act (by rfl) ?_
  simp only [Act.put, List.setIfInBounds_toArray, List.set_cons_zero, List.set_cons_succ]
  refine wpAnyC_take (i := 2) (v := .pointer (some ⟨w.heap.size, 3, none⟩)) rfl (by kernel_rfl) (by kernel_rfl) (fun _ _ _ h => h) (.inl ⟨rfl, fun w' hw' => ?_⟩) hC ?_
  · obtain ⟨k0, k1, k2⟩ := hw'
    go_simp
  refine wpAnyC_act (by rfl) ?_
  simp only [Act.put, List.setIfInBounds_toArray, List.set_cons_zero, List.set_cons_succ]
  refine wpAnyC_take (i := 3) (v := .slice none 0 0) rfl (by kernel_rfl) (by kernel_rfl) (fun _ _ _ h => h) (.inl ⟨rfl, fun w' hw' => ?_⟩) hC ?_
  · obtain ⟨k0, k1, k2⟩ := hw'
    go_simp
  refine wpAnyC_act (by rfl) ?_
  simp only [Act.put, List.setIfInBounds_toArray, List.set_cons_zero, List.set_cons_succ]
  refine wpAnyC_take (i := 4) (v := .slice none 0 0) rfl (by kernel_rfl) (by kernel_rfl) (fun _ _ _ h => h) (.inl ⟨rfl, fun w' hw' => ?_⟩) hC ?_
  · obtain ⟨k0, k1, k2⟩ := hw'
    go_simp
  refine wpAnyC_act (by rfl) ?_
  simp only [Act.put, List.setIfInBounds_toArray, List.set_cons_zero, List.set_cons_succ]
  refine wpAnyC_take (i := 5) (v := .pointer (some ⟨w.heap.size, 4, none⟩)) rfl (by kernel_rfl) (by kernel_rfl) (fun _ _ _ h => h) (.inl ⟨rfl, fun w' hw' => ?_⟩) hC ?_
  · obtain ⟨k0, k1, k2⟩ := hw'
    go_simp
  refine wpAnyC_act (by rfl) ?_
  simp only [Act.put, List.setIfInBounds_toArray, List.set_cons_zero, List.set_cons_succ]
  refine wpAnyC_take (i := 6) (v := .slice (some ⟨br, ro, none⟩) 4 cr) rfl (by kernel_rfl) (by kernel_rfl) (fun _ _ _ h => h) (.inl ⟨rfl, fun w' hw' => ?_⟩) hC ?_
  · obtain ⟨k0, k1, k2⟩ := hw'
    go_simp
  refine wpAnyC_act (by rfl) ?_
  simp only [Act.put, List.setIfInBounds_toArray, List.set_cons_zero, List.set_cons_succ]
  have hRV : RealsAt 0 v1.drew (some ⟨br, ro, none⟩) rs := (HH.out.2.2.2.past HV.out.2).past ((Below.refl _ _).drew)
  have HRS : Hid (∀ w', Below v1.heap.size v1 w' → ∀ j u, (rs.map (Value.float .f32))[j]? = some u → w'.cell? ((⟨br, ro, none⟩ : Addr).add j) = some u) := Lib.hid (fun w' h' j u hj => by
    rw [List.getElem?_map, Option.map_eq_some_iff] at hj
    obtain ⟨v, hv, rfl⟩ := hj
    obtain ⟨b', o', e, hc⟩ := ((HH.out.2.2.2.past HV.out.2).past h').get hv
    cases e
    rw [Addr.add_lit]; exact hc)
  clear hRV
  refine wpAnyC_two' (i := 7) (j := 9) rfl rfl (by kernel_rfl) (fun K hK => ?_) (fun K hK => ?_)
  · refine step_append_new rfl (.const (.slice none 0 0)) (.tmp 51) 36 rfl Tryz.underlying36 hi0 hz0 hz1 hz2 rfl (by decide) rfl ⟨br, ro, none⟩ 4 cr (rs.map (Value.float .f32)) rfl (by rw [List.length_map, HH.out.2.2.1]) (HRS.out _ ((Below.refl _ _).drew)) (fun u hu => by obtain ⟨v, -, rfl⟩ := List.mem_map.1 hu; rfl) (by decide) (by decide) ?_
    intro v2 w2 hR2 hB2
    have HR2 := Lib.hid (And.intro hR2 (((Below.refl _ _).drew).trans (hB2.mono (by simp)) : Below v1.heap.size v1 w2))
    obtain ⟨ao2, cp2, rfl⟩ := hR2.form
    clear hR2 hB2 hC
    refine hK _ _ (fun _ => HCP.out _ HR2.out.2) ?_
    clear hK K
    refine wpAnyC_act (by rfl) ?_
    simp only [Act.put, List.setIfInBounds_toArray, List.set_cons_zero, List.set_cons_succ]
    have hC := HCP.out _ HR2.out.2
    refine wpAnyC_take (i := 8) (v := .agg #[.string ⟨#[102, 105, 108, 108]⟩, .slice none 0 0, .slice none 0 0, .slice ao2 4 cp2]) rfl (by kernel_rfl) (by kernel_rfl) (fun _ _ _ h => h) (.inl ⟨rfl, fun w' hw' => ?_⟩) hC ?_
    · obtain ⟨k0, k1, k2⟩ := hw'
      go_simp
    refine wpAnyC_act (by rfl) ?_
    simp only [Act.put, List.setIfInBounds_toArray, List.set_cons_zero, List.set_cons_succ]
    refine wpAnyC_one (i := 9) rfl (by kernel_rfl) (fun K hK => ?_)
    go_simp
    refine hK _ _ (fun _ => HCP.out _ (HR2.out.2.alloc HR2.out.2.size _)) ?_
    clear hK K hC
    refine wpAnyC_one (i := 10) rfl (by kernel_rfl) (fun K hK => ?_)
    go_simp
    refine hK _ _ (fun h => by rw [getD_setSelf] at h; cases h) ?_
    clear hK K
    refine wpAnyC_done (by kernel_rfl) ?_
    refine nf_exit (fun W hW => ?_)
    obtain ⟨xb, hxb⟩ : ∃ xb, xb = w2.heap.size := ⟨_, rfl⟩
    have HT : Hid (Blk W xb [.string ⟨#[102, 105, 108, 108]⟩, .slice none 0 0, .slice none 0 0, .slice ao2 4 cp2] ∧ Below v1.heap.size v1 W ∧ RealsAt 0 W ao2 rs) := Lib.hid (by
      rw [hW, hxb]
      exact ⟨Blk.new _ _ _ _ rfl, by (have h0 := HR2.out.2; have h1 := h0.size; (repeat (first | exact Below.refl _ _ | assumption | (refine Below.setCell ?_ (by first | (simp; done) | (simp; omega) | omega) _) | (refine Below.drew ?_) | (refine below_drewN ?_ _) | (refine Below.alloc ?_ (by first | (simp; done) | (simp; omega) | omega) _) | (refine Below.trans ?_ (Below.mono (by assumption) (by first | (simp; done) | (simp; omega) | omega)))))), (HR2.out.1.reals.mono (Nat.zero_le _)).past (by (repeat (first | exact Below.refl _ _ | assumption | (refine Below.setCell ?_ (by first | (simp; done) | (simp; omega) | omega) _) | (refine Below.drew ?_) | (refine below_drewN ?_ _) | (refine Below.alloc ?_ (by first | (simp; done) | (simp; omega) | omega) _) | (refine Below.trans ?_ (Below.mono (by assumption) (by first | (simp; done) | (simp; omega) | omega))))))⟩)
    rw [← hxb]
    clear hxb hW HCP HRS hi0 hz0 hz1 hz2 HR2
    have HNW := Lib.hid (HH.out.2.1.past (HV.out.2.trans (HT.out.2.1.mono HV.out.2.size)))
    have HBW := Lib.hid (HV.out.2.trans (HT.out.2.1.mono HV.out.2.size))
    have HSB := Lib.hid (HV.out.1.past HT.out.2.1)
    clear HV
    have m1 := HSB.out.c 1 _ rfl; have m2 := HSB.out.c 2 _ rfl; have ml := HSB.out.lt
    have n0 := HT.out.1.c 0 _ rfl; have n1 := HT.out.1.c 1 _ rfl; have n2 := HT.out.1.c 2 _ rfl; have n3 := HT.out.1.c 3 _ rfl; have nl := HT.out.1.lt
    go_wp2_with fail
    refine wp_loop_rounds 1 ?_
    rw [rounds_succ]
    go_wp2_with fail
    obtain ⟨WT, hWT⟩ : ∃ WT, WT = bs (wordT [] [] rs) := ⟨_, rfl⟩
    have hWS : WT.size ≤ 40 := by
      rw [hWT, Lib.size_eq, bs_data]
      have h1 := numT_len (is := []) (rs := rs) (fun i hi => by simp at hi)
      have h2 := HH.out.2.2.1
      show (numT [] rs).length ≤ 40
      simp only [List.length_nil] at h1
      omega
    have HWD : Hid (∀ w', Below W.heap.size W w' → Calls Tryz.prog 16 #[.agg #[.string ⟨#[102, 105, 108, 108]⟩, .slice none 0 0, .slice none 0 0, .slice ao2 4 cp2]] w' fun e w'' => e = .returned (.string WT) ∧ Below w'.heap.size w' w'') := Lib.hid (fun w' h' => by
      rw [hWT]
      exact words_any _ none none ao2 0 0 0 0 4 cp2 [] [] rs w' (HH.out.1.past (HBW.out.trans (h'.mono HBW.out.size))) rfl rfl HH.out.2.2.1 (by decide) (by decide) (by decide) (.inl rfl) (.inl rfl) (HT.out.2.2.past h') (fun i hi => by simp at hi) (fun i hi => by simp at hi))
    clear hWT
    have q1 : ¬ 9223372036854775807 < 4 + WT.size := by omega
    refine wp_region_loose 5 (fun _ _ u => u = .string WT) (by kernel_rfl) (by kernel_rfl) ?_
    simp only [List.take_succ_cons, List.take_zero, List.drop_succ_cons, List.drop_zero]
    iterate 3 (refine loose_wanted rfl (fun K hK => ?_); go_simp; refine hK _ ?_; clear hK K)
    refine loose_step rfl (fun K hK => ?_)
    go_simp
    refine ⟨fun p => (HWD.out p.w p.h).mono ?_, ?_⟩
    · rintro e w' ⟨rfl, hb⟩
      exact ⟨_, rfl, rfl, p.h.trans (hb.mono p.h.size)⟩
    refine hK _ ?_
    clear hK K
    (refine loose_wanted rfl (fun K hK => ?_); go_simp; refine hK _ ?_; clear hK K)
    refine loose_nil (fun X hX => ?_)
    have HNX := Lib.hid (And.intro (HNW.out.past hX) (And.intro (HT.out.1.past hX) (HBW.out.trans (hX.mono HBW.out.size))))
    have hk := keyS_mk (nm := ⟨#[102, 105, 108, 108]⟩ ++ WT) (by rw [ByteArray.size_append]; have : (⟨#[102, 105, 108, 108]⟩ : ByteArray).size = 4 := rfl; unfold maxLen; omega)
    clear HNW HT HBW HSB HWD hX m1 m2 ml n0 n1 n2 n3 nl
    have k0 := HNX.out.1.k.c 0 _ rfl; have kl := HNX.out.1.k.lt
    have g0 := HNX.out.1.g.c 0 _ rfl; have gl := HNX.out.1.g.lt
    go_upto_region 20 with (first | (at_lookup; refine wpList_look1 _ rfl _ _ 49 rfl 9 3 lawStr Tryz.underlying49 (zeroI _) mk 0 (.map []) rfl HNX.out.1.ok _ _ rfl hk (.int .i64 0) false rfl rfl ?_) | (at_mapUpdate; refine wpList_mapUpdate_own _ rfl _ _ _ 49 rfl 9 3 lawStr Tryz.underlying49 heldV mk 0 (.map []) rfl HNX.out.1.ok (by decide) _ _ _ rfl rfl hk (.held (.int .i64 0)) [] rfl ?_; intro w3 hown3 hgrow3))
    have hT3 : Tch (fun b => b = mk) X w3 := Tch.of_grown hgrow3 (fun b hb => by cases hb; rfl)
    have H3 := Lib.hid (And.intro hT3 (And.intro (HNX.out.1.g.tch hT3 (blk_ne_map HNX.out.1.g HNX.out.1.ok)) (And.intro (HNX.out.2.1.tch hT3 (blk_ne_map HNX.out.2.1 HNX.out.1.ok)) (And.intro (HNX.out.1.m.tch hT3 (blk_ne_map HNX.out.1.m HNX.out.1.ok)) (ownsMap_block HNX.out.1.om (hT3.block mm HNX.out.1.om.lt HNX.out.1.ne))))))
    clear hown3 hgrow3 hT3 k0 kl g0 gl
    have g0 := H3.out.2.1.c 0 _ rfl; have gl := H3.out.2.1.lt
    have n0 := H3.out.2.2.1.c 0 _ rfl; have n1 := H3.out.2.2.1.c 1 _ rfl; have n2 := H3.out.2.2.1.c 2 _ rfl; have n3 := H3.out.2.2.1.c 3 _ rfl; have nl := H3.out.2.2.1.lt
    obtain ⟨i0, hi0, hz0, hz1, hz2⟩ := info_parts infoNode
    go_upto_region 21 with (at_builtin; refine wpList_append_row (v := .slice none 0 0) _ rfl _ _ 25 rfl Tryz.underlying25 hi0 hz0 hz1 hz2 rfl (by decide) rfl (RowV.nil _ 4) ⟨w3.heap.size, 0, none⟩ 1 [.string ⟨#[102, 105, 108, 108]⟩, .slice none 0 0, .slice none 0 0, .slice ao2 4 cp2] rfl rfl (four_new _ _ _ _ _ _) (four_one _ _ _ _ _ _ _ _ _ _) (by decide) (by decide) ?_; intro ao5 cap5 w6 hR6 hG6 ho6; have hB6 : Below w3.heap.size w3 w6 := Below.grown ((Below.refl _ w3).alloc (Nat.le_refl _) _) hG6 (by simp) (fun j hj => by simp [Value.ownBlock] at hj); have H6 := Lib.hid hB6; have hg6 := H3.out.2.1.past hB6; have g6 := hg6.c 0 _ rfl; have gf := hg6.f; have gl6 := hg6.lt; clear hR6 hG6 ho6 hB6 hg6)
    refine wp_world (fun w7 hW7 => ?_)
    have hT7 : Tch (fun b => b = pg) w6 w7 := by rw [hW7]; exact (Tch.refl (fun b => b = pg) w6).set ⟨pg, 0, none⟩ _ rfl
    have H7 := Lib.hid (And.intro hT7 (And.intro (show Blk w7 pg [.slice ao5 (0 + 1) cap5, .int .i64 0] by rw [hW7]; simpa using (H3.out.2.1.past H6.out).set 0 (.slice ao5 (0 + 1) cap5)) (And.intro ((H3.out.2.2.2.1.past H6.out).tch hT7 HH.out.2.1.ne2) (ownsMap_block (ownsMap_block H3.out.2.2.2.2 (H6.out.block mm H3.out.2.2.2.2.lt)) (hT7.block mm (Nat.lt_of_lt_of_le H3.out.2.2.2.2.lt H6.out.size) (fun e => blk_ne_map H3.out.2.1 H3.out.2.2.2.2 e.symm))))))
    clear hW7 hT7 g0 gl n0 n1 n2 n3 nl g6 gf gl6 hk
    have q0 := H7.out.2.2.1.c 0 _ rfl; have ql := H7.out.2.2.1.lt
    go_wp2_with (at_mapUpdate; refine wpList_mapUpdate_own _ rfl _ _ _ 49 rfl 9 3 lawStr Tryz.underlying49 heldV mm 0 (.map []) rfl H7.out.2.2.2 (by decide) _ _ (keyS ⟨#[97]⟩) rfl rfl (keyS_mk (by decide)) (.held (.int .i64 0)) [] rfl ?_; intro w8 hown8 hgrow8)
    go_ret
    have t8 : Tch (fun b => b = mm) w7 w8 := Tch.of_grown hgrow8 (fun b hb => by cases hb; rfl)
    refine ⟨rfl, ⟨ao5, cap5, H7.out.2.1.tch t8 (fun e => blk_ne_map H7.out.2.1 H7.out.2.2.2 e)⟩, ?_, rfl⟩
    exact ((((Tch.of_below HNX.out.2.2).trans (H3.out.1.mono (fun _ _ e => .inr (.inr e)))).trans (Tch.of_below H6.out)).trans (H7.out.1.mono (fun _ _ e => .inl e))).trans (t8.mono (fun _ _ e => .inr (.inl e)))
  · go_simp
    refine hK _ _ (fun _ => HCP.out _ (((Below.refl _ _).drew).alloc (by simp) _)) ?_
    clear hK K hC
    refine wpAnyC_one (i := 7) rfl (by kernel_rfl) (fun K hK => ?_)
    obtain ⟨U, hU⟩ : ∃ U, U = (v1.alloc (.cells #[.string ⟨#[]⟩, .slice none 0 0, .slice none 0 0, .slice none 0 0] 38)).drew := ⟨_, rfl⟩
    have HU : Hid (Blk U v1.heap.size [.string ⟨#[]⟩, .slice none 0 0, .slice none 0 0, .slice none 0 0] ∧ Below v1.heap.size v1 U) := Lib.hid (by rw [hU]; exact ⟨(Blk.new _ _ _ _ rfl).drew, ((Below.refl _ _).alloc (Nat.le_refl _) _).drew⟩)
    rw [← hU]
    clear hU
    refine step_append_new rfl (.const (.slice none 0 0)) (.tmp 51) 36 rfl Tryz.underlying36 hi0 hz0 hz1 hz2 rfl (by decide) rfl ⟨br, ro, none⟩ 4 cr (rs.map (Value.float .f32)) rfl (by rw [List.length_map, HH.out.2.2.1]) (HRS.out _ HU.out.2) (fun u hu => by obtain ⟨v, -, rfl⟩ := List.mem_map.1 hu; rfl) (by decide) (by decide) ?_
    intro v2 w2 hR2 hB2
    have HR2 := Lib.hid (And.intro hR2 (And.intro (HU.out.2.trans (hB2.mono HU.out.2.size)) (HU.out.1.past hB2)))
    have HUL := Lib.hid HU.out.1.lt
    obtain ⟨ao2, cp2, rfl⟩ := hR2.form
    clear hR2 hB2 HU
    refine hK _ _ (fun _ => HCP.out _ HR2.out.2.1) ?_
    clear hK K
    refine wpAnyC_act (by rfl) ?_
    simp only [Act.put, List.setIfInBounds_toArray, List.set_cons_zero, List.set_cons_succ]
    have hC := HCP.out _ HR2.out.2.1
    refine wpAnyC_take (i := 8) (v := .agg #[.string ⟨#[102, 105, 108, 108]⟩, .slice none 0 0, .slice none 0 0, .slice ao2 4 cp2]) rfl (by kernel_rfl) (by kernel_rfl) (fun _ _ _ h => h) (.inl ⟨rfl, fun w' hw' => ?_⟩) hC ?_
    · obtain ⟨k0, k1, k2⟩ := hw'
      go_simp
    refine wpAnyC_act (by rfl) ?_
    simp only [Act.put, List.setIfInBounds_toArray, List.set_cons_zero, List.set_cons_succ]
    have z0 := HR2.out.2.2.c 0 _ rfl; have z1 := HR2.out.2.2.c 1 _ rfl; have z2 := HR2.out.2.2.c 2 _ rfl; have z3 := HR2.out.2.2.c 3 _ rfl; have zl := HR2.out.2.2.lt; have zf := HR2.out.2.2.f
    refine wpAnyC_one (i := 10) rfl (by kernel_rfl) (fun K hK => ?_)
    go_simp
    refine hK _ _ (fun h => by rw [getD_setSelf] at h; cases h) ?_
    clear hK K hC z0 z1 z2 z3 zl zf
    refine wpAnyC_done (by kernel_rfl) ?_
    refine nf_exit (fun W hW => ?_)
    obtain ⟨xb, hxb⟩ : ∃ xb, xb = v1.heap.size := ⟨_, rfl⟩
    have HT : Hid (Blk W xb [.string ⟨#[102, 105, 108, 108]⟩, .slice none 0 0, .slice none 0 0, .slice ao2 4 cp2] ∧ Below v1.heap.size v1 W ∧ RealsAt 0 W ao2 rs) := Lib.hid (by
      rw [hW, hxb]
      exact ⟨by simpa using (((HR2.out.2.2.set 0 (.string ⟨#[102, 105, 108, 108]⟩)).set 1 (.slice none 0 0)).set 2 (.slice none 0 0)).set 3 (.slice ao2 4 cp2), by (have h0 := HR2.out.2.1; (repeat (first | exact Below.refl _ _ | assumption | (refine Below.setCell ?_ (by first | (simp; done) | (simp; omega) | omega) _) | (refine Below.drew ?_) | (refine below_drewN ?_ _) | (refine Below.alloc ?_ (by first | (simp; done) | (simp; omega) | omega) _) | (refine Below.trans ?_ (Below.mono (by assumption) (by first | (simp; done) | (simp; omega) | omega)))))), by (have hq := ((((Tch.refl (fun b => b = v1.heap.size) w2).set ⟨v1.heap.size, 0, none⟩ (.string ⟨#[102, 105, 108, 108]⟩) rfl).set ⟨v1.heap.size, 1, none⟩ (.slice none 0 0) rfl).set ⟨v1.heap.size, 2, none⟩ (.slice none 0 0) rfl).set ⟨v1.heap.size, 3, none⟩ (.slice ao2 4 cp2) rfl; exact (HR2.out.1.reals.tch hq (fun b hb => by subst hb; exact HUL.out)).mono (Nat.zero_le _))⟩)
    rw [← hxb]
    clear hxb hW HCP HRS hi0 hz0 hz1 hz2 HR2
    have HNW := Lib.hid (HH.out.2.1.past (HV.out.2.trans (HT.out.2.1.mono HV.out.2.size)))
    have HBW := Lib.hid (HV.out.2.trans (HT.out.2.1.mono HV.out.2.size))
    have HSB := Lib.hid (HV.out.1.past HT.out.2.1)
    clear HV
    have m1 := HSB.out.c 1 _ rfl; have m2 := HSB.out.c 2 _ rfl; have ml := HSB.out.lt
    have n0 := HT.out.1.c 0 _ rfl; have n1 := HT.out.1.c 1 _ rfl; have n2 := HT.out.1.c 2 _ rfl; have n3 := HT.out.1.c 3 _ rfl; have nl := HT.out.1.lt
    go_wp2_with fail
    refine wp_loop_rounds 1 ?_
    rw [rounds_succ]
    go_wp2_with fail
    obtain ⟨WT, hWT⟩ : ∃ WT, WT = bs (wordT [] [] rs) := ⟨_, rfl⟩
    have hWS : WT.size ≤ 40 := by
      rw [hWT, Lib.size_eq, bs_data]
      have h1 := numT_len (is := []) (rs := rs) (fun i hi => by simp at hi)
      have h2 := HH.out.2.2.1
      show (numT [] rs).length ≤ 40
      simp only [List.length_nil] at h1
      omega
    have HWD : Hid (∀ w', Below W.heap.size W w' → Calls Tryz.prog 16 #[.agg #[.string ⟨#[102, 105, 108, 108]⟩, .slice none 0 0, .slice none 0 0, .slice ao2 4 cp2]] w' fun e w'' => e = .returned (.string WT) ∧ Below w'.heap.size w' w'') := Lib.hid (fun w' h' => by
      rw [hWT]
      exact words_any _ none none ao2 0 0 0 0 4 cp2 [] [] rs w' (HH.out.1.past (HBW.out.trans (h'.mono HBW.out.size))) rfl rfl HH.out.2.2.1 (by decide) (by decide) (by decide) (.inl rfl) (.inl rfl) (HT.out.2.2.past h') (fun i hi => by simp at hi) (fun i hi => by simp at hi))
    clear hWT
    have q1 : ¬ 9223372036854775807 < 4 + WT.size := by omega
    refine wp_region_loose 5 (fun _ _ u => u = .string WT) (by kernel_rfl) (by kernel_rfl) ?_
    simp only [List.take_succ_cons, List.take_zero, List.drop_succ_cons, List.drop_zero]
    iterate 3 (refine loose_wanted rfl (fun K hK => ?_); go_simp; refine hK _ ?_; clear hK K)
    refine loose_step rfl (fun K hK => ?_)
    go_simp
    refine ⟨fun p => (HWD.out p.w p.h).mono ?_, ?_⟩
    · rintro e w' ⟨rfl, hb⟩
      exact ⟨_, rfl, rfl, p.h.trans (hb.mono p.h.size)⟩
    refine hK _ ?_
    clear hK K
    (refine loose_wanted rfl (fun K hK => ?_); go_simp; refine hK _ ?_; clear hK K)
    refine loose_nil (fun X hX => ?_)
    have HNX := Lib.hid (And.intro (HNW.out.past hX) (And.intro (HT.out.1.past hX) (HBW.out.trans (hX.mono HBW.out.size))))
    have hk := keyS_mk (nm := ⟨#[102, 105, 108, 108]⟩ ++ WT) (by rw [ByteArray.size_append]; have : (⟨#[102, 105, 108, 108]⟩ : ByteArray).size = 4 := rfl; unfold maxLen; omega)
    clear HNW HT HBW HSB HWD hX m1 m2 ml n0 n1 n2 n3 nl
    have k0 := HNX.out.1.k.c 0 _ rfl; have kl := HNX.out.1.k.lt
    have g0 := HNX.out.1.g.c 0 _ rfl; have gl := HNX.out.1.g.lt
    go_upto_region 20 with (first | (at_lookup; refine wpList_look1 _ rfl _ _ 49 rfl 9 3 lawStr Tryz.underlying49 (zeroI _) mk 0 (.map []) rfl HNX.out.1.ok _ _ rfl hk (.int .i64 0) false rfl rfl ?_) | (at_mapUpdate; refine wpList_mapUpdate_own _ rfl _ _ _ 49 rfl 9 3 lawStr Tryz.underlying49 heldV mk 0 (.map []) rfl HNX.out.1.ok (by decide) _ _ _ rfl rfl hk (.held (.int .i64 0)) [] rfl ?_; intro w3 hown3 hgrow3))
    have hT3 : Tch (fun b => b = mk) X w3 := Tch.of_grown hgrow3 (fun b hb => by cases hb; rfl)
    have H3 := Lib.hid (And.intro hT3 (And.intro (HNX.out.1.g.tch hT3 (blk_ne_map HNX.out.1.g HNX.out.1.ok)) (And.intro (HNX.out.2.1.tch hT3 (blk_ne_map HNX.out.2.1 HNX.out.1.ok)) (And.intro (HNX.out.1.m.tch hT3 (blk_ne_map HNX.out.1.m HNX.out.1.ok)) (ownsMap_block HNX.out.1.om (hT3.block mm HNX.out.1.om.lt HNX.out.1.ne))))))
    clear hown3 hgrow3 hT3 k0 kl g0 gl
    have g0 := H3.out.2.1.c 0 _ rfl; have gl := H3.out.2.1.lt
    have n0 := H3.out.2.2.1.c 0 _ rfl; have n1 := H3.out.2.2.1.c 1 _ rfl; have n2 := H3.out.2.2.1.c 2 _ rfl; have n3 := H3.out.2.2.1.c 3 _ rfl; have nl := H3.out.2.2.1.lt
    obtain ⟨i0, hi0, hz0, hz1, hz2⟩ := info_parts infoNode
    go_upto_region 21 with (at_builtin; refine wpList_append_row (v := .slice none 0 0) _ rfl _ _ 25 rfl Tryz.underlying25 hi0 hz0 hz1 hz2 rfl (by decide) rfl (RowV.nil _ 4) ⟨w3.heap.size, 0, none⟩ 1 [.string ⟨#[102, 105, 108, 108]⟩, .slice none 0 0, .slice none 0 0, .slice ao2 4 cp2] rfl rfl (four_new _ _ _ _ _ _) (four_one _ _ _ _ _ _ _ _ _ _) (by decide) (by decide) ?_; intro ao5 cap5 w6 hR6 hG6 ho6; have hB6 : Below w3.heap.size w3 w6 := Below.grown ((Below.refl _ w3).alloc (Nat.le_refl _) _) hG6 (by simp) (fun j hj => by simp [Value.ownBlock] at hj); have H6 := Lib.hid hB6; have hg6 := H3.out.2.1.past hB6; have g6 := hg6.c 0 _ rfl; have gf := hg6.f; have gl6 := hg6.lt; clear hR6 hG6 ho6 hB6 hg6)
    refine wp_world (fun w7 hW7 => ?_)
    have hT7 : Tch (fun b => b = pg) w6 w7 := by rw [hW7]; exact (Tch.refl (fun b => b = pg) w6).set ⟨pg, 0, none⟩ _ rfl
    have H7 := Lib.hid (And.intro hT7 (And.intro (show Blk w7 pg [.slice ao5 (0 + 1) cap5, .int .i64 0] by rw [hW7]; simpa using (H3.out.2.1.past H6.out).set 0 (.slice ao5 (0 + 1) cap5)) (And.intro ((H3.out.2.2.2.1.past H6.out).tch hT7 HH.out.2.1.ne2) (ownsMap_block (ownsMap_block H3.out.2.2.2.2 (H6.out.block mm H3.out.2.2.2.2.lt)) (hT7.block mm (Nat.lt_of_lt_of_le H3.out.2.2.2.2.lt H6.out.size) (fun e => blk_ne_map H3.out.2.1 H3.out.2.2.2.2 e.symm))))))
    clear hW7 hT7 g0 gl n0 n1 n2 n3 nl g6 gf gl6 hk
    have q0 := H7.out.2.2.1.c 0 _ rfl; have ql := H7.out.2.2.1.lt
    go_wp2_with (at_mapUpdate; refine wpList_mapUpdate_own _ rfl _ _ _ 49 rfl 9 3 lawStr Tryz.underlying49 heldV mm 0 (.map []) rfl H7.out.2.2.2 (by decide) _ _ (keyS ⟨#[97]⟩) rfl rfl (keyS_mk (by decide)) (.held (.int .i64 0)) [] rfl ?_; intro w8 hown8 hgrow8)
    go_ret
    have t8 : Tch (fun b => b = mm) w7 w8 := Tch.of_grown hgrow8 (fun b hb => by cases hb; rfl)
    refine ⟨rfl, ⟨ao5, cap5, H7.out.2.1.tch t8 (fun e => blk_ne_map H7.out.2.1 H7.out.2.2.2 e)⟩, ?_, rfl⟩
    exact ((((Tch.of_below HNX.out.2.2).trans (H3.out.1.mono (fun _ _ e => .inr (.inr e)))).trans (Tch.of_below H6.out)).trans (H7.out.1.mono (fun _ _ e => .inl e))).trans (t8.mono (fun _ _ e => .inr (.inl e)))
end Go.Proofs.YtbaocallhnehfaaGreatDoor

namespace Go.Proofs.YtbaocallhnehfaaGreatDoor
open Go Go.RowKit
theorem entNeed : ∀ args w, (callFunc 14 args).run Tryz.prog w = .ok (.enter 14 args) w := body_enters Tryz.func14 (by kernel_rfl) rfl
set_option maxRecDepth 100000 in
set_option maxHeartbeats 6400000 in
theorem compile_one (b off c br ro cr : Nat) (rs : List Nat) (w : World) (hL : LibW w) (h : OneAt w b off (some ⟨br, ro, none⟩) cr) (hr : rs.length = 4) (hR : RealsAt 0 w (some ⟨br, ro, none⟩) rs) : Calls Tryz.prog 4 #[.agg #[.slice (some ⟨b, off, none⟩) 1 c, .string ⟨#[97]⟩]] w fun e w' => (∃ ao cap, e = .returned (.tuple #[.agg #[.slice ao 1 cap, .int .i64 0], .int .i64 0])) ∧ Below w.heap.size w w' := by
  have hmm := @run_makeMap Tryz.prog
  have hent := entNeed
  have HH := Lib.hid (And.intro hL (And.intro h (And.intro hr hR)))
  clear h hL hr hR
  go_enter Tryz.func4, Tryz.ntmps4
  go_upto_region 4 with (go_at_call 13; refine (check_one _ _ _ _ _ _ (HH.out.2.1.past (by (repeat (first | exact Below.refl _ _ | assumption | (refine Below.setCell ?_ (by first | (simp; done) | (simp; omega) | omega) _) | (refine Below.drew ?_) | (refine below_drewN ?_ _) | (refine Below.alloc ?_ (by first | (simp; done) | (simp; omega) | omega) _) | (refine Below.trans ?_ (Below.mono (by assumption) (by first | (simp; done) | (simp; omega) | omega)))))))).mono ?_; rintro e w1 ⟨rfl, hb1⟩)
  have H1 : Hid (Blk w1 w.heap.size [.slice (some ⟨b, off, none⟩) 1 c, .string ⟨#[97]⟩] ∧ Blk w1 (w.heap.size + 1) [.slice none 0 0, .int .i64 0] ∧ Below w.heap.size w w1) := Lib.hid ⟨((Blk.new w [.slice (some ⟨b, off, none⟩) 1 c, .string ⟨#[97]⟩] 24 _ rfl).alloc (.cells #[.slice none 0 0, .int .i64 0] 27)).past hb1, (Blk.new (w.alloc (.cells #[.slice (some ⟨b, off, none⟩) 1 c, .string ⟨#[97]⟩] 24)) [.slice none 0 0, .int .i64 0] 27 (w.heap.size + 1) (by simp)).past hb1, by (repeat (first | exact Below.refl _ _ | assumption | (refine Below.setCell ?_ (by first | (simp; done) | (simp; omega) | omega) _) | (refine Below.drew ?_) | (refine below_drewN ?_ _) | (refine Below.alloc ?_ (by first | (simp; done) | (simp; omega) | omega) _) | (refine Below.trans ?_ (Below.mono (by assumption) (by first | (simp; done) | (simp; omega) | omega)))))⟩
  clear hb1
  go_upto_region 5 with fail
  refine wp_world (fun V hV => ?_)
  obtain ⟨ms, hms⟩ : ∃ ms, ms = w1.heap.size := ⟨_, rfl⟩
  have hb2 : Below w1.heap.size w1 V := by rw [hV]; (repeat (first | exact Below.refl _ _ | assumption | (refine Below.setCell ?_ (by first | (simp; done) | (simp; omega) | omega) _) | (refine Below.drew ?_) | (refine below_drewN ?_ _) | (refine Below.alloc ?_ (by first | (simp; done) | (simp; omega) | omega) _) | (refine Below.trans ?_ (Below.mono (by assumption) (by first | (simp; done) | (simp; omega) | omega)))))
  have HV : Hid (Below w1.heap.size w1 V ∧ Blk V (ms + 1) [.map (some ms)] ∧ V.ownsMap Tryz.prog 9 heldV ms 0 (.map []) ∧ w1.heap.size = ms) := Lib.hid (by
    refine ⟨hb2, ?_, ?_, hms.symm⟩
    · rw [hV, hms]; exact Blk.new _ _ _ _ (by simp)
    · rw [hV, hms]; exact (World.ownsMap_made w1 _ _ _).alloc _)
  rw [← hms]
  have m0 := (H1.out.1.past hb2).c 0 _ rfl; have ml := (H1.out.1.past hb2).lt
  clear hV hb2 hms
  have HO := HH.out.2.1.past (H1.out.2.2.trans (HV.out.1.mono H1.out.2.2.size))
  have c0 := HO.c0; have c1 := HO.c1; have c2 := HO.c2; have c3 := HO.c3; have c4 := HO.c4
  have cl := cell_lt c0; simp only at cl
  have p0 := HV.out.2.1.c 0 _ rfl; have pl := HV.out.2.1.lt
  clear HO
  go_wp2_with fail
  refine wp_loop_rounds 2 ?_
  rw [rounds_succ]
  go_upto_region 8 with fail
  refine wp_world (fun U hU => ?_)
  have HU : Hid (Below V.heap.size V U ∧ Blk U V.heap.size [.string ⟨#[97]⟩, .string ⟨#[102, 105, 108, 108]⟩, .slice none 0 0, .slice none 0 0, .slice (some ⟨br, ro, none⟩) 4 cr]) := Lib.hid (by rw [hU]; exact ⟨by (repeat (first | exact Below.refl _ _ | assumption | (refine Below.setCell ?_ (by first | (simp; done) | (simp; omega) | omega) _) | (refine Below.drew ?_) | (refine below_drewN ?_ _) | (refine Below.alloc ?_ (by first | (simp; done) | (simp; omega) | omega) _) | (refine Below.trans ?_ (Below.mono (by assumption) (by first | (simp; done) | (simp; omega) | omega))))), Blk.new _ _ _ _ rfl⟩)
  have HM : Hid (U.ownsMap Tryz.prog 9 heldV ms 0 (.map [])) := Lib.hid (ownsMap_block HV.out.2.2.1 (HU.out.1.block ms HV.out.2.2.1.lt))
  have q0 := HU.out.2.c 0 _ rfl; have q1 := HU.out.2.c 1 _ rfl; have q2 := HU.out.2.c 2 _ rfl; have q3 := HU.out.2.c 3 _ rfl; have q4 := HU.out.2.c 4 _ rfl; have ql := HU.out.2.lt
  have r0 := (HV.out.2.1.past HU.out.1).c 0 _ rfl; have rl := (HV.out.2.1.past HU.out.1).lt
  clear hU c0 c1 c2 c3 c4 cl p0 pl m0 ml
  go_wp2_with (at_mapUpdate; refine wpList_mapUpdate_own _ rfl _ _ _ 45 rfl 9 48 lawStr Tryz.underlying45 heldV ms 0 (.map []) rfl HM.out (by decide) _ _ (keyS ⟨#[97]⟩) rfl rfl (keyS_mk (by decide)) (.held (stepV (some ⟨br, ro, none⟩) cr)) [] rfl ?_; intro w3 hown3 hgrow3)
  have hT : Tch (fun j => j = ms) U w3 := Tch.of_grown hgrow3 (fun j hj => by cases hj; rfl)
  have hBms : w.heap.size + 2 ≤ w1.heap.size := by have := H1.out.2.1.lt; omega
  have H3 : Hid (w3.ownsMap Tryz.prog 9 heldV ms 1 ((DataW.map []).put (keyS ⟨#[97]⟩) (.held (stepV (some ⟨br, ro, none⟩) cr))) ∧ Blk w3 (ms + 1) [.map (some ms)] ∧ Blk w3 w.heap.size [.slice (some ⟨b, off, none⟩) 1 c, .string ⟨#[97]⟩] ∧ Blk w3 (w.heap.size + 1) [.slice none 0 0, .int .i64 0] ∧ Below w1.heap.size w1 w3) := Lib.hid (by
    have hBU : Below w1.heap.size w1 U := HV.out.1.trans (HU.out.1.mono HV.out.1.size)
    have hB3 : Below w1.heap.size w1 w3 := hBU.grown hgrow3 hBU.size (fun j hj => by cases hj; exact Nat.le_of_eq HV.out.2.2.2)
    exact ⟨hown3, (HV.out.2.1.past HU.out.1).tch hT (fun e => by omega), H1.out.1.past hB3, H1.out.2.1.past hB3, hB3⟩)
  clear hown3 hgrow3 hT q0 q1 q2 q3 q4 ql r0 rl
  rw [rounds_succ]
  go_upto_region 14 with fail
  refine wp_world (fun Y hY => ?_)
  obtain ⟨N, hN⟩ : ∃ N, N = w3.heap.size := ⟨_, rfl⟩
  have HY : Hid (NeedW Y (N + 1 + 1 + 1 + 1) (ms + 1) (N + 1 + 1 + 1) N (N + 1 + 1) ms (N + 1) (some ⟨br, ro, none⟩) cr ∧ Blk Y (N + 1 + 1 + 1 + 1 + 1) [.func (.func 14) #[] #[.pointer (some ⟨N + 1 + 1 + 1 + 1, 0, none⟩), .pointer (some ⟨ms + 1, 0, none⟩), .pointer (some ⟨N + 1 + 1 + 1 + 1 + 1, 0, none⟩), .pointer (some ⟨N + 1 + 1 + 1, 0, none⟩), .pointer (some ⟨N, 0, none⟩)]] ∧ Below w3.heap.size w3 Y) := Lib.hid (by
    rw [hY, ← hN]
    clear hY
    have hbel : ∀ X, Below w3.heap.size w3 X → w3.heap.size ≤ X.heap.size := fun X h => h.size
    refine ⟨⟨?_, ?_, ?_, ?_, ?_, ?_, ?_, by omega, by omega⟩, ?_, by (repeat (first | exact Below.refl _ _ | assumption | (refine Below.setCell ?_ (by first | (simp; done) | (simp; omega) | omega) _) | (refine Below.drew ?_) | (refine below_drewN ?_ _) | (refine Below.alloc ?_ (by first | (simp; done) | (simp; omega) | omega) _) | (refine Below.trans ?_ (Below.mono (by assumption) (by first | (simp; done) | (simp; omega) | omega)))))⟩
    · exact (Blk.new _ _ _ _ (by simp [hN])).alloc _
    · exact H3.out.2.1.past (by (repeat (first | exact Below.refl _ _ | assumption | (refine Below.setCell ?_ (by first | (simp; done) | (simp; omega) | omega) _) | (refine Below.drew ?_) | (refine below_drewN ?_ _) | (refine Below.alloc ?_ (by first | (simp; done) | (simp; omega) | omega) _) | (refine Below.trans ?_ (Below.mono (by assumption) (by first | (simp; done) | (simp; omega) | omega))))))
    · exact ((Blk.new _ _ _ _ (by simp [hN])).alloc _).alloc _
    · exact ((((((Blk.new _ _ _ _ (by simp [hN])).alloc _).alloc _).alloc _).alloc _).alloc _)
    · have h := World.ownsMap_made ((w3.alloc (.cells #[.slice none 0 0, .int .i64 0] 27)).alloc (.map #[] 0)) Tryz.prog 9 heldV
      exact (((by simpa [hN] using h : World.ownsMap _ _ _ _ (N + 1 + 1) _ _).alloc _).alloc _).alloc _
    · exact ((((((H3.out.1.alloc _).alloc _).alloc _).alloc _).alloc _).alloc _)
    · have h := World.ownsMap_made (w3.alloc (.cells #[.slice none 0 0, .int .i64 0] 27)) Tryz.prog 9 heldV
      exact ((((by simpa [hN] using h : World.ownsMap _ _ _ _ (N + 1) _ _).alloc _).alloc _).alloc _).alloc _
    · exact Blk.new _ _ _ _ (by simp [hN]))
  rw [← hN]
  have HS := Lib.hid (And.intro (H3.out.2.2.1.past HY.out.2.2) (And.intro (H3.out.2.2.2.1.past HY.out.2.2) (H1.out.2.2.trans ((H3.out.2.2.2.2.trans (HY.out.2.2.mono H3.out.2.2.2.2.size)).mono H1.out.2.2.size))))
  have HN1 : Hid (w.heap.size + 2 ≤ N) := Lib.hid (by have h1 := H1.out.2.1.lt; have h2 := H3.out.2.2.2.2.size; omega)
  have HND : Hid (Calls Tryz.prog 14 #[.string ⟨#[97]⟩, .pointer (some ⟨N + 1 + 1 + 1 + 1, 0, none⟩), .pointer (some ⟨ms + 1, 0, none⟩), .pointer (some ⟨N + 1 + 1 + 1 + 1 + 1, 0, none⟩), .pointer (some ⟨N + 1 + 1 + 1, 0, none⟩), .pointer (some ⟨N, 0, none⟩)] Y fun e w' => e = .returned (.int .i64 0) ∧ NeedP (N + 1 + 1 + 1 + 1) N (N + 1 + 1) (N + 1) Y w') := Lib.hid (need_one _ _ _ _ _ _ _ _ br ro cr rs Y (HH.out.1.past HS.out.2.2) HY.out.1 HH.out.2.2.1 (HH.out.2.2.2.past HS.out.2.2))
  have n0 := HY.out.2.1.c 0 _ rfl; have nl := HY.out.2.1.lt
  have p1 := HS.out.1.c 1 _ rfl; have pl := HS.out.1.lt
  clear hY hN HU HV H3 H1 HM hmm hBms
  go_upto_region 15 with (go_at_call 14; refine HND.out.mono ?_; rintro e w4 ⟨rfl, ⟨ao, cc, hg⟩, hT, -⟩; have g1 := hg.c 1 _ rfl; have gl := hg.lt; have gf := hg.f)
  refine wp_world (fun w5 hW5 => ?_)
  have hT5 : Tch (fun b => b = N) w4 w5 := by rw [hW5]; exact (Tch.refl (fun b => b = N) w4).set ⟨N, 1, none⟩ _ rfl
  have H5 : Hid (Blk w5 N [.slice ao 1 cc, .int .i64 0] ∧ Blk w5 (w.heap.size + 1) [.slice none 0 0, .int .i64 0] ∧ Below w.heap.size w w5) := Lib.hid (by
    have hle := HN1.out
    have tY : Tch (fun b => N ≤ b) Y w5 := (hT.mono (fun b _ hb => by rcases hb with rfl | rfl | rfl <;> omega)).trans (hT5.mono (fun b _ hb => by subst hb; exact Nat.le_refl _))
    refine ⟨by rw [hW5]; simpa using hg.set 1 (.int .i64 0), HS.out.2.1.tch tY (fun e => by omega), ?_⟩
    exact (((Tch.of_below (S := fun _ => False) HS.out.2.2).then tY (fun i hi e => by omega)).to_below (Nat.le_refl _) (fun _ hk => hk.elim)))
  clear hW5 hT5 hT hg g1 gl gf n0 nl p1 pl
  have g0 := H5.out.1.c 0 _ rfl; have g1 := H5.out.1.c 1 _ rfl; have gl := H5.out.1.lt
  have z0 := H5.out.2.1.c 0 _ rfl; have z1 := H5.out.2.1.c 1 _ rfl; have zl := H5.out.2.1.lt; have zf := H5.out.2.1.f
  go_wp2_with fail
  refine bodyPost_retN (v := .tuple #[.agg #[.slice ao 1 cc, .int .i64 0], .int .i64 0]) (by simp [results, Tryz.results4, go_sem, z0, z1]) rfl (fun WF hWF => ⟨⟨ao, cc, rfl⟩, ?_⟩)
  have hT6 : Tch (fun b => b = w.heap.size + 1) w5 WF := by rw [hWF]; exact ((Tch.refl (fun b => b = w.heap.size + 1) w5).set ⟨w.heap.size + 1, 0, none⟩ _ rfl).set ⟨w.heap.size + 1, 1, none⟩ _ rfl
  exact below_own H5.out.2.2 hT6 (by omega)
end Go.Proofs.YtbaocallhnehfaaGreatDoor

namespace Go.Proofs.YtbaocallhnehfaaGreatDoor
open Go Go.RowKit
/-- The step that is being made: its block, its numbers so far. -/
structure StP (w : World) (S B : Nat) (l : List Nat) (u : Value) (X : World) : Prop where
  s1 : w.heap.size ≤ S
  s2 : S < B
  bel : Below w.heap.size w X
  sz : B ≤ X.heap.size
  row : NewRow B X 1 u l.length (l.map (Value.float .f32))
  blk : Blk X S [.string ⟨#[97]⟩, .string ⟨#[102, 105, 108, 108]⟩, .slice none 0 0, .slice none 0 0, u]
theorem StP.past {w X X' : World} {S B : Nat} {l : List Nat} {u : Value} (h : StP w S B l u X) (hb : Below X.heap.size X X') : StP w S B l u X' :=
  ⟨h.s1, h.s2, h.bel.trans (hb.mono h.bel.size), Nat.le_trans h.sz hb.size, h.row.past hb, h.blk.past hb⟩
/-- One number more: behind the append and the store. -/
theorem StP.app {w wa w' : World} {S B : Nat} {l : List Nat} {u u' : Value} {z : Nat} (h : StP w S B l u wa) (r1 : RowV w' 1 u' (l.length + 1) (l.map (Value.float .f32) ++ [.float .f32 z])) (r2 : wa.grownBy w' u.ownBlock) (r3 : u'.ownBlock = u.ownBlock ∨ ∀ b, u'.ownBlock = some b → wa.heap.size ≤ b) :
    StP w S B (l ++ [z]) u' (w'.setCell ⟨S, 4, none⟩ u') := by
  have hub : ∀ b, u'.ownBlock = some b → B ≤ b := fun b e => by
    rcases r3 with r3 | r3
    · exact h.row.2 b (by rw [← r3]; exact e)
    · exact Nat.le_trans h.sz (r3 b e)
  have hT : Tch (fun b => B ≤ b) wa w' := Tch.of_grown r2 (fun b e => h.row.2 b e)
  have hT2 : Tch (fun b => b = S) w' (w'.setCell ⟨S, 4, none⟩ u') := (Tch.refl (fun b => b = S) w').set ⟨S, 4, none⟩ u' rfl
  have hT3 : Tch (fun b => w.heap.size ≤ b) wa (w'.setCell ⟨S, 4, none⟩ u') := (hT.mono (fun k _ hk => Nat.le_trans h.s1 (Nat.le_trans (Nat.le_of_lt h.s2) hk))).trans (hT2.mono (fun k _ hk => by subst hk; exact h.s1))
  refine ⟨h.s1, h.s2, h.bel.trans (hT3.to_below h.bel.size (fun _ hk => hk)), Nat.le_trans h.sz (Nat.le_trans hT.size hT2.size), ?_, ?_⟩
  · rw [List.length_append, List.map_append]
    exact ⟨r1.tch hT2 (fun b e hb => by have := hub b e; have := h.s2; omega), hub⟩
  · have hb := h.blk.tch hT (fun hx => by have := h.s2; omega)
    simpa using hb.set 4 u'
/-- The words. -/
def wdZ : List (List UInt8) := [[97], [102, 105, 108, 108], [49], [50], [51], [52]]
def codes : List Nat := [1065353216, 1073741824, 1077936128, 1082130432]
set_option maxRecDepth 100000 in
set_option maxHeartbeats 12800000 in
theorem step_one (g : Nat) (w : World) (hL : LibN w) (hg : g < w.heap.size) (hc : ∀ i p, wdZ[i]? = some p → w.cell? ⟨g, i, none⟩ = some (.string (bs p))) :
    Calls Tryz.prog 49 #[.slice (some ⟨g, 0, none⟩) 6 6] w fun e w' => ∃ ar cr, e = .returned (.tuple #[.agg #[.string ⟨#[97]⟩, .string ⟨#[102, 105, 108, 108]⟩, .slice none 0 0, .slice none 0 0, .slice ar 4 cr], .bool true]) ∧ RealsAt w.heap.size w' ar codes ∧ Below w.heap.size w w' := by
  have c0 : w.cell? ⟨g, 0, none⟩ = some (.string ⟨#[97]⟩) := hc 0 _ rfl
  have c1 : w.cell? ⟨g, 1, none⟩ = some (.string ⟨#[102, 105, 108, 108]⟩) := hc 1 _ rfl
  have HH := Lib.hid (And.intro hL (And.intro hg hc))
  clear hL hc
  go_enter Tryz.func49, Tryz.ntmps49
  go_upto_region 1 with fail
  refine wp_world (fun W hW => ?_)
  have HW : Hid (Below w.heap.size w W ∧ Blk W w.heap.size [.string ⟨#[]⟩, .string ⟨#[]⟩, .slice none 0 0, .slice none 0 0, .slice none 0 0]) := Lib.hid (by rw [hW]; exact ⟨by (repeat (first | exact Below.refl _ _ | assumption | (refine Below.setCell ?_ (by first | (simp; done) | (simp; omega) | omega) _) | (refine Below.drew ?_) | (refine below_drewN ?_ _) | (refine Below.alloc ?_ (by first | (simp; done) | (simp; omega) | omega) _) | (refine Below.trans ?_ (Below.mono (by assumption) (by first | (simp; done) | (simp; omega) | omega))))), Blk.new _ _ _ _ rfl⟩)
  have d0 := (HW.out.1.cell (p := ⟨g, 0, none⟩) hg).trans c0
  have d1 := (HW.out.1.cell (p := ⟨g, 1, none⟩) hg).trans c1
  have hgW : g < W.heap.size := Nat.lt_of_lt_of_le hg HW.out.1.size
  clear hW c0 c1
  refine wp_region_loose 7 (fun _ _ _ => False) (by kernel_rfl) (by kernel_rfl) ?_
  simp only [List.take_succ_cons, List.take_zero, List.drop_succ_cons, List.drop_zero]
  iterate 7 (refine loose_wanted rfl (fun K hK => ?_); go_simp; refine hK _ ?_; clear hK K)
  refine loose_nil (fun X hX => ?_)
  have hB0 := HW.out.2.past hX
  have HX := Lib.hid (And.intro (HW.out.1.trans (hX.mono HW.out.1.size)) hB0)
  have z0 := hB0.c 0 _ rfl; have z1 := hB0.c 1 _ rfl; have z2 := hB0.c 2 _ rfl; have z3 := hB0.c 3 _ rfl; have z4 := hB0.c 4 _ rfl; have zl := hB0.lt; have zf := hB0.f
  clear hB0 hX d0 d1 hgW
  go_upto_region 2 with fail
  refine wp_world (fun Y hY => ?_)
  have hTY : Tch (fun b => b = w.heap.size) X Y := by rw [hY]; exact (((((Tch.refl (fun b => b = w.heap.size) X).set ⟨w.heap.size, 0, none⟩ _ rfl).set ⟨w.heap.size, 1, none⟩ _ rfl).set ⟨w.heap.size, 2, none⟩ _ rfl).set ⟨w.heap.size, 3, none⟩ _ rfl).set ⟨w.heap.size, 4, none⟩ _ rfl
  have HY : Hid (StP w w.heap.size Y.heap.size [] (.slice none 0 0) Y) := Lib.hid (by
    have hb : Blk Y w.heap.size [.string ⟨#[97]⟩, .string ⟨#[102, 105, 108, 108]⟩, .slice none 0 0, .slice none 0 0, .slice none 0 0] := by
      rw [hY]; simpa using ((((HX.out.2.set 0 (.string ⟨#[97]⟩)).set 1 (.string ⟨#[102, 105, 108, 108]⟩)).set 2 (.slice none 0 0)).set 3 (.slice none 0 0)).set 4 (.slice none 0 0)
    exact ⟨Nat.le_refl _, hb.lt, below_own HX.out.1 hTY (Nat.le_refl _), Nat.le_refl _, NewRow.nil _ _ _, hb⟩)
  clear hY hTY z0 z1 z2 z3 z4 zl zf HX HW
  obtain ⟨B, hB⟩ : ∃ B, B = Y.heap.size := ⟨_, rfl⟩
  rw [← hB] at HY
  obtain ⟨S, hS⟩ : ∃ S, S = w.heap.size := ⟨_, rfl⟩
  rw [← hS] at HY ⊢
  have HG : Hid (∀ X, Below w.heap.size w X → g < X.heap.size ∧ ∀ i p, wdZ[i]? = some p → X.cell? ⟨g, i, none⟩ = some (.string (bs p))) := Lib.hid (fun X hX => ⟨Nat.lt_of_lt_of_le HH.out.2.1 hX.size, fun i p hp => (hX.cell (p := ⟨g, i, none⟩) HH.out.2.1).trans (HH.out.2.2 i p hp)⟩)
  have d1 : Y.cell? ⟨g, 1, none⟩ = some (.string ⟨#[102, 105, 108, 108]⟩) := (HG.out _ HY.out.bel).2 1 _ rfl
  have hgY := (HG.out _ HY.out.bel).1
  clear hS hB hg
  go_upto_region 3 with (go_at_call 29; refine (op_fill _).mono ?_; rintro e v1 ⟨fa, fc, rfl, hb1⟩; replace HY := Lib.hid (HY.out.past hb1); clear hb1 d1 hgY)
  refine wp_world (fun Z hZ => ?_)
  have HZ : Hid (StP w S B [] (.slice none 0 0) Z ∧ Blk Z v1.heap.size [.string ⟨#[102, 105, 108, 108]⟩, .slice fa 0 fc, .int .i64 1, .int .i64 0, .int .i64 4, .bool false]) := Lib.hid (by rw [hZ]; exact ⟨HY.out.past ((Below.refl _ _).alloc (Nat.le_refl _) _), Blk.new _ _ _ _ rfl⟩)
  clear hZ HY
  obtain ⟨fb, hfb⟩ : ∃ fb, fb = v1.heap.size := ⟨_, rfl⟩
  rw [← hfb] at HZ ⊢
  clear hfb
  have f1 := HZ.out.2.c 1 _ rfl; have f3 := HZ.out.2.c 3 _ rfl; have f4 := HZ.out.2.c 4 _ rfl; have fl := HZ.out.2.lt
  have s2 := HZ.out.1.blk.c 2 _ rfl; have sl := HZ.out.1.blk.lt
  have hgZ := (HG.out _ HZ.out.1.bel).1
  go_upto_region 8 with fail
  refine wp_region_loose 8 (fun _ _ _ => False) (by kernel_rfl) (by kernel_rfl) ?_
  simp only [List.take_succ_cons, List.take_zero, List.drop_succ_cons, List.drop_zero]
  iterate 8 (refine loose_wanted rfl (fun K hK => ?_); go_simp; refine hK _ ?_; clear hK K)
  refine loose_nil (fun X hX => ?_)
  have HX : Hid (StP w S B [] (.slice none 0 0) X ∧ Blk X fb [.string ⟨#[102, 105, 108, 108]⟩, .slice fa 0 fc, .int .i64 1, .int .i64 0, .int .i64 4, .bool false]) := Lib.hid ⟨HZ.out.1.past hX, HZ.out.2.past hX⟩
  clear f1 f3 f4 fl s2 sl hgZ hX
  have s2 := HX.out.1.blk.c 2 _ rfl; have sl := HX.out.1.blk.lt; have sf := HX.out.1.blk.f
  go_upto_region 9 with fail
  refine wp_world (fun U hU => ?_)
  have hTU : Tch (fun b => b = S) X U := by rw [hU]; exact (Tch.refl (fun b => b = S) X).set ⟨S, 2, none⟩ _ rfl
  have HU : Hid (StP w S B [] (.slice none 0 0) U ∧ Blk U fb [.string ⟨#[102, 105, 108, 108]⟩, .slice fa 0 fc, .int .i64 1, .int .i64 0, .int .i64 4, .bool false]) := Lib.hid (by
    have h := HX.out.1
    have hne : fb ≠ S := fun e => by
      have h1 := HX.out.2.c 1 _ rfl
      have h2 := h.blk.c 1 _ rfl
      rw [e, h2] at h1
      cases h1
    have hbl : Blk U S [.string ⟨#[97]⟩, .string ⟨#[102, 105, 108, 108]⟩, .slice none 0 0, .slice none 0 0, .slice none 0 0] := by rw [hU]; simpa using h.blk.set 2 (.slice none 0 0)
    have hbel : Below w.heap.size w U := ((Tch.of_below (S := fun _ => False) h.bel).then hTU (fun i hi e => by subst e; have := h.s1; omega)).to_below (Nat.le_refl _) (fun _ hk => hk.elim)
    exact ⟨⟨h.s1, h.s2, hbel, Nat.le_trans h.sz hTU.size, NewRow.nil _ _ _, hbl⟩, HX.out.2.tch hTU hne⟩)
  clear hU hTU HX HZ s2 sl sf
  have f1 := HU.out.2.c 1 _ rfl; have f3 := HU.out.2.c 3 _ rfl; have fl := HU.out.2.lt
  go_wp2_with fail
  refine wp_loop_rounds 1 ?_
  rw [rounds_succ]
  go_wp2_with fail
  refine wp_loop_rounds 5 ?_
  clear f1 f3 fl
  replace HU := Lib.hid HU.out.1
  obtain ⟨i0, hi0, hz0, hz1, hz2⟩ := info_parts infoF32N
  rw [rounds_succ]
  have e1 : U.cell? ⟨g, 2, none⟩ = some (.string ⟨#[49]⟩) := (HG.out _ HU.out.bel).2 2 _ rfl
  have hgU := (HG.out _ HU.out.bel).1
  go_upto_region 23 with (go_at_call 75; refine (nparse_49 _ (HH.out.1.past HU.out.bel)).mono ?_; rintro e v1 ⟨rfl, hb1⟩; replace HU := Lib.hid (HU.out.past hb1); clear hb1 e1 hgU)
  have s4 := HU.out.blk.c 4 _ rfl; have sl := HU.out.blk.lt
  go_upto_region 24 with (at_builtin; refine wpList_append_row (v := .slice none 0 0) _ rfl _ _ 36 rfl Tryz.underlying36 hi0 hz0 hz1 hz2 rfl (by decide) rfl (HU.out.row.1.past ((Below.refl _ _).alloc (Nat.le_refl _) _)) ⟨v1.heap.size, 0, none⟩ 1 [.float .f32 1065353216] rfl rfl (by intro j u hj; match j, hj with | 0, hj => (simp at hj; subst hj; simp [Addr.add])) (by intro u hu; simp at hu; subst hu; rfl) (by decide) (by decide) ?_; intro a1 k1 w6 hR6 hG6 ho6; have hb6 := ((HU.out.past ((Below.refl _ _).alloc (Nat.le_refl _) (.cells #[.float .f32 1065353216] 41))).blk).tch (Tch.of_grown (S := fun b => Value.ownBlock (.slice none 0 0) = some b) hG6 (fun b hb => hb)) (fun e => by (have h1 := HU.out.row.2 S e; have h2 := HU.out.s2; omega)); have t4 := hb6.c 4 _ rfl; have tl := hb6.lt; have tf := hb6.f; have HQ := Lib.hid (StP.app (HU.out.past ((Below.refl _ _).alloc (Nat.le_refl _) (.cells #[.float .f32 1065353216] 41))) hR6 hG6 ho6); clear hb6 hR6 hG6 ho6)
  refine wp_world (fun U1 hNU => ?_)
  replace HU : Hid (StP w S B [1065353216] (.slice a1 1 k1) U1) := Lib.hid (by rw [hNU]; exact HQ.out)
  clear hNU HQ t4 tl tf s4 sl
  go_wp2_with fail
  rw [rounds_succ]
  have e1 : U1.cell? ⟨g, 3, none⟩ = some (.string ⟨#[50]⟩) := (HG.out _ HU.out.bel).2 3 _ rfl
  have hgU := (HG.out _ HU.out.bel).1
  go_upto_region 23 with (go_at_call 75; refine (nparse_50 _ (HH.out.1.past HU.out.bel)).mono ?_; rintro e v1 ⟨rfl, hb1⟩; replace HU := Lib.hid (HU.out.past hb1); clear hb1 e1 hgU)
  have s4 := HU.out.blk.c 4 _ rfl; have sl := HU.out.blk.lt
  go_upto_region 24 with (at_builtin; refine wpList_append_row (v := .slice a1 1 k1) _ rfl _ _ 36 rfl Tryz.underlying36 hi0 hz0 hz1 hz2 rfl (by decide) rfl (HU.out.row.1.past ((Below.refl _ _).alloc (Nat.le_refl _) _)) ⟨v1.heap.size, 0, none⟩ 1 [.float .f32 1073741824] rfl rfl (by intro j u hj; match j, hj with | 0, hj => (simp at hj; subst hj; simp [Addr.add])) (by intro u hu; simp at hu; subst hu; rfl) (by decide) (by decide) ?_; intro a2 k2 w6 hR6 hG6 ho6; have hb6 := ((HU.out.past ((Below.refl _ _).alloc (Nat.le_refl _) (.cells #[.float .f32 1073741824] 41))).blk).tch (Tch.of_grown (S := fun b => Value.ownBlock (.slice a1 1 k1) = some b) hG6 (fun b hb => hb)) (fun e => by (have h1 := HU.out.row.2 S e; have h2 := HU.out.s2; omega)); have t4 := hb6.c 4 _ rfl; have tl := hb6.lt; have tf := hb6.f; have HQ := Lib.hid (StP.app (HU.out.past ((Below.refl _ _).alloc (Nat.le_refl _) (.cells #[.float .f32 1073741824] 41))) hR6 hG6 ho6); clear hb6 hR6 hG6 ho6)
  refine wp_world (fun U2 hNU => ?_)
  replace HU : Hid (StP w S B [1065353216, 1073741824] (.slice a2 2 k2) U2) := Lib.hid (by rw [hNU]; exact HQ.out)
  clear hNU HQ t4 tl tf s4 sl
  go_wp2_with fail
  rw [rounds_succ]
  have e1 : U2.cell? ⟨g, 4, none⟩ = some (.string ⟨#[51]⟩) := (HG.out _ HU.out.bel).2 4 _ rfl
  have hgU := (HG.out _ HU.out.bel).1
  go_upto_region 23 with (go_at_call 75; refine (nparse_51 _ (HH.out.1.past HU.out.bel)).mono ?_; rintro e v1 ⟨rfl, hb1⟩; replace HU := Lib.hid (HU.out.past hb1); clear hb1 e1 hgU)
  have s4 := HU.out.blk.c 4 _ rfl; have sl := HU.out.blk.lt
  go_upto_region 24 with (at_builtin; refine wpList_append_row (v := .slice a2 2 k2) _ rfl _ _ 36 rfl Tryz.underlying36 hi0 hz0 hz1 hz2 rfl (by decide) rfl (HU.out.row.1.past ((Below.refl _ _).alloc (Nat.le_refl _) _)) ⟨v1.heap.size, 0, none⟩ 1 [.float .f32 1077936128] rfl rfl (by intro j u hj; match j, hj with | 0, hj => (simp at hj; subst hj; simp [Addr.add])) (by intro u hu; simp at hu; subst hu; rfl) (by decide) (by decide) ?_; intro a3 k3 w6 hR6 hG6 ho6; have hb6 := ((HU.out.past ((Below.refl _ _).alloc (Nat.le_refl _) (.cells #[.float .f32 1077936128] 41))).blk).tch (Tch.of_grown (S := fun b => Value.ownBlock (.slice a2 2 k2) = some b) hG6 (fun b hb => hb)) (fun e => by (have h1 := HU.out.row.2 S e; have h2 := HU.out.s2; omega)); have t4 := hb6.c 4 _ rfl; have tl := hb6.lt; have tf := hb6.f; have HQ := Lib.hid (StP.app (HU.out.past ((Below.refl _ _).alloc (Nat.le_refl _) (.cells #[.float .f32 1077936128] 41))) hR6 hG6 ho6); clear hb6 hR6 hG6 ho6)
  refine wp_world (fun U3 hNU => ?_)
  replace HU : Hid (StP w S B [1065353216, 1073741824, 1077936128] (.slice a3 3 k3) U3) := Lib.hid (by rw [hNU]; exact HQ.out)
  clear hNU HQ t4 tl tf s4 sl
  go_wp2_with fail
  rw [rounds_succ]
  have e1 : U3.cell? ⟨g, 5, none⟩ = some (.string ⟨#[52]⟩) := (HG.out _ HU.out.bel).2 5 _ rfl
  have hgU := (HG.out _ HU.out.bel).1
  go_upto_region 23 with (go_at_call 75; refine (nparse_52 _ (HH.out.1.past HU.out.bel)).mono ?_; rintro e v1 ⟨rfl, hb1⟩; replace HU := Lib.hid (HU.out.past hb1); clear hb1 e1 hgU)
  have s4 := HU.out.blk.c 4 _ rfl; have sl := HU.out.blk.lt
  go_upto_region 24 with (at_builtin; refine wpList_append_row (v := .slice a3 3 k3) _ rfl _ _ 36 rfl Tryz.underlying36 hi0 hz0 hz1 hz2 rfl (by decide) rfl (HU.out.row.1.past ((Below.refl _ _).alloc (Nat.le_refl _) _)) ⟨v1.heap.size, 0, none⟩ 1 [.float .f32 1082130432] rfl rfl (by intro j u hj; match j, hj with | 0, hj => (simp at hj; subst hj; simp [Addr.add])) (by intro u hu; simp at hu; subst hu; rfl) (by decide) (by decide) ?_; intro a4 k4 w6 hR6 hG6 ho6; have hb6 := ((HU.out.past ((Below.refl _ _).alloc (Nat.le_refl _) (.cells #[.float .f32 1082130432] 41))).blk).tch (Tch.of_grown (S := fun b => Value.ownBlock (.slice a3 3 k3) = some b) hG6 (fun b hb => hb)) (fun e => by (have h1 := HU.out.row.2 S e; have h2 := HU.out.s2; omega)); have t4 := hb6.c 4 _ rfl; have tl := hb6.lt; have tf := hb6.f; have HQ := Lib.hid (StP.app (HU.out.past ((Below.refl _ _).alloc (Nat.le_refl _) (.cells #[.float .f32 1082130432] 41))) hR6 hG6 ho6); clear hb6 hR6 hG6 ho6)
  refine wp_world (fun U4 hNU => ?_)
  replace HU : Hid (StP w S B [1065353216, 1073741824, 1077936128, 1082130432] (.slice a4 4 k4) U4) := Lib.hid (by rw [hNU]; exact HQ.out)
  clear hNU HQ t4 tl tf s4 sl
  go_wp2_with fail
  rw [rounds_succ]
  have s0 := HU.out.blk.c 0 _ rfl; have s1 := HU.out.blk.c 1 _ rfl; have s2 := HU.out.blk.c 2 _ rfl; have s3 := HU.out.blk.c 3 _ rfl; have s4 := HU.out.blk.c 4 _ rfl; have sl := HU.out.blk.lt; have sf := HU.out.blk.f
  go_wp2_with fail
  refine bodyPost_retN (v := .tuple #[.agg #[.string ⟨#[97]⟩, .string ⟨#[102, 105, 108, 108]⟩, .slice none 0 0, .slice none 0 0, .slice a4 4 k4], .bool true]) (by simp [results, Tryz.results49, go_sem, s0, s1, s2, s3, s4]) rfl (fun WF hWF => ⟨a4, k4, rfl, ?_⟩)
  have hT : Tch (fun b => b = S) U4 WF := by rw [hWF]; exact (((((Tch.refl (fun b => b = S) U4).set ⟨S, 0, none⟩ _ rfl).set ⟨S, 1, none⟩ _ rfl).set ⟨S, 2, none⟩ _ rfl).set ⟨S, 3, none⟩ _ rfl).set ⟨S, 4, none⟩ _ rfl
  have h := HU.out
  refine ⟨(h.row.reals.tch hT (fun b hb => by subst hb; exact h.s2)).mono (Nat.le_trans h.s1 (Nat.le_of_lt h.s2)), ?_⟩
  exact ((Tch.of_below (S := fun _ => False) h.bel).then hT (fun i hi e => by subst e; have := h.s1; omega)).to_below (Nat.le_refl _) (fun _ hk => hk.elim)
end Go.Proofs.YtbaocallhnehfaaGreatDoor

namespace Go.Proofs.YtbaocallhnehfaaGreatDoor
open Go Go.Lib
/-- A text cut at its spaces. -/
def spP : List UInt8 → List (List UInt8)
  | [] => [[]]
  | b :: l => if b = 32 then [] :: spP l else match spP l with
    | [] => [[b]]
    | h :: t => (b :: h) :: t
theorem spP_none : ∀ l : List UInt8, (32 : UInt8) ∉ l → spP l = [l]
  | [], _ => rfl
  | b :: l, h => by
    have hb : b ≠ 32 := fun e => h (by rw [e]; simp)
    unfold spP
    rw [if_neg hb, spP_none l (fun hm => h (by simp [hm]))]
theorem spP_cut : ∀ (a l : List UInt8), (32 : UInt8) ∉ a → spP (a ++ 32 :: l) = a :: spP l
  | [], l, _ => by simp [spP]
  | b :: a, l, h => by
    have hb : b ≠ 32 := fun e => h (by rw [e]; simp)
    have ih := spP_cut a l (fun hm => h (by simp [hm]))
    show spP (b :: (a ++ 32 :: l)) = _
    rw [spP, if_neg hb, ih]
theorem splitK_sp : ∀ (n : Nat) (l : List UInt8), l.length < n → splitK [32] 0 (count l [32]) l = spP l
  | 0, l, h => by omega
  | n + 1, l, h => by
    rcases idx_one 32 l with ⟨h1, h2⟩ | ⟨a, b, h1, h2, h3⟩
    · rw [count_miss h1, spP_none l h2]; rfl
    · have hd : l.drop (a.length + [(32 : UInt8)].length) = b := by rw [h1]; simp
      rw [count_hit (by simp) h3, hd, Nat.add_comm 1]
      have hm : ¬ (index l [32] == -1) = true := fun e => by have := beq_iff_eq.1 e; omega
      unfold splitK
      rw [if_neg hm, h3, Int.toNat_natCast, hd, Nat.add_zero, splitK_sp n b (by rw [h1] at h; simp at h; omega), h1, take_len, spP_cut a b h2]
/-- A run. -/
structure Ru where
  a : Int
  b : Int
  c : Int
  d : Int
  f : Bool
def okT : List UInt8 := [111, 107]
def faT : List UInt8 := [102, 97, 105, 108, 101, 100]
def endT (f : Bool) : List UInt8 := if f then faT else okT
/-- The line of a run, without its end. -/
def lineT (r : Ru) : List UInt8 := itoa r.a ++ 32 :: (itoa r.b ++ 32 :: (itoa r.c ++ 32 :: (itoa r.d ++ 32 :: endT r.f)))
def runT (r : Ru) : List UInt8 := lineT r ++ [10]
def runsT : List Ru → List UInt8
  | [] => []
  | r :: l => runT r ++ runsT l
/-- The numbers of a run have at most 13 digits. -/
def dig13 (r : Ru) : Prop := r.a.natAbs < 10 ^ 13 ∧ r.b.natAbs < 10 ^ 13 ∧ r.c.natAbs < 10 ^ 13 ∧ r.d.natAbs < 10 ^ 13
/-- The text begins with the line of a run. -/
def goodL (t : List UInt8) : Prop := ∃ r rest, dig13 r ∧ t = runT r ++ rest
/-- What is wrong with a run. -/
def rE (r : Ru) : Int := if r.a < 0 ∨ 1999 < r.a ∨ r.b < 0 ∨ 63 < r.b ∨ r.c < 0 ∨ 1099511627776 < r.c ∨ r.d < 0 ∨ 1099511627776 < r.d then 3 else if r.d < r.c then 8 else 0
def rsE : List Ru → Int
  | [] => 0
  | r :: l => if rE r = 0 then rsE l else rE r
/-- The error of runs. -/
def runsE (l : List Ru) : Int := if 200000 < l.length then 4 else rsE l
end Go.Proofs.YtbaocallhnehfaaGreatDoor

namespace Go.Proofs.YtbaocallhnehfaaGreatDoor
open Go Go.RowKit
/-- strings.Split at a space. -/
theorem SplitW (l : ByteArray) (w : World) (h : LibW w) (hs : l.size < 4294967281) : Calls Tryz.prog 48 #[.string l, .string ⟨#[32]⟩] w fun e w' =>
    ∃ g, e = .returned (.slice (some ⟨g, 0, none⟩) (spP l.data.toList).length (spP l.data.toList).length) ∧ g < w'.heap.size ∧ (∀ i p, (spP l.data.toList)[i]? = some p → w'.cell? ⟨g, i, none⟩ = some (.string (bs p))) ∧ Below w.heap.size w w' := by
  obtain ⟨m, hm⟩ := h.len
  have hd := Lib.splitB_data ⟨#[32]⟩ 0 (Lib.countB l ⟨#[32]⟩) l
  have e1 : Lib.splitK (⟨#[32]⟩ : ByteArray).data.toList 0 (Lib.countB l ⟨#[32]⟩) l.data.toList = spP l.data.toList := splitK_sp _ l.data.toList (Nat.lt_succ_self _)
  rw [e1] at hd
  have hl := Lib.splitB_all ⟨#[32]⟩ (by decide) 0 (Lib.countB l ⟨#[32]⟩) l rfl
  have hlen : (spP l.data.toList).length = Lib.countB l ⟨#[32]⟩ + 1 := by rw [← hd, List.length_map, hl]
  refine (Tryz.strings_Split l ⟨#[32]⟩ m w hs hm (by decide)).mono ?_
  rintro e w' ⟨rfl, rfl⟩
  refine ⟨w.heap.size, by rw [hlen], by simp, fun i p hp => ?_, by (repeat (first | exact Below.refl _ _ | assumption | (refine Below.setCell ?_ (by first | (simp; done) | (simp; omega) | omega) _) | (refine Below.drew ?_) | (refine below_drewN ?_ _) | (refine Below.alloc ?_ (by first | (simp; done) | (simp; omega) | omega) _) | (refine Below.trans ?_ (Below.mono (by assumption) (by first | (simp; done) | (simp; omega) | omega)))))⟩
  rw [World.cell?_alloc_new]
  rw [← hd, List.getElem?_map, Option.map_eq_some_iff] at hp
  obtain ⟨q, hq, rfl⟩ := hp
  simp only [List.getElem?_toArray, List.getElem?_map, hq, Option.map_some, bs_of]
theorem fX_count : Lib.countB (bs fX) ⟨#[59]⟩ = 26 := by decide +kernel
theorem fX_split : Lib.splitK [59] 0 26 fX = fQ := by decide +kernel
/-- strings.Split of the text of the operations. -/
theorem SplitX (w : World) (h : LibW w) : Calls Tryz.prog 48 #[.string (bs fX), .string ⟨#[59]⟩] w fun e w' =>
    ∃ g, e = .returned (.slice (some ⟨g, 0, none⟩) 27 27) ∧ g < w'.heap.size ∧ (∀ i p, fQ[i]? = some p → w'.cell? ⟨g, i, none⟩ = some (.string (bs p))) ∧ Below w.heap.size w w' := by
  obtain ⟨m, hm⟩ := h.len
  have hd := Lib.splitB_data ⟨#[59]⟩ 0 26 (bs fX)
  have e1 : Lib.splitK (⟨#[59]⟩ : ByteArray).data.toList 0 26 (bs fX).data.toList = fQ := by rw [bs_data]; exact fX_split
  rw [e1] at hd
  refine (Tryz.strings_Split (bs fX) ⟨#[59]⟩ m w (by decide +kernel) hm (by decide)).mono ?_
  rw [fX_count]
  rintro e w' ⟨rfl, rfl⟩
  refine ⟨w.heap.size, rfl, by simp, fun i p hp => ?_, by (repeat (first | exact Below.refl _ _ | assumption | (refine Below.setCell ?_ (by first | (simp; done) | (simp; omega) | omega) _) | (refine Below.drew ?_) | (refine below_drewN ?_ _) | (refine Below.alloc ?_ (by first | (simp; done) | (simp; omega) | omega) _) | (refine Below.trans ?_ (Below.mono (by assumption) (by first | (simp; done) | (simp; omega) | omega)))))⟩
  rw [World.cell?_alloc_new]
  rw [← hd, List.getElem?_map, Option.map_eq_some_iff] at hp
  obtain ⟨q, hq, rfl⟩ := hp
  simp only [List.getElem?_toArray, List.getElem?_map, hq, Option.map_some, bs_of]
def fS (k : Nat) : List UInt8 := fQ.getD k []
def fN (k j : Nat) : List UInt8 := (fW.getD k []).getD j []
def kindB (b : UInt8) : Int := if b = 109 then 2 else 1
theorem fS_get {k : Nat} (hk : k < 27) : fQ[k]? = some (fS k) := by
  have : ∀ k, k < 27 → fQ[k]? = some (fS k) := by decide +kernel
  exact this k hk
theorem fS_sp {k : Nat} (hk : k < 27) : spP (fS k) = [(F k).nm, fN k 1, fN k 2, fN k 3, fN k 4] := by
  have : ∀ k, k < 27 → spP (fS k) = [(F k).nm, fN k 1, fN k 2, fN k 3, fN k 4] := by decide +kernel
  exact this k hk
theorem fN_ins {k : Nat} (hk : k < 27) : (fN k 1).map kindB = (F k).ins := by
  have : ∀ k, k < 27 → (fN k 1).map kindB = (F k).ins := by decide +kernel
  exact this k hk
theorem fN_out {k : Nat} (hk : k < 27) : (fN k 2).map kindB = [(F k).out] := by
  have : ∀ k, k < 27 → (fN k 2).map kindB = [(F k).out] := by decide +kernel
  exact this k hk
theorem fN_num {k : Nat} (hk : k < 27) : (intB (fN k 3) 10 = true ∧ intV (fN k 3) = (F k).ints) ∧ intB (fN k 4) 10 = true ∧ intV (fN k 4) = (F k).reals := by
  have : ∀ k, k < 27 → (intB (fN k 3) 10 = true ∧ intV (fN k 3) = (F k).ints) ∧ intB (fN k 4) 10 = true ∧ intV (fN k 4) = (F k).reals := by decide +kernel
  exact this k hk
theorem fN_len {k : Nat} (hk : k < 27) : (fS k).length ≤ 40 ∧ (fN k 1).length ≤ 3 ∧ (fN k 3).length ≤ 10 ∧ (fN k 4).length ≤ 10 := by
  have : ∀ k, k < 27 → (fS k).length ≤ 40 ∧ (fN k 1).length ≤ 3 ∧ (fN k 3).length ≤ 10 ∧ (fN k 4).length ≤ 10 := by decide +kernel
  exact this k hk
end Go.Proofs.YtbaocallhnehfaaGreatDoor

namespace Go.Proofs.YtbaocallhnehfaaGreatDoor
open Go Go.RowKit
def tx0 : List UInt8 := [97, 32, 102, 105, 108, 108, 32, 49, 32, 50, 32, 51, 32, 52, 10, 111, 117, 116, 32, 97, 10]
theorem cut_1 (w : World) (h : LibW w) : Calls Tryz.prog 47 #[.string ⟨#[97, 32, 102, 105, 108, 108, 32, 49, 32, 50, 32, 51, 32, 52, 10, 111, 117, 116, 32, 97, 10]⟩, .string ⟨#[10]⟩] w fun e w' => e = .returned (.tuple #[.string ⟨#[97, 32, 102, 105, 108, 108, 32, 49, 32, 50, 32, 51, 32, 52]⟩, .string ⟨#[111, 117, 116, 32, 97, 10]⟩, .bool true]) ∧ Below w.heap.size w w' := by
  refine (Cut_any ⟨#[97, 32, 102, 105, 108, 108, 32, 49, 32, 50, 32, 51, 32, 52, 10, 111, 117, 116, 32, 97, 10]⟩ ⟨#[10]⟩ w h (by decide)).mono ?_
  rintro e w' ⟨rfl, hb⟩
  rw [show Lib.cut (⟨#[97, 32, 102, 105, 108, 108, 32, 49, 32, 50, 32, 51, 32, 52, 10, 111, 117, 116, 32, 97, 10]⟩ : ByteArray).data.toList (⟨#[10]⟩ : ByteArray).data.toList = ([97, 32, 102, 105, 108, 108, 32, 49, 32, 50, 32, 51, 32, 52], [111, 117, 116, 32, 97, 10], true) from by decide +kernel]
  exact ⟨rfl, hb⟩
theorem cut_2 (w : World) (h : LibW w) : Calls Tryz.prog 47 #[.string ⟨#[111, 117, 116, 32, 97, 10]⟩, .string ⟨#[10]⟩] w fun e w' => e = .returned (.tuple #[.string ⟨#[111, 117, 116, 32, 97]⟩, .string ⟨#[]⟩, .bool true]) ∧ Below w.heap.size w w' := by
  refine (Cut_any ⟨#[111, 117, 116, 32, 97, 10]⟩ ⟨#[10]⟩ w h (by decide)).mono ?_
  rintro e w' ⟨rfl, hb⟩
  rw [show Lib.cut (⟨#[111, 117, 116, 32, 97, 10]⟩ : ByteArray).data.toList (⟨#[10]⟩ : ByteArray).data.toList = ([111, 117, 116, 32, 97], [], true) from by decide +kernel]
  exact ⟨rfl, hb⟩
theorem split_1 (w : World) (h : LibW w) : Calls Tryz.prog 48 #[.string ⟨#[97, 32, 102, 105, 108, 108, 32, 49, 32, 50, 32, 51, 32, 52]⟩, .string ⟨#[32]⟩] w fun e w' =>
    ∃ g, e = .returned (.slice (some ⟨g, 0, none⟩) 6 6) ∧ g < w'.heap.size ∧ (∀ i p, wdZ[i]? = some p → w'.cell? ⟨g, i, none⟩ = some (.string (bs p))) ∧ Below w.heap.size w w' := by
  have h1 := SplitW ⟨#[97, 32, 102, 105, 108, 108, 32, 49, 32, 50, 32, 51, 32, 52]⟩ w h (by decide)
  rw [show spP (⟨#[97, 32, 102, 105, 108, 108, 32, 49, 32, 50, 32, 51, 32, 52]⟩ : ByteArray).data.toList = wdZ from by decide +kernel] at h1
  exact h1
theorem split_2 (w : World) (h : LibW w) : Calls Tryz.prog 48 #[.string ⟨#[111, 117, 116, 32, 97]⟩, .string ⟨#[32]⟩] w fun e w' =>
    ∃ g, e = .returned (.slice (some ⟨g, 0, none⟩) 2 2) ∧ g < w'.heap.size ∧ (∀ i p, [[111, 117, 116], [97]][i]? = some p → w'.cell? ⟨g, i, none⟩ = some (.string (bs p))) ∧ Below w.heap.size w w' := by
  have h1 := SplitW ⟨#[111, 117, 116, 32, 97]⟩ w h (by decide)
  rw [show spP (⟨#[111, 117, 116, 32, 97]⟩ : ByteArray).data.toList = [[111, 117, 116], [97]] from by decide +kernel] at h1
  exact h1
theorem OneAt.tch {S : Nat → Prop} {w w' : World} {b off : Nat} {ar : Option Addr} {cr : Nat} (h : OneAt w b off ar cr) (t : Tch S w w') (hb : ¬ S b) : OneAt w' b off ar cr := by
  obtain ⟨h0, h1, h2, h3, h4⟩ := h
  have hl := cell_lt h0
  simp only at hl
  have g : ∀ j, w'.cell? ⟨b, j, none⟩ = w.cell? ⟨b, j, none⟩ := fun j => World.cell?_of_block (a := ⟨b, j, none⟩) (t.block b hl hb)
  exact ⟨by rw [g]; exact h0, by rw [g]; exact h1, by rw [g]; exact h2, by rw [g]; exact h3, by rw [g]; exact h4⟩
theorem five_new (w : World) (ty : TypeId) (v0 v1 v2 v3 v4 : Value) : ∀ j u, [v0, v1, v2, v3, v4][j]? = some u → (w.alloc (.cells #[v0, v1, v2, v3, v4] ty)).cell? ((⟨w.heap.size, 0, none⟩ : Addr).add j) = some u := fun j u hj => by
  rw [Addr.add_lit, Nat.zero_add, World.cell?_alloc_new]
  simpa using hj
theorem five_one (s t : ByteArray) (a b c : Option Addr) (n m k d e f : Nat) : ∀ u ∈ [Value.string s, .string t, .slice a n d, .slice b m e, .slice c k f], u.oneCell' = true := fun u hu => by
  simp only [List.mem_cons, List.not_mem_nil, or_false] at hu
  rcases hu with rfl | rfl | rfl | rfl | rfl <;> rfl
theorem infoStep : (Tryz.prog.info? 48).map (fun i => (i.zero, i.size, i.bytes)) = some (some (.agg #[.string ⟨#[]⟩, .string ⟨#[]⟩, .slice none 0 0, .slice none 0 0, .slice none 0 0]), 5, 104) := by kernel_rfl
set_option maxRecDepth 100000 in
set_option maxHeartbeats 12800000 in
theorem parse_one (w : World) (hL : LibN w) : Calls Tryz.prog 22 #[.string ⟨#[97, 32, 102, 105, 108, 108, 32, 49, 32, 50, 32, 51, 32, 52, 10, 111, 117, 116, 32, 97, 10]⟩] w fun e w' => ∃ b off c br ro cr, e = .returned (.tuple #[.agg #[.slice (some ⟨b, off, none⟩) 1 c, .string ⟨#[97]⟩], .int .i64 0, .int .i64 0]) ∧ OneAt w' b off (some ⟨br, ro, none⟩) cr ∧ RealsAt 0 w' (some ⟨br, ro, none⟩) codes ∧ Below w.heap.size w w' := by
  have HL := Lib.hid hL
  clear hL
  go_enter Tryz.func22, Tryz.ntmps22
  go_wp2_with fail
  refine wp_world (fun W hW => ?_)
  have HW : Hid (Below w.heap.size w W ∧ Blk W w.heap.size [.slice none 0 0, .string ⟨#[]⟩] ∧ Blk W (w.heap.size + 1) [.slice none 0 0, .string ⟨#[]⟩]) := Lib.hid (by rw [hW]; exact ⟨by (repeat (first | exact Below.refl _ _ | assumption | (refine Below.setCell ?_ (by first | (simp; done) | (simp; omega) | omega) _) | (refine Below.drew ?_) | (refine below_drewN ?_ _) | (refine Below.alloc ?_ (by first | (simp; done) | (simp; omega) | omega) _) | (refine Below.trans ?_ (Below.mono (by assumption) (by first | (simp; done) | (simp; omega) | omega))))), (Blk.new _ _ _ _ rfl).alloc _, Blk.new _ _ _ _ (by simp)⟩)
  clear hW
  refine wp_loop_rounds 3 ?_
  rw [rounds_succ]
  go_wp2_with (first | (go_at_call 47; refine (cut_1 _ (HL.out.past HW.out.1).l).mono ?_; rintro e v1 ⟨rfl, hb1⟩; have HV1 := Lib.hid (HW.out.1.trans (hb1.mono HW.out.1.size)); have HVB := Lib.hid hb1; clear hb1) | (go_at_call 48; refine (split_1 _ (HL.out.past HV1.out).l).mono ?_; rintro e v2 ⟨g, rfl, hg, hc, hb2⟩))
  have HG := Lib.hid (And.intro hg (And.intro hc (HVB.out.trans (hb2.mono HVB.out.size))))
  have d0 : v2.cell? ⟨g, 0, none⟩ = some (.string ⟨#[97]⟩) := hc 0 _ rfl
  have d1 : v2.cell? ⟨g, 1, none⟩ = some (.string ⟨#[102, 105, 108, 108]⟩) := hc 1 _ rfl
  have d2 : v2.cell? ⟨g, 2, none⟩ = some (.string ⟨#[49]⟩) := hc 2 _ rfl
  have d3 : v2.cell? ⟨g, 3, none⟩ = some (.string ⟨#[50]⟩) := hc 3 _ rfl
  have d4 : v2.cell? ⟨g, 4, none⟩ = some (.string ⟨#[51]⟩) := hc 4 _ rfl
  have d5 : v2.cell? ⟨g, 5, none⟩ = some (.string ⟨#[52]⟩) := hc 5 _ rfl
  clear hc hb2 HVB HV1
  refine wp_loop_rounds 7 ?_
  iterate 6 (rw [rounds_succ]; go_wp2_with fail)
  rw [rounds_succ]
  go_upto_region 21 with fail
  refine wp_world (fun X hX => ?_)
  have hbX : Below v2.heap.size v2 X := by rw [hX]; (repeat (first | exact Below.refl _ _ | assumption | (refine Below.setCell ?_ (by first | (simp; done) | (simp; omega) | omega) _) | (refine Below.drew ?_) | (refine below_drewN ?_ _) | (refine Below.alloc ?_ (by first | (simp; done) | (simp; omega) | omega) _) | (refine Below.trans ?_ (Below.mono (by assumption) (by first | (simp; done) | (simp; omega) | omega)))))
  have HX : Hid (Below W.heap.size W X ∧ Blk X v2.heap.size [.string ⟨#[]⟩, .string ⟨#[]⟩, .slice none 0 0, .slice none 0 0, .slice none 0 0]) := Lib.hid ⟨HG.out.2.2.trans (hbX.mono HG.out.2.2.size), by rw [hX]; exact Blk.new _ _ _ _ rfl⟩
  have HS := Lib.hid (step_one g X (HL.out.past (HW.out.1.trans (HX.out.1.mono HW.out.1.size))) (Nat.lt_of_lt_of_le hg hbX.size) (fun i p hp => (hbX.cell (p := ⟨g, i, none⟩) hg).trans (HG.out.2.1 i p hp)))
  obtain ⟨sb, hsb⟩ : ∃ sb, sb = v2.heap.size := ⟨_, rfl⟩
  have HSB : Hid (W.heap.size ≤ sb) := Lib.hid (by rw [hsb]; exact HG.out.2.2.size)
  rw [← hsb] at HX ⊢
  clear hX hbX d0 d1 d2 d3 d4 d5 hg HG hsb
  go_upto_region 22 with (go_at_call 49; refine HS.out.mono ?_; rintro e v3 ⟨ar, cr, rfl, hR, hb3⟩; have hz := HX.out.2.past hb3; have z0 := hz.c 0 _ rfl; have z1 := hz.c 1 _ rfl; have z2 := hz.c 2 _ rfl; have z3 := hz.c 3 _ rfl; have z4 := hz.c 4 _ rfl; have zl := hz.lt; have zf := hz.f)
  refine wp_world (fun Y hY => ?_)
  have hT : Tch (fun b => b = sb) v3 Y := by rw [hY]; exact (((((Tch.refl (fun b => b = sb) v3).set ⟨sb, 0, none⟩ _ rfl).set ⟨sb, 1, none⟩ _ rfl).set ⟨sb, 2, none⟩ _ rfl).set ⟨sb, 3, none⟩ _ rfl).set ⟨sb, 4, none⟩ _ rfl
  have HY : Hid (Blk Y sb [.string ⟨#[97]⟩, .string ⟨#[102, 105, 108, 108]⟩, .slice none 0 0, .slice none 0 0, .slice ar 4 cr] ∧ RealsAt W.heap.size Y ar codes ∧ Below W.heap.size W Y) := Lib.hid (by
    refine ⟨by rw [hY]; simpa using ((((hz.set 0 (.string ⟨#[97]⟩)).set 1 (.string ⟨#[102, 105, 108, 108]⟩)).set 2 (.slice none 0 0)).set 3 (.slice none 0 0)).set 4 (.slice ar 4 cr), ?_, ?_⟩
    · exact (hR.tch hT (fun b hb => by subst hb; exact HX.out.2.lt)).mono HX.out.1.size
    · exact ((Tch.of_below (S := fun _ => False) (HX.out.1.trans (hb3.mono HX.out.1.size))).then hT (fun i hi e => by subst e; have := HSB.out; omega)).to_below (Nat.le_refl _) (fun _ hk => hk.elim))
  clear hY hT hR hb3 hz z0 z1 z2 z3 z4 zl zf HX HS
  have HPW := Lib.hid (And.intro (HW.out.2.1.past HY.out.2.2) (HW.out.2.2.past HY.out.2.2))
  have p0 := HPW.out.2.c 0 _ rfl; have pl := HPW.out.2.lt
  have y0 := HY.out.1.c 0 _ rfl; have y1 := HY.out.1.c 1 _ rfl; have y2 := HY.out.1.c 2 _ rfl; have y3 := HY.out.1.c 3 _ rfl; have y4 := HY.out.1.c 4 _ rfl; have yl := HY.out.1.lt
  obtain ⟨i0, hi0, hz0, hz1, hz2⟩ := info_parts infoStep
  go_upto_region 23 with (at_builtin; refine wpList_append_row (v := .slice none 0 0) _ rfl _ _ 22 rfl Tryz.underlying22 hi0 hz0 hz1 hz2 rfl (by decide) rfl (RowV.nil _ 5) ⟨Y.heap.size, 0, none⟩ 1 [.string ⟨#[97]⟩, .string ⟨#[102, 105, 108, 108]⟩, .slice none 0 0, .slice none 0 0, .slice ar 4 cr] rfl rfl (five_new _ _ _ _ _ _ _) (five_one _ _ _ _ _ _ _ _ _ _ _) (by decide) (by decide) ?_; intro ao5 cap5 w6 hR6 hG6 ho6; have hB6 : Below Y.heap.size Y w6 := Below.grown ((Below.refl _ Y).alloc (Nat.le_refl _) _) hG6 (by simp) (fun j hj => by simp [Value.ownBlock] at hj); have hp6 := HPW.out.2.past hB6; have g0 := hp6.c 0 _ rfl; have gl := hp6.lt; have gf := hp6.f)
  refine wp_world (fun U hU => ?_)
  have hT : Tch (fun b => b = w.heap.size + 1) w6 U := by rw [hU]; exact (Tch.refl (fun b => b = w.heap.size + 1) w6).set ⟨w.heap.size + 1, 0, none⟩ _ rfl
  have HU : Hid (Blk U (w.heap.size + 1) [.slice ao5 1 cap5, .string ⟨#[]⟩] ∧ Blk U w.heap.size [.slice none 0 0, .string ⟨#[]⟩] ∧ (RowV U 5 (.slice ao5 1 cap5) 1 [.string ⟨#[97]⟩, .string ⟨#[102, 105, 108, 108]⟩, .slice none 0 0, .slice none 0 0, .slice ar 4 cr] ∧ ∀ b, (Value.slice ao5 1 cap5).ownBlock = some b → W.heap.size ≤ b) ∧ RealsAt W.heap.size U ar codes ∧ Below w.heap.size w U) := Lib.hid (by
    have hw1 := HW.out.2.2.lt
    have hown : ∀ b, (Value.slice ao5 1 cap5).ownBlock = some b → W.heap.size ≤ b := fun b e => by
      rcases ho6 with h | h
      · rw [show (Value.slice ao5 1 cap5).ownBlock = (Value.slice ao5 (0 + 1) cap5).ownBlock from rfl] at e
        rw [h] at e; simp [Value.ownBlock] at e
      · have h1 := h b e
        have h2 := HY.out.2.2.size
        simp at h1
        omega
    refine ⟨by rw [hU]; simpa using hp6.set 0 (.slice ao5 1 cap5), (HPW.out.1.past hB6).tch hT (fun e => by omega), ⟨RowV.tch hR6 hT (fun b e hb => by have := hown b e; omega), hown⟩, (HY.out.2.1.past hB6).tch hT (fun b hb => by omega), ?_⟩
    have hbw : Below w.heap.size w w6 := HW.out.1.trans ((HY.out.2.2.trans (hB6.mono HY.out.2.2.size)).mono HW.out.1.size)
    exact below_own hbw hT (by omega))
  clear hU hT hR6 hG6 ho6 hB6 hp6 g0 gl gf p0 pl y0 y1 y2 y3 y4 yl HY HPW hi0 hz0 hz1 hz2
  go_wp2_with fail
  rw [rounds_succ]
  go_wp2_with (first | (go_at_call 47; refine (cut_2 _ (HL.out.past HU.out.2.2.2.2).l).mono ?_; rintro e v1 ⟨rfl, hb1⟩; have HV1 := Lib.hid (HU.out.2.2.2.2.trans (hb1.mono HU.out.2.2.2.2.size)); have HVB := Lib.hid hb1; clear hb1) | (go_at_call 48; refine (split_2 _ (HL.out.past HV1.out).l).mono ?_; rintro e v2 ⟨g', rfl, hg, hc, hb2⟩))
  have HG := Lib.hid (HVB.out.trans (hb2.mono HVB.out.size))
  have d0 : v2.cell? ⟨g', 0, none⟩ = some (.string ⟨#[111, 117, 116]⟩) := hc 0 _ rfl
  have d1 : v2.cell? ⟨g', 1, none⟩ = some (.string ⟨#[97]⟩) := hc 1 _ rfl
  have hP := HU.out.1.past HG.out
  have p0 := hP.c 0 _ rfl; have p1 := hP.c 1 _ rfl; have pl := hP.lt; have pf := hP.f
  clear hc hb2 HVB HV1 hP
  refine wp_loop_rounds 3 ?_
  iterate 2 (rw [rounds_succ]; go_wp2_with fail)
  rw [rounds_succ]
  go_upto_region 18 with fail
  refine wp_world (fun Y hY => ?_)
  have hT : Tch (fun b => b = w.heap.size + 1) v2 Y := by rw [hY]; exact (Tch.refl (fun b => b = w.heap.size + 1) v2).set ⟨w.heap.size + 1, 1, none⟩ _ rfl
  have HY : Hid (Blk Y (w.heap.size + 1) [.slice ao5 1 cap5, .string ⟨#[97]⟩] ∧ Blk Y w.heap.size [.slice none 0 0, .string ⟨#[]⟩] ∧ RowV Y 5 (.slice ao5 1 cap5) 1 [.string ⟨#[97]⟩, .string ⟨#[102, 105, 108, 108]⟩, .slice none 0 0, .slice none 0 0, .slice ar 4 cr] ∧ RealsAt W.heap.size Y ar codes ∧ Below w.heap.size w Y) := Lib.hid (by
    have hw1 := HW.out.2.2.lt
    have h := HU.out
    exact ⟨by rw [hY]; simpa using (h.1.past HG.out).set 1 (.string ⟨#[97]⟩), (h.2.1.past HG.out).tch hT (fun e => by omega), RowV.tch (h.2.2.1.1.past HG.out) hT (fun b e hb => by have := h.2.2.1.2 b e; omega), (h.2.2.2.1.past HG.out).tch hT (fun b hb => by omega), below_own (h.2.2.2.2.trans (HG.out.mono h.2.2.2.2.size)) hT (by omega)⟩)
  have HOWN := Lib.hid HU.out.2.2.1.2
  clear hY hT d0 d1 p0 p1 pl pf hg HG HU
  go_wp2_with fail
  rw [rounds_succ]
  obtain ⟨br, ro, har, -⟩ : ∃ br ro, ar = some ⟨br, ro, none⟩ ∧ True := by
    rcases HY.out.2.2.2.1 with h | ⟨br, ro, h, -⟩
    · cases h
    · exact ⟨br, ro, h, trivial⟩
  subst har
  obtain ⟨b, off, hao, HO⟩ : ∃ b off, ao5 = some ⟨b, off, none⟩ ∧ OneAt Y b off (some ⟨br, ro, none⟩) cr := by
    obtain ⟨-, ao, cap, e, h1, h2, h3⟩ := HY.out.2.2.1
    injection e with e1 e2 e3
    subst e1 e3
    rcases h3 with ⟨-, h3⟩ | ⟨b, off, h4, h5, h6, h7⟩
    · omega
    · exact ⟨b, off, h4, ⟨h6 0 _ rfl, h6 1 _ rfl, h6 2 _ rfl, h6 3 _ rfl, h6 4 _ rfl⟩⟩
  subst hao
  have HOO := Lib.hid HO
  have p0 := HY.out.1.c 0 _ rfl; have p1 := HY.out.1.c 1 _ rfl; have pl := HY.out.1.lt
  clear HO
  go_upto_region 28 with (go_at_call 13; refine (check_one _ _ _ _ _ _ HOO.out).mono ?_; rintro e v6 ⟨rfl, hb6⟩; have hz := HY.out.2.1.past hb6; have hp := HY.out.1.past hb6; have z0 := hz.c 0 _ rfl; have z1 := hz.c 1 _ rfl; have zl := hz.lt; have zf := hz.f; clear p0 p1 pl; have p0 := hp.c 0 _ rfl; have p1 := hp.c 1 _ rfl; have pl := hp.lt; have H6 := Lib.hid hb6; clear hz hp hb6)
  go_wp2_with fail
  refine bodyPost_retN (v := .tuple #[.agg #[.slice (some ⟨b, off, none⟩) 1 cap5, .string ⟨#[97]⟩], .int .i64 0, .int .i64 0]) (by simp [results, Tryz.results22, go_sem, z0, z1]) rfl (fun WF hWF => ⟨b, off, cap5, br, ro, cr, rfl, ?_⟩)
  have hT : Tch (fun b => b = w.heap.size) v6 WF := by rw [hWF]; exact ((Tch.refl (fun b => b = w.heap.size) v6).set ⟨w.heap.size, 0, none⟩ _ rfl).set ⟨w.heap.size, 1, none⟩ _ rfl
  have hw1 := HW.out.2.2.lt
  have hb := HOWN.out b rfl
  exact ⟨(HOO.out.past H6.out).tch hT (fun e => by omega), ((HY.out.2.2.2.1.past H6.out).tch hT (fun b hb => by omega)).mono (Nat.zero_le _), below_own (HY.out.2.2.2.2.trans (H6.out.mono HY.out.2.2.2.2.size)) hT (Nat.le_refl _)⟩
set_option maxRecDepth 100000 in
set_option maxHeartbeats 6400000 in
/-- Programs are compiled. -/
theorem nodes_any (w : World) (hL : LibN w) : Calls Tryz.prog 6 #[] w fun e w' => e = .returned (.bool true) ∧ Below w.heap.size w w' := by
  have HL := Lib.hid hL
  clear hL
  go_enter Tryz.func6, Tryz.ntmps6
  go_upto_region 2 with (go_at_call 22; refine (parse_one _ HL.out).mono ?_; rintro e w1 ⟨b, off, c, br, ro, cr, rfl, hO, hR, hb⟩)
  refine wp_world (fun W hW => ?_)
  have hbW : Below w1.heap.size w1 W := by rw [hW]; (repeat (first | exact Below.refl _ _ | assumption | (refine Below.setCell ?_ (by first | (simp; done) | (simp; omega) | omega) _) | (refine Below.drew ?_) | (refine below_drewN ?_ _) | (refine Below.alloc ?_ (by first | (simp; done) | (simp; omega) | omega) _) | (refine Below.trans ?_ (Below.mono (by assumption) (by first | (simp; done) | (simp; omega) | omega)))))
  have HW : Hid (Below w.heap.size w W ∧ Blk W w1.heap.size [.slice (some ⟨b, off, none⟩) 1 c, .string ⟨#[97]⟩]) := Lib.hid (by rw [hW]; exact ⟨by rw [← hW]; exact hb.trans (hbW.mono hb.size), Blk.new _ _ _ _ rfl⟩)
  have HC := Lib.hid (compile_one b off c br ro cr codes W (HL.out.past HW.out.1).l (hO.past hbW) rfl (hR.past hbW))
  have p0 := HW.out.2.c 0 _ rfl; have p1 := HW.out.2.c 1 _ rfl; have pl := HW.out.2.lt
  clear hW hbW hO hR hb
  go_wp2_with (go_at_call 4; refine HC.out.mono ?_; rintro e w2 ⟨⟨ao, cap, rfl⟩, hb2⟩)
  go_ret
  have h1 := HW.out.1
  have h2 : Below w.heap.size w w2 := h1.trans (hb2.mono h1.size)
  exact ⟨rfl, h2.alloc h2.size _⟩
end Go.Proofs.YtbaocallhnehfaaGreatDoor
