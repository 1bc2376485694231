/- node.CheckProgram at the program of one step 'a fill ..'. Conditions: its cells can be read. -/
import Derived.Test.YtjcakbikpficbaaGreatDoorNgD
import Derived.Test.YtjcakbikpficbaaGreatDoorNfB
namespace Go.Proofs.YtjcakbikpficbaaGreatDoor
open Go Go.RowKit
theorem zeroI (w : World) : (zeroValue 3).run Tryz.prog w = .ok (.int .i64 0) w := by kernel_rfl
theorem ownsMap_block {P : Program} {k : TypeId} {R : Value → Option (DataW Value × List MemPlace)} {w w' : World} {b n : Nat} {D : DataW Value} (h : w.ownsMap P k R b n D) (hb : w'.heap[b]? = w.heap[b]?) : w'.ownsMap P k R b n D := by
  obtain ⟨es, clock, h1, r⟩ := h
  exact ⟨es, clock, hb.trans h1, r⟩
def sA : ByteArray := ⟨#[97]⟩
def sFill : ByteArray := ⟨#[102, 105, 108, 108]⟩
theorem op_fill (w : World) : Calls Tryz.prog 9 #[.string ⟨#[102, 105, 108, 108]⟩] w fun e w' => ∃ a c, e = .returned (.tuple #[.agg #[.string ⟨#[102, 105, 108, 108]⟩, .slice a 0 c, .int .i64 1, .int .i64 0, .int .i64 4, .bool false], .int .i64 0]) ∧ Below w.heap.size w w' := by
  refine (Op_any ⟨#[102, 105, 108, 108]⟩ w (fun w' _ => forms_any w')).mono ?_
  rintro e w' ⟨⟨f, v, hf, rfl, a, c, rfl, -⟩ | ⟨hf, -⟩, hb⟩
  · have e1 : opF (⟨#[102, 105, 108, 108]⟩ : ByteArray).data.toList = some (F 1) := opF_F (k := 1) (by decide)
    rw [e1] at hf
    cases hf
    exact ⟨a, c, rfl, hb⟩
  · have e1 : opF (⟨#[102, 105, 108, 108]⟩ : ByteArray).data.toList = some (F 1) := opF_F (k := 1) (by decide)
    rw [e1] at hf
    cases hf
/-- The cells of the step. -/
structure OneAt (w : World) (b off : Nat) (ar : Option Addr) (cr : Nat) : Prop where
  c0 : w.cell? ⟨b, off, none⟩ = some (.string ⟨#[97]⟩)
  c1 : w.cell? ⟨b, off + 1, none⟩ = some (.string ⟨#[102, 105, 108, 108]⟩)
  c2 : w.cell? ⟨b, off + 2, none⟩ = some (.slice none 0 0)
  c3 : w.cell? ⟨b, off + 3, none⟩ = some (.slice none 0 0)
  c4 : w.cell? ⟨b, off + 4, none⟩ = some (.slice ar 4 cr)
theorem OneAt.past {w w' : World} {b off : Nat} {ar : Option Addr} {cr : Nat} (h : OneAt w b off ar cr) (hb : Below w.heap.size w w') : OneAt w' b off ar cr := by
  obtain ⟨h0, h1, h2, h3, h4⟩ := h
  have hl := cell_lt h0
  simp only at hl
  have g : ∀ j, w'.cell? ⟨b, j, none⟩ = w.cell? ⟨b, j, none⟩ := fun j => hb.cell (p := ⟨b, j, none⟩) hl
  exact ⟨by rw [g]; exact h0, by rw [g]; exact h1, by rw [g]; exact h2, by rw [g]; exact h3, by rw [g]; exact h4⟩
set_option maxRecDepth 100000 in
set_option maxHeartbeats 6400000 in
theorem check_one (b off c cr : Nat) (ar : Option Addr) (w : World) (h : OneAt w b off ar cr) : Calls Tryz.prog 57 #[.agg #[.slice (some ⟨b, off, none⟩) 1 c, .string ⟨#[97]⟩]] w fun e w' => e = .returned (.int .i64 0) ∧ Below w.heap.size w w' := by
  have hmm := @run_makeMap Tryz.prog
  have HH := Lib.hid h
  clear h
  go_enter Tryz.func57, Tryz.ntmps57
  go_wp2_with fail
  refine wp_world (fun W hW => ?_)
  obtain ⟨mb, hmb⟩ : ∃ mb, mb = w.heap.size + 1 := ⟨_, rfl⟩
  have HW : Hid (Below w.heap.size w W ∧ Blk W w.heap.size [.slice (some ⟨b, off, none⟩) 1 c, .string ⟨#[97]⟩] ∧ w.heap.size + 1 = mb ∧ W.ownsMap Tryz.prog 9 heldV mb 0 (.map [])) := Lib.hid (by
    rw [hW, hmb]
    refine ⟨by (repeat (first | exact Below.refl _ _ | assumption | (refine Below.setCell ?_ (by first | (simp; done) | (simp; omega) | omega) _) | (refine Below.drew ?_) | (refine below_drewN ?_ _) | (refine Below.alloc ?_ (by first | (simp; done) | (simp; omega) | omega) _) | (refine Below.trans ?_ (Below.mono (by assumption) (by first | (simp; done) | (simp; omega) | omega))))), (Blk.new _ _ _ _ rfl).alloc _, rfl, ?_⟩
    have h := World.ownsMap_made (w.alloc (.cells #[.slice (some ⟨b, off, none⟩) 1 c, .string ⟨#[97]⟩] 40)) Tryz.prog 9 heldV
    simpa using h)
  rw [show w.heap.size + 1 = mb from hmb.symm]
  clear hW hmb hmm
  have H1 := HH.out.past HW.out.1
  have c0 := H1.c0; have c1 := H1.c1; have c2 := H1.c2; have c3 := H1.c3; have c4 := H1.c4
  have cl := cell_lt c0; simp only at cl
  clear H1
  refine wp_loop_rounds 2 ?_
  rw [rounds_succ]
  go_upto_region 9 with fail
  refine wp_world (fun V hV => ?_)
  have HV : Hid (Blk V W.heap.size [.string ⟨#[97]⟩, .string ⟨#[102, 105, 108, 108]⟩, .slice none 0 0, .slice none 0 0, .slice ar 4 cr] ∧ Below W.heap.size W V) := Lib.hid (by rw [hV]; exact ⟨Blk.new _ _ _ _ rfl, by (repeat (first | exact Below.refl _ _ | assumption | (refine Below.setCell ?_ (by first | (simp; done) | (simp; omega) | omega) _) | (refine Below.drew ?_) | (refine below_drewN ?_ _) | (refine Below.alloc ?_ (by first | (simp; done) | (simp; omega) | omega) _) | (refine Below.trans ?_ (Below.mono (by assumption) (by first | (simp; done) | (simp; omega) | omega)))))⟩)
  clear hV c0 c1 c2 c3 c4 cl
  have HM : Hid (V.ownsMap Tryz.prog 9 heldV mb 0 (.map [])) := Lib.hid (ownsMap_block HW.out.2.2.2 (HV.out.2.block mb HW.out.2.2.2.lt))
  have m0 := HV.out.1.c 0 _ rfl; have m1 := HV.out.1.c 1 _ rfl; have m2 := HV.out.1.c 2 _ rfl; have m3 := HV.out.1.c 3 _ rfl; have m4 := HV.out.1.c 4 _ rfl
  have ml := HV.out.1.lt
  go_upto_region 13 with (first | (go_at_call 93; refine (isName_a _).mono ?_; rintro e v1 ⟨rfl, hb1⟩; replace HV := Lib.hid (And.intro (HV.out.1.past hb1) (HV.out.2.trans (hb1.mono HV.out.2.size))); replace HM := Lib.hid (ownsMap_block HM.out (hb1.block mb HM.out.lt)); clear hb1 m0 m1 m2 m3 m4 ml; have m0 := HV.out.1.c 0 _ rfl; have m1 := HV.out.1.c 1 _ rfl; have m2 := HV.out.1.c 2 _ rfl; have m3 := HV.out.1.c 3 _ rfl; have m4 := HV.out.1.c 4 _ rfl; have ml := HV.out.1.lt) | (at_lookup; refine wpList_look0 _ rfl _ _ 108 rfl 9 3 lawStr Tryz.underlying108 (zeroI _) mb 0 (.map []) rfl HM.out _ (keyS ⟨#[97]⟩) rfl (keyS_mk (by decide)) (.int .i64 0) rfl ?_))
  go_upto_region 14 with (go_at_call 9; refine (op_fill _).mono ?_; rintro e v1 ⟨fa, fc, rfl, hb1⟩; replace HV := Lib.hid (And.intro (HV.out.1.past hb1) (HV.out.2.trans (hb1.mono HV.out.2.size))); replace HM := Lib.hid (ownsMap_block HM.out (hb1.block mb HM.out.lt)); clear hb1 m0 m1 m2 m3 m4 ml)
  refine wp_world (fun U hU => ?_)
  have HU : Hid (Blk U v1.heap.size [.string ⟨#[102, 105, 108, 108]⟩, .slice fa 0 fc, .int .i64 1, .int .i64 0, .int .i64 4, .bool false] ∧ Below v1.heap.size v1 U) := Lib.hid (by rw [hU]; exact ⟨Blk.new _ _ _ _ rfl, by (repeat (first | exact Below.refl _ _ | assumption | (refine Below.setCell ?_ (by first | (simp; done) | (simp; omega) | omega) _) | (refine Below.drew ?_) | (refine below_drewN ?_ _) | (refine Below.alloc ?_ (by first | (simp; done) | (simp; omega) | omega) _) | (refine Below.trans ?_ (Below.mono (by assumption) (by first | (simp; done) | (simp; omega) | omega)))))⟩)
  clear hU
  have HS : Hid (Blk U W.heap.size [.string ⟨#[97]⟩, .string ⟨#[102, 105, 108, 108]⟩, .slice none 0 0, .slice none 0 0, .slice ar 4 cr] ∧ Below W.heap.size W U ∧ U.ownsMap Tryz.prog 9 heldV mb 0 (.map [])) := Lib.hid ⟨HV.out.1.past HU.out.2, HV.out.2.trans (HU.out.2.mono HV.out.2.size), ownsMap_block HM.out (HU.out.2.block mb HM.out.lt)⟩
  clear HV HM
  have m0 := HS.out.1.c 0 _ rfl; have m1 := HS.out.1.c 1 _ rfl; have m2 := HS.out.1.c 2 _ rfl; have m3 := HS.out.1.c 3 _ rfl; have m4 := HS.out.1.c 4 _ rfl
  have ml := HS.out.1.lt
  have f1 := HU.out.1.c 1 _ rfl; have f2 := HU.out.1.c 2 _ rfl; have f3 := HU.out.1.c 3 _ rfl; have f4 := HU.out.1.c 4 _ rfl
  have fl := HU.out.1.lt
  go_wp2_with fail
  refine wp_loop_rounds 1 ?_
  rw [rounds_succ]
  go_wp2_with (first | (go_at_call 78; refine (parameters_fill _ _).mono ?_; rintro e v2 ⟨rfl, hb2⟩; replace HS := Lib.hid (And.intro (HS.out.1.past hb2) (And.intro (HS.out.2.1.trans (hb2.mono HS.out.2.1.size)) (ownsMap_block HS.out.2.2 (hb2.block mb HS.out.2.2.lt)))); replace HU := Lib.hid (HU.out.1.past hb2); clear hb2 m0 m1 m2 m3 m4 ml f1 f2 f3 f4 fl; have m0 := HS.out.1.c 0 _ rfl; have ml := HS.out.1.lt; have f2 := HU.out.c 2 _ rfl; have fl := HU.out.lt) | (at_mapUpdate; refine wpList_mapUpdate_own _ rfl _ _ _ 108 rfl 9 3 lawStr Tryz.underlying108 heldV mb 0 (.map []) rfl HS.out.2.2 (by decide) _ _ (keyS ⟨#[97]⟩) rfl rfl (keyS_mk (by decide)) (.held (.int .i64 1)) [] rfl ?_; intro w3 hown3 hgrow3))
  have HG := Lib.hid (And.intro hown3 hgrow3)
  clear hown3 hgrow3 m0 ml f2 fl
  have hB3 : Blk w3 w.heap.size [.slice (some ⟨b, off, none⟩) 1 c, .string ⟨#[97]⟩] := ((HW.out.2.1.past HS.out.2.1).tch (Tch.of_grown (S := fun j => j = mb) HG.out.2 (fun j hj => by cases hj; rfl)) (fun e => by have := HW.out.2.2.1; omega))
  have p1 := hB3.c 1 _ rfl
  have pl := hB3.lt
  have hat : ((DataW.map []).put (keyS ⟨#[97]⟩) (DataW.held (Value.int .i64 1))).atKey (keyS ⟨#[97]⟩) (.held (Value.int .i64 0)) = .held (Value.int .i64 1) := Maps.atKey_put_same ⟨_, rfl⟩ (lawStr.key (keyS_mk (nm := ⟨#[97]⟩) (by decide))) _ _
  clear hB3
  rw [rounds_succ]
  go_wp2_with (first | (go_at_call 79; refine (outKind_1 _).mono ?_; rintro e v4 ⟨rfl, rfl⟩) | (at_lookup; refine wpList_look0 _ rfl _ _ 108 rfl 9 3 lawStr Tryz.underlying108 (zeroI _) mb 1 _ rfl HG.out.1 _ (keyS ⟨#[97]⟩) rfl (keyS_mk (by decide)) (.int .i64 1) hat ?_))
  go_ret
  have hB := HW.out.1.trans (HS.out.2.1.mono HW.out.1.size)
  exact ⟨rfl, hB.grown HG.out.2 hB.size (fun j hj => by cases hj; have := HW.out.2.2.1; omega)⟩
end Go.Proofs.YtjcakbikpficbaaGreatDoor
