/- node.Op and node.Ops: the operation of a name, and all names. Conditions: what node.forms hands back (FormsP). -/
import Derived.Test.YtjcakbikpficbaaGreatDoorNfQ
import Derived.Lib.SlicesS
namespace Go.Proofs.YtjcakbikpficbaaGreatDoor
open Go Go.RowKit
/-- What is handed back for a name. -/
def OpR (ok no : Value) (name : ByteArray) (e : Ending) (w' : World) : Prop :=
  (∃ f v, opF name.data.toList = some f ∧ e = .returned (.tuple #[v, ok]) ∧ FormIs w' v f) ∨ (opF name.data.toList = none ∧ e = .returned (.tuple #[zForm, no]))
theorem bodyPost_retN {P : Program} {fn : Func} {R : Ending → World → Prop} {a : Act} {w : World} {v : Value} (hr : (results fn a.tmps).run P w = .ok v w) (hd : a.defers = []) (hR : ∀ W, W = w → R (.returned v) W) : bodyPost P fn R .ret a w := bodyPost_ret hr hd (hR w rfl)
theorem zCells_at {W : World} {n : Nat} (h : Blk W n zCells) : W.cell? ⟨n, 0, none⟩ = some (.string ⟨#[]⟩) ∧ W.cell? ⟨n, 1, none⟩ = some (.slice none 0 0) ∧ W.cell? ⟨n, 2, none⟩ = some (.int .i64 0) ∧ W.cell? ⟨n, 3, none⟩ = some (.int .i64 0) ∧ W.cell? ⟨n, 4, none⟩ = some (.int .i64 0) ∧ W.cell? ⟨n, 5, none⟩ = some (.bool false) := ⟨h.c 0 _ rfl, h.c 1 _ rfl, h.c 2 _ rfl, h.c 3 _ rfl, h.c 4 _ rfl, h.c 5 _ rfl⟩
theorem fCells_at {W : World} {n : Nat} {f : FormD} {a : Option Addr} {c : Nat} (h : Blk W n (fCells f a c)) : W.cell? ⟨n, 0, none⟩ = some (.string (bs f.nm)) ∧ W.cell? ⟨n, 1, none⟩ = some (.slice a f.ins.length c) ∧ W.cell? ⟨n, 2, none⟩ = some (.int .i64 f.out) ∧ W.cell? ⟨n, 3, none⟩ = some (.int .i64 f.ints) ∧ W.cell? ⟨n, 4, none⟩ = some (.int .i64 f.reals) ∧ W.cell? ⟨n, 5, none⟩ = some (.bool f.area) := ⟨h.c 0 _ rfl, h.c 1 _ rfl, h.c 2 _ rfl, h.c 3 _ rfl, h.c 4 _ rfl, h.c 5 _ rfl⟩
set_option maxRecDepth 100000 in
set_option maxHeartbeats 3200000 in
theorem Op_any (name : ByteArray) (w : World) (hF : ∀ w', Below w.heap.size w w' → Calls Tryz.prog 53 #[] w' (FormsP w')) : Calls Tryz.prog 9 #[.string name] w fun e w' => OpR (.int .i64 0) (.int .i64 6) name e w' ∧ Below w.heap.size w w' := by
  have HF := Lib.hid hF
  clear hF
  go_enter Tryz.func9, Tryz.ntmps9
  go_wp2_with (go_at_call 53; refine (HF.out _ (by (repeat (first | exact Below.refl _ _ | assumption | (refine Below.setCell ?_ (by first | (simp; done) | (simp; omega) | omega) _) | (refine Below.drew ?_) | (refine below_drewN ?_ _) | (refine Below.alloc ?_ (by first | (simp; done) | (simp; omega) | omega) _) | (refine Below.trans ?_ (Below.mono (by assumption) (by first | (simp; done) | (simp; omega) | omega))))))).mono ?_; rintro e w1 ⟨v, rfl, hr, hb⟩; obtain ⟨b, off, c, rfl, -, hc⟩ := hr)
  have hN : Blk w1 w.heap.size zCells := (Blk.new w zCells 27 _ rfl).past hb
  have HC := Lib.hid (And.intro hc hN)
  have HB1 : Hid (Below w.heap.size w w1) := Lib.hid (by (repeat (first | exact Below.refl _ _ | assumption | (refine Below.setCell ?_ (by first | (simp; done) | (simp; omega) | omega) _) | (refine Below.drew ?_) | (refine below_drewN ?_ _) | (refine Below.alloc ?_ (by first | (simp; done) | (simp; omega) | omega) _) | (refine Below.trans ?_ (Below.mono (by assumption) (by first | (simp; done) | (simp; omega) | omega))))))
  clear hc hN hb
  go_loopw [8] (fun s8 wr => ∃ k : Nat, k ≤ 27 ∧ s8 = .int .i64 k ∧ (∀ j, j < k → (F j).nm ≠ name.data.toList) ∧ Below w1.heap.size w1 wr) (fun s8 _ => 27 - (intOf s8).toNat)
  case atStart => exact ⟨0, by omega, rfl, fun j hj => by omega, Below.refl _ _⟩
  case round =>
    obtain ⟨k, hk, rfl, hno, hB⟩ := hrel
    have HNO := Lib.hid hno
    have HB := Lib.hid hB
    clear hno hB
    by_cases hkn : k < 27
    · have hkm : (k : Int) < 27 := by omega
      obtain ⟨c0, ⟨ia, ic, c1, ci⟩, c2, c3, c4, c5⟩ := (HC.out.1 k hkn).past HB.out
      have HK := Lib.hid hkn
      obtain ⟨f, hf⟩ : ∃ f, f = F k := ⟨_, rfl⟩
      rw [← hf] at c0 c1 c2 c3 c4 c5 ci
      have HFK := Lib.hid hf
      have HCI := Lib.hid ci
      have l0 := cell_lt c0; simp only at l0
      have HLB := Lib.hid l0
      clear hf ci hkn
      go_upto_region 4 with fail
      refine wp_world (fun W4 hW4 => ?_)
      have H4 : Hid (Blk W4 wr.heap.size (fCells f ia ic) ∧ Below wr.heap.size wr W4) := Lib.hid (by rw [hW4]; exact ⟨Blk.new _ _ _ _ rfl, by (repeat (first | exact Below.refl _ _ | assumption | (refine Below.setCell ?_ (by first | (simp; done) | (simp; omega) | omega) _) | (refine Below.drew ?_) | (refine below_drewN ?_ _) | (refine Below.alloc ?_ (by first | (simp; done) | (simp; omega) | omega) _) | (refine Below.trans ?_ (Below.mono (by assumption) (by first | (simp; done) | (simp; omega) | omega)))))⟩)
      clear hW4 c0 c1 c2 c3 c4 c5 l0
      obtain ⟨m0, m1, m2, m3, m4, m5⟩ := fCells_at H4.out.1
      have ml := H4.out.1.lt
      have HZ : Hid (Blk W4 w.heap.size zCells) := Lib.hid ((HC.out.2.past HB.out).past H4.out.2)
      cases hq : ((bs f.nm).toList == name.toList) with
      | true =>
        have he := (Lib.bytes_beq_iff _ _).1 hq
        have HE := Lib.hid he
        obtain ⟨z0, z1, z2, z3, z4, z5⟩ := zCells_at HZ.out
        have zf := HZ.out.f
        have zl := HZ.out.lt
        clear he
        go_wp2_with fail
        refine bodyPost_retN (v := .tuple #[formV f ia ic, .int .i64 0]) (by simp [results, Tryz.results9, go_sem, z0, z1, z2, z3, z4, z5, formV]) rfl (fun WF hWF => ?_)
        have hT : Tch (fun b => b = w.heap.size) W4 WF := by rw [hWF]; exact tch6 _ _ _ _ _ _ _ _
        have hB4 : Below w.heap.size w W4 := HB1.out.trans ((HB.out.trans (H4.out.2.mono HB.out.size)).mono HB1.out.size)
        have hI : IntsAt 0 WF ia f.ins := ((HCI.out.past H4.out.2).tch hT (fun b hb => by subst hb; simp)).mono (Nat.zero_le _)
        exact ⟨.inl ⟨f, _, by rw [HFK.out, show name.data.toList = (F k).nm by rw [← HE.out, bs_data, HFK.out]]; exact opF_F HK.out, rfl, ia, ic, rfl, hI⟩, below_own hB4 hT (Nat.le_refl _)⟩
      | false =>
        have he := (Lib.bytes_beq_false_iff _ _).1 hq
        have HE := Lib.hid he
        clear he
        go_wp2_with fail
        go_roundw
        case rel =>
          refine ⟨k + 1, by have := HK.out; omega, by go_num, fun j hj => ?_, HB.out.trans (H4.out.2.mono HB.out.size)⟩
          by_cases e : j = k
          · subst e
            intro h
            exact HE.out (by rw [HFK.out, h, bs_of])
          · exact HNO.out j (by omega)
        case measure => simp [intOf]; have := HK.out; omega
    · have hkm : ¬ (k : Int) < 27 := by omega
      have HZ : Hid (Blk wr w.heap.size zCells) := Lib.hid (HC.out.2.past HB.out)
      obtain ⟨z0, z1, z2, z3, z4, z5⟩ := zCells_at HZ.out
      have zf := HZ.out.f
      have zl := HZ.out.lt
      have HN : Hid (opF name.data.toList = none) := Lib.hid (opF_no fun j hj => HNO.out j (by omega))
      clear hkn
      go_wp2_with fail
      refine bodyPost_retN (v := .tuple #[zForm, .int .i64 6]) (by simp [results, Tryz.results9, go_sem, z0, z1, z2, z3, z4, z5, zForm]) rfl (fun WF hWF => ⟨.inr ⟨HN.out, rfl⟩, ?_⟩)
      have hT : Tch (fun b => b = w.heap.size) wr WF := by rw [hWF]; exact tch6 _ _ _ _ _ _ _ _
      exact below_own (HB1.out.trans (HB.out.mono HB1.out.size)) hT (Nat.le_refl _)
end Go.Proofs.YtjcakbikpficbaaGreatDoor
