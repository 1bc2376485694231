/- dyelaw2.formOf, sameForm: an operation by its name; the same form. Conditions: the library's variables read as listed (LibW). -/
import Derived.Test.YtjcakbikpficbaaGreatDoorNfD
import Derived.BigQuiet
namespace Go.Proofs.YtjcakbikpficbaaGreatDoor
open Go Go.RowKit
set_option maxRecDepth 100000 in
set_option maxHeartbeats 1600000 in
theorem isF_any (f : FormD) (a : Option Addr) (n c : Nat) (nm : ByteArray) (pn : Nat) (w : World) (h : w.cell? ⟨pn, 0, none⟩ = some (.string nm)) :
    Calls Tryz.prog 55 #[.agg #[.string (bs f.nm), .slice a n c, .int .i64 f.out, .int .i64 f.ints, .int .i64 f.reals, .bool f.area], .pointer (some ⟨pn, 0, none⟩)] w fun e w' => e = .returned (.bool ((bs f.nm).toList == nm.toList)) ∧ Below w.heap.size w w' := by
  have hl := cell_lt h; simp only at hl
  go_enter Tryz.func55, Tryz.ntmps55
  go_wp2_with fail
  go_ret
  exact ⟨rfl, by (repeat (first | exact Below.refl _ _ | assumption | (refine Below.setCell ?_ (by first | (simp; done) | (simp; omega) | omega) _) | (refine Below.drew ?_) | (refine below_drewN ?_ _) | (refine Below.alloc ?_ (by first | (simp; done) | (simp; omega) | omega) _) | (refine Below.trans ?_ (Below.mono (by assumption) (by first | (simp; done) | (simp; omega) | omega)))))⟩
theorem entF : ∀ args w, (callFunc 55 args).run Tryz.prog w = .ok (.enter 55 args) w := body_enters Tryz.func55 (by kernel_rfl) rfl
/-- The place of a name. -/
def plF (nm : List UInt8) (z : Int) : Prop := (∃ k : Nat, k < 27 ∧ (F k).nm = nm ∧ z = k) ∨ ((∀ j, j < 27 → (F j).nm ≠ nm) ∧ z = -1)
theorem plF_some (nm : List UInt8) : ∃ z, plF nm z := by
  by_cases h : ∃ k, k < 27 ∧ (F k).nm = nm
  · obtain ⟨k, h1, h2⟩ := h
    exact ⟨k, .inl ⟨k, h1, h2, rfl⟩⟩
  · exact ⟨-1, .inr ⟨fun j hj e => h ⟨j, hj, e⟩, rfl⟩⟩
set_option maxRecDepth 100000 in
set_option maxHeartbeats 1600000 in
theorem idxF2_any (b off cap B : Nat) (nm : ByteArray) (pn : Nat) (z : Int) (w : World) (hz : plF nm.data.toList z) (hc : ∀ q, q < 27 → FormC B w b (off + q * 6) (F q)) (hp : w.cell? ⟨pn, 0, none⟩ = some (.string nm)) :
    Calls Tryz.prog 54 #[.slice (some ⟨b, off, none⟩) 27 cap, .func (.func 55) #[] #[.pointer (some ⟨pn, 0, none⟩)]] w fun e w' => e = .returned (.int .i64 z) ∧ Below w.heap.size w w' := by
  have HC := Lib.hid (And.intro hc hp)
  have HZ := Lib.hid hz
  have hent := entF
  have hpl := cell_lt hp; simp only at hpl
  clear hc hp hz
  go_enter Tryz.func54, Tryz.ntmps54
  go_wp2_with fail
  go_loopw [8] (fun s8 wr => ∃ k : Nat, k ≤ 27 ∧ s8 = .int .i64 k ∧ Below w.heap.size w wr ∧ ∀ j, j < k → (F j).nm ≠ nm.data.toList) (fun s8 _ => 27 - (intOf s8).toNat)
  case atStart => exact ⟨0, Nat.zero_le _, rfl, Below.refl _ _, fun j hj => absurd hj (Nat.not_lt_zero _)⟩
  case round =>
    obtain ⟨k, hk, rfl, hB, hne⟩ := hrel
    have HNE := Lib.hid (And.intro hne hB)
    clear hne
    by_cases hkn : k < 27
    · have hkm : (k : Int) < 27 := by omega
      obtain ⟨c0, ⟨ia, ic, c1, -⟩, c2, c3, c4, c5⟩ := (HC.out.1 k hkn).past hB
      have HP := Lib.hid ((hB.cell (p := ⟨pn, 0, none⟩) hpl).trans HC.out.2)
      have HK := Lib.hid hkn
      obtain ⟨f, hf⟩ : ∃ f, f = F k := ⟨_, rfl⟩
      rw [← hf] at c0 c1 c2 c3 c4 c5
      have HFK := Lib.hid hf
      have l0 := cell_lt c0; simp only at l0
      obtain ⟨r, hr⟩ : ∃ r, r = ((bs f.nm).toList == nm.toList) := ⟨_, rfl⟩
      have HRR := Lib.hid hr
      clear hf hr hB hkn
      cases r with
      | true =>
        have he := (Lib.bytes_beq_iff _ _).1 HRR.out.symm
        have HE : Hid (z = k) := Lib.hid (by
          have e : (F k).nm = nm.data.toList := by rw [← HFK.out, ← he, bs_data]
          rcases HZ.out with ⟨q, h1, h2, h3⟩ | ⟨h1, -⟩
          · have := F_inj h1 HK.out (h2.trans e.symm); rw [h3, this]
          · exact absurd e (h1 k HK.out))
        clear he
        go_wp2_with (go_at_call 55; refine (isF_any f _ _ _ nm pn _ HP.out).mono ?_; rintro e w1 ⟨rfl, hb1⟩; rw [← HRR.out])
        go_ret
        exact ⟨by rw [HE.out]; rfl, HNE.out.2.trans (hb1.mono HNE.out.2.size)⟩
      | false =>
        have he := (Lib.bytes_beq_false_iff _ _).1 HRR.out.symm
        have HE := Lib.hid he
        clear he
        go_wp2_with (go_at_call 55; refine (isF_any f _ _ _ nm pn _ HP.out).mono ?_; rintro e w1 ⟨rfl, hb1⟩; have HB1 := Lib.hid (HNE.out.2.trans (hb1.mono HNE.out.2.size)); clear hb1; rw [← HRR.out])
        go_roundw
        case rel =>
          refine ⟨k + 1, by have := HK.out; omega, by go_num, HB1.out, fun j hj => ?_⟩
          by_cases ej : j = k
          · subst ej
            intro e
            exact HE.out (by rw [HFK.out, e, bs_of])
          · exact HNE.out.1 j (by omega)
        case measure => simp [intOf]; have := HK.out; omega
    · obtain rfl : k = 27 := by omega
      have hkm : ¬ ((27 : Nat) : Int) < 27 := by omega
      have HE : Hid (z = -1) := Lib.hid (by
        rcases HZ.out with ⟨q, h1, h2, -⟩ | ⟨-, h1⟩
        · exact absurd h2 (HNE.out.1 q h1)
        · exact h1)
      clear hB
      go_wp2_with fail
      go_ret
      exact ⟨by rw [HE.out]; rfl, HNE.out.2⟩
set_option maxRecDepth 100000 in
set_option maxHeartbeats 3200000 in
theorem formOf_any (name : ByteArray) (w : World) (hL : LibW w) : Calls Tryz.prog 11 #[.string name] w fun e w' => OpR (.bool true) (.bool false) name e w' ∧ Below w.heap.size w w' := by
  have HL := Lib.hid hL
  clear hL
  obtain ⟨z, hz⟩ := plF_some name.data.toList
  have HZ := Lib.hid hz
  go_enter Tryz.func11, Tryz.ntmps11
  go_upto_region 2 with (go_at_call 8; refine (forms2_any _ (HL.out.past (by (repeat (first | exact Below.refl _ _ | assumption | (refine Below.setCell ?_ (by first | (simp; done) | (simp; omega) | omega) _) | (refine Below.drew ?_) | (refine below_drewN ?_ _) | (refine Below.alloc ?_ (by first | (simp; done) | (simp; omega) | omega) _) | (refine Below.trans ?_ (Below.mono (by assumption) (by first | (simp; done) | (simp; omega) | omega)))))))).mono ?_; rintro e w1 ⟨v, rfl, hr, hb⟩; obtain ⟨b, off, c, rfl, hb0, hc⟩ := hr)
  have hN : Blk w1 (w.heap.size + 1) zCells := ((Blk.new (w.alloc (.cells #[.string name] 9)) zCells 27 (w.heap.size + 1) (by simp))).past hb
  have hP : Blk w1 w.heap.size [.string name] := (((Blk.new w [.string name] 9 _ rfl).alloc (.cells zCells.toArray 27))).past hb
  have HB1 : Hid (Below w.heap.size w w1) := Lib.hid (by (repeat (first | exact Below.refl _ _ | assumption | (refine Below.setCell ?_ (by first | (simp; done) | (simp; omega) | omega) _) | (refine Below.drew ?_) | (refine below_drewN ?_ _) | (refine Below.alloc ?_ (by first | (simp; done) | (simp; omega) | omega) _) | (refine Below.trans ?_ (Below.mono (by assumption) (by first | (simp; done) | (simp; omega) | omega))))))
  have HC := Lib.hid (And.intro hc (And.intro hN hP))
  have HIX := Lib.hid (fun w' (hw' : Below w1.heap.size w1 w') => idxF2_any b off c _ name w.heap.size z w' HZ.out (fun q hq => (hc q hq).past hw') ((hP.past hw').c 0 _ rfl) : ∀ w', _)
  clear hc hN hP hb hb0
  rcases hz with ⟨k, hk, hnm, rfl⟩ | ⟨hno, rfl⟩
  · have hk' : (k : Int) < 27 := by omega
    have HK := Lib.hid (And.intro hk hnm)
    obtain ⟨f, hf⟩ : ∃ f, f = F k := ⟨_, rfl⟩
    have HFK := Lib.hid hf
    clear hk hnm hf
    go_wp2_with (go_at_call 54; refine (HIX.out _ (by (repeat (first | exact Below.refl _ _ | assumption | (refine Below.setCell ?_ (by first | (simp; done) | (simp; omega) | omega) _) | (refine Below.drew ?_) | (refine below_drewN ?_ _) | (refine Below.alloc ?_ (by first | (simp; done) | (simp; omega) | omega) _) | (refine Below.trans ?_ (Below.mono (by assumption) (by first | (simp; done) | (simp; omega) | omega))))))).mono ?_; rintro e w2 ⟨rfl, hb2⟩; obtain ⟨c0, ⟨ia, ic, c1, ci⟩, c2, c3, c4, c5⟩ := (HC.out.1 k HK.out.1).past hb2; rw [← HFK.out] at c0 c1 c2 c3 c4 c5 ci; have HCI := Lib.hid ci; have HZ2 := Lib.hid (And.intro (HC.out.2.1.past hb2) hb2); have l0 := cell_lt c0; simp only at l0; obtain ⟨z0, z1, z2, z3, z4, z5⟩ := zCells_at HZ2.out.1; have zf := HZ2.out.1.f; have zl := HZ2.out.1.lt; clear hb2 ci)
    refine bodyPost_retN (v := .tuple #[formV f ia ic, .bool true]) (by simp [results, Tryz.results11, go_sem, z0, z1, z2, z3, z4, z5, formV]) rfl (fun WF hWF => ?_)
    have hT : Tch (fun b => b = w.heap.size + 1) w2 WF := by rw [hWF]; exact tch6 _ _ _ _ _ _ _ _
    have hI : IntsAt 0 WF ia f.ins := (HCI.out.tch hT (fun b hb => by subst hb; simp)).mono (Nat.zero_le _)
    exact ⟨.inl ⟨f, _, by rw [HFK.out, ← HK.out.2]; exact opF_F HK.out.1, rfl, ia, ic, rfl, hI⟩, below_own (HB1.out.trans (HZ2.out.2.mono HB1.out.size)) hT (by omega)⟩
  · have HN : Hid (opF name.data.toList = none) := Lib.hid (opF_no hno)
    clear hno
    go_wp2_with (go_at_call 54; refine (HIX.out _ (by (repeat (first | exact Below.refl _ _ | assumption | (refine Below.setCell ?_ (by first | (simp; done) | (simp; omega) | omega) _) | (refine Below.drew ?_) | (refine below_drewN ?_ _) | (refine Below.alloc ?_ (by first | (simp; done) | (simp; omega) | omega) _) | (refine Below.trans ?_ (Below.mono (by assumption) (by first | (simp; done) | (simp; omega) | omega))))))).mono ?_; rintro e w2 ⟨rfl, hb2⟩; have HZ2 := Lib.hid (And.intro (HC.out.2.1.past hb2) hb2); obtain ⟨z0, z1, z2, z3, z4, z5⟩ := zCells_at HZ2.out.1; have zf := HZ2.out.1.f; have zl := HZ2.out.1.lt; clear hb2)
    refine bodyPost_retN (v := .tuple #[zForm, .bool false]) (by simp [results, Tryz.results11, go_sem, z0, z1, z2, z3, z4, z5, zForm]) rfl (fun WF hWF => ⟨.inr ⟨HN.out, rfl⟩, ?_⟩)
    have hT : Tch (fun b => b = w.heap.size + 1) w2 WF := by rw [hWF]; exact tch6 _ _ _ _ _ _ _ _
    exact below_own (HB1.out.trans (HZ2.out.2.mono HB1.out.size)) hT (by omega)
end Go.Proofs.YtjcakbikpficbaaGreatDoor
