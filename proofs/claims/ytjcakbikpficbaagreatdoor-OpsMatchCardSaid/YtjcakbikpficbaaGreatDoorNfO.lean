/- Rows that a call makes of its own; node.Ops: all names. Conditions: what node.forms hands back (FormsP). -/
import Derived.Test.YtjcakbikpficbaaGreatDoorNfC
namespace Go.Proofs.YtjcakbikpficbaaGreatDoor
open Go Go.RowKit
theorem infoStrN : (Tryz.prog.info? 9).map (fun i => (i.zero, i.size, i.bytes)) = some (some (.string ⟨#[]⟩), 1, 16) := by kernel_rfl
/-- A row whose memory, if any, is not below B. -/
def NewRow (B : Nat) (w : World) (size : Nat) (v : Value) (n : Nat) (xs : List Value) : Prop := RowV w size v n xs ∧ ∀ b, v.ownBlock = some b → B ≤ b
theorem NewRow.nil (B : Nat) (w : World) (size : Nat) : NewRow B w size (.slice none 0 0) 0 [] := ⟨RowV.nil w size, fun b h => by simp [Value.ownBlock] at h⟩
theorem NewRow.past {B : Nat} {w w' : World} {size n : Nat} {v : Value} {xs : List Value} (h : NewRow B w size v n xs) (hb : Below w.heap.size w w') : NewRow B w' size v n xs := ⟨h.1.past hb, h.2⟩
theorem NewRow.form {B : Nat} {w : World} {size n : Nat} {v : Value} {xs : List Value} (h : NewRow B w size v n xs) : ∃ ao cap, v = .slice ao n cap := by
  obtain ⟨⟨-, ao, cap, rfl, -⟩, -⟩ := h; exact ⟨_, _, rfl⟩
/-- Behind an append. -/
theorem NewRow.app {w0 wa w' : World} {size n : Nat} {v v' : Value} {xs ys : List Value} (h : NewRow w0.heap.size wa size v n xs) (hb : Below w0.heap.size w0 wa) (r1 : RowV w' size v' (n + 1) ys) (r2 : wa.grownBy w' v.ownBlock) (r3 : v'.ownBlock = v.ownBlock ∨ ∀ b, v'.ownBlock = some b → wa.heap.size ≤ b) :
    NewRow w0.heap.size w' size v' (n + 1) ys ∧ Below w0.heap.size w0 w' := by
  refine ⟨⟨r1, fun b e => ?_⟩, hb.grown r2 hb.size (fun j hj => h.2 j hj)⟩
  rcases r3 with r3 | r3
  · exact h.2 b (by rw [← r3]; exact e)
  · exact Nat.le_trans hb.size (r3 b e)
def nmsV (k : Nat) : List Value := (List.range k).map fun q => .string (bs (F q).nm)
theorem nmsV_succ (k : Nat) : nmsV (k + 1) = nmsV k ++ [.string (bs (F k).nm)] := by simp [nmsV, List.range_succ]
set_option maxRecDepth 100000 in
set_option maxHeartbeats 3200000 in
theorem Ops_any (w : World) (hF : ∀ w', Below w.heap.size w w' → Calls Tryz.prog 53 #[] w' (FormsP w')) : Calls Tryz.prog 14 #[] w fun e w' => ∃ v, e = .returned v ∧ NewRow w.heap.size w' 1 v 27 (nmsV 27) ∧ Below w.heap.size w w' := by
  have HF := Lib.hid hF
  clear hF
  obtain ⟨i0, hi0, hz0, hz1, hz2⟩ := info_parts infoStrN
  go_enter Tryz.func14, Tryz.ntmps14
  go_wp2_with (go_at_call 53; refine (HF.out _ (by (repeat (first | exact Below.refl _ _ | assumption | (refine Below.setCell ?_ (by first | (simp; done) | (simp; omega) | omega) _) | (refine Below.drew ?_) | (refine below_drewN ?_ _) | (refine Below.alloc ?_ (by first | (simp; done) | (simp; omega) | omega) _) | (refine Below.trans ?_ (Below.mono (by assumption) (by first | (simp; done) | (simp; omega) | omega))))))).mono ?_; rintro e w1 ⟨v, rfl, hr, hb⟩; obtain ⟨b, off, c, rfl, -, hc⟩ := hr)
  have HC := Lib.hid hc
  have HB1 := Lib.hid hb
  clear hc hb
  go_loopw [6, 1] (fun s6 s1 wr => ∃ (k : Nat) (u : Value), k ≤ 27 ∧ s6 = .int .i64 k ∧ u = s1 ∧ NewRow w1.heap.size wr 1 u k (nmsV k) ∧ Below w1.heap.size w1 wr) (fun s6 _ _ => 27 - (intOf s6).toNat)
  case atStart => exact ⟨0, _, by omega, rfl, rfl, NewRow.nil _ _ _, Below.refl _ _⟩
  case round =>
    obtain ⟨k, u, hk, rfl, rfl, hR, hB⟩ := hrel
    obtain ⟨ao, cp, rfl⟩ := hR.form
    have HR := Lib.hid hR
    have HB := Lib.hid hB
    clear hR hB
    by_cases hkn : k < 27
    · have hkm : (k : Int) < 27 := by omega
      obtain ⟨c0, ⟨ia, ic, c1, ci⟩, c2, c3, c4, c5⟩ := (HC.out k hkn).past HB.out
      have HK := Lib.hid hkn
      obtain ⟨f, hf⟩ : ∃ f, f = F k := ⟨_, rfl⟩
      rw [← hf] at c0 c1 c2 c3 c4 c5
      have HFK := Lib.hid hf
      have l0 := cell_lt c0; simp only at l0
      clear hf ci hkn
      go_upto_region 5 with fail
      refine wp_world (fun W4 hW4 => ?_)
      have H4 : Hid (Blk W4 wr.heap.size (fCells f ia ic) ∧ Below wr.heap.size wr W4) := Lib.hid (by rw [hW4]; exact ⟨Blk.new _ _ _ _ rfl, by (repeat (first | exact Below.refl _ _ | assumption | (refine Below.setCell ?_ (by first | (simp; done) | (simp; omega) | omega) _) | (refine Below.drew ?_) | (refine below_drewN ?_ _) | (refine Below.alloc ?_ (by first | (simp; done) | (simp; omega) | omega) _) | (refine Below.trans ?_ (Below.mono (by assumption) (by first | (simp; done) | (simp; omega) | omega)))))⟩)
      clear hW4 c0 c1 c2 c3 c4 c5 l0
      obtain ⟨m0, m1, m2, m3, m4, m5⟩ := fCells_at H4.out.1
      have ml := H4.out.1.lt
      have HX : Hid (NewRow w1.heap.size W4 1 (.slice ao k cp) k (nmsV k) ∧ Below w1.heap.size w1 W4) := Lib.hid ⟨HR.out.past H4.out.2, HB.out.trans (H4.out.2.mono HB.out.size)⟩
      go_wp2_with (at_builtin; refine wpList_append_row (v := .slice ao k cp) _ rfl _ _ 22 rfl Tryz.underlying22 hi0 hz0 hz1 hz2 rfl (by decide) rfl (HX.out.1.1.past ((Below.refl _ _).alloc (Nat.le_refl _) _)) ⟨W4.heap.size, 0, none⟩ 1 [.string (bs f.nm)] rfl rfl (by intro j u hj; match j, hj with | 0, hj => (simp at hj; subst hj; simp [Addr.add])) (by intro u hu; simp at hu; subst hu; rfl) (by unfold maxLen; omega) (by omega) ?_; intro ao5 cap5 w6 hR6 hG6 ho6; have H6 := Lib.hid ((HX.out.1.past ((Below.refl _ _).alloc (Nat.le_refl _) _)).app (HX.out.2.alloc HX.out.2.size _) hR6 hG6 ho6); have HG6 := Lib.hid hG6; clear hR6 hG6 ho6)
      go_roundw
      case rel =>
        refine ⟨k + 1, _, by have := HK.out; omega, by go_num, rfl, ?_, H6.out.2⟩
        rw [nmsV_succ, ← HFK.out]; exact H6.out.1
      case measure => simp [intOf]; have := HK.out; omega
    · obtain rfl : k = 27 := by omega
      have hkm : ¬ ((27 : Nat) : Int) < 27 := by omega
      go_wp2_with fail
      go_ret
      exact ⟨_, rfl, ⟨HR.out.1, fun b e => Nat.le_trans HB1.out.size (HR.out.2 b e)⟩, HB1.out.trans (HB.out.mono HB1.out.size)⟩
end Go.Proofs.YtjcakbikpficbaaGreatDoor
