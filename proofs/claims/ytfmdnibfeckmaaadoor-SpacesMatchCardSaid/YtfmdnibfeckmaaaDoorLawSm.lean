/- SpacesMatch: the walk of the statement. Conditions: the names are strings. -/
import Derived.Test.YtfmdnibfeckmaaaDoorSmK
import Derived.Test.YtfmdnibfeckmaaaDoorSmI
import Derived.Test.YtfmdnibfeckmaaaDoorHueA
import Derived.Test.YtfmdnibfeckmaaaDoorBG
import Derived.Deep.AppendLies
namespace Go.Proofs.YtfmdnibfeckmaaaDoor
open Go Go.RowKit
theorem infoStr : (Tryd.prog.info? 9).map (fun i => (i.zero, i.size, i.bytes)) = some (some (.string ⟨#[]⟩), 1, 16) := by kernel_rfl
theorem infoSpc : (Tryd.prog.info? 30).map (·.size) = some 13 := by kernel_rfl
theorem allS_get : ∀ i, i < 6 → ∀ j, j < 13 → allS[i * 13 + j]? = (spcS i)[j]? := fun i hi j hj => by
  rcases (show i = 0 ∨ i = 1 ∨ i = 2 ∨ i = 3 ∨ i = 4 ∨ i = 5 by omega) with rfl | rfl | rfl | rfl | rfl | rfl <;>
  rcases (show j = 0 ∨ j = 1 ∨ j = 2 ∨ j = 3 ∨ j = 4 ∨ j = 5 ∨ j = 6 ∨ j = 7 ∨ j = 8 ∨ j = 9 ∨ j = 10 ∨ j = 11 ∨ j = 12 by omega) with rfl | rfl | rfl | rfl | rfl | rfl | rfl | rfl | rfl | rfl | rfl | rfl | rfl <;> rfl
theorem allS_range {w : World} {g : Nat} (h : Blk w g allS) (i : Nat) (hi : i < 6) : w.rangeAt g (i * 13) (spcS i) := fun j v hv => by
  have hj : j < 13 := (List.getElem?_eq_some_iff.1 hv).1
  exact h.c _ v (by rw [allS_get i hi j hj]; exact hv)
/-- THE WALK's LAW: a space is read out of the row of spaces. -/
theorem wpList_ldS {ops : Array Oper} {rest : List Oper} {o : Oper} {a : Act} {w : World} {Q : Exit → Act → World → Prop} {g of : Nat} {i : Nat} {x : Operand} (k : w.rangeAt g of (spcS i)) (hgd : o.guard = none) (ho : o.op = .load 30 x) (hx : a.eval x = .pointer (some ⟨g, of, none⟩))
    (h : wpList Tryd.prog ops Q rest (a.put o.dst (spcV (nmS i) (prS i) (kiS i) (taS i) (tbS i) (tcS i))) w) : wpList Tryd.prog ops Q (o :: rest) a w :=
  wpList_load_mid hgd _ x ho g of hx (spcS i) _ k Tryd.underlying30 rfl infoSpc h
def nmV : Nat → List Value
  | 0 => []
  | i + 1 => nmV i ++ [.string (nmS i)]
theorem nmV_len (i : Nat) : (nmV i).length = i := by
  induction i with
  | zero => rfl
  | succ i ih => unfold nmV; rw [List.length_append, ih]; rfl
theorem nmV_get (j : Nat) (hj : j < 6) : (nmV 6)[j]? = some (.string (nmS j)) := by
  rcases (show j = 0 ∨ j = 1 ∨ j = 2 ∨ j = 3 ∨ j = 4 ∨ j = 5 by omega) with rfl | rfl | rfl | rfl | rfl | rfl <;> rfl
theorem own_formS {w : World} {base : Nat} {e : TypeId} {size : Nat} {v : Value} {n : Nat} {xs : List Value} (h : w.ownsRow base e size v n xs) (hn : 0 < n) : ∃ g cap, v = .slice (some ⟨g, 0, none⟩) n cap ∧ base ≤ g ∧ g < w.heap.size ∧ n ≤ cap ∧ cap ≤ 9223372036854775807 := by
  rcases h.2 with ⟨-, h0⟩ | ⟨g, cap, cur, h1, h2, h3, h4, h5, -⟩
  · omega
  · refine ⟨g, cap, h1, h2, ?_, h4, by unfold maxLen at h5; omega⟩
    rcases Nat.lt_or_ge g w.heap.size with h' | h'
    · exact h'
    · rw [Array.getElem?_eq_none h'] at h3; cases h3
/-- A row of names that grows. -/
structure NmS (w wr : World) (u : Value) (i : Nat) : Prop where
  own : wr.ownsRow w.heap.size 9 1 u i (nmV i)
  bel : Below w.heap.size w wr
theorem NmS.nil (w : World) : NmS w w (.slice none 0 0) 0 := ⟨World.ownsRow_nil _ _ _ _, Below.refl _ _⟩
theorem NmS.past {w wr wy : World} {u : Value} {i : Nat} (k : NmS w wr u i) (h : Below wr.heap.size wr wy) : NmS w wy u i := ⟨own_past k.own h, k.bel.trans (h.mono k.bel.size)⟩
theorem NmS.app {w wr wa w1 : World} {u u' : Value} {i : Nat} (k0 : NmS w wr u i) (hb : Below wr.heap.size wr wa) (hown : w1.ownsRow w.heap.size 9 1 u' (i + 1) (nmV i ++ [.string (nmS i)])) (hg : wa.grownBy w1 u.ownBlock) : NmS w w1 u' (i + 1) := by
  have k := k0.past hb
  exact ⟨hown, k.bel.grown hg k.bel.size (fun j hj => (k.own.lt j hj).1)⟩
def nmL : List ByteArray := [nmS 0, nmS 1, nmS 2, nmS 3, nmS 4, nmS 5]
theorem nmL_get (j : Nat) (hj : j < 6) : nmL.getD j ByteArray.empty = nmS j := by
  rcases (show j = 0 ∨ j = 1 ∨ j = 2 ∨ j = 3 ∨ j = 4 ∨ j = 5 by omega) with rfl | rfl | rfl | rfl | rfl | rfl <;> rfl
/-- The six names lie in a block. -/
def NmB (w : World) (g : Nat) : Prop := g < w.heap.size ∧ ∀ j, j < 6 → w.cell? ⟨g, j, none⟩ = some (.string (nmS j))
theorem NmB.past {w w' : World} {g : Nat} (h : NmB w g) (hb : Below w.heap.size w w') : NmB w' g := ⟨Nat.lt_of_lt_of_le h.1 hb.size, fun j hj => (hb.cell (p := ⟨g, j, none⟩) h.1).trans (h.2 j hj)⟩
theorem NamesS_any (w : World) : Calls Tryd.prog 7 #[] w fun e w' => (∃ g, e = .returned (.slice (some ⟨g, 0, none⟩) 6 6) ∧ NmB w' g) ∧ Below w.heap.size w w' := by
  go_enter Tryd.func7, Tryd.ntmps7
  go_wp2
  go_ret
  have hB : ∀ t, Blk (w.alloc (.cells #[.string (nmS 0), .string (nmS 1), .string (nmS 2), .string (nmS 3), .string (nmS 4), .string (nmS 5)] t)) w.heap.size [.string (nmS 0), .string (nmS 1), .string (nmS 2), .string (nmS 3), .string (nmS 4), .string (nmS 5)] := fun t => Blk.new _ _ _ _ rfl
  refine ⟨⟨_, rfl, (hB _).lt, fun j hj => ?_⟩, by (repeat (first | exact Below.refl _ _ | assumption | (refine Below.setCell ?_ (by first | (simp; done) | (simp; omega) | omega) _) | (refine Below.drew ?_) | (refine below_drewN ?_ _) | (refine Below.alloc ?_ (by first | (simp; done) | (simp; omega) | omega) _) | (refine Below.trans ?_ (Below.mono (by assumption) (by first | (simp; done) | (simp; omega) | omega)))))⟩
  rcases (show j = 0 ∨ j = 1 ∨ j = 2 ∨ j = 3 ∨ j = 4 ∨ j = 5 by omega) with rfl | rfl | rfl | rfl | rfl | rfl
  · exact (hB _).c 0 _ rfl
  · exact (hB _).c 1 _ rfl
  · exact (hB _).c 2 _ rfl
  · exact (hB _).c 3 _ rfl
  · exact (hB _).c 4 _ rfl
  · exact (hB _).c 5 _ rfl
theorem EqualS_any {g1 g2 c1 c2 : Nat} {w : World} (h1 : NmB w g1) (h2 : NmB w g2) : Calls Tryd.prog 6 #[.slice (some ⟨g1, 0, none⟩) 6 c1, .slice (some ⟨g2, 0, none⟩) 6 c2] w fun e w' => e = .returned (.bool true) ∧ ∃ q, w' = w.drewN q := by
  refine (Tryd.slices_Equal_string g1 0 6 c1 g2 0 6 c2 nmL nmL w (by decide) (by decide) (by decide) (by decide) (fun j hj => ?_) (fun j hj => ?_)).mono ?_
  · rw [Nat.zero_add, nmL_get j hj]; exact h1.2 j hj
  · rw [Nat.zero_add, nmL_get j hj]; exact h2.2 j hj
  · rintro e w' ⟨rfl, q, rfl⟩
    exact ⟨by rw [decide_eq_true rfl], q, rfl⟩
theorem blk_range {w : World} {b : Nat} {l : List Value} (h : Blk w b l) : w.rangeAt b 0 l := fun j v hv => by rw [Nat.zero_add]; exact h.c j v hv
theorem cells13 {n : ByteArray} {p : Nat → Nat} {k : Int} {a b c : Nat} {w w' : World} {g : Nat} (h0 : Blk w g (spcL n p k a b c)) (hb : Below w.heap.size w w') : w'.cell? ⟨g, 0, none⟩ = some (.string n) ∧ w'.cell? ⟨g, 1, none⟩ = some (.float .f32 (p 0)) ∧ w'.cell? ⟨g, 2, none⟩ = some (.float .f32 (p 1)) ∧ w'.cell? ⟨g, 3, none⟩ = some (.float .f32 (p 2)) ∧ w'.cell? ⟨g, 4, none⟩ = some (.float .f32 (p 3)) ∧ w'.cell? ⟨g, 5, none⟩ = some (.float .f32 (p 4)) ∧ w'.cell? ⟨g, 6, none⟩ = some (.float .f32 (p 5)) ∧ w'.cell? ⟨g, 7, none⟩ = some (.float .f32 (p 6)) ∧ w'.cell? ⟨g, 8, none⟩ = some (.float .f32 (p 7)) ∧ w'.cell? ⟨g, 9, none⟩ = some (.int .i64 k) ∧ w'.cell? ⟨g, 10, none⟩ = some (.float .f32 a) ∧ w'.cell? ⟨g, 11, none⟩ = some (.float .f32 b) ∧ w'.cell? ⟨g, 12, none⟩ = some (.float .f32 c) := by
  have h := h0.past hb
  exact ⟨h.c 0 _ rfl, h.c 1 _ rfl, h.c 2 _ rfl, h.c 3 _ rfl, h.c 4 _ rfl, h.c 5 _ rfl, h.c 6 _ rfl, h.c 7 _ rfl, h.c 8 _ rfl, h.c 9 _ rfl, h.c 10 _ rfl, h.c 11 _ rfl, h.c 12 _ rfl⟩
theorem nmS_ne : ∀ i, i < 6 → ∀ j, j < i → nmS j ≠ nmS i := fun i hi j hj => by
  rcases (show i = 0 ∨ i = 1 ∨ i = 2 ∨ i = 3 ∨ i = 4 ∨ i = 5 by omega) with rfl | rfl | rfl | rfl | rfl | rfl <;>
  rcases (show j = 0 ∨ j = 1 ∨ j = 2 ∨ j = 3 ∨ j = 4 ∨ 5 ≤ j by omega) with rfl | rfl | rfl | rfl | rfl | h <;> first | omega | decide
theorem IndexS_hit {g c : Nat} {w : World} (h : NmB w g) (i : Nat) (hi : i < 6) : Calls Tryd.prog 11 #[.slice (some ⟨g, 0, none⟩) 6 c, .string (nmS i)] w fun e w' => e = .returned (.int .i64 i) ∧ w' = w := by
  refine (Tryd.slices_Index_string g 0 6 c nmL (nmS i) w (by decide) (by decide) (fun j hj => ?_)).mono ?_
  · rw [Nat.zero_add, nmL_get j hj]; exact h.2 j hj
  · rintro e w' ⟨rfl, rfl⟩
    exact ⟨by rw [Lib.idxOfS_hit nmL 6 i (nmS i) hi (by decide) (nmL_get i hi) (fun j hj => by rw [nmL_get j (by omega)]; exact nmS_ne i hi j hj)], rfl⟩
theorem IndexS_none {g c : Nat} {w : World} {m : ByteArray} (h : NmB w g) (hno : ∀ i, i < 6 → m ≠ nmS i) : Calls Tryd.prog 11 #[.slice (some ⟨g, 0, none⟩) 6 c, .string m] w fun e w' => e = .returned (.int .i64 (-1)) ∧ w' = w := by
  refine (Tryd.slices_Index_string g 0 6 c nmL m w (by decide) (by decide) (fun j hj => ?_)).mono ?_
  · rw [Nat.zero_add, nmL_get j hj]; exact h.2 j hj
  · rintro e w' ⟨rfl, rfl⟩
    exact ⟨by rw [Lib.idxOfS_miss nmL 6 m (fun j hj => by rw [nmL_get j hj]; exact fun e => hno j hj e.symm)], rfl⟩
theorem eqS_same (i : Nat) (hi : i < 6) : ∀ w, Sem.run Tryd.prog (Op.equalIn 10000 30 (spcV (nmS i) (prS i) (kiS i) (taS i) (tbS i) (tcS i)) (spcV (nmS i) (prS i) (kiS i) (taS i) (tbS i) (tcS i))) w = .ok true w := fun w => by
  rcases (show i = 0 ∨ i = 1 ∨ i = 2 ∨ i = 3 ∨ i = 4 ∨ i = 5 by omega) with rfl | rfl | rfl | rfl | rfl | rfl <;> kernel_rfl
theorem cellsS {w : World} {g : Nat} (h : Blk w g allS) (i : Nat) (hi : i < 6) : w.cell? ⟨g, i * 13, none⟩ = some (.string (nmS i)) ∧ w.cell? ⟨g, i * 13 + 1, none⟩ = some (.float .f32 (prS i 0)) ∧ w.cell? ⟨g, i * 13 + 2, none⟩ = some (.float .f32 (prS i 1)) ∧ w.cell? ⟨g, i * 13 + 3, none⟩ = some (.float .f32 (prS i 2)) ∧ w.cell? ⟨g, i * 13 + 4, none⟩ = some (.float .f32 (prS i 3)) ∧ w.cell? ⟨g, i * 13 + 5, none⟩ = some (.float .f32 (prS i 4)) ∧ w.cell? ⟨g, i * 13 + 6, none⟩ = some (.float .f32 (prS i 5)) ∧ w.cell? ⟨g, i * 13 + 7, none⟩ = some (.float .f32 (prS i 6)) ∧ w.cell? ⟨g, i * 13 + 8, none⟩ = some (.float .f32 (prS i 7)) ∧ w.cell? ⟨g, i * 13 + 9, none⟩ = some (.int .i64 (kiS i)) ∧ w.cell? ⟨g, i * 13 + 10, none⟩ = some (.float .f32 (taS i)) ∧ w.cell? ⟨g, i * 13 + 11, none⟩ = some (.float .f32 (tbS i)) ∧ w.cell? ⟨g, i * 13 + 12, none⟩ = some (.float .f32 (tcS i)) := by
  have r := fun j hj => h.c (i * 13 + j) _ ((allS_get i hi j hj).trans (List.getElem?_eq_getElem (show j < (spcS i).length from hj)))
  exact ⟨r 0 (by omega), r 1 (by omega), r 2 (by omega), r 3 (by omega), r 4 (by omega), r 5 (by omega), r 6 (by omega), r 7 (by omega), r 8 (by omega), r 9 (by omega), r 10 (by omega), r 11 (by omega), r 12 (by omega)⟩
theorem name_cases (m : ByteArray) : (∃ i, i < 6 ∧ m = nmS i) ∨ (∀ i, i < 6 → m ≠ nmS i) := by
  by_cases h : ∃ i, i < 6 ∧ m = nmS i
  · exact .inl h
  · exact .inr fun i hi e => h ⟨i, hi, e⟩
set_option maxRecDepth 100000 in
set_option maxHeartbeats 25600000 in
theorem sm_core (n : ByteArray) (p : Nat → Nat) (k : Int) (a b c : Nat) (m : ByteArray) (w : World) (hn : n.size ≤ 9223372036854775807) : Calls Tryd.prog 3 #[spcV n p k a b c, .string m] w fun e w' => e = .returned (.bool true) ∧ Below w.heap.size w w' := by
  obtain ⟨i0, hi0, hz0, hz1, hz2⟩ := info_parts infoStr
  go_enter Tryd.func3, Tryd.ntmps3
  go_upto_region 1 with fail
  refine wp_world (fun W hW => ?_)
  have HW : Hid (Blk W w.heap.size (spcL n p k a b c) ∧ Below w.heap.size w W) := Lib.hid (by rw [hW]; exact ⟨Blk.new _ _ _ _ rfl, by (repeat (first | exact Below.refl _ _ | assumption | (refine Below.setCell ?_ (by first | (simp; done) | (simp; omega) | omega) _) | (refine Below.drew ?_) | (refine below_drewN ?_ _) | (refine Below.alloc ?_ (by first | (simp; done) | (simp; omega) | omega) _) | (refine Below.trans ?_ (Below.mono (by assumption) (by first | (simp; done) | (simp; omega) | omega)))))⟩)
  clear hW
  go_upto_region 3 with (go_at_call 4; refine (SpacesOf_any _).mono ?_; rintro e w1 ⟨⟨g, rfl, hg, hbg⟩, hb1⟩)
  have H1 : Hid (Blk w1 w.heap.size (spcL n p k a b c) ∧ Below w.heap.size w w1 ∧ Blk w1 g allS) := Lib.hid ⟨HW.out.1.past hb1, HW.out.2.trans (hb1.mono HW.out.2.size), hbg⟩
  clear hb1 hbg hg HW
  go_wp2_with fail
  go_loopw [6, 15] (fun s6 s15 wr => ∃ (i : Nat) (u : Value), i ≤ 6 ∧ s15 = .int .i64 i ∧ u = s6 ∧ NmS w1 wr u i) (fun _ s15 _ => 6 - (intOf s15).toNat)
  case atStart => exact ⟨0, _, by omega, rfl, rfl, NmS.nil _⟩
  case round =>
    obtain ⟨i, u, hi, rfl, rfl, hM⟩ := hrel
    have HM := Lib.hid hM
    clear hM
    by_cases hi6 : i < 6
    · have hi6' : (i : Int) < 6 := by omega
      have HR := Lib.hid (allS_range (H1.out.2.2.past (Below.mono HM.out.bel (Nat.le_refl _))) i hi6)
      have gl : g < wr.heap.size := (H1.out.2.2.past HM.out.bel).lt
      go_upto_region 6 with ((with_reducible apply wpList_ldS (HR.out)); rfl; rfl; rfl)
      go_wp2_with (first | (at_builtin; refine wpList_append_lies _ rfl _ _ _ rfl w1.heap.size 9 i0 (.string ⟨#[]⟩) 1 16 Tryd.underlying33 hi0 hz0 hz1 hz2 rfl (by decide) u i (nmV i) rfl (own_past HM.out.own (by (repeat (first | exact Below.refl _ _ | assumption | (refine Below.setCell ?_ (by first | (simp; done) | (simp; omega) | omega) _) | (refine Below.drew ?_) | (refine below_drewN ?_ _) | (refine Below.alloc ?_ (by first | (simp; done) | (simp; omega) | omega) _) | (refine Below.trans ?_ (Below.mono (by assumption) (by first | (simp; done) | (simp; omega) | omega))))))) ⟨wr.heap.size + 1, 0, none⟩ 1 1 [.string (nmS i)] rfl rfl (by intro j u hj; match j, hj with | 0, hj => (simp at hj; subst hj; simp [Addr.add])) (by intro u hu; simp at hu; subst hu; rfl) (by decide) (by unfold maxLen; omega) (by omega) (by have := HM.out.bel.size; simp; omega) _ rfl ?_; intro g' cap w7 hown hgrow hat hlt))
      have HN := Lib.hid (NmS.app HM.out (by (repeat (first | exact Below.refl _ _ | assumption | (refine Below.setCell ?_ (by first | (simp; done) | (simp; omega) | omega) _) | (refine Below.drew ?_) | (refine below_drewN ?_ _) | (refine Below.alloc ?_ (by first | (simp; done) | (simp; omega) | omega) _) | (refine Below.trans ?_ (Below.mono (by assumption) (by first | (simp; done) | (simp; omega) | omega)))))) hown hgrow)
      clear hown hgrow hat hlt
      go_roundw
      case rel => exact ⟨i + 1, _, by omega, by go_num, rfl, HN.out⟩
      case measure => simp [intOf]; omega
    · have hi6' : ¬ (i : Int) < 6 := by omega
      obtain rfl : i = 6 := by omega
      obtain ⟨gn, cap, rfl, hgb, hgl, -, -⟩ := own_formS HM.out.own (by omega)
      have hcl := HM.out.own.cells (g := gn) rfl
      have HNC : Hid (∀ j, j < 6 → wr.cell? ⟨gn, j, none⟩ = some (.string (nmS j))) := Lib.hid (fun j hj => by
        have := hcl j (.string (nmS j)) (nmV_get j hj)
        rw [Go.WideShapes.add_plain, Nat.zero_add] at this
        exact this)
      have HV : Hid (Blk wr w.heap.size (spcL n p k a b c) ∧ Below w.heap.size w wr ∧ Blk wr g allS) := Lib.hid ⟨H1.out.1.past HM.out.bel, H1.out.2.1.trans (HM.out.bel.mono H1.out.2.1.size), H1.out.2.2.past HM.out.bel⟩
      have HNB : Hid (NmB wr gn) := Lib.hid ⟨hgl, HNC.out⟩
      clear hcl HM H1 hgb
      go_upto_region 8 with fail
      obtain ⟨z0, z1, z2, z3, z4, z5, z6, z7, z8, z9, z10, z11, z12⟩ := cells13 HV.out.1 (Below.refl _ _)
      have hwl := HV.out.1.lt
      go_region_held3 (fun w' => w'.cell? ⟨w.heap.size, 0, none⟩ = some (.string n) ∧ w'.cell? ⟨w.heap.size, 1, none⟩ = some (.float .f32 (p 0)) ∧ w'.cell? ⟨w.heap.size, 2, none⟩ = some (.float .f32 (p 1)) ∧ w'.cell? ⟨w.heap.size, 3, none⟩ = some (.float .f32 (p 2)) ∧ w'.cell? ⟨w.heap.size, 4, none⟩ = some (.float .f32 (p 3)) ∧ w'.cell? ⟨w.heap.size, 5, none⟩ = some (.float .f32 (p 4)) ∧ w'.cell? ⟨w.heap.size, 6, none⟩ = some (.float .f32 (p 5)) ∧ w'.cell? ⟨w.heap.size, 7, none⟩ = some (.float .f32 (p 6)) ∧ w'.cell? ⟨w.heap.size, 8, none⟩ = some (.float .f32 (p 7)) ∧ w'.cell? ⟨w.heap.size, 9, none⟩ = some (.int .i64 k) ∧ w'.cell? ⟨w.heap.size, 10, none⟩ = some (.float .f32 a) ∧ w'.cell? ⟨w.heap.size, 11, none⟩ = some (.float .f32 b) ∧ w'.cell? ⟨w.heap.size, 12, none⟩ = some (.float .f32 c))
        (first | assumption | exact cells13 HV.out.1 ((Below.refl _ _).drew) | exact cells13 HV.out.1 B8.out | exact cells13 HV.out.1 B8.out.drew | exact cells13 HV.out.1 B9.out | exact cells13 HV.out.1 B9.out.drew | exact cells13 HV.out.1 B10.out | exact cells13 HV.out.1 B10.out.drew | exact cells13 HV.out.1 B11.out | exact cells13 HV.out.1 B11.out.drew | exact cells13 HV.out.1 B12.out | exact cells13 HV.out.1 B12.out.drew)
        (first | (go_at_call 5; refine (colours_any _).mono ?_; rintro e w8 ⟨rfl, hb8⟩; have B8 : Hid (Below wr.heap.size wr w8) := Lib.hid (Below.trans (by (repeat (first | exact Below.refl _ _ | assumption | (refine Below.setCell ?_ (by first | (simp; done) | (simp; omega) | omega) _) | (refine Below.drew ?_) | (refine below_drewN ?_ _) | (refine Below.alloc ?_ (by first | (simp; done) | (simp; omega) | omega) _) | (refine Below.trans ?_ (Below.mono (by assumption) (by first | (simp; done) | (simp; omega) | omega)))))) (hb8.mono (by simp))); clear hb8) | (go_at_call 7; refine (NamesS_any _).mono ?_; rintro e w9 ⟨⟨gx, rfl, hnx⟩, hb9⟩; have B9 : Hid (Below wr.heap.size wr w9) := Lib.hid (B8.out.trans (Below.mono (Below.trans (show Below w8.heap.size w8 _ by (repeat (first | exact Below.refl _ _ | assumption | (refine Below.setCell ?_ (by first | (simp; done) | (simp; omega) | omega) _) | (refine Below.drew ?_) | (refine below_drewN ?_ _) | (refine Below.alloc ?_ (by first | (simp; done) | (simp; omega) | omega) _) | (refine Below.trans ?_ (Below.mono (by assumption) (by first | (simp; done) | (simp; omega) | omega)))))) (hb9.mono (by simp))) B8.out.size)); have HNX := Lib.hid hnx; clear hb9 hnx) | (go_at_call 6; refine (EqualS_any (HNX.out.past (show Below w9.heap.size w9 _ by (repeat (first | exact Below.refl _ _ | assumption | (refine Below.setCell ?_ (by first | (simp; done) | (simp; omega) | omega) _) | (refine Below.drew ?_) | (refine below_drewN ?_ _) | (refine Below.alloc ?_ (by first | (simp; done) | (simp; omega) | omega) _) | (refine Below.trans ?_ (Below.mono (by assumption) (by first | (simp; done) | (simp; omega) | omega))))))) (HNB.out.past (B9.out.trans (Below.mono (show Below w9.heap.size w9 _ by (repeat (first | exact Below.refl _ _ | assumption | (refine Below.setCell ?_ (by first | (simp; done) | (simp; omega) | omega) _) | (refine Below.drew ?_) | (refine below_drewN ?_ _) | (refine Below.alloc ?_ (by first | (simp; done) | (simp; omega) | omega) _) | (refine Below.trans ?_ (Below.mono (by assumption) (by first | (simp; done) | (simp; omega) | omega)))))) B9.out.size)))).mono ?_; rintro e w10 ⟨rfl, q, hq⟩; have B10 : Hid (Below wr.heap.size wr w10) := Lib.hid (by rw [hq]; exact B9.out.trans (Below.mono (show Below w9.heap.size w9 _ by (repeat (first | exact Below.refl _ _ | assumption | (refine Below.setCell ?_ (by first | (simp; done) | (simp; omega) | omega) _) | (refine Below.drew ?_) | (refine below_drewN ?_ _) | (refine Below.alloc ?_ (by first | (simp; done) | (simp; omega) | omega) _) | (refine Below.trans ?_ (Below.mono (by assumption) (by first | (simp; done) | (simp; omega) | omega)))))) B9.out.size)); clear hq) | (go_at_call 8; refine (CheckSpace_any n p k a b c _ hn).mono ?_; rintro e w11 ⟨rfl, hb11⟩; have B11 : Hid (Below wr.heap.size wr w11) := Lib.hid (B10.out.trans (Below.mono (Below.trans (show Below w10.heap.size w10 _ by (repeat (first | exact Below.refl _ _ | assumption | (refine Below.setCell ?_ (by first | (simp; done) | (simp; omega) | omega) _) | (refine Below.drew ?_) | (refine below_drewN ?_ _) | (refine Below.alloc ?_ (by first | (simp; done) | (simp; omega) | omega) _) | (refine Below.trans ?_ (Below.mono (by assumption) (by first | (simp; done) | (simp; omega) | omega)))))) (hb11.mono (by simp))) B10.out.size)); clear hb11) | (go_at_call 9; refine (SpaceError_any n p k a b c _ hn).mono ?_; rintro e w12 ⟨rfl, hb12⟩; have B12 : Hid (Below wr.heap.size wr w12) := Lib.hid (B11.out.trans (Below.mono (Below.trans (show Below w11.heap.size w11 _ by (repeat (first | exact Below.refl _ _ | assumption | (refine Below.setCell ?_ (by first | (simp; done) | (simp; omega) | omega) _) | (refine Below.drew ?_) | (refine below_drewN ?_ _) | (refine Below.alloc ?_ (by first | (simp; done) | (simp; omega) | omega) _) | (refine Below.trans ?_ (Below.mono (by assumption) (by first | (simp; done) | (simp; omega) | omega)))))) (hb12.mono (by simp))) B11.out.size)); clear hb12))
      have H12 : Hid (Below w.heap.size w w12 ∧ Blk w12 g allS ∧ NmB w12 gn) := Lib.hid ⟨HV.out.2.1.trans (B12.out.mono HV.out.2.1.size), HV.out.2.2.past B12.out, HNB.out.past B12.out⟩
      clear B8 B9 B10 B11 B12 HNX HNC HNB HV z0 z1 z2 z3 z4 z5 z6 z7 z8 z9 z10 z11 z12 hwl hgl
      rcases (name_cases m) with ⟨i, hi, hm⟩ | hno
      · have hk := fun w' => Known_s i hi w'
        unfold spS at hk
        rw [← hm] at hk
        have HK := Lib.hid hk
        have HIX := Lib.hid (fun (w' : World) (h : NmB w' gn) => (by rw [hm]; exact IndexS_hit h i hi : Calls Tryd.prog 11 #[.slice (some ⟨gn, 0, none⟩) 6 cap, .string m] w' fun e w'' => e = .returned (.int .i64 i) ∧ w'' = w'))
        have eqs := eqS_same i hi
        rw [← hm] at eqs
        have hi6 : (i : Int) < 6 := by omega
        have hi0' : (0 : Int) ≤ (i : Int) := by omega
        clear hk
        have HRG := Lib.hid (fun (w' : World) (h : Blk w' g allS) => cellsS h i hi)
        rw [← hm] at HRG
        generalize prS i = pi at *
        generalize kiS i = ki at *
        generalize taS i = ai at *
        generalize tbS i = bi at *
        generalize tcS i = ci at *
        clear hm
        go_upto_region 11 with (go_at_call 10; refine (HK.out _).mono ?_; rintro e w13 ⟨rfl, hb13⟩)
        refine wp_world (fun V hV => ?_)
        have H13 : Hid (Below w.heap.size w V ∧ Blk V g allS ∧ NmB V gn ∧ Blk V w13.heap.size (spcL m pi ki ai bi ci)) := Lib.hid (by
          rw [hV]
          have hb := hb13.alloc hb13.size
          exact ⟨H12.out.1.trans ((hb _).mono H12.out.1.size), H12.out.2.1.past (hb _), H12.out.2.2.past (hb _), Blk.new _ _ _ _ rfl⟩)
        clear hV hb13 H12 HK
        generalize w13.heap.size = nk at *
        go_upto_region 14 with (go_at_call 11; refine (HIX.out _ H13.out.2.2.1).mono ?_; rintro e w14 ⟨rfl, rfl⟩)
        obtain ⟨q0, q1, q2, q3, q4, q5, q6, q7, q8, q9, q10, q11, q12⟩ := HRG.out _ H13.out.2.1
        have HB := H13.out.2.2.2
        have r0 := HB.c 0 _ rfl; have r1 := HB.c 1 _ rfl; have r2 := HB.c 2 _ rfl; have r3 := HB.c 3 _ rfl; have r4 := HB.c 4 _ rfl; have r5 := HB.c 5 _ rfl; have r6 := HB.c 6 _ rfl; have r7 := HB.c 7 _ rfl; have r8 := HB.c 8 _ rfl; have r9 := HB.c 9 _ rfl; have r10 := HB.c 10 _ rfl; have r11 := HB.c 11 _ rfl; have r12 := HB.c 12 _ rfl; have rl := HB.lt
        have gl := H13.out.2.1.lt
        clear HB HIX HRG
        go_quiet (fail)
        go_wp2_with fail
        go_ret
        exact ⟨rfl, below_drewN H13.out.1 _⟩
      · have hk := fun w' => Known_other m w' hno
        unfold zerS at hk
        have HK := Lib.hid hk
        have HIX := Lib.hid (fun (w' : World) (h : NmB w' gn) => IndexS_none (c := cap) h hno)
        clear hk hno
        have eqz : ∀ w, Sem.run Tryd.prog (Op.equalIn 10000 30 (.agg #[.string ⟨#[]⟩, .float .f32 0, .float .f32 0, .float .f32 0, .float .f32 0, .float .f32 0, .float .f32 0, .float .f32 0, .float .f32 0, .int .i64 0, .float .f32 0, .float .f32 0, .float .f32 0]) (.agg #[.string ⟨#[]⟩, .float .f32 0, .float .f32 0, .float .f32 0, .float .f32 0, .float .f32 0, .float .f32 0, .float .f32 0, .float .f32 0, .int .i64 0, .float .f32 0, .float .f32 0, .float .f32 0])) w = .ok true w := fun w => by kernel_rfl
        go_upto_region 11 with (go_at_call 10; refine (HK.out _).mono ?_; rintro e w13 ⟨rfl, hb13⟩)
        refine wp_world (fun V hV => ?_)
        have H13 : Hid (Below w.heap.size w V ∧ NmB V gn ∧ Blk V w13.heap.size [.string ⟨#[]⟩, .float .f32 0, .float .f32 0, .float .f32 0, .float .f32 0, .float .f32 0, .float .f32 0, .float .f32 0, .float .f32 0, .int .i64 0, .float .f32 0, .float .f32 0, .float .f32 0]) := Lib.hid (by
          rw [hV]
          have hb := hb13.alloc hb13.size
          exact ⟨H12.out.1.trans ((hb _).mono H12.out.1.size), H12.out.2.2.past (hb _), Blk.new _ _ _ _ rfl⟩)
        clear hV hb13 H12 HK
        generalize w13.heap.size = nk at *
        have HB := H13.out.2.2
        have r0 := HB.c 0 _ rfl; have r1 := HB.c 1 _ rfl; have r2 := HB.c 2 _ rfl; have r3 := HB.c 3 _ rfl; have r4 := HB.c 4 _ rfl; have r5 := HB.c 5 _ rfl; have r6 := HB.c 6 _ rfl; have r7 := HB.c 7 _ rfl; have r8 := HB.c 8 _ rfl; have r9 := HB.c 9 _ rfl; have r10 := HB.c 10 _ rfl; have r11 := HB.c 11 _ rfl; have r12 := HB.c 12 _ rfl; have rl := HB.lt
        clear HB
        go_wp2_with (go_at_call 11; refine (HIX.out _ H13.out.2.1).mono ?_; rintro e w14 ⟨rfl, rfl⟩)
        go_ret
        exact ⟨rfl, H13.out.1⟩
/-- Eight numbers as a function. -/
def at8 (a b c d e f g h : Nat) : Nat → Nat := fun i => match i with | 0 => a | 1 => b | 2 => c | 3 => d | 4 => e | 5 => f | 6 => g | _ => h
theorem sm_walk (n : ByteArray) (p0 p1 p2 p3 p4 p5 p6 p7 : Nat) (k : Int) (a b c : Nat) (m : ByteArray) (w : World) (hn : n.size ≤ 9223372036854775807) : Calls Tryd.prog 3 #[.agg #[.string n, .float .f32 p0, .float .f32 p1, .float .f32 p2, .float .f32 p3, .float .f32 p4, .float .f32 p5, .float .f32 p6, .float .f32 p7, .int .i64 k, .float .f32 a, .float .f32 b, .float .f32 c], .string m] w fun e w' => e = .returned (.bool true) ∧ Below w.heap.size w w' :=
  sm_core n (at8 p0 p1 p2 p3 p4 p5 p6 p7) k a b c m w hn
end Go.Proofs.YtfmdnibfeckmaaaDoor
