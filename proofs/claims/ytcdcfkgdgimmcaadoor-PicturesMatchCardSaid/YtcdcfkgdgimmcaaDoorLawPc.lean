/- PicturesMatch: the walk of the statement. Conditions: the frame reads as such; the library's variables read as listed (LibW). -/
import Derived.Test.YtcdcfkgdgimmcaaDoorPcA
import Derived.Test.YtcdcfkgdgimmcaaDoorRpC
import Derived.Test.YtcdcfkgdgimmcaaDoorBO
namespace Go.Proofs.YtcdcfkgdgimmcaaDoor
open Go Go.RowKit
theorem few_P (x y v h : Int) (a : Option Addr) (n cap : Nat) (w : World) : Calls Tryd.prog 37 #[.agg #[.int .i64 x, .int .i64 y, .int .i64 v, .int .i64 h, .slice a n cap]] w fun e w' => e = .returned (.bool (decide ((n : Int) ≤ 400))) ∧ Below w.heap.size w w' := by
  go_enter Tryd.func37, Tryd.ntmps37
  go_wp2
  go_ret
  refine ⟨rfl, ?_⟩
  (repeat (first | exact Below.refl _ _ | assumption | (refine Below.setCell ?_ (by first | (simp; done) | (simp; omega) | omega) _) | (refine Below.drew ?_) | (refine below_drewN ?_ _) | (refine Below.alloc ?_ (by first | (simp; done) | (simp; omega) | omega) _) | (refine Below.trans ?_ (Below.mono (by assumption) (by first | (simp; done) | (simp; omega) | omega)))))
theorem levE8 (how F : Int) : levE how 8 F = firstE F (whenE (!inB how 0 2) 1) := by
  have e : whenE (!inB 8 1 16) 3 = 0 := rfl
  unfold levE
  rw [e]
  unfold firstE
  by_cases h1 : F = 0
  · rw [if_pos h1, if_pos h1]
    by_cases h2 : whenE (!inB how 0 2) 1 = 0
    · rw [if_pos h2, h2]
    · rw [if_neg h2]
  · rw [if_neg h1, if_neg h1]
set_option maxRecDepth 100000 in
set_option maxHeartbeats 6400000 in
theorem pc_no (x y v h : Int) (a : Option Addr) (n cap : Nat) (how s : Int) (w : World) (hx : -9223372036854775808 ≤ x ∧ x ≤ 9223372036854775807) (hy : -9223372036854775808 ≤ y ∧ y ≤ 9223372036854775807) (hE : levE how 8 (fraErr x y v h n) ≠ 0) :
    Calls Tryd.prog 5 #[.agg #[.int .i64 x, .int .i64 y, .int .i64 v, .int .i64 h, .slice a n cap], .int .i64 how, .int .u32 s] w fun e w' => e = .returned (.bool true) ∧ Below w.heap.size w w' := by
  have HX := Lib.hid hx; have HY := Lib.hid hy
  have HP := Lib.hid (fun w' => Picture_no x y h how s v a n cap w' hE : ∀ w', _)
  have HE := Lib.hid (levE8 how (fraErr x y v h n))
  have HF := Lib.hid (fun w' => FrameError_any x y v h a n cap w' hx hy : ∀ w', _)
  obtain ⟨E, hEE⟩ : ∃ E, E = levE how 8 (fraErr x y v h n) := ⟨_, rfl⟩
  rw [← hEE] at HP HE hE
  obtain ⟨F, hFF⟩ : ∃ F, F = fraErr x y v h n := ⟨_, rfl⟩
  rw [← hFF] at HE HF
  have hE2 : (E != 0) = true := by simpa using hE
  clear hEE hFF hx hy hE
  go_enter Tryd.func5, Tryd.ntmps5
  go_upto_region 2 with (go_at_call 36; refine (HP.out _).mono ?_; rintro e v1 ⟨rfl, hb1⟩)
  have H1 : Hid (Blk v1 w.heap.size [.int .i64 x, .int .i64 y, .int .i64 v, .int .i64 h, .slice a n cap] ∧ Below w.heap.size w v1) := Lib.hid ⟨(Blk.new _ _ _ _ rfl).past hb1, Below.trans (by clear hb1; (repeat (first | exact Below.refl _ _ | assumption | (refine Below.setCell ?_ (by first | (simp; done) | (simp; omega) | omega) _) | (refine Below.drew ?_) | (refine below_drewN ?_ _) | (refine Below.alloc ?_ (by first | (simp; done) | (simp; omega) | omega) _) | (refine Below.trans ?_ (Below.mono (by assumption) (by first | (simp; done) | (simp; omega) | omega)))))) (hb1.mono (by simp))⟩
  have q0 := H1.out.1.c 0 _ rfl; have q1 := H1.out.1.c 1 _ rfl; have q2 := H1.out.1.c 2 _ rfl; have q3 := H1.out.1.c 3 _ rfl; have q4 := H1.out.1.c 4 _ rfl
  have ql := H1.out.1.lt
  clear hb1
  go_upto_region 3 with (first | (go_at_call 15; refine (HF.out _).mono ?_; rintro e v2 ⟨rfl, hb2⟩) | (go_at_call 8; refine (In_any _ _ _ _).mono ?_; rintro e w' ⟨rfl, rfl⟩) | (go_at_call 14; refine (When_any _ _ _).mono ?_; rintro e w' ⟨rfl, rfl⟩) | (go_at_call 13; refine (First2_new _ _ _ _ _ (heap_new _ _ _ (by simp))).mono ?_; rintro e w' ⟨rfl, rfl⟩))
  rw [← HE.out]
  go_wp2_with (go_at_call 31; refine (finishes_any _).mono ?_; rintro e w' ⟨n, rfl, rfl⟩)
  go_ret
  exact ⟨rfl, H1.out.2.trans (Below.mono (hb2.trans (Below.mono (show Below v2.heap.size v2 _ by clear hb2; (repeat (first | exact Below.refl _ _ | assumption | (refine Below.setCell ?_ (by first | (simp; done) | (simp; omega) | omega) _) | (refine Below.drew ?_) | (refine below_drewN ?_ _) | (refine Below.alloc ?_ (by first | (simp; done) | (simp; omega) | omega) _) | (refine Below.trans ?_ (Below.mono (by assumption) (by first | (simp; done) | (simp; omega) | omega)))))) hb2.size)) H1.out.2.size)⟩
theorem grown_trans {a b c : World} {g : Nat} {row : Option Nat} (h1 : a.grownBy b (some g)) (h2 : b.grownBy c row) (hr : ∀ j, row = some j → j = g ∨ a.heap.size ≤ j) : a.grownBy c (some g) :=
  ⟨h2.os.trans h1.os, h2.tape.trans h1.tape, h2.output.trans h1.output, Nat.le_trans h1.size h2.size, fun j hj hne => by
    rw [h2.block j (Nat.lt_of_lt_of_le hj h1.size) (fun e => by
      rcases hr j e.symm with rfl | h
      · exact hne rfl
      · omega)]
    exact h1.block j hj hne⟩
theorem grown_below {a b c : World} {g : Nat} (h1 : a.grownBy b (some g)) (h2 : Below b.heap.size b c) : a.grownBy c (some g) :=
  ⟨h2.os.trans h1.os, h2.tape.trans h1.tape, h2.output.trans h1.output, Nat.le_trans h1.size h2.size, fun j hj hne => by
    rw [h2.block j (Nat.lt_of_lt_of_le hj h1.size)]; exact h1.block j hj hne⟩
/-- The first values as cells. -/
def valsF (f : Nat → Nat) (n : Nat) : List Value := (List.range n).map (fun i => Value.float .f32 (f i))
theorem valsF_succ (f : Nat → Nat) (n : Nat) : valsF f (n + 1) = valsF f n ++ [.float .f32 (f n)] := by unfold valsF; rw [List.range_succ, List.map_append]; rfl
theorem valsF_get (f : Nat → Nat) (n i : Nat) (h : i < n) : (valsF f n)[i]? = some (.float .f32 (f i)) := by simp [valsF, h]
theorem valsI_get (f : Nat → Int) (n i : Nat) (h : i < n) : (valsI f n)[i]? = some (.int .i64 (f i)) := by simp [valsI, h]
/-- The two rows so far. -/
structure PmR (wL wr : World) (B g0 : Nat) (ub uf : Value) (l : List UInt8) (vF : Nat → Nat) (k : Nat) : Prop where
  gr : wL.grownBy wr (some g0)
  ob : ownB wr B ub l
  of : wr.ownsRow wL.heap.size 50 1 uf k (valsF vF k)
  wh : ∀ j, ub.ownBlock = some j → j = g0 ∨ wL.heap.size ≤ j
  ne : ∀ j, ub.ownBlock = some j → uf.ownBlock ≠ some j
theorem PmR.past {wL wr wy : World} {B g0 : Nat} {ub uf : Value} {l : List UInt8} {vF : Nat → Nat} {k : Nat} (h : PmR wL wr B g0 ub uf l vF k) (hb : Below wr.heap.size wr wy) : PmR wL wy B g0 ub uf l vF k :=
  ⟨grown_below h.gr hb, ownB_past h.ob hb, own_past h.of hb, h.wh, h.ne⟩
theorem own_ne {w w' : World} {base : Nat} {e : TypeId} {size : Nat} {v : Value} {n : Nat} {xs : List Value} {row : Option Nat} (h : w.ownsRow base e size v n xs) (hg : w.grownBy w' row) (hne : ∀ j, v.ownBlock = some j → row ≠ some j) : w'.ownsRow base e size v n xs :=
  ⟨h.1, h.2.imp id fun ⟨g, cap, cur, h1, h2, h3, h4⟩ => ⟨g, cap, cur, h1, h2, by
    rw [hg.block g (Array.getElem?_eq_some_iff.1 h3).1 (fun e => hne g (by rw [h1]; rfl) e.symm)]; exact h3, h4⟩⟩
/-- A byte more. -/
theorem PmR.byte {wL wr wa w1 : World} {B g0 : Nat} {ub ub' uf : Value} {l m : List UInt8} {vF : Nat → Nat} {k : Nat} (h0 : PmR wL wr B g0 ub uf l vF k) (hb : Below wr.heap.size wr wa) (hown : ownB w1 B ub' m) (hg : wa.grownBy w1 ub.ownBlock) (hat : ub'.ownBlock = ub.ownBlock ∨ ub'.ownBlock = some wa.heap.size) : PmR wL w1 B g0 ub' uf m vF k := by
  have h := h0.past hb
  refine ⟨grown_trans h.gr hg h.wh, hown, own_ne h.of hg (fun j hj e => h.ne j e hj), fun j hj => ?_, fun j hj e => ?_⟩
  · rcases hat with e | e
    · exact h.wh j (by rw [← e]; exact hj)
    · rw [e] at hj
      have := Option.some.inj hj
      have := h.gr.size
      right; omega
  · rcases hat with e' | e'
    · exact h.ne j (by rw [← e']; exact hj) e
    · rw [e'] at hj
      have := Option.some.inj hj
      have := (h.of.lt j e).2
      omega
/-- A value more. -/
theorem PmR.value {wL wr wa w1 : World} {B g0 g cap : Nat} {ub uf : Value} {l : List UInt8} {vF : Nat → Nat} {k x : Nat} (h0 : PmR wL wr B g0 ub uf l vF k) (hb : Below wr.heap.size wr wa) (hx : x = vF k)
    (hown : w1.ownsRow wL.heap.size 50 1 (.slice (some ⟨g, 0, none⟩) (k + 1) cap) (k + 1) (valsF vF k ++ [.float .f32 x])) (hg : wa.grownBy w1 uf.ownBlock) (hat : uf.ownBlock = some g ∨ g = wa.heap.size) : PmR wL w1 B g0 ub (.slice (some ⟨g, 0, none⟩) (k + 1) cap) l vF (k + 1) := by
  have h := h0.past hb
  refine ⟨grown_trans h.gr hg (fun j hj => .inr (h.of.lt j hj).1), ownB_kept h.ob hg ?_, by rw [valsF_succ, ← hx]; exact hown, h.wh, fun j hj e => ?_⟩
  · obtain ⟨gb, cb, hub, -, -, -⟩ := ownB_lt h.ob
    intro e
    exact h.ne gb (by rw [hub]; rfl) (by rw [← e, hub]; rfl)
  · have e : g = j := by simpa [Value.ownBlock] using e
    rcases hat with e' | e'
    · exact h.ne j hj (by rw [e', e])
    · obtain ⟨gb, cb, hub, -, hgb, -⟩ := ownB_lt h.ob
      rw [hub] at hj
      have : gb = j := by simpa [Value.ownBlock] using hj
      omega
/-- The value at place i of what is read back. -/
def vaF (F : Nat → Int) (i : Nat) : Nat := if i % 4 < 3 then valueF (F i) 8 else 1065353216
theorem vaF_pic (F : Nat → Int) (n i : Nat) (hF : 0 ≤ F i ∧ F i ≤ 255) (hi : i < n) : picF (picBy (fun i => by8 (F i)) n) i = vaF F i := by
  unfold picF vaF
  by_cases h : i % 4 < 3
  · rw [if_pos h, if_pos h, picBy_at _ n i hi h, by8_nat, show F i % 256 = F i by omega]
  · rw [if_neg h, if_neg h]
end Go.Proofs.YtcdcfkgdgimmcaaDoor
