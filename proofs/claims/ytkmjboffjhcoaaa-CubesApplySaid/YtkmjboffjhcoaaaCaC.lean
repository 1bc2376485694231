/- Four singles copied into a row; colours by a cube of pixels that are clean or not. Plain laws. -/
import Derived.Test.YtkmjboffjhcoaaaCaB
import Derived.Test.YtkmjboffjhcoaaaCpA
import Derived.Test.YtkmjboffjhcoaaaCuQ
import Derived.Laws.CopyOwn
namespace Go.Proofs.Ytkmjboffjhcoaaa
open Go Go.RowKit
theorem tet_congr4 (S lo hi : Nat) (fs : Nat → Nat) {p q : Nat → Nat} (h : ∀ a, cn .f32 (p a) = cn .f32 (q a)) (n : Nat) : tetF S lo hi fs p n = tetF S lo hi fs q n := by
  by_cases hn : n < 3
  · exact tet_congr S lo hi fs h hn
  · unfold tetF; simp only [if_neg hn, h]
theorem lin_congr4 (S lo hi : Nat) (fs : Nat → Nat) {p q : Nat → Nat} (h : ∀ a, cn .f32 (p a) = cn .f32 (q a)) (n : Nat) : linF S lo hi fs p n = linF S lo hi fs q n := by
  have hh : ∀ a, plF S lo hi (p a) = plF S lo hi (q a) := fun a => plF_of_cn _ _ _ (h a)
  have e3 : brokB p = brokB q := by unfold brokB; rw [isN_of_cn (h 0), isN_of_cn (h 1), isN_of_cn (h 2)]
  unfold linF
  simp only [hh, h, e3]
theorem rowIs_splice {w : World} {g : Nat} {t : TypeId} {n : Nat} {f : Nat → Value} (h : w.rowIs g t n f) (off : Nat) (q : Nat → Nat) (hoff : off + 4 ≤ n) :
    ∃ cur : List Value, w.heap[g]? = some (.cells cur.toArray t (0, 0)) ∧ cur.length = n ∧
      (w.setRow g (splice cur off [.float .f32 (q 0), .float .f32 (q 1), .float .f32 (q 2), .float .f32 (q 3)]).toArray).rowIs g t n (fun j => if off ≤ j ∧ j < off + 4 then .float .f32 (q (j - off)) else f j) := by
  obtain ⟨c, hb, hn, hc⟩ := h
  have hcl : c.toList.length = n := by simpa using hn
  refine ⟨c.toList, by simpa using hb, hcl, (splice c.toList off [.float .f32 (q 0), .float .f32 (q 1), .float .f32 (q 2), .float .f32 (q 3)]).toArray, ?_, ?_, ?_⟩
  · exact setRow_heap w g _ _ t _ hb
  · rw [List.size_toArray, length_splice _ _ _ (by rw [hcl]; exact hoff)]; exact hcl
  · intro i hi
    have hci : c.toList[i]? = some (f i) := by rw [Array.getElem?_toList]; exact hc i hi
    rw [List.getElem?_toArray]
    unfold splice
    simp only [List.length_cons, List.length_nil]
    rw [List.getElem?_append, List.length_take, hcl]
    by_cases h1 : i < off
    · rw [if_pos (by omega), List.getElem?_take, if_pos h1, hci, if_neg (by omega)]
    · rw [if_neg (by omega), List.getElem?_append, show min off n = off by omega]
      by_cases h2 : i < off + 4
      · rw [if_pos (by simp; omega), if_pos (by omega)]
        rcases (show i = off ∨ i = off + 1 ∨ i = off + 2 ∨ i = off + 3 by omega) with rfl | rfl | rfl | rfl <;> simp
      · rw [if_neg (by simp; omega), List.getElem?_drop, if_neg (by omega)]
        simp only [List.length_cons, List.length_nil]
        rw [show off + (0 + 1 + 1 + 1 + 1) + (i - off - (0 + 1 + 1 + 1 + 1)) = i by omega, hci]
theorem grown_row (w : World) (g : Nat) (cs : Array Value) : w.grownBy (w.drew.setRow g cs) (some g) :=
  ⟨rfl, rfl, rfl, by simp [World.setRow], fun j _ hne => setRow_other _ g j cs (by intro h; exact hne (by rw [h]))⟩
theorem grown_trans {a b c : World} {g : Nat} (h1 : a.grownBy b (some g)) (h2 : b.grownBy c (some g)) : a.grownBy c (some g) :=
  ⟨h2.os.trans h1.os, h2.tape.trans h1.tape, h2.output.trans h1.output, by have := h1.size; have := h2.size; omega, fun j hj hne => (h2.block j (by have := h1.size; omega) hne).trans (h1.block j hj hne)⟩
theorem step_copy_row {P : Program} {ops : Array Oper} {o : Oper} {a : Act} {w : World} {K : Act → World → Prop} {Q : Exit → Act → World → Prop} {E : Prop} (hgd : o.guard = none) (d s : Operand) (dT sT : TypeId)
    (ho : o.op = .call { callee := .builtin .copy, args := #[d, s], argTypes := #[dT, sT] }) (elem : TypeId) (hu : P.underlying dT = some (.slice elem)) (hsz : (P.info? elem).map (·.size) = some 1)
    (g off dLen dCap : Nat) (ad : Addr) (sLen sCap : Nat) (hd : a.eval d = .slice (some ⟨g, off, none⟩) dLen dCap) (hs : a.eval s = .slice (some ad) sLen sCap)
    (cur : List Value) (t : TypeId) (hg : w.heap[g]? = some (.cells cur.toArray t (0, 0))) (cs : List Value) (hn : cs.length = Nat.min sLen dLen)
    (hsrc : ∀ j v, cs[j]? = some v → w.cell? (ad.add j) = some v) (hfit : off + cs.length ≤ cur.length) (h1 : ∀ v ∈ cs, v.oneCell' = true)
    (h : K (a.put o.dst (goInt cs.length)) (w.setRow g (splice cur off cs).toArray)) :
    if Region.wanted o (yielded ops a.tmps) = true then Oper.wp P o a w K Q else E := by
  have hw : Region.wanted o (yielded ops a.tmps) = true := by simp [Region.wanted, hgd]
  rw [if_pos hw]
  have hrun := run_copy_row (P := P) w dT sT o.type elem g off dLen dCap ad sLen sCap cur.toArray t cs hu hsz hg hn hsrc (by simpa using hfit) h1
  unfold Oper.wp
  simp [execOp, ho, resolve, invoke, builtin, hd, hs, hrun, Result.andThen]
  exact h
end Go.Proofs.Ytkmjboffjhcoaaa
