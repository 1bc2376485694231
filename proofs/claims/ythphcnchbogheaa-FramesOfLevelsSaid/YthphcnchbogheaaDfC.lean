/- The closure of finish.Diffuse over a row of singles. Conditions: what each theorem names. -/
import Derived.Test.YthphcnchbogheaaDfB
namespace Go.Proofs.Ythphcnchbogheaa
open Go Go.RowKit
/-- A later world whose older blocks stand, but for one. -/
structure OneB (g : Nat) (w w' : World) : Prop where
  os : w'.os = w.os
  tape : w'.tape = w.tape
  output : w'.output = w.output
  size : w.heap.size ≤ w'.heap.size
  block : ∀ k, k < w.heap.size → k ≠ g → w'.heap[k]? = w.heap[k]?
theorem OneB.refl (g : Nat) (w : World) : OneB g w w := ⟨rfl, rfl, rfl, Nat.le_refl _, fun _ _ _ => rfl⟩
theorem OneB.trans {g : Nat} {a b c : World} (h : OneB g a b) (k : OneB g b c) : OneB g a c := ⟨k.os.trans h.os, k.tape.trans h.tape, k.output.trans h.output, Nat.le_trans h.size k.size, fun i hi hg => (k.block i (Nat.lt_of_lt_of_le hi h.size) hg).trans (h.block i hi hg)⟩
theorem OneB.of_below {g : Nat} {w w' : World} (h : Below w.heap.size w w') : OneB g w w' := ⟨h.os, h.tape, h.output, h.size, fun k hk _ => h.block k hk⟩
theorem OneB.setCell {g k : Nat} {w w' : World} {v : Value} (h : OneB g w w') : OneB g w (w'.setCell ⟨g, k, none⟩ v) := h.trans ⟨rfl, rfl, rfl, by simp [World.setCell], fun _ _ hk => Below.heap_setCell _ _ _ _ hk⟩
theorem OneB.below {g N : Nat} {w w' : World} (h : OneB g w w') (hg : N ≤ g) (hN : N ≤ w.heap.size) : Below N w w' := ⟨h.os, h.tape, h.output, h.size, fun k hk => h.block k (by omega) (by omega)⟩
theorem Blk.one {g n : Nat} {w w' : World} {vs : List Value} (k : Blk w n vs) (h : OneB g w w') (hn : n ≠ g) : Blk w' n vs := k.block h.size (h.block n k.lt hn)
theorem FRow.lt {w : World} {g n : Nat} {t : Nat → Nat} (h : FRow w g n t) : g < w.heap.size := by
  obtain ⟨es, h1, -⟩ := h; exact h1.lt
theorem FRow.past {w w' : World} {g n : Nat} {t : Nat → Nat} (h : FRow w g n t) (hb : Below w.heap.size w w') : FRow w' g n t := by
  obtain ⟨es, h1, h2⟩ := h; exact ⟨es, h1.of_block (hb.block g h1.lt), h2⟩
theorem FRow.one {w w' : World} {g g' n : Nat} {t : Nat → Nat} (h : FRow w g n t) (hb : OneB g' w w') (hn : g ≠ g') : FRow w' g n t := by
  obtain ⟨es, h1, h2⟩ := h; exact ⟨es, h1.of_block (hb.block g h1.lt hn), h2⟩
theorem give_any (pf px py pe pa pc pr g : Nat) (x y h dx dy : Int) (wt V X Y A c n k r : Nat) (sl : Value) (t : Nat → Nat) (cb : Bool) (w : World)
    (hV : 1 ≤ V ∧ V ≤ 256) (hX : X < 256) (hY : Y < 65536) (hA : A ≤ 65536) (hc : c < 3) (hn : n ≤ 65536) (hdx : -1 ≤ dx ∧ dx ≤ 1) (hdy : 0 ≤ dy ∧ dy ≤ 1)
    (hF : Blk w pf [.int .i64 x, .int .i64 y, .int .i64 V, .int .i64 h, sl]) (hx : Blk w px [.int .i64 X]) (hy : Blk w py [.int .i64 Y]) (he : Blk w pe [.slice (some ⟨g, 0, none⟩) n n]) (ha : Blk w pa [.int .i64 A]) (hcc : Blk w pc [.int .i64 c]) (hr : Blk w pr [.float .f32 r])
    (hG : FRow w g n t) (hcb : cb = true ↔ (0 ≤ (X : Int) + dx ∧ (X : Int) + dx < V ∧ (Y : Int) + dy < h)) (hk : cb = true → k < n ∧ (k : Int) = A + 4 * (dy * V + dx) + c) :
    Calls Try.prog 22 #[.int .i64 dx, .int .i64 dy, .float .f32 wt, .pointer (some ⟨px, 0, none⟩), .pointer (some ⟨pf, 0, none⟩), .pointer (some ⟨py, 0, none⟩), .pointer (some ⟨pe, 0, none⟩), .pointer (some ⟨pa, 0, none⟩), .pointer (some ⟨pc, 0, none⟩), .pointer (some ⟨pr, 0, none⟩)] w fun e w' => e = .returned (.tuple #[]) ∧ OneB g w w' ∧ FRow w' g n (toF cb t k r wt) := by
  cases hb : cb with
  | false =>
    refine (give_no pf px py pe pa pc pr x y h dx dy wt V X Y sl w hX hY hdx hdy hF hx hy (fun hh => by rw [hb] at hcb; exact absurd (hcb.2 hh) (by decide))).mono ?_
    rintro e w' ⟨rfl, rfl⟩
    exact ⟨rfl, OneB.refl _ _, hG⟩
  | true =>
    obtain ⟨es, h1, h2⟩ := hG
    obtain ⟨k1, k2⟩ := hk hb
    refine (give_yes pf px py pe pa pc pr g x y h dx dy wt V X Y A c n k r sl es w hV hX hY hA hc hn hdx hdy hF hx hy he ha hcc hr h1 k1 k2 (hcb.1 hb)).mono ?_
    rintro e w' ⟨rfl, W, v, hW, rfl, hv⟩
    refine ⟨rfl, (OneB.of_below hW).setCell, fun j => if j = k then v else es j, ?_, fun j => ?_⟩
    · refine World.rowIs.congr (World.rowIs.set (h1.of_block (hW.block g h1.lt)) k _) (fun j hj => ?_)
      by_cases e : j = k <;> simp [e]
    · unfold toF giveF
      rw [if_pos rfl]
      by_cases e : j = k
      · simp only [e, if_true]
        rw [← (h2 k).eq, fop_cn_left]
        exact hv
      · simp only [if_neg e]
        exact h2 j
/-- Arithmetic on floats, the world that it leaves named. -/
theorem wpList_farithW {P : Program} {ops : Array Oper} {rest : List Oper} {a : Act} {w : World} {Q : Exit → Act → World → Prop} {dst : Option Tmp} {op : BinOp} {t t' ty : TypeId} {x y : Operand} {pos : String} {after : Array Edge}
    {k : FloatKind} {u v : Nat} (ho : arith op = true) (hx : a.eval x = .float k u) (hy : a.eval y = .float k v)
    (h : ∀ r W, FR k r (fop op k (cn k u) (cn k v)) → Below w.heap.size w W → wpList P ops Q rest (a.put dst (.float k r)) W) :
    wpList P ops Q ({ dst, op := .binOp op t x y t', type := ty, pos, after, guard := none } :: rest) a w :=
  wpList_farith ho hx hy (fun r n hr => h r _ hr (below_drewN (Below.refl _ _) n))
/-- What is left of a value at its level is a number, and the same whatever bits stand for no number. -/
theorem errF_of {S r4 : Nat} {d : Int} (h : FR .f32 r4 (fop .sub .f32 S (valueF (levelOf S 0 d) d))) : errF S d = if isNum .f32 r4 = true then r4 else 0 := by
  unfold errF
  rw [← isNum_FR h]
  by_cases hn : isNum .f32 r4 = true
  · rw [if_pos hn, if_pos hn]
    exact (h.exact (isNum_not_nan (by rw [← isNum_FR h]; exact hn))).symm
  · rw [if_neg hn, if_neg hn]
end Go.Proofs.Ythphcnchbogheaa
