/- Frames put together: what frame.Join answers, as plain functions. Conditions: what each theorem names. -/
import Derived.Test.YtcdcfkgdgimmcaaDoorJnB
import Derived.Test.YtcdcfkgdgimmcaaDoorDnD
namespace Go.Proofs.YtcdcfkgdgimmcaaDoor
open Go Go.RowKit
/-- A frame: its region and its singles. -/
structure Fr where
  x : Int
  y : Int
  v : Int
  h : Int
  aa : Option Addr
  an : Nat
  ac : Nat
  fs : Nat → Nat
def frV (k : Fr) : List Value := [.int .i64 k.x, .int .i64 k.y, .int .i64 k.v, .int .i64 k.h, .slice k.aa k.an k.ac]
def frE (k : Fr) : Int := fraErr k.x k.y k.v k.h k.an
/-- What is wrong with frame k as part of the region. -/
def insB (X Y W H : Int) (k : Fr) : Prop := X ≤ k.x ∧ Y ≤ k.y ∧ k.x + k.v ≤ X + W ∧ k.y + k.h ≤ Y + H
instance (X Y W H : Int) (k : Fr) : Decidable (insB X Y W H k) := by unfold insB; infer_instance
/-- Pixel p's place in the region. -/
def plK (X Y : Int) (W : Nat) (k : Fr) (p : Nat) : Nat := ((k.y - Y).toNat + p / k.v.toNat) * W + ((k.x - X).toNat + p % k.v.toNat)
def npF (k : Fr) : Nat := k.h.toNat * k.v.toNat
/-- The places that are full behind n pixels. -/
def mkF (F : Nat → Bool) (K : Nat → Nat) : Nat → (Nat → Bool)
  | 0 => F
  | p + 1 => fun j => if j = K p then true else mkF F K p j
def mkE (F : Nat → Bool) (K : Nat → Nat) (p : Nat) : Int := if mkF F K p (K p) = true then 7 else 0
/-- How many, as the program counts. -/
def mcS (c : Int) : Nat → Int
  | 0 => c
  | p + 1 => wrap64 (mcS c p + 1)
def jF (X Y : Int) (W : Nat) (ps : Nat → Fr) : Nat → (Nat → Bool)
  | 0 => fun _ => false
  | q + 1 => mkF (jF X Y W ps q) (plK X Y W (ps q)) (npF (ps q))
def jO (X Y : Int) (W : Nat) (ps : Nat → Fr) : Nat → (Nat → Nat)
  | 0 => fun _ => 0
  | q + 1 => cpF (jO X Y W ps q) ((ps q).x - X).toNat ((ps q).y - Y).toNat W (ps q).v.toNat (ps q).fs ((ps q).h.toNat * (4 * (ps q).v.toNat))
def jC (ps : Nat → Fr) : Nat → Int
  | 0 => 0
  | q + 1 => mcS (jC ps q) (npF (ps q))
/-- What is wrong with part q. -/
def jR (X Y : Int) (W H : Nat) (ps : Nat → Fr) (q : Nat) : Int :=
  firstE (frE (ps q)) (if insB X Y W H (ps q) then firstN (mkE (jF X Y W ps q) (plK X Y W (ps q))) (npF (ps q)) else 5)
/-- What is wrong with all. -/
def jnE (X Y : Int) (W H : Nat) (ps : Nat → Fr) (P : Nat) : Int := if firstN (jR X Y W H ps) P ≠ 0 then firstN (jR X Y W H ps) P else if jC ps P < ((W * H : Nat) : Int) then 10 else 0
/-- The parts lie in a slice, and their singles are as they are. -/
def FrsAt (w : World) (ap : Option Addr) (P : Nat) (ps : Nat → Fr) : Prop :=
  (0 < P → ∃ g off, ap = some ⟨g, off, none⟩ ∧ ∀ q, q < P → ∀ j v, (frV (ps q))[j]? = some v → w.cell? ⟨g, off + q * 5 + j, none⟩ = some v) ∧
  (∀ q, q < P → 0 < (ps q).an → ∃ b off, (ps q).aa = some ⟨b, off, none⟩ ∧ Row w b off (ps q).an (ps q).fs)
theorem FrsAt.below {w w' : World} {ap : Option Addr} {P : Nat} {ps : Nat → Fr} (h : FrsAt w ap P ps) (hb : Below w.heap.size w w') : FrsAt w' ap P ps := by
  refine ⟨fun h0 => ?_, fun q hq h0 => ?_⟩
  · obtain ⟨g, off, h1, h2⟩ := h.1 h0
    exact ⟨g, off, h1, fun q hq j v hj => (hb.cell (p := ⟨g, off + q * 5 + j, none⟩) (cell_lt (h2 q hq j v hj))).trans (h2 q hq j v hj)⟩
  · obtain ⟨b, off, h1, h2⟩ := h.2 q hq h0
    exact ⟨b, off, h1, h2.past hb⟩
/-- What stands of the walk's variables. -/
structure JnR (w wr : World) (La Ln : List Value) (nf go n : Nat) (T : Nat → Nat) (gb m : Nat) (F : Nat → Bool) : Prop where
  A : Blk wr w.heap.size La
  Z : Blk wr (w.heap.size + 1) [.int .i64 0, .int .i64 0, .int .i64 0, .int .i64 0, .slice none 0 0]
  N : Blk wr nf Ln
  O : wr.rowIs go 50 n (fun j => .float .f32 (T j))
  F : wr.rowIs gb 4 m (fun j => .bool (F j))
  U : Below w.heap.size w wr
theorem JnR.past {w wr wy : World} {La Ln : List Value} {nf go n : Nat} {T : Nat → Nat} {gb m : Nat} {F : Nat → Bool} (k : JnR w wr La Ln nf go n T gb m F) (h : Below wr.heap.size wr wy) : JnR w wy La Ln nf go n T gb m F :=
  ⟨k.A.past h, k.Z.past h, k.N.past h, k.O.of_block (h.block go k.O.lt), k.F.of_block (h.block gb k.F.lt), k.U.trans (h.mono k.U.size)⟩
theorem JnR.mark {w wr : World} {La Ln : List Value} {nf go n : Nat} {T : Nat → Nat} {gb m : Nat} {F F' : Nat → Bool} (k : JnR w wr La Ln nf go n T gb m F) (h1 : w.heap.size + 1 < gb) (h2 : nf ≠ gb) (h3 : go ≠ gb) (q : Nat) (ht : ∀ j, j < m → F' j = if j = q then true else F j) : JnR w (wr.setCell ⟨gb, q, none⟩ (.bool true)) La Ln nf go n T gb m F' := by
  have o : OneB gb wr (wr.setCell ⟨gb, q, none⟩ (.bool true)) := (OneB.refl _ _).setCell
  refine ⟨k.A.one o (by omega), k.Z.one o (by omega), k.N.one o h2, k.O.of_block (o.block go k.O.lt h3), ?_, k.U.setCell (by simp; omega) _⟩
  refine World.rowIs.congr (World.rowIs.set k.F q _) (fun j hj => ?_)
  rw [ht j hj]
  by_cases e : j = q <;> simp [e]
theorem JnR.copy {w wr wy : World} {La Ln : List Value} {nf go n : Nat} {T T' : Nat → Nat} {gb m : Nat} {F : Nat → Bool} (k : JnR w wr La Ln nf go n T gb m F) (o : OneB go wr wy) (h1 : w.heap.size + 1 < go) (h2 : nf ≠ go) (h3 : gb ≠ go) (hT : wy.rowIs go 50 n (fun j => .float .f32 (T' j))) : JnR w wy La Ln nf go n T' gb m F :=
  ⟨k.A.one o (by omega), k.Z.one o (by omega), k.N.one o h2, hT, k.F.of_block (o.block gb k.F.lt h3), k.U.trans (o.below (by omega) k.U.size)⟩
theorem jn_zero {n : Nat} {f : Nat → Int} {k : Nat} (h : firstN f n = 0) (hk : k < n) : f k = 0 := firstN_zero h k hk
end Go.Proofs.YtcdcfkgdgimmcaaDoor
