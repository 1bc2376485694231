/- Frames put together: frame.copyInto. Conditions: what each theorem names. -/
import Derived.Test.YtcdcfkgdgimmcaaDoorJnA
namespace Go.Proofs.YtcdcfkgdgimmcaaDoor
open Go Go.RowKit
def aggI (args : Array Value) (i j : Nat) : Int := match args[i]? with
  | some (.agg vs) => (match vs[j]? with | some (.int _ n) => n | _ => 0)
  | _ => 0
/-- What frame.offset answers. -/
def JnPsi (_ : FuncId) (args : Array Value) (u : Value) : Prop := u = .int .i64 (4 * ((argI args 2 - aggI args 0 1) * aggI args 0 2 + argI args 1 - aggI args 0 0))
theorem jn_psi {f : FuncId} {X Y W H x y : Int} {u : Value} : JnPsi f #[.agg #[.int .i64 X, .int .i64 Y, .int .i64 W, .int .i64 H], .int .i64 x, .int .i64 y] u ↔ u = .int .i64 (4 * ((y - Y) * W + x - X)) := Iff.rfl
/-- The place of step s. -/
def dstF (dx dy W V s : Nat) : Nat := 4 * ((dy + s / (4 * V)) * W + dx) + s % (4 * V)
/-- What stands behind s steps. -/
def cpF (T : Nat → Nat) (dx dy W V : Nat) (fs : Nat → Nat) : Nat → (Nat → Nat)
  | 0 => T
  | s + 1 => fun j => if j = dstF dx dy W V s then cn .f32 (fs s) else cpF T dx dy W V fs s j
/-- What stands of the walk's variables. -/
structure CpR (w wr : World) (La Lb Lr : List Value) (rg : Nat) (go n : Nat) (T : Nat → Nat) (bf off nf : Nat) (fs : Nat → Nat) : Prop where
  A : Blk wr w.heap.size La
  B : Blk wr (w.heap.size + 1) Lb
  R : Blk wr rg Lr
  O : wr.rowIs go 50 n (fun j => .float .f32 (T j))
  F : Row wr bf off nf fs
  U : OneB go w wr
theorem CpR.past {w wr wy : World} {La Lb Lr : List Value} {rg go n : Nat} {T : Nat → Nat} {bf off nf : Nat} {fs : Nat → Nat} (k : CpR w wr La Lb Lr rg go n T bf off nf fs) (h : Below wr.heap.size wr wy) : CpR w wy La Lb Lr rg go n T bf off nf fs :=
  ⟨k.A.past h, k.B.past h, k.R.past h, k.O.of_block (h.block go k.O.lt), k.F.past h, k.U.trans (OneB.of_below h)⟩
theorem CpR.set {w wr : World} {La Lb Lr : List Value} {rg go n : Nat} {T T' : Nat → Nat} {bf off nf : Nat} {fs : Nat → Nat} (k : CpR w wr La Lb Lr rg go n T bf off nf fs) (h1 : go < w.heap.size) (h2 : rg ≠ go) (h3 : bf ≠ go) (q v : Nat) (ht : ∀ j, j < n → T' j = if j = q then v else T j) : CpR w (wr.setCell ⟨go, q, none⟩ (.float .f32 v)) La Lb Lr rg go n T' bf off nf fs := by
  have o : OneB go wr (wr.setCell ⟨go, q, none⟩ (.float .f32 v)) := (OneB.refl _ _).setCell
  refine ⟨k.A.one o (by omega), k.B.one o (by omega), k.R.one o h2, ?_, fun i hi => ?_, k.U.trans o⟩
  · refine World.rowIs.congr (World.rowIs.set k.O q _) (fun j hj => ?_)
    rw [ht j hj]
    by_cases e : j = q <;> simp [e]
  · have h := k.F i hi
    rw [World.cell?_setCell_other _ _ _ _ (by intro e; have := congrArg Addr.block e; simp at this; omega)]
    exact h
end Go.Proofs.YtcdcfkgdgimmcaaDoor
