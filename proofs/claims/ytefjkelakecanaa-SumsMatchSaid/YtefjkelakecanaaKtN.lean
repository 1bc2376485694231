/- Small laws for the walks of statements: blocks of cells as a whole, worlds under a name. Over any program. No condition. -/
import Derived.Test.YtefjkelakecanaaLooseM
import Derived.Test.YtefjkelakecanaaBits
import Derived.Deep.RegionHeld3
import Derived.Deep.DeepCutAuto
namespace Go.Proofs.Ytefjkelakecanaa
open Go Go.RowKit
theorem cell_lt {w : World} {a : Addr} {v : Value} (h : w.cell? a = some v) : a.block < w.heap.size := by
  rcases Nat.lt_or_ge a.block w.heap.size with h' | h'
  · exact h'
  · simp [World.cell?, Array.getElem?_eq_none h'] at h
theorem wp_world {P : Program} {c : Code} {Q : Exit → Act → World → Prop} {a : Act} {w : World} (h : ∀ W, W = w → c.wp P Q a W) : c.wp P Q a w := h w rfl
theorem calls_world {P : Program} {f : FuncId} {args : Array Value} {w : World} {Q : Ending → World → Prop} (h : ∀ W, W = w → Calls P f args W Q) : Calls P f args w Q := h w rfl
/-- A closure is stored as any value of one cell. -/
@[go_sem] theorem run_store_fn {P : Program} (w : World) (a : Addr) (m : Mode) (f : Fn) (ts : Array Value) (caps : Array Value) : (store a (.func f ts caps) m).run P w = stored P w a (.func f ts caps) m := run_store P w a _ m rfl
/-- A block whose first cells are these; none of its cells is frozen. -/
structure Blk (w : World) (n : Nat) (vs : List Value) : Prop where
  lt : n < w.heap.size
  c : ∀ i v, vs[i]? = some v → w.cell? ⟨n, i, none⟩ = some v
  f : ∀ o, w.frozen? ⟨n, o, none⟩ = false
theorem Blk.new (w : World) (vs : List Value) (t : TypeId) (n : Nat) (hn : n = w.heap.size) : Blk (w.alloc (.cells vs.toArray t)) n vs := by
  subst hn
  exact ⟨by simp, fun i v h => by rw [World.cell?_alloc_new]; simpa using h, fun o => World.frozen?_alloc_new _ _ _ _⟩
theorem Blk.block {W w : World} {n : Nat} {vs : List Value} (k : Blk W n vs) (hs : W.heap.size ≤ w.heap.size) (hb : w.heap[n]? = W.heap[n]?) : Blk w n vs :=
  ⟨Nat.lt_of_lt_of_le k.lt hs, fun i v h => (World.cell?_of_block hb).trans (k.c i v h), fun o => (World.frozen?_of_block hb).trans (k.f o)⟩
theorem Blk.below {W w : World} {m n : Nat} {vs : List Value} (k : Blk W n vs) (hb : Below m W w) (hn : n < m) : Blk w n vs := k.block hb.size (hb.block n hn)
theorem Blk.past {W w : World} {n : Nat} {vs : List Value} (k : Blk W n vs) (hb : Below W.heap.size W w) : Blk w n vs := k.below hb k.lt
theorem Blk.far {w : World} {n : Nat} {vs : List Value} (k : Blk w n vs) (q : Addr) (t : Value) (hq : q.block ≠ n) : Blk (w.setCell q t) n vs :=
  k.block (by simp [World.setCell]) (Below.heap_setCell _ _ _ _ (Ne.symm hq))
theorem Blk.set {w : World} {n : Nat} {vs : List Value} (k : Blk w n vs) (i : Nat) (t : Value) : Blk (w.setCell ⟨n, i, none⟩ t) n (vs.set i t) := by
  refine ⟨by have := k.lt; simpa [World.setCell] using this, fun j v h => ?_, fun o => (World.frozen?_setCell _ _ _ _).trans (k.f o)⟩
  by_cases e : i = j
  · subst e
    rw [List.getElem?_set] at h
    simp only [if_true] at h
    split at h
    · rename_i hl
      cases h
      exact World.cell?_setCell_same _ _ _ (k.c i vs[i] (List.getElem?_eq_getElem hl))
    · cases h
  · rw [List.getElem?_set_ne e] at h
    rw [World.cell?_setCell_other _ _ _ _ (by first | (simp; omega) | (simp; done) | omega)]
    exact k.c j v h
theorem Blk.alloc {w : World} {n : Nat} {vs : List Value} (k : Blk w n vs) (o : Obj) : Blk (w.alloc o) n vs := k.past ((Below.refl _ _).alloc (Nat.le_refl _) _)
theorem Blk.drew {w : World} {n : Nat} {vs : List Value} (k : Blk w n vs) : Blk w.drew n vs := k.past ((Below.refl _ _).drew)
theorem Blk.drewN {w : World} {n : Nat} {vs : List Value} (k : Blk w n vs) (m : Nat) : Blk (w.drewN m) n vs := k.past (below_drewN (Below.refl _ _) m)
/-- Cells of one row, as a function of their place. -/
def Row (w : World) (b off n : Nat) (fs : Nat → Nat) : Prop := ∀ i, i < n → w.cell? ⟨b, off + i, none⟩ = some (.float .f32 (fs i))
theorem Row.below {W w : World} {m b off n : Nat} {fs : Nat → Nat} (k : Row W b off n fs) (hb : Below m W w) (hn : b < m) : Row w b off n fs := fun i hi => (hb.cell (p := ⟨b, off + i, none⟩) hn).trans (k i hi)
theorem Row.lt {w : World} {b off n : Nat} {fs : Nat → Nat} (k : Row w b off n fs) (h : 0 < n) : b < w.heap.size := cell_lt (k 0 h)
theorem Row.past {W w : World} {b off n : Nat} {fs : Nat → Nat} (k : Row W b off n fs) (hb : Below W.heap.size W w) : Row w b off n fs := fun i hi => k.below hb (k.lt (by omega)) i hi
/-- The number that an argument is. -/
def argF (args : Array Value) (i : Nat) : Nat := match args[i]? with | some (.float _ b) => b | _ => 0
def argI (args : Array Value) (i : Nat) : Int := match args[i]? with | some (.int _ b) => b | _ => 0
def argB (args : Array Value) (i : Nat) : Bool := match args[i]? with | some (.bool b) => b | _ => false
@[go_sem] theorem argF_0 (k : FloatKind) (b : Nat) (l : List Value) : argF (List.toArray (.float k b :: l)) 0 = b := rfl
@[go_sem] theorem argF_1 (k : FloatKind) (x : Value) (b : Nat) (l : List Value) : argF (List.toArray (x :: .float k b :: l)) 1 = b := rfl
@[go_sem] theorem argF_2 (k : FloatKind) (x y : Value) (b : Nat) (l : List Value) : argF (List.toArray (x :: y :: .float k b :: l)) 2 = b := rfl
@[go_sem] theorem argI_0 (k : IntKind) (b : Int) (l : List Value) : argI (List.toArray (.int k b :: l)) 0 = b := rfl
@[go_sem] theorem argI_1 (k : IntKind) (x : Value) (b : Int) (l : List Value) : argI (List.toArray (x :: .int k b :: l)) 1 = b := rfl
@[go_sem] theorem argI_2 (k : IntKind) (x y : Value) (b : Int) (l : List Value) : argI (List.toArray (x :: y :: .int k b :: l)) 2 = b := rfl
@[go_sem] theorem argI_3 (k : IntKind) (x y z : Value) (b : Int) (l : List Value) : argI (List.toArray (x :: y :: z :: .int k b :: l)) 3 = b := rfl
@[go_sem] theorem argB_0 (b : Bool) (l : List Value) : argB (List.toArray (.bool b :: l)) 0 = b := rfl
end Go.Proofs.Ytefjkelakecanaa
