/- What is wrong with a frame: frame.Check, dyeref2.FrameError. No condition. (with: FrB, FrC, FrD, FrE, FrF, Kit) -/
import Derived.Test.YtokmjboaeamogaaBF
import Derived.Test.YtokmjboaeamogaaBB
import Derived.Deep.DeepCutAuto
import Derived.Deep.AppendLies
import Derived.Deep.RegionLaw
import Derived.BigQuiet
import Derived.Test.YtokmjboaeamogaaBC
import Derived.Deep.RegionHeld3
namespace Go.Proofs.Ytokmjboaeamogaa
open Go.RowKit
/-- The error of a frame. -/
def fraErr (x y v h : Int) (len : Nat) : Int := if regErr x y v h = 0 then (if (len : Int) = 4 * v * h then 0 else 2) else regErr x y v h
theorem fraErr_ok {x y v h : Int} {len : Nat} (he : fraErr x y v h len = 0) : regErr x y v h = 0 ∧ (len : Int) = 4 * v * h := by
  unfold fraErr at he
  by_cases h1 : regErr x y v h = 0
  · rw [if_pos h1] at he
    by_cases h2 : (len : Int) = 4 * v * h
    · exact ⟨h1, h2⟩
    · rw [if_neg h2] at he; cases he
  · rw [if_neg h1] at he; exact absurd he h1
end Go.Proofs.Ytokmjboaeamogaa

namespace Go.Proofs.Ytokmjboaeamogaa
open Go.RowKit
end Go.Proofs.Ytokmjboaeamogaa

namespace Go.Proofs.Ytokmjboaeamogaa
open Go.RowKit
end Go.Proofs.Ytokmjboaeamogaa

namespace Go.Proofs.Ytokmjboaeamogaa
open Go.RowKit
end Go.Proofs.Ytokmjboaeamogaa

namespace Go.Proofs.Ytokmjboaeamogaa
open Go.RowKit
/-- A frame's variable at block n: the region, and the slice's value s. -/
structure FrameC (w : World) (n : Nat) (x y v h : Int) (s : Value) : Prop where
  c0 : w.cell? ⟨n, 0, none⟩ = some (.int .i64 x)
  c1 : w.cell? ⟨n, 1, none⟩ = some (.int .i64 y)
  c2 : w.cell? ⟨n, 2, none⟩ = some (.int .i64 v)
  c3 : w.cell? ⟨n, 3, none⟩ = some (.int .i64 h)
  c4 : w.cell? ⟨n, 4, none⟩ = some s
  f : ∀ o, w.frozen? ⟨n, o, none⟩ = false
theorem FrameC.below {W w : World} {m n : Nat} {x y v h : Int} {s : Value} (k : FrameC W n x y v h s) (hb : Below m W w) (hn : n < m) : FrameC w n x y v h s :=
  ⟨(hb.cell (p := ⟨n, 0, none⟩) hn).trans k.c0, (hb.cell (p := ⟨n, 1, none⟩) hn).trans k.c1, (hb.cell (p := ⟨n, 2, none⟩) hn).trans k.c2, (hb.cell (p := ⟨n, 3, none⟩) hn).trans k.c3, (hb.cell (p := ⟨n, 4, none⟩) hn).trans k.c4, fun o => (hb.frozen (p := ⟨n, o, none⟩) hn).trans (k.f o)⟩
theorem FrameC.block {W w : World} {n : Nat} {x y v h : Int} {s : Value} (k : FrameC W n x y v h s) (hb : w.heap[n]? = W.heap[n]?) : FrameC w n x y v h s :=
  ⟨(World.cell?_of_block hb).trans k.c0, (World.cell?_of_block hb).trans k.c1, (World.cell?_of_block hb).trans k.c2, (World.cell?_of_block hb).trans k.c3, (World.cell?_of_block hb).trans k.c4, fun o => (World.frozen?_of_block hb).trans (k.f o)⟩
theorem FrameC.lt {w : World} {n : Nat} {x y v h : Int} {s : Value} (k : FrameC w n x y v h s) : n < w.heap.size := cell_lt k.c0
/-- What a change of pixels gives: at pixel k of a frame of width v at (x, y). -/
def PixelOK (K : Nat) (caps : Array Value) (w : World) (x y v : Int) (n : Nat) (fs : Nat → Nat) (G : Nat → Nat → Nat) : Prop :=
  ∀ k w', 4 * k + 4 ≤ n → Below w.heap.size w w' → Calls Try.prog K (#[.int .i64 (x + (k : Int) % v), .int .i64 (y + (k : Int) / v), .agg #[.float .f32 (fs (4 * k)), .float .f32 (fs (4 * k + 1)), .float .f32 (fs (4 * k + 2)), .float .f32 (fs (4 * k + 3))]] ++ caps) w' fun e w'' =>
    (∃ q : Nat → Nat, e = .returned (.agg #[.float .f32 (q 0), .float .f32 (q 1), .float .f32 (q 2), .float .f32 (q 3)]) ∧ ∀ c, c < 4 → cn .f32 (q c) = G k c) ∧ Below w'.heap.size w' w''
/-- A pixel whose singles are these, one NaN for all. -/
def PixV (g : Nat → Nat) (u : Value) : Prop := ∃ q : Nat → Nat, u = .agg #[.float .f32 (q 0), .float .f32 (q 1), .float .f32 (q 2), .float .f32 (q 3)] ∧ ∀ c, c < 4 → cn .f32 (q c) = g c
/-- Four singles by their place. -/
def pick4 (q0 q1 q2 q3 : Nat) : Nat → Nat
  | 0 => q0
  | 1 => q1
  | 2 => q2
  | _ => q3
theorem grown_far {W a : World} {g : Nat} (h : W.grownBy a (some g)) (q : Addr) (v : Value) (hq : W.heap.size ≤ q.block) : W.grownBy (a.setCell q v) (some g) :=
  ⟨h.os, h.tape, h.output, by have := h.size; simp [World.setCell]; omega, fun j hj hne => by
    have h1 : j ≠ q.block := by omega
    rw [Below.heap_setCell _ _ _ _ h1]
    exact h.block j hj hne⟩
theorem grown_set {W a : World} {g : Nat} (h : W.grownBy a (some g)) (k : Nat) (v : Value) : W.grownBy (a.setCell ⟨g, k, none⟩ v) (some g) := grown_step h (Below.refl _ _) v
theorem grown_past {W a b : World} {g : Nat} (h : W.grownBy a (some g)) (hb : Below a.heap.size a b) : W.grownBy b (some g) :=
  ⟨hb.os.trans h.os, hb.tape.trans h.tape, hb.output.trans h.output, by have := h.size; have := hb.size; omega, fun j hj hne => by rw [hb.block j (by have := h.size; omega)]; exact h.block j hj hne⟩
end Go.Proofs.Ytokmjboaeamogaa

namespace Go.Proofs.Ytokmjboaeamogaa
open Go.RowKit
theorem infoF32 : (Try.prog.info? 22).map (fun i => (i.zero, i.size, i.bytes)) = some (some (.float .f32 0), 1, 4) := by kernel_rfl
theorem own_past {W w : World} {base : Nat} {e : TypeId} {size : Nat} {v : Value} {n : Nat} {xs : List Value} (h : W.ownsRow base e size v n xs) (hb : Below W.heap.size W w) : w.ownsRow base e size v n xs :=
  ⟨h.1, h.2.imp id fun ⟨g, cap, cur, h1, h2, h3, h4⟩ => ⟨g, cap, cur, h1, h2, by
    have hl : g < W.heap.size := by
      rcases Nat.lt_or_ge g W.heap.size with h' | h'
      · exact h'
      · rw [Array.getElem?_eq_none h'] at h3; cases h3
    rw [hb.block g hl]; exact h3, h4⟩⟩
theorem own_far {W : World} {base : Nat} {e : TypeId} {size : Nat} {v : Value} {n : Nat} {xs : List Value} (h : W.ownsRow base e size v n xs) (q : Addr) (x : Value) (hq : q.block < base) : (W.setCell q x).ownsRow base e size v n xs :=
  ⟨h.1, h.2.imp id fun ⟨g, cap, cur, h1, h2, h3, h4⟩ => ⟨g, cap, cur, h1, h2, by rw [Below.heap_setCell _ _ _ _ (by omega)]; exact h3, h4⟩⟩
theorem FrameC.set4 {w : World} {n : Nat} {x y v h : Int} {s : Value} (k : FrameC w n x y v h s) (t : Value) : FrameC (w.setCell ⟨n, 4, none⟩ t) n x y v h t :=
  ⟨(World.cell?_setCell_other _ _ _ _ (by simp)).trans k.c0, (World.cell?_setCell_other _ _ _ _ (by simp)).trans k.c1, (World.cell?_setCell_other _ _ _ _ (by simp)).trans k.c2, (World.cell?_setCell_other _ _ _ _ (by simp)).trans k.c3, World.cell?_setCell_same _ _ _ k.c4, fun o => (World.frozen?_setCell _ _ _ _).trans (k.f o)⟩
theorem FrameC.far {w : World} {n : Nat} {x y v h : Int} {s : Value} (k : FrameC w n x y v h s) (q : Addr) (t : Value) (hq : q.block ≠ n) : FrameC (w.setCell q t) n x y v h s :=
  k.block (Below.heap_setCell _ _ _ _ (Ne.symm hq))
/-- A region's variable. -/
structure RegC (w : World) (n : Nat) (x y v h : Int) : Prop where
  c0 : w.cell? ⟨n, 0, none⟩ = some (.int .i64 x)
  c1 : w.cell? ⟨n, 1, none⟩ = some (.int .i64 y)
  c2 : w.cell? ⟨n, 2, none⟩ = some (.int .i64 v)
  c3 : w.cell? ⟨n, 3, none⟩ = some (.int .i64 h)
theorem RegC.block {W w : World} {n : Nat} {x y v h : Int} (k : RegC W n x y v h) (hb : w.heap[n]? = W.heap[n]?) : RegC w n x y v h :=
  ⟨(World.cell?_of_block hb).trans k.c0, (World.cell?_of_block hb).trans k.c1, (World.cell?_of_block hb).trans k.c2, (World.cell?_of_block hb).trans k.c3⟩
def madeL (G : Nat → Nat → Nat) (N : Nat) : List Value := (List.range N).map fun j => .float .f32 (G (j / 4) (j % 4))
theorem madeL_succ (G : Nat → Nat → Nat) (N : Nat) : madeL G (N + 1) = madeL G N ++ [.float .f32 (G (N / 4) (N % 4))] := by simp [madeL, List.range_succ]
/-- What stands behind N singles. -/
structure MadeR (w wr : World) (x y v h : Int) (G : Nat → Nat → Nat) (N : Nat) (s : Value) : Prop where
  frm : FrameC wr (w.heap.size + 1 + 1) x y v h s
  own : wr.ownsRow (w.heap.size + 3) 22 1 s N (madeL G N)
  reg : RegC wr w.heap.size x y v h
  res : FrameC wr (w.heap.size + 1) 0 0 0 0 (.slice none 0 0)
  bel : Below w.heap.size w wr
theorem MadeR.past {w wr w2 : World} {x y v h : Int} {G : Nat → Nat → Nat} {N : Nat} {s : Value} (k : MadeR w wr x y v h G N s) (hb : Below wr.heap.size wr w2) : MadeR w w2 x y v h G N s :=
  ⟨k.frm.below hb k.frm.lt, own_past k.own hb, k.reg.block (hb.block _ (cell_lt k.reg.c0)), k.res.below hb k.res.lt, k.bel.trans (hb.mono k.bel.size)⟩
theorem own_block {w : World} {base : Nat} {e : TypeId} {size : Nat} {v : Value} {n : Nat} {xs : List Value} (h : w.ownsRow base e size v n xs) {j : Nat} (hj : j < base) : some j ≠ v.ownBlock := by
  intro e'
  have := h.lt j e'.symm
  omega
theorem MadeR.step {w wa w1 : World} {x y v h : Int} {G : Nat → Nat → Nat} {N : Nat} {s s' : Value} (k : MadeR w wa x y v h G N s) (hown : w1.ownsRow (w.heap.size + 3) 22 1 s' (N + 1) (madeL G N ++ [.float .f32 (G (N / 4) (N % 4))])) (hg : wa.grownBy w1 s.ownBlock) :
    MadeR w (w1.setCell ⟨w.heap.size + 1 + 1, 4, none⟩ s') x y v h G (N + 1) s' := by
  have f2 := hg.block _ k.frm.lt (own_block k.own (by omega))
  have f1 := hg.block _ k.res.lt (own_block k.own (by omega))
  have f0 := hg.block _ (cell_lt k.reg.c0) (own_block k.own (show w.heap.size < w.heap.size + 3 by omega))
  refine ⟨(k.frm.block f2).set4 s', ?_, (k.reg.block f0).block (Below.heap_setCell _ _ _ _ (by simp; omega)), (k.res.block f1).far _ _ (by simp), ?_⟩
  · rw [madeL_succ]; exact own_far hown _ _ (by simp)
  · refine (k.bel.grown hg (by have := cell_lt k.reg.c0; simp at this; omega) (fun j hj => ?_)).setCell (by simp; omega) _
    have := k.own.lt j hj
    omega
theorem MadeR.app {w wr wa w1 : World} {x y v h : Int} {G : Nat → Nat → Nat} {N : Nat} {s s' : Value} {b : Nat} (k0 : MadeR w wr x y v h G N s) (hb : Below wr.heap.size wr wa) (hown : w1.ownsRow (w.heap.size + 3) 22 1 s' (N + 1) (madeL G N ++ [.float .f32 b])) (hv : b = G (N / 4) (N % 4)) (hg : wa.grownBy w1 s.ownBlock) :
    w1.cell? ⟨w.heap.size + 1 + 1, 4, none⟩ = some s ∧ w1.frozen? ⟨w.heap.size + 1 + 1, 4, none⟩ = false ∧ MadeR w (w1.setCell ⟨w.heap.size + 1 + 1, 4, none⟩ s') x y v h G (N + 1) s' := by
  have k := k0.past hb
  have blk := hg.block (w.heap.size + 1 + 1) k.frm.lt (own_block k.own (by omega))
  exact ⟨(World.cell?_of_block blk).trans k.frm.c4, (World.frozen?_of_block blk).trans (k.frm.f _), k.step (by rw [← hv]; exact hown) hg⟩
/-- What a maker of pixels gives within the region. -/
def MakerOK (K : Nat) (caps : Array Value) (w : World) (x y v h : Int) (G : Nat → Nat → Nat) : Prop :=
  ∀ (i j : Nat) w', (i : Int) < v → (j : Int) < h → Below w.heap.size w w' → Calls Try.prog K (#[.int .i64 (x + i), .int .i64 (y + j)] ++ caps) w' fun e w'' =>
    (∃ q : Nat → Nat, e = .returned (.agg #[.float .f32 (q 0), .float .f32 (q 1), .float .f32 (q 2), .float .f32 (q 3)]) ∧ ∀ c, c < 4 → cn .f32 (q c) = G (v.toNat * j + i) c) ∧ Below w'.heap.size w' w''
end Go.Proofs.Ytokmjboaeamogaa

namespace Go.Proofs.Ytokmjboaeamogaa
open Go Go.RowKit
theorem wp_world {P : Program} {c : Code} {Q : Exit → Act → World → Prop} {a : Act} {w : World} (h : ∀ W, W = w → c.wp P Q a W) : c.wp P Q a w := h w rfl
theorem calls_world {P : Program} {f : FuncId} {args : Array Value} {w : World} {Q : Ending → World → Prop} (h : ∀ W, W = w → Calls P f args W Q) : Calls P f args w Q := h w rfl
/-- A closure is stored as any value of one cell. -/
@[go_sem] theorem run_store_fn {P : Program} (w : World) (a : Addr) (m : Mode) (f : Fn) (ts : Array Value) (caps : Array Value) : (store a (.func f ts caps) m).run P w = stored P w a (.func f ts caps) m := run_store P w a _ m rfl
/-- A block whose first cells are these; none of its cells is frozen. -/
structure Blk (w : World) (n : Nat) (vs : List Value) : Prop where
  lt : n < w.heap.size
  c : ∀ i v, vs[i]? = some v → w.cell? ⟨n, i, none⟩ = some v
  f : ∀ o, w.frozen? ⟨n, o, none⟩ = false
theorem Blk.new (w : World) (vs : List Value) (t : TypeId) (n : Nat) (hn : n = w.heap.size) : Blk (w.alloc (.cells vs.toArray t)) n vs := by
  subst hn
  exact ⟨by simp, fun i v h => by rw [World.cell?_alloc_new]; simpa using h, fun o => World.frozen?_alloc_new _ _ _ _⟩
theorem Blk.block {W w : World} {n : Nat} {vs : List Value} (k : Blk W n vs) (hs : W.heap.size ≤ w.heap.size) (hb : w.heap[n]? = W.heap[n]?) : Blk w n vs :=
  ⟨Nat.lt_of_lt_of_le k.lt hs, fun i v h => (World.cell?_of_block hb).trans (k.c i v h), fun o => (World.frozen?_of_block hb).trans (k.f o)⟩
theorem Blk.below {W w : World} {m n : Nat} {vs : List Value} (k : Blk W n vs) (hb : Below m W w) (hn : n < m) : Blk w n vs := k.block hb.size (hb.block n hn)
theorem Blk.past {W w : World} {n : Nat} {vs : List Value} (k : Blk W n vs) (hb : Below W.heap.size W w) : Blk w n vs := k.below hb k.lt
theorem Blk.far {w : World} {n : Nat} {vs : List Value} (k : Blk w n vs) (q : Addr) (t : Value) (hq : q.block ≠ n) : Blk (w.setCell q t) n vs :=
  k.block (by simp [World.setCell]) (Below.heap_setCell _ _ _ _ (Ne.symm hq))
theorem Blk.set {w : World} {n : Nat} {vs : List Value} (k : Blk w n vs) (i : Nat) (t : Value) : Blk (w.setCell ⟨n, i, none⟩ t) n (vs.set i t) := by
  refine ⟨by have := k.lt; simpa [World.setCell] using this, fun j v h => ?_, fun o => (World.frozen?_setCell _ _ _ _).trans (k.f o)⟩
  by_cases e : i = j
  · subst e
    rw [List.getElem?_set] at h
    simp only [if_true] at h
    split at h
    · rename_i hl
      cases h
      exact World.cell?_setCell_same _ _ _ (k.c i vs[i] (List.getElem?_eq_getElem hl))
    · cases h
  · rw [List.getElem?_set_ne e] at h
    rw [World.cell?_setCell_other _ _ _ _ (by first | (simp; omega) | (simp; done) | omega)]
    exact k.c j v h
theorem Blk.alloc {w : World} {n : Nat} {vs : List Value} (k : Blk w n vs) (o : Obj) : Blk (w.alloc o) n vs := k.past ((Below.refl _ _).alloc (Nat.le_refl _) _)
theorem Blk.drew {w : World} {n : Nat} {vs : List Value} (k : Blk w n vs) : Blk w.drew n vs := k.past ((Below.refl _ _).drew)
theorem Blk.drewN {w : World} {n : Nat} {vs : List Value} (k : Blk w n vs) (m : Nat) : Blk (w.drewN m) n vs := k.past (below_drewN (Below.refl _ _) m)
/-- Cells of one row, as a function of their place. -/
def Row (w : World) (b off n : Nat) (fs : Nat → Nat) : Prop := ∀ i, i < n → w.cell? ⟨b, off + i, none⟩ = some (.float .f32 (fs i))
theorem Row.below {W w : World} {m b off n : Nat} {fs : Nat → Nat} (k : Row W b off n fs) (hb : Below m W w) (hn : b < m) : Row w b off n fs := fun i hi => (hb.cell (p := ⟨b, off + i, none⟩) hn).trans (k i hi)
theorem Row.lt {w : World} {b off n : Nat} {fs : Nat → Nat} (k : Row w b off n fs) (h : 0 < n) : b < w.heap.size := cell_lt (k 0 h)
theorem Row.past {W w : World} {b off n : Nat} {fs : Nat → Nat} (k : Row W b off n fs) (hb : Below W.heap.size W w) : Row w b off n fs := fun i hi => k.below hb (k.lt (by omega)) i hi
/-- The number that an argument is. -/
def argF (args : Array Value) (i : Nat) : Nat := match args[i]? with | some (.float _ b) => b | _ => 0
def argI (args : Array Value) (i : Nat) : Int := match args[i]? with | some (.int _ b) => b | _ => 0
def argB (args : Array Value) (i : Nat) : Bool := match args[i]? with | some (.bool b) => b | _ => false
@[go_sem] theorem argF_0 (k : FloatKind) (b : Nat) (l : List Value) : argF (List.toArray (.float k b :: l)) 0 = b := rfl
@[go_sem] theorem argF_1 (k : FloatKind) (x : Value) (b : Nat) (l : List Value) : argF (List.toArray (x :: .float k b :: l)) 1 = b := rfl
@[go_sem] theorem argF_2 (k : FloatKind) (x y : Value) (b : Nat) (l : List Value) : argF (List.toArray (x :: y :: .float k b :: l)) 2 = b := rfl
@[go_sem] theorem argI_0 (k : IntKind) (b : Int) (l : List Value) : argI (List.toArray (.int k b :: l)) 0 = b := rfl
@[go_sem] theorem argI_1 (k : IntKind) (x : Value) (b : Int) (l : List Value) : argI (List.toArray (x :: .int k b :: l)) 1 = b := rfl
@[go_sem] theorem argI_2 (k : IntKind) (x y : Value) (b : Int) (l : List Value) : argI (List.toArray (x :: y :: .int k b :: l)) 2 = b := rfl
@[go_sem] theorem argI_3 (k : IntKind) (x y z : Value) (b : Int) (l : List Value) : argI (List.toArray (x :: y :: z :: .int k b :: l)) 3 = b := rfl
@[go_sem] theorem argB_0 (b : Bool) (l : List Value) : argB (List.toArray (.bool b :: l)) 0 = b := rfl
end Go.Proofs.Ytokmjboaeamogaa
