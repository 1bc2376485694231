/- Whole matrices of doubles, out of blocks and into them. Conditions: those named. -/
import Derived.Test.YtfmdnibfeckmaaaDoorTcA
import Derived.Deep.MidRow
namespace Go.Proofs.YtfmdnibfeckmaaaDoor
open Go Go.RowKit
/-- Nine doubles in a row. -/
def l9 (r : Nat → Nat) : List Value := [.float .f64 (r 0), .float .f64 (r 1), .float .f64 (r 2), .float .f64 (r 3), .float .f64 (r 4), .float .f64 (r 5), .float .f64 (r 6), .float .f64 (r 7), .float .f64 (r 8)]
theorem l9_get (r : Nat → Nat) (j : Nat) (h : j < 9) : (l9 r)[j]? = some (.float .f64 (r j)) := by
  rcases (show j = 0 ∨ j = 1 ∨ j = 2 ∨ j = 3 ∨ j = 4 ∨ j = 5 ∨ j = 6 ∨ j = 7 ∨ j = 8 by omega) with rfl | rfl | rfl | rfl | rfl | rfl | rfl | rfl | rfl <;> rfl
theorem l9_one (r : Nat → Nat) : (l9 r).toArray.all (·.oneCell') = true := by simp [l9, Value.oneCell']
theorem VecD.range {w : World} {b : Nat} {r : Nat → Nat} (k : VecD w b 9 r) : w.rangeAt b 0 (l9 r) := fun j v hv => by
  have hj : j < 9 := (List.getElem?_eq_some_iff.1 hv).1
  rw [l9_get r j hj] at hv; cases hv; rw [Nat.zero_add]; exact k.c j hj
theorem VecD.there {w : World} {b : Nat} {r : Nat → Nat} (k : VecD w b 9 r) : w.there b 0 9 := fun j hj => by
  rw [Nat.zero_add]; exact ⟨by rw [k.c j hj]; rfl, k.f j⟩
theorem size_setCells (b : Nat) : ∀ (vs : List Value) (o : Nat) (w : World), (w.setCells b o vs).heap.size = w.heap.size
  | [], _, _ => rfl
  | v :: r, o, w => by rw [World.setCells, size_setCells b r (o + 1) _]; simp [World.setCell]
theorem heap_setCells (b b' : Nat) (h : b' ≠ b) : ∀ (vs : List Value) (o : Nat) (w : World), (w.setCells b o vs).heap[b']? = w.heap[b']?
  | [], _, _ => rfl
  | v :: r, o, w => by rw [World.setCells, heap_setCells b b' h r (o + 1) _]; exact Below.heap_setCell _ _ _ _ h
theorem VecD.put {w : World} {b : Nat} {g : Nat → Nat} (k : VecD w b 9 g) (r : Nat → Nat) : VecD (w.setCells b 0 (l9 r)) b 9 r := by
  have hr := World.rangeAt_setCells_same w b 0 (l9 r) k.there
  refine ⟨by rw [size_setCells]; exact k.lt, fun j hj => ?_, fun o => (World.frozen?_setCells _ _ _ _ _).trans (k.f o)⟩
  have := hr j _ (l9_get r j hj)
  rw [Nat.zero_add] at this; exact this
theorem below_setCells {B : Nat} {w w' : World} (h : Below B w w') (b : Nat) (hb : B ≤ b) : ∀ (vs : List Value) (o : Nat), Below B w (w'.setCells b o vs)
  | vs, o => by
    induction vs generalizing o w' with
    | nil => exact h
    | cons v r ih => rw [World.setCells]; exact ih (h.setCell hb _) (o + 1)
theorem info9 : (Tryd.prog.info? 49).map (·.size) = some 9 := by kernel_rfl
section
variable {ops : Array Oper} {rest : List Oper} {o : Oper} {a : Act} {w : World} {Q : Exit → Act → World → Prop}
/-- THE WALK's LAW: a matrix is read whole. -/
theorem wpList_ld9 {b : Nat} {r : Nat → Nat} {x : Operand} (k : VecD w b 9 r) (hgd : o.guard = none) (ho : o.op = .load 49 x) (hx : a.eval x = .pointer (some ⟨b, 0, none⟩))
    (h : wpList Tryd.prog ops Q rest (a.put o.dst (m9 r)) w) : wpList Tryd.prog ops Q (o :: rest) a w :=
  wpList_load_mid hgd _ x ho b 0 hx (l9 r) _ k.range Tryd.underlying49 rfl info9 h
/-- THE WALK's LAW: a matrix is written whole. The world behind it has a letter. -/
theorem wpList_st9 {b : Nat} {g r : Nat → Nat} {x y : Operand} (k : VecD w b 9 g) (hgd : o.guard = none) (ho : o.op = .store 49 x y) (hx : a.eval x = .pointer (some ⟨b, 0, none⟩)) (hy : a.eval y = m9 r)
    (h : ∀ w', VecD w' b 9 r → w'.heap.size = w.heap.size → (∀ b', b' ≠ b → w'.heap[b']? = w.heap[b']?) → (∀ B W, Below B W w → B ≤ b → Below B W w') → wpList Tryd.prog ops Q rest (a.put o.dst undef) w') : wpList Tryd.prog ops Q (o :: rest) a w :=
  wpList_store_mid hgd _ x y ho b 0 (l9 r).toArray hx hy k.there info9 (l9_one r)
    (h _ (k.put r) (size_setCells _ _ _ _) (fun b' hb => heap_setCells b b' hb _ _ _) (fun _ _ hB hb => below_setCells hB b hb _ _))
theorem load_m9 {b : Nat} {r : Nat → Nat} (k : VecD w b 9 r) : (loadVar 49 ⟨b, 0, none⟩).run Tryd.prog w = .ok (m9 r) w :=
  run_loadVar_mid w b 0 _ (l9 r) _ k.range Tryd.underlying49 rfl info9
/-- A function's only result, a matrix. -/
theorem results_m9 {fn : Func} {p : Tmp} (h : fn.results = #[.cell p 49]) (tmps : Array Value) {b : Nat} {r : Nat → Nat} (k : VecD w b 9 r) (hp : tmps.getD p undef = .pointer (some ⟨b, 0, none⟩)) : (results fn tmps).run Tryd.prog w = .ok (m9 r) w := by
  have hp' : tmps[p]?.getD undef = .pointer (some ⟨b, 0, none⟩) := by simpa using hp
  simp [results, h, hp', asAddr, load_m9 k]
/-- A function's results, a matrix and an error. -/
theorem results_m9e {fn : Func} {p q : Tmp} (h : fn.results = #[.cell p 49, .tmp q]) (tmps : Array Value) {b : Nat} {r : Nat → Nat} {v : Value} (k : VecD w b 9 r) (hp : tmps.getD p undef = .pointer (some ⟨b, 0, none⟩)) (hq : tmps.getD q undef = v) : (results fn tmps).run Tryd.prog w = .ok (.tuple #[m9 r, v]) w := by
  have hp' : tmps[p]?.getD undef = .pointer (some ⟨b, 0, none⟩) := by simpa using hp
  have hq' : tmps[q]?.getD undef = v := by simpa using hq
  simp [results, h, hp', hq', asAddr, load_m9 k]
end
section
variable {ops : Array Oper} {W : World} {Ψ : FuncId → Array Value → Value → Prop} {L : Act → Prop} {rest : List Oper} {a : Act} {dst : Option Tmp} {ty : TypeId} {pos : String} {after : Array Edge} {guard : Option (Nat × Bool)}
/-- A matrix is read whole, in a region that draws its order. -/
theorem loose_ld9 {b : Nat} {r : Nat → Nat} {x : Operand} (k : VecD W b 9 r) (hw : Region.wanted { dst, op := .load 49 x, type := ty, pos, after, guard } (yielded ops a.tmps) = true) (hx : a.eval x = .pointer (some ⟨b, 0, none⟩))
    (h : wpLoose Tryd.prog ops W Ψ L rest (a.put dst (m9 r))) : wpLoose Tryd.prog ops W Ψ L ({ dst, op := .load 49 x, type := ty, pos, after, guard } :: rest) a := by
  refine loose_wanted hw fun K hK => looseR_draws (fun z => z = m9 r) ?_ ?_
  · intro p
    refine ⟨m9 r, 0, ?_, rfl⟩
    unfold execOp
    simp only [hx, Instr.loadAt, Instr.sureAddr, Sem.run_bind, Sem.run_pure, Result.andThen_ok, load_m9 (k.past p.h)]
    rfl
  · rintro z rfl
    exact hK _ h
/-- The same where memory is laid out at any time. -/
theorem looseM_ld9 {b : Nat} {r : Nat → Nat} {x : Operand} (k : VecD W b 9 r) (hw : Region.wanted { dst, op := .load 49 x, type := ty, pos, after, guard } (yielded ops a.tmps) = true) (hx : a.eval x = .pointer (some ⟨b, 0, none⟩))
    (h : wpLooseM Tryd.prog ops W Ψ L rest (a.put dst (m9 r))) : wpLooseM Tryd.prog ops W Ψ L ({ dst, op := .load 49 x, type := ty, pos, after, guard } :: rest) a := by
  refine looseM_wanted hw fun K hK => looseRM_draws (fun z => z = m9 r) ?_ ?_
  · intro p
    refine ⟨m9 r, 0, ?_, rfl⟩
    unfold execOp
    simp only [hx, Instr.loadAt, Instr.sureAddr, Sem.run_bind, Sem.run_pure, Result.andThen_ok, load_m9 (k.past p.h)]
    rfl
  · rintro z rfl
    exact hK _ h
theorem VecD.congr {w : World} {b n : Nat} {f g : Nat → Nat} (k : VecD w b n f) (h : ∀ j, j < n → f j = g j) : VecD w b n g := ⟨k.lt, fun j hj => by rw [← h j hj]; exact k.c j hj, k.f⟩
/-- Three doubles written into a block of three. -/
theorem VecD.put3 {w : World} {b : Nat} {g : Nat → Nat} (k : VecD w b 3 g) (t : Nat → Nat) : VecD (((w.setCell ⟨b, 0, none⟩ (.float .f64 (t 0))).setCell ⟨b, 1, none⟩ (.float .f64 (t 1))).setCell ⟨b, 2, none⟩ (.float .f64 (t 2))) b 3 t :=
  (((k.set 0 (t 0) (by omega)).set 1 (t 1) (by omega)).set 2 (t 2) (by omega)).congr fun j hj => by
    rcases (show j = 0 ∨ j = 1 ∨ j = 2 by omega) with rfl | rfl | rfl <;> rfl
theorem VecD.fresh3 {w : World} {b : Nat} {t : TypeId} (h : w.heap[b]? = some (.cells #[.float .f64 0, .float .f64 0, .float .f64 0] t)) : VecD w b 3 (fun _ => 0) :=
  ⟨by have := Array.getElem?_eq_some_iff.1 h; exact this.1, fun j hj => by rcases (show j = 0 ∨ j = 1 ∨ j = 2 by omega) with rfl | rfl | rfl <;> simp [World.cell?, h], fun o => by simp [World.frozen?, h]⟩
end
end Go.Proofs.YtfmdnibfeckmaaaDoor
