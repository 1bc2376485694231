/- The steps of the one walk of a region that draws its order. Plain laws of the walk. No condition. -/
import Derived.Test.YtefjkelakecanaaLoose
import Derived.Test.YtefjkelakecanaaExt
namespace Go.Proofs.Ytefjkelakecanaa
open Go Go.RowKit

section
variable {P : Program} {ops : Array Oper} {W : World} {Ψ : FuncId → Array Value → Value → Prop} {L : Act → Prop} {rest : List Oper} {a : Act} {o : Oper}

/-- One operation, run in whatever such world. -/
def LooseR (P : Program) (W : World) (Ψ : FuncId → Array Value → Value → Prop) (K : Value → Prop) (r : Past W → Result Next) : Prop :=
  (∀ p : Past W, Goes P W Ψ (r p)) ∧ ∀ v, (∃ p : Past W, Gives Ψ v (r p)) → K v
@[go_sem] theorem LooseR_value (K : Value → Prop) (v : Value) : LooseR P W Ψ K (fun p => .ok (.value v) p.w) = K v := by
  apply propext
  constructor
  · intro h; exact h.2 v ⟨⟨W, Below.refl _ _⟩, rfl⟩
  · intro h; exact ⟨fun p => p.h, fun u ⟨p, hu⟩ => by cases hu; exact h⟩
@[go_sem] theorem LooseR_enter (K : Value → Prop) (f : FuncId) (args : Array Value) : LooseR P W Ψ K (fun p => .ok (.enter f args) p.w) =
    ((∀ p : Past W, Calls P f args p.w fun e w'' => ∃ u, e = .returned u ∧ Ψ f args u ∧ Below W.heap.size W w'') ∧ ∀ u, Ψ f args u → K u) := by
  apply propext
  constructor
  · intro h; exact ⟨fun p => (h.1 p).2, fun u hu => h.2 u ⟨⟨W, Below.refl _ _⟩, hu⟩⟩
  · intro h; exact ⟨fun p => ⟨p.h, h.1 p⟩, fun u ⟨p, hu⟩ => h.2 u hu⟩
theorem loose_step (hg : o.guard = none) (h : ∀ K : Act → Prop, (∀ a, wpLoose P ops W Ψ L rest a → K a) → LooseR P W Ψ (fun v => K (a.put o.dst v)) (fun p => (execOp a.eval o).run P p.w)) :
    wpLoose P ops W Ψ L (o :: rest) a := by
  have h1 := h _ (fun _ h => h)
  show lOp P ops W Ψ o _ a
  unfold lOp
  rw [if_pos (by simp [Region.wanted, hg])]
  exact ⟨h1.1, h1.2⟩
theorem loose_wanted (hw : Region.wanted o (yielded ops a.tmps) = true) (h : ∀ K : Act → Prop, (∀ a, wpLoose P ops W Ψ L rest a → K a) → LooseR P W Ψ (fun v => K (a.put o.dst v)) (fun p => (execOp a.eval o).run P p.w)) :
    wpLoose P ops W Ψ L (o :: rest) a := by
  have h1 := h _ (fun _ h => h)
  show lOp P ops W Ψ o _ a
  unfold lOp
  rw [if_pos hw]
  exact ⟨h1.1, h1.2⟩
theorem loose_skip (hw : Region.wanted o (yielded ops a.tmps) = false) (h : wpLoose P ops W Ψ L rest (a.put o.dst undef)) : wpLoose P ops W Ψ L (o :: rest) a := by
  show lOp P ops W Ψ o _ a
  unfold lOp
  rw [if_neg (by rw [hw]; exact Bool.false_ne_true)]
  exact h
theorem loose_nil (h : L a) : wpLoose P ops W Ψ L [] a := h

/-- An operation that hands back one of some values, and draws at most. -/
theorem looseR_draws {K : Value → Prop} {r : Past W → Result Next} (R : Value → Prop) (hr : ∀ p : Past W, ∃ v n, r p = .ok (.value v) (p.w.drewN n) ∧ R v) (h : ∀ v, R v → K v) : LooseR P W Ψ K r := by
  refine ⟨fun p => ?_, fun u ⟨p, hu⟩ => ?_⟩
  · obtain ⟨v, n, e, -⟩ := hr p
    rw [e]; exact below_drewN p.h n
  · obtain ⟨v, n, e, hv⟩ := hr p
    rw [e] at hu
    have e2 : v = u := hu
    subst e2; exact h _ hv
variable {dst : Option Tmp} {ty : TypeId} {pos : String} {after : Array Edge} {guard : Option (Nat × Bool)}
theorem loose_farith {op : BinOp} {t t' : TypeId} {x y : Operand} {k : FloatKind} {u v : Nat} (hw : Region.wanted { dst, op := .binOp op t x y t', type := ty, pos, after, guard } (yielded ops a.tmps) = true)
    (ho : arith op = true) (hx : a.eval x = .float k u) (hy : a.eval y = .float k v)
    (h : ∀ r, FR k r (fop op k (cn k u) (cn k v)) → wpLoose P ops W Ψ L rest (a.put dst (.float k r))) :
    wpLoose P ops W Ψ L ({ dst, op := .binOp op t x y t', type := ty, pos, after, guard } :: rest) a := by
  refine loose_wanted hw fun K hK => looseR_draws (fun z => ∃ r, z = .float k r ∧ FR k r (fop op k u v)) ?_ ?_
  · intro p
    obtain ⟨r, n, hr, hf⟩ := run_farith (P := P) ho t k u v p.w
    refine ⟨.float k r, n, ?_, r, rfl, hf⟩
    unfold execOp
    simp only [hx, hy, eqGuard_at_float, Sem.run_bind, Sem.run_pure, Result.andThen_ok, hr]
  · rintro z ⟨r, rfl, hf⟩
    exact hK _ (h r (by rw [fop_cn_left, fop_cn_right]; exact hf))
theorem loose_up {src d : TypeId} {x : Operand} {b : Nat} (hw : Region.wanted { dst, op := .convert src d x, type := ty, pos, after, guard } (yielded ops a.tmps) = true)
    (hx : a.eval x = .float .f32 b) (hs : P.underlying src = some (.float .f32)) (hd : P.underlying d = some (.float .f64))
    (h : ∀ r, FR .f64 r (fcv .f32 .f64 (cn .f32 b)) → wpLoose P ops W Ψ L rest (a.put dst (.float .f64 r))) :
    wpLoose P ops W Ψ L ({ dst, op := .convert src d x, type := ty, pos, after, guard } :: rest) a := by
  refine loose_wanted hw fun K hK => looseR_draws (fun z => ∃ r, z = .float .f64 r ∧ FR .f64 r (fcv .f32 .f64 b)) ?_ ?_
  · intro p
    obtain ⟨r, n, hr, -, hf⟩ := run_fcv (P := P) (s := .f32) (k := .f64) (by decide) b p.w
    refine ⟨.float .f64 r, n, ?_, r, rfl, hf (ovf_up b)⟩
    unfold execOp
    simp only [hx, Sem.run_bind, Sem.run_pure, Result.andThen_ok, convert_ff hs hd, hr]
  · rintro z ⟨r, rfl, hf⟩
    exact hK _ (h r (by rw [fcv_cn]; exact hf))
/-- A double as a single. -/
theorem loose_down {src d : TypeId} {x : Operand} {b : Nat} (hw : Region.wanted { dst, op := .convert src d x, type := ty, pos, after, guard } (yielded ops a.tmps) = true)
    (hx : a.eval x = .float .f64 b) (hs : P.underlying src = some (.float .f64)) (hd : P.underlying d = some (.float .f32))
    (h : ∀ r, r < 2 ^ FloatKind.f32.format.width → (ovf .f64 .f32 b = false → FR .f32 r (fcv .f64 .f32 b)) → wpLoose P ops W Ψ L rest (a.put dst (.float .f32 r))) :
    wpLoose P ops W Ψ L ({ dst, op := .convert src d x, type := ty, pos, after, guard } :: rest) a := by
  refine loose_wanted hw fun K hK => looseR_draws (fun z => ∃ r, z = .float .f32 r ∧ r < 2 ^ FloatKind.f32.format.width ∧ (ovf .f64 .f32 b = false → FR .f32 r (fcv .f64 .f32 b))) ?_ ?_
  · intro p
    obtain ⟨r, n, hr, hl, hf⟩ := run_fcv (P := P) (s := .f64) (k := .f32) (by decide) b p.w
    refine ⟨.float .f32 r, n, ?_, r, rfl, hl, hf⟩
    unfold execOp
    simp only [hx, Sem.run_bind, Sem.run_pure, Result.andThen_ok, convert_ff hs hd, hr]
  · rintro z ⟨r, rfl, hl, hf⟩
    exact hK _ (h r hl hf)
theorem loose_f2i {src d : TypeId} {x : Operand} {s : FloatKind} {k : IntKind} {b : Nat} (hw : Region.wanted { dst, op := .convert src d x, type := ty, pos, after, guard } (yielded ops a.tmps) = true)
    (hx : a.eval x = .float s b) (hs : P.underlying src = some (.float s)) (hd : P.underlying d = some (.int k))
    (h : ∀ m, F2I s b k m → wpLoose P ops W Ψ L rest (a.put dst (.int k m))) :
    wpLoose P ops W Ψ L ({ dst, op := .convert src d x, type := ty, pos, after, guard } :: rest) a := by
  refine loose_wanted hw fun K hK => looseR_draws (fun z => ∃ m, z = .int k m ∧ F2I s b k m) ?_ ?_
  · intro p
    obtain ⟨m, n, hr, hf⟩ := run_f2i (P := P) (s := s) (k := k) (b := b) p.w
    refine ⟨.int k m, n, ?_, m, rfl, hf⟩
    unfold execOp
    simp only [hx, Sem.run_bind, Sem.run_pure, Result.andThen_ok, convert_fi hs hd, hr]
  · rintro z ⟨m, rfl, hf⟩
    exact hK _ (h m hf)
end
/-- A round that makes memory of its own and writes one cell of one row. -/
theorem grown_step {W a b : World} {g k : Nat} (h : W.grownBy a (some g)) (hb : Below a.heap.size a b) (v : Value) : W.grownBy (b.setCell ⟨g, k, none⟩ v) (some g) :=
  ⟨hb.os.trans h.os, hb.tape.trans h.tape, hb.output.trans h.output, by have := h.size; have := hb.size; simp [World.setCell]; omega, fun j hj hne => by
    have h1 : j ≠ g := fun e => hne (by rw [e])
    rw [Below.heap_setCell _ _ _ _ h1, hb.block j (by have := h.size; omega)]
    exact h.block j hj hne⟩
end Go.Proofs.Ytefjkelakecanaa
