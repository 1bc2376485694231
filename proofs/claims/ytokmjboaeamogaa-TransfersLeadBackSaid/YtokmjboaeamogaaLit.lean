/- Steps with floats that are known: each is one literal. Plain laws of the walk; and how Floor's stand-in answers. No condition. -/
import Derived.Test.YtokmjboaeamogaaNG
namespace Go.Proofs.Ytokmjboaeamogaa
open Go.RowKit
section
variable {P : Program} {ops : Array Oper} {rest : List Oper} {a : Act} {w : World} {Q : Exit → Act → World → Prop} {dst : Option Tmp} {ty : TypeId} {x y : Operand} {pos : String} {after : Array Edge}
theorem wpList_flit {op : BinOp} {t t' : TypeId} {k : FloatKind} {u v c : Nat} (ho : arith op = true) (hx : a.eval x = .float k u) (hy : a.eval y = .float k v) (hc : fop op k (cn k u) (cn k v) = c) (hn : isN k c = false)
    (h : ∀ n, wpList P ops Q rest (a.put dst (.float k c)) (w.drewN n)) :
    wpList P ops Q ({ dst, op := .binOp op t x y t', type := ty, pos, after, guard := none } :: rest) a w :=
  wpList_farith ho hx hy fun r n hr => by rw [hc] at hr; rw [FR.exact hr hn]; exact h n
theorem wpList_clit {src d : TypeId} {s k : FloatKind} {b c : Nat} (hx : a.eval x = .float s b) (hs : P.underlying src = some (.float s)) (hd : P.underlying d = some (.float k)) (hne : s ≠ k) (ho : ovf s k b = false) (hc : fcv s k b = c) (hn : isN k c = false)
    (h : ∀ n, wpList P ops Q rest (a.put dst (.float k c)) (w.drewN n)) :
    wpList P ops Q ({ dst, op := .convert src d x, type := ty, pos, after, guard := none } :: rest) a w :=
  wpList_fcv hx hs hd hne fun r n _ hf => by have h1 := hf ho; rw [hc] at h1; rw [FR.exact h1 hn]; exact h n
end
theorem call_floor (args : Array Value) (w : World) : (callFunc 56 args).run Try.prog w = ((Extern.MathFloor.toIntegral "math.archFloor" .down args).run Try.prog w).andThen fun v w' => .ok (.value v) w' :=
  run_callFunc_extern Try.func56 (by kernel_rfl) (by kernel_rfl) (by kernel_rfl) (by kernel_rfl) args w
section
variable {ops : Array Oper} {rest : List Oper} {a : Act} {w : World} {Q : Exit → Act → World → Prop} {dst : Option Tmp} {ty : TypeId} {x : Operand} {pos : String} {after : Array Edge} {ats : Array TypeId}
theorem wpList_floor {b : Nat} (hx : a.eval x = .float .f64 b) (hb : b < 2 ^ FloatKind.f64.format.width)
    (h : ∀ r n, FR .f64 r (fwhole .down (cn .f64 b)) → wpList Try.prog ops Q rest (a.put dst (.float .f64 r)) (w.drewN n)) :
    wpList Try.prog ops Q ({ dst, op := .call { callee := .value (.func 56), args := #[x], argTypes := ats }, type := ty, pos, after, guard := none } :: rest) a w := by
  refine wpList_extern1 call_floor hx (fun u => ∃ r, u = .float .f64 r ∧ FR .f64 r (fwhole .down b)) ?_ ?_
  · obtain ⟨r, n, h1, h2⟩ := run_whole (P := Try.prog) "math.archFloor" .down b hb w
    exact ⟨_, n, h1, r, rfl, h2⟩
  · rintro u n ⟨r, rfl, h2⟩
    exact h r n (by rw [fwhole_cn]; exact h2)
end
end Go.Proofs.Ytokmjboaeamogaa
