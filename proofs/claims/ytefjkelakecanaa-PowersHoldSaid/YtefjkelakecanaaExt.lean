/- The stand-ins of the model that this program calls: which entry answers which call. No condition. -/
import Derived.Test.YtefjkelakecanaaProg
import Derived.Test.YtefjkelakecanaaFloatB
import Derived.Laws.Externs
import Derived.KernelRfl
import Derived.Lib.Hide
namespace Go.Proofs.Ytefjkelakecanaa
open Go.RowKit

theorem call_f32bits (args : Array Value) (w : World) : (callFunc 32 args).run Try.prog w = ((Extern.MathFloatBits.float32bits args).run Try.prog w).andThen fun v w' => .ok (.value v) w' :=
  run_callFunc_extern Try.func32 (by kernel_rfl) (by kernel_rfl) (by kernel_rfl) (by kernel_rfl) args w
@[go_sem ↓] theorem call_f32bits' (b : Nat) (w : World) : (callFunc 32 #[.float .f32 b]).run Try.prog w = .ok (.value (.int .u32 b)) w := by rw [call_f32bits]; rfl
theorem call_f64bits (args : Array Value) (w : World) : (callFunc 31 args).run Try.prog w = ((Extern.MathFloatBits.float64bits args).run Try.prog w).andThen fun v w' => .ok (.value v) w' :=
  run_callFunc_extern Try.func31 (by kernel_rfl) (by kernel_rfl) (by kernel_rfl) (by kernel_rfl) args w
@[go_sem ↓] theorem call_f64bits' (b : Nat) (w : World) : (callFunc 31 #[.float .f64 b]).run Try.prog w = .ok (.value (.int .u64 b)) w := by rw [call_f64bits]; rfl
theorem call_f32from (args : Array Value) (w : World) : (callFunc 35 args).run Try.prog w = ((Extern.MathFloatBits.float32frombits args).run Try.prog w).andThen fun v w' => .ok (.value v) w' :=
  run_callFunc_extern Try.func35 (by kernel_rfl) (by kernel_rfl) (by kernel_rfl) (by kernel_rfl) args w
@[go_sem ↓] theorem call_f32from' (n : Int) (w : World) : (callFunc 35 #[.int .u32 n]).run Try.prog w = .ok (.value (.float .f32 n.toNat)) w := by rw [call_f32from]; rfl
theorem call_f64from (args : Array Value) (w : World) : (callFunc 30 args).run Try.prog w = ((Extern.MathFloatBits.float64frombits args).run Try.prog w).andThen fun v w' => .ok (.value v) w' :=
  run_callFunc_extern Try.func30 (by kernel_rfl) (by kernel_rfl) (by kernel_rfl) (by kernel_rfl) args w
@[go_sem ↓] theorem call_f64from' (n : Int) (w : World) : (callFunc 30 #[.int .u64 n]).run Try.prog w = .ok (.value (.float .f64 n.toNat)) w := by rw [call_f64from]; rfl
theorem call_even (args : Array Value) (w : World) : (callFunc 40 args).run Try.prog w = ((Extern.MathFloor.toIntegral "math.RoundToEven" .even args).run Try.prog w).andThen fun v w' => .ok (.value v) w' :=
  run_callFunc_extern Try.func40 (by kernel_rfl) (by kernel_rfl) (by kernel_rfl) (by kernel_rfl) args w

section
variable {ops : Array Oper} {rest : List Oper} {a : Act} {w : World} {Q : Exit → Act → World → Prop} {dst : Option Tmp} {ty : TypeId} {x : Operand} {pos : String} {after : Array Edge} {ats : Array TypeId}
theorem wpList_even {b : Nat} (hx : a.eval x = .float .f64 b) (hb : b < 2 ^ FloatKind.f64.format.width)
    (h : ∀ r n, FR .f64 r (fwhole .even (cn .f64 b)) → wpList Try.prog ops Q rest (a.put dst (.float .f64 r)) (w.drewN n)) :
    wpList Try.prog ops Q ({ dst, op := .call { callee := .value (.func 40), args := #[x], argTypes := ats }, type := ty, pos, after, guard := none } :: rest) a w := by
  refine wpList_extern1 call_even hx (fun u => ∃ r, u = .float .f64 r ∧ FR .f64 r (fwhole .even b)) ?_ ?_
  · obtain ⟨r, n, h1, h2⟩ := run_whole (P := Try.prog) "math.RoundToEven" .even b hb w
    exact ⟨_, n, h1, r, rfl, h2⟩
  · rintro u n ⟨r, rfl, h2⟩
    exact h r n (by rw [fwhole_cn]; exact h2)
end

end Go.Proofs.Ytefjkelakecanaa
