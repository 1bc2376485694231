/- A double made a single, where it does not overflow. No condition. -/
import Derived.Test.YtefjkelakecanaaVal
namespace Go.Proofs.Ytefjkelakecanaa
open Go Go.RowKit
theorem run_fcv2 {P : Program} {s k : FloatKind} (hne : s ≠ k) (b : Nat) (w : World) (ho : isNum s b = true → ovf s k b = false) :
    ∃ r n, (Conv.floatToFloat s b k).run P w = .ok (.float k r) (w.drewN n) ∧ FR k r (fcv s k b) := by
  cases hd : s.decode b with
  | nan sg t =>
    have hn := nan_cut_conv k b (w.tape w.drawn (.nanConv k b))
    have hi : isN s b = true := by unfold isN; rw [hd]; rfl
    unfold Conv.floatToFloat
    rw [if_neg hne, hd]
    exact ⟨_, 1, rfl, by rw [cn_of_nan hn.1]; unfold fcv; rw [if_pos hi], hn.2⟩
  | infinity sg =>
    obtain ⟨r, n, h1, -, h2⟩ := run_fcv (P := P) hne b w
    exact ⟨r, n, h1, h2 (by unfold ovf; rw [hd]; rfl)⟩
  | number sg m e =>
    obtain ⟨r, n, h1, -, h2⟩ := run_fcv (P := P) hne b w
    exact ⟨r, n, h1, h2 (ho (isNum_decode.2 ⟨sg, m, e, hd⟩))⟩
section
variable {P : Program} {ops : Array Oper} {rest : List Oper} {a : Act} {w : World} {Q : Exit → Act → World → Prop} {dst : Option Tmp} {ty : TypeId} {x : Operand} {pos : String} {after : Array Edge}
theorem wpList_down {src d : TypeId} {b : Nat} (hx : a.eval x = .float .f64 b) (hs : P.underlying src = some (.float .f64)) (hd : P.underlying d = some (.float .f32)) (ho : isNum .f64 b = true → ovf .f64 .f32 b = false)
    (h : ∀ r n, FR .f32 r (fcv .f64 .f32 b) → wpList P ops Q rest (a.put dst (.float .f32 r)) (w.drewN n)) :
    wpList P ops Q ({ dst, op := .convert src d x, type := ty, pos, after, guard := none } :: rest) a w := by
  refine wpList_plain rfl fun K hK => ?_
  obtain ⟨r, n, hr, hf⟩ := run_fcv2 (P := P) (show FloatKind.f64 ≠ .f32 by decide) b w ho
  unfold Oper.wp execOp
  simp only [hx, Sem.run_bind, Sem.run_pure, Result.andThen_ok, convert_ff hs hd, hr]
  exact hK _ _ (h r n hf)
end
end Go.Proofs.Ytefjkelakecanaa
