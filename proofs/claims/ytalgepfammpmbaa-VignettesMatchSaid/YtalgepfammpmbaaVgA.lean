/- Square roots of singles: math.Sqrt, num.Root. No condition. -/
import Derived.Test.YtalgepfammpmbaaMix
import Derived.Test.YtalgepfammpmbaaSqA
import Derived.Test.YtalgepfammpmbaaDn
namespace Go.Proofs.Ytalgepfammpmbaa
open Go Go.RowKit
theorem up_bd {v x : Nat} (h : FR .f64 x (fcv .f32 .f64 v)) (hn : isNum .f64 x = true) : vq FloatKind.f64.format (rung FloatKind.f64.format x) < (2 : Rat) ^ (128 : Int) := by
  have e : x = fcv .f32 .f64 v := by rw [← h.eq, cn_of_not (isNum_not_nan hn)]
  subst e
  have hv : isNum .f32 v = true := by
    cases hd : FloatKind.f32.decode v with
    | number s m e => exact isNum_decode.2 ⟨s, m, e, hd⟩
    | nan s t =>
      exfalso
      have h1 : isN .f32 v = true := by unfold isN; rw [hd]; rfl
      have h2 := isNum_not_nan hn
      rw [isN_fcv, h1] at h2; cases h2
    | infinity s =>
      exfalso
      have h1 : isN .f32 v = false := by unfold isN; rw [hd]; rfl
      have h3 : fcv .f32 .f64 v = FloatKind.f64.encode (.infinity s) := by unfold fcv; rw [if_neg (by rw [h1]; decide), hd]
      rw [h3] at hn; revert hn; cases s <;> decide +kernel
  obtain ⟨-, -, h3⟩ := up_exact hv
  rw [h3, ← vq_inf32]
  exact (vq_lt_iff _).2 (by unfold isNum at hv; simpa using hv)
theorem call_sqrt (args : Array Value) (w : World) : (callFunc 184 args).run Try.prog w = ((Extern.MathSqrt.sqrt args).run Try.prog w).andThen fun v w' => .ok (.value v) w' :=
  run_callFunc_extern Try.func184 (by kernel_rfl) (by kernel_rfl) (by kernel_rfl) (by kernel_rfl) args w
section
variable {ops : Array Oper} {rest : List Oper} {a : Act} {w : World} {Q : Exit → Act → World → Prop} {dst : Option Tmp} {ty : TypeId} {x : Operand} {pos : String} {after : Array Edge} {ats : Array TypeId}
theorem wpList_sqrt {b : Nat} (hx : a.eval x = .float .f64 b)
    (h : ∀ r n, FR .f64 r (fsqrt b) → wpList Try.prog ops Q rest (a.put dst (.float .f64 r)) (w.drewN n)) :
    wpList Try.prog ops Q ({ dst, op := .call { callee := .value (.func 184), args := #[x], argTypes := ats }, type := ty, pos, after, guard := none } :: rest) a w := by
  refine wpList_extern1 call_sqrt hx (fun u => ∃ r, u = .float .f64 r ∧ FR .f64 r (fsqrt b)) ?_ ?_
  · obtain ⟨r, n, h1, h2⟩ := run_sqrt (P := Try.prog) b w
    exact ⟨_, n, h1, r, rfl, h2⟩
  · rintro u n ⟨r, rfl, h2⟩
    exact h r n h2
end
set_option maxHeartbeats 400000 in
theorem Sqrt_any (b : Nat) (w : World) : Calls Try.prog 119 #[.float .f64 b] w fun e w' => (∃ r, e = .returned (.float .f64 r) ∧ FR .f64 r (fsqrt b)) ∧ ∃ m, w' = w.drewN m := by
  go_enter Try.func119, Try.ntmps119
  go_wp2_with (first | ((with_reducible apply wpList_sqrt); rfl; intro r n hr))
  go_ret
  exact ⟨⟨_, rfl, hr⟩, _, rfl⟩
/-- The root of a single, one NaN for all. -/
def rootF (v : Nat) : Nat := fcv .f64 .f32 (fsqrt (fcv .f32 .f64 v))
theorem sqrt_ok {v x r : Nat} (hx : FR .f64 x (fcv .f32 .f64 v)) (hr : FR .f64 r (fsqrt x)) : isNum .f64 r = true → ovf .f64 .f32 r = false := fun hn => by
  have e : r = fsqrt x := by rw [← hr.eq, cn_of_not (isNum_not_nan hn)]
  rw [e] at hn ⊢
  exact sqrt_fit (up_bd hx) hn
theorem root_FR {v x r s : Nat} (hx : FR .f64 x (fcv .f32 .f64 v)) (hr : FR .f64 r (fsqrt x)) (hs : FR .f32 s (fcv .f64 .f32 r)) : FR .f32 s (rootF v) := by
  unfold rootF
  rw [← fcv_cn, hr.eq] at hs
  rw [← hx.eq, fsqrt_cn]
  exact hs
set_option maxHeartbeats 400000 in
theorem Root_any (v : Nat) (w : World) : Calls Try.prog 181 #[.float .f32 v] w fun e w' => e = .returned (.float .f32 (rootF v)) ∧ ∃ m, w' = w.drewN m := by
  go_enter Try.func181, Try.ntmps181
  go_wp2_with (first | ((with_reducible apply wpList_up); rfl; exact Try.underlying27; exact Try.underlying151; intro x n hx) | (go_at_call 119; refine (Sqrt_any _ _).mono ?_; rintro e w' ⟨⟨r, rfl, hr⟩, m, rfl⟩; have ho := sqrt_ok hx hr) | ((with_reducible apply wpList_down); rfl; exact Try.underlying151; exact Try.underlying27; exact ho; intro t n2 ht) | (go_at_call 180; refine (Clean_any _ _).mono ?_; rintro e w' ⟨rfl, rfl⟩))
  go_ret
  have h := root_FR hx hr ht
  exact ⟨ret_f (by rw [h.eq]; unfold rootF; rw [fcv_cn]), _, rfl⟩
end Go.Proofs.Ytalgepfammpmbaa
