/- Hashes: num.Hash, dyeref2.HashOf. No condition. -/
import Derived.Test.YtalgepfammpmbaaOrd
namespace Go.Proofs.Ytalgepfammpmbaa
open Go.RowKit
/-- One round of the hash. -/
def hmix (h i : Int) : Int :=
  let a := (h + i) % 4294967296 * 2246822507 % 4294967296
  let b := bits .xor .u32 a (a / 8192) * 3266489909 % 4294967296
  bits .xor .u32 b (b / 65536)
/-- The hash of a seed and three integers. -/
def hashZ (s x y n : Int) : Int := hmix (hmix (hmix (bits .xor .u32 s 2654435769) x) y) n
theorem xor_bd (a b : Int) : 0 ≤ bits .xor .u32 a b ∧ bits .xor .u32 a b < 4294967296 := by
  unfold bits; simp only [IntKind.wrap_u32]; omega
theorem hashZ_bd (s x y n : Int) : 0 ≤ hashZ s x y n ∧ hashZ s x y n < 4294967296 := by
  unfold hashZ hmix; exact xor_bd _ _
theorem ret_u {a b : Int} (h : a = b) : Ending.returned (.int .u32 a) = .returned (.int .u32 b) := by rw [h]
set_option maxRecDepth 100000 in
set_option maxHeartbeats 800000 in
theorem Hash_any (s x y n : Int) (w : World) : Calls Try.prog 127 #[.int .u32 s, .int .i64 x, .int .i64 y, .int .i64 n] w fun e w' => e = .returned (.int .u32 (hashZ s x y n)) ∧ w = w' := by
  have i0 : ∀ w, (Instr.index 125 (.agg #[.int .i64 x, .int .i64 y, .int .i64 n]) (.int .i64 0)).run Try.prog w = .ok (.int .i64 x) w := fun _ => by kernel_rfl
  have i1 : ∀ w, (Instr.index 125 (.agg #[.int .i64 x, .int .i64 y, .int .i64 n]) (.int .i64 1)).run Try.prog w = .ok (.int .i64 y) w := fun _ => by kernel_rfl
  have i2 : ∀ w, (Instr.index 125 (.agg #[.int .i64 x, .int .i64 y, .int .i64 n]) (.int .i64 2)).run Try.prog w = .ok (.int .i64 n) w := fun _ => by kernel_rfl
  go_enter Try.func127, Try.ntmps127
  go_wp2
  refine wp_loop_rounds 4 ?_
  go_wp2_with (simp only [rounds_succ])
  go_ret
  exact ⟨ret_i rfl, rfl⟩
set_option maxRecDepth 100000 in
set_option maxHeartbeats 800000 in
theorem HashOf_any (s x y n : Int) (w : World) : Calls Try.prog 129 #[.int .u32 s, .int .i64 x, .int .i64 y, .int .i64 n] w fun e w' => e = .returned (.int .u32 (hashZ s x y n)) ∧ Below w.heap.size w w' := by
  go_enter Try.func129, Try.ntmps129
  go_wp2
  refine wp_loop_rounds 4 ?_
  go_wp2_with (simp only [rounds_succ])
  go_ret
  refine ⟨rfl, ?_⟩
  (repeat (first | exact Below.refl _ _ | assumption | (refine Below.setCell ?_ (by first | (simp; done) | (simp; omega) | omega) _) | (refine Below.drew ?_) | (refine below_drewN ?_ _) | (refine Below.alloc ?_ (by first | (simp; done) | (simp; omega) | omega) _) | (refine Below.trans ?_ (Below.mono (by assumption) (by first | (simp; done) | (simp; omega) | omega)))))
end Go.Proofs.Ytalgepfammpmbaa
