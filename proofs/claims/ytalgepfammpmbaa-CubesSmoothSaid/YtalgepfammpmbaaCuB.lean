/- Entries of a cube: cube.entry, cube.cleaned, dyeref2.EntryOf. Conditions: the cube is right, the place within it. -/
import Derived.Test.YtalgepfammpmbaaCuA
namespace Go.Proofs.Ytalgepfammpmbaa
open Go.RowKit
/-- The number of an entry. -/
def enI (S i j k : Nat) : Nat := i + S * (j + S * k)
theorem enI_lt {S i j k : Nat} (hi : i < S) (hj : j < S) (hk : k < S) : enI S i j k < S * S * S := by
  unfold enI
  have h1 : S * k + S ≤ S * S := by have := Nat.mul_le_mul_left S (show k + 1 ≤ S by omega); rwa [Nat.mul_add, Nat.mul_one] at this
  have h2 : S * (j + S * k) + S ≤ S * (S * S) := by have := Nat.mul_le_mul_left S (show j + S * k + 1 ≤ S * S by omega); rwa [Nat.mul_add _ _ 1, Nat.mul_one] at this
  rw [Nat.mul_assoc]; omega
theorem cub_nat {S : Nat} (h : S ≤ 17) : S * S ≤ 289 ∧ S * S * S ≤ 4913 := by
  have a2 : S * S ≤ 17 * 17 := Nat.mul_le_mul h h
  exact ⟨by omega, by have := Nat.mul_le_mul a2 h; omega⟩
theorem en_wraps {S i j k : Nat} (hS : S ≤ 17) (hi : i < S) (hj : j < S) (hk : k < S) :
    ∃ A B C D E : Nat, IntKind.i64.wrap ((S : Int) * (k : Int)) = (A : Int) ∧ IntKind.i64.wrap ((j : Int) + (A : Int)) = (B : Int) ∧ IntKind.i64.wrap ((S : Int) * (B : Int)) = (C : Int) ∧ IntKind.i64.wrap ((i : Int) + (C : Int)) = (D : Int) ∧ IntKind.i64.wrap (3 * (D : Int)) = (E : Int) ∧ E = 3 * enI S i j k ∧ E + 3 ≤ 3 * (S * S * S) ∧ E + 3 ≤ 14739 := by
  obtain ⟨b1, b2⟩ := cub_nat hS
  have h := enI_lt hi hj hk
  have h1 : S * k ≤ S * S := Nat.mul_le_mul_left S (by omega)
  have h2 : S * (j + S * k) ≤ S * S * S + S := by unfold enI at h; omega
  refine ⟨S * k, j + S * k, S * (j + S * k), i + S * (j + S * k), 3 * enI S i j k, ?_, ?_, ?_, ?_, ?_, rfl, by omega, by omega⟩
  · rw [← Int.natCast_mul, IntKind.wrap_i64]; omega
  · rw [← Int.natCast_add, IntKind.wrap_i64]; omega
  · rw [← Int.natCast_mul, IntKind.wrap_i64]; omega
  · rw [← Int.natCast_add, IntKind.wrap_i64]; omega
  · unfold enI at *; rw [IntKind.wrap_i64]; omega
def tri (q : Nat → Nat) : Value := .agg #[.float .f32 (q 0), .float .f32 (q 1), .float .f32 (q 2)]
theorem array3_at (b o c : Nat) (w : World) : (Instr.arrayAt 92 (.slice (some ⟨b, o, none⟩) 3 c)).run Try.prog w = .ok (.pointer (some ⟨b, o, none⟩)) w := by kernel_rfl
set_option maxRecDepth 100000 in
set_option maxHeartbeats 1600000 in
theorem entry_any (S i j k : Nat) (lo hi b off n cap : Nat) (fs : Nat → Nat) (w : World) (hS : S ≤ 17) (h1 : i < S) (h2 : j < S) (h3 : k < S) (hn : n = 3 * (S * S * S)) (hcap : n ≤ cap) (hc : Row w b off n fs) :
    Calls Try.prog 150 #[.agg #[.int .i64 S, .float .f32 lo, .float .f32 hi, .slice (some ⟨b, off, none⟩) n cap], .int .i64 i, .int .i64 j, .int .i64 k] w fun e w' =>
      e = .returned (.agg #[.float .f32 (fs (3 * enI S i j k)), .float .f32 (fs (3 * enI S i j k + 1)), .float .f32 (fs (3 * enI S i j k + 2))]) ∧ Below w.heap.size w w' := by
  obtain ⟨A, B, C, D, E, e1, e2, e3, e4, e5, e6, e7, e8⟩ := en_wraps hS h1 h2 h3
  rw [← e6]
  have hn3 : E + 3 ≤ n := by omega
  have c0 := hc E (by omega)
  have c1 := hc (E + 1) (by omega)
  have c2 := hc (E + 2) (by omega)
  rw [← Nat.add_assoc] at c1 c2
  have hbw : b < w.heap.size := cell_lt c0
  have j1 : (E : Int) + 3 ≤ (cap : Int) := by omega
  have sa := array3_at
  generalize fs E = v0 at *
  generalize fs (E + 1) = v1 at *
  generalize fs (E + 2) = v2 at *
  clear hc e6 e7 hn hS h1 h2 h3
  go_enter Try.func150, Try.ntmps150
  go_wp2_with fail
  refine bodyPost_ret (v := .agg #[.float .f32 v0, .float .f32 v1, .float .f32 v2]) (by simp [results, Try.results150, go_sem]) rfl ⟨rfl, ?_⟩
  (repeat (first | exact Below.refl _ _ | assumption | (refine Below.setCell ?_ (by first | (simp; done) | (simp; omega) | omega) _) | (refine Below.drew ?_) | (refine below_drewN ?_ _) | (refine Below.alloc ?_ (by first | (simp; done) | (simp; omega) | omega) _) | (refine Below.trans ?_ (Below.mono (by assumption) (by first | (simp; done) | (simp; omega) | omega)))))
set_option maxRecDepth 100000 in
set_option maxHeartbeats 1600000 in
theorem EntryOf_any (S i j k : Nat) (lo hi b off n cap : Nat) (fs : Nat → Nat) (w : World) (hS : S ≤ 17) (h1 : i < S) (h2 : j < S) (h3 : k < S) (hn : n = 3 * (S * S * S)) (hc : Row w b off n fs) :
    Calls Try.prog 68 #[.agg #[.int .i64 S, .float .f32 lo, .float .f32 hi, .slice (some ⟨b, off, none⟩) n cap], .int .i64 i, .int .i64 j, .int .i64 k] w fun e w' =>
      e = .returned (.agg #[.float .f32 (cn .f32 (fs (3 * enI S i j k))), .float .f32 (cn .f32 (fs (3 * enI S i j k + 1))), .float .f32 (cn .f32 (fs (3 * enI S i j k + 2)))]) ∧ Below w.heap.size w w' := by
  obtain ⟨A, B, C, D, E, e1, e2, e3, e4, e5, e6, e7, e8⟩ := en_wraps hS h1 h2 h3
  rw [← e6]
  have hn3 : E + 3 ≤ n := by omega
  have c0 := hc E (by omega)
  have c1 := hc (E + 1) (by omega)
  have c2 := hc (E + 2) (by omega)
  have hbw : b < w.heap.size := cell_lt c0
  have u1 : IntKind.i64.wrap ((E : Int) + 1) = ((E + 1 : Nat) : Int) := by rw [IntKind.wrap_i64]; omega
  have u2 : IntKind.i64.wrap ((E : Int) + 2) = ((E + 2 : Nat) : Int) := by rw [IntKind.wrap_i64]; omega
  generalize fs E = v0 at *
  generalize fs (E + 1) = v1 at *
  generalize fs (E + 2) = v2 at *
  obtain ⟨E1, hE1⟩ : ∃ E1, E1 = E + 1 := ⟨_, rfl⟩
  obtain ⟨E2, hE2⟩ : ∃ E2, E2 = E + 2 := ⟨_, rfl⟩
  have k1 : E1 < n := by omega
  have k2 : E2 < n := by omega
  have k0 : E < n := by omega
  rw [← hE1] at c1 u1; rw [← hE2] at c2 u2
  clear hc e6 e7 hn hS h1 h2 h3 hE1 hE2 e8 hn3
  go_enter Try.func68, Try.ntmps68
  go_wp2_with fail
  refine wp_world (fun W hW => ?_)
  have CB : Blk W w.heap.size [.int .i64 S, .float .f32 lo, .float .f32 hi, .slice (some ⟨b, off, none⟩) n cap] := by rw [hW]; exact (Blk.new _ _ _ _ rfl).alloc _
  have RB : Blk W (w.heap.size + 1) [.float .f32 0, .float .f32 0, .float .f32 0] := by rw [hW]; exact Blk.new _ _ _ _ (by simp)
  have BW : Below w.heap.size w W := by rw [hW]; (repeat (first | exact Below.refl _ _ | assumption | (refine Below.setCell ?_ (by first | (simp; done) | (simp; omega) | omega) _) | (refine Below.drew ?_) | (refine below_drewN ?_ _) | (refine Below.alloc ?_ (by first | (simp; done) | (simp; omega) | omega) _) | (refine Below.trans ?_ (Below.mono (by assumption) (by first | (simp; done) | (simp; omega) | omega)))))
  replace c0 := (BW.cell (p := ⟨b, off + E, none⟩) hbw).trans c0
  replace c1 := (BW.cell (p := ⟨b, off + E1, none⟩) hbw).trans c1
  replace c2 := (BW.cell (p := ⟨b, off + E2, none⟩) hbw).trans c2
  have lb : b < W.heap.size := by have := BW.size; omega
  have g3 := CB.c 3 _ rfl
  have lw := CB.lt
  have HR := Lib.hid RB; have HB := Lib.hid BW
  clear hW CB RB BW
  refine wp_region_loose 20 (fun _ args u => u = .float .f32 (cn .f32 (argF args 0))) (by kernel_rfl) (by kernel_rfl) ?_
  simp only [List.take_succ_cons, List.take_zero, List.drop_succ_cons, List.drop_zero]
  iterate 5 (refine loose_wanted rfl (fun K hK => ?_); go_simp; refine hK _ ?_; clear hK K)
  refine loose_wanted rfl (fun K1 hK => ?_)
  go_simp
  refine ⟨fun p => (Fix_any _ _).mono ?_, ?_⟩
  · rintro e w' ⟨rfl, rfl⟩
    exact ⟨_, rfl, by first | rfl | simp, p.h⟩
  refine hK _ ?_
  clear hK K1
  iterate 6 (refine loose_wanted rfl (fun K hK => ?_); go_simp; refine hK _ ?_; clear hK K)
  refine loose_wanted rfl (fun K1 hK => ?_)
  go_simp
  refine ⟨fun p => (Fix_any _ _).mono ?_, ?_⟩
  · rintro e w' ⟨rfl, rfl⟩
    exact ⟨_, rfl, by first | rfl | simp, p.h⟩
  refine hK _ ?_
  clear hK K1
  iterate 6 (refine loose_wanted rfl (fun K hK => ?_); go_simp; refine hK _ ?_; clear hK K)
  refine loose_wanted rfl (fun K1 hK => ?_)
  go_simp
  refine ⟨fun p => (Fix_any _ _).mono ?_, ?_⟩
  · rintro e w' ⟨rfl, rfl⟩
    exact ⟨_, rfl, by first | rfl | simp, p.h⟩
  refine hK _ ?_
  clear hK K1
  refine loose_nil (fun w5 hb5 => ?_)
  have RB := HR.out.past hb5
  have B5 := HB.out.trans (hb5.mono HB.out.size)
  have r0 := RB.c 0 _ rfl; have r1 := RB.c 1 _ rfl; have r2 := RB.c 2 _ rfl; have rf := RB.f
  clear hb5 RB c0 c1 c2 g3
  go_wp2_with fail
  refine bodyPost_ret (v := .agg #[.float .f32 (cn .f32 v0), .float .f32 (cn .f32 v1), .float .f32 (cn .f32 v2)]) (by simp [results, Try.results68, go_sem, r0, r1, r2]) rfl ⟨rfl, ?_⟩
  exact ((B5.setCell (by first | (simp; done) | (simp; omega) | omega) _).setCell (by first | (simp; done) | (simp; omega) | omega) _).setCell (by first | (simp; done) | (simp; omega) | omega) _
set_option maxRecDepth 100000 in
set_option maxHeartbeats 1600000 in
theorem cleaned_any (v0 v1 v2 : Nat) (w : World) :
    Calls Try.prog 159 #[.agg #[.float .f32 v0, .float .f32 v1, .float .f32 v2]] w fun e w' =>
      e = .returned (.agg #[.float .f32 (cn .f32 v0), .float .f32 (cn .f32 v1), .float .f32 (cn .f32 v2)]) ∧ Below w.heap.size w w' := by
  go_enter Try.func159, Try.ntmps159
  go_wp2_with fail
  refine wp_world (fun W hW => ?_)
  have CB : Blk W w.heap.size [.float .f32 v0, .float .f32 v1, .float .f32 v2] := by rw [hW]; exact (Blk.new _ _ _ _ rfl).alloc _
  have RB : Blk W (w.heap.size + 1) [.float .f32 0, .float .f32 0, .float .f32 0] := by rw [hW]; exact Blk.new _ _ _ _ (by simp)
  have BW : Below w.heap.size w W := by rw [hW]; (repeat (first | exact Below.refl _ _ | assumption | (refine Below.setCell ?_ (by first | (simp; done) | (simp; omega) | omega) _) | (refine Below.drew ?_) | (refine below_drewN ?_ _) | (refine Below.alloc ?_ (by first | (simp; done) | (simp; omega) | omega) _) | (refine Below.trans ?_ (Below.mono (by assumption) (by first | (simp; done) | (simp; omega) | omega)))))
  have g0 := CB.c 0 _ rfl; have g1 := CB.c 1 _ rfl; have g2 := CB.c 2 _ rfl
  have lw := CB.lt
  have HR := Lib.hid RB; have HB := Lib.hid BW
  clear hW CB RB BW
  refine wp_region_loose 9 (fun _ args u => u = .float .f32 (cn .f32 (argF args 0))) (by kernel_rfl) (by kernel_rfl) ?_
  simp only [List.take_succ_cons, List.take_zero, List.drop_succ_cons, List.drop_zero]
  iterate 2 (refine loose_wanted rfl (fun K hK => ?_); go_simp; refine hK _ ?_; clear hK K)
  refine loose_wanted rfl (fun K1 hK => ?_)
  go_simp
  refine ⟨fun p => (Clean_any _ _).mono ?_, ?_⟩
  · rintro e w' ⟨rfl, rfl⟩
    exact ⟨_, rfl, by first | rfl | simp, p.h⟩
  refine hK _ ?_
  clear hK K1
  iterate 2 (refine loose_wanted rfl (fun K hK => ?_); go_simp; refine hK _ ?_; clear hK K)
  refine loose_wanted rfl (fun K1 hK => ?_)
  go_simp
  refine ⟨fun p => (Clean_any _ _).mono ?_, ?_⟩
  · rintro e w' ⟨rfl, rfl⟩
    exact ⟨_, rfl, by first | rfl | simp, p.h⟩
  refine hK _ ?_
  clear hK K1
  iterate 2 (refine loose_wanted rfl (fun K hK => ?_); go_simp; refine hK _ ?_; clear hK K)
  refine loose_wanted rfl (fun K1 hK => ?_)
  go_simp
  refine ⟨fun p => (Clean_any _ _).mono ?_, ?_⟩
  · rintro e w' ⟨rfl, rfl⟩
    exact ⟨_, rfl, by first | rfl | simp, p.h⟩
  refine hK _ ?_
  clear hK K1
  refine loose_nil (fun w5 hb5 => ?_)
  have RB := HR.out.past hb5
  have B5 := HB.out.trans (hb5.mono HB.out.size)
  have r0 := RB.c 0 _ rfl; have r1 := RB.c 1 _ rfl; have r2 := RB.c 2 _ rfl; have rf := RB.f
  clear hb5 RB g0 g1 g2
  go_wp2_with fail
  refine bodyPost_ret (v := .agg #[.float .f32 (cn .f32 v0), .float .f32 (cn .f32 v1), .float .f32 (cn .f32 v2)]) (by simp [results, Try.results159, go_sem, r0, r1, r2]) rfl ⟨rfl, ?_⟩
  exact ((B5.setCell (by first | (simp; done) | (simp; omega) | omega) _).setCell (by first | (simp; done) | (simp; omega) | omega) _).setCell (by first | (simp; done) | (simp; omega) | omega) _
end Go.Proofs.Ytalgepfammpmbaa
