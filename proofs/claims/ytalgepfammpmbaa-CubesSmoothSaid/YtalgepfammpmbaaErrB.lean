/- The first of two or three errors (dyeref2.First). No condition. -/
import Derived.Test.YtalgepfammpmbaaErr
namespace Go.Proofs.Ytalgepfammpmbaa
open Go.RowKit

set_option maxHeartbeats 400000 in
/-- Two errors in new memory. -/
theorem First2_any (a b : Int) (g : Nat) (w : World) (h0 : w.cell? ⟨g, 0, none⟩ = some (.int .i64 a)) (h1 : w.cell? ⟨g, 1, none⟩ = some (.int .i64 b)) :
    Calls Try.prog 19 #[.slice (some ⟨g, 0, none⟩) 2 2] w fun e w' => e = .returned (.int .i64 (firstE a b)) ∧ w = w' := by
  by_cases ha : a = 0
  · subst ha
    go_enter Try.func19, Try.ntmps19
    go_wp2
    refine wp_loop_rounds 3 ?_
    go_wp2_with (simp only [rounds_succ])
    all_goals (go_ret; refine ⟨ret_i ?_, rfl⟩; unfold firstE; rw [if_pos rfl]; try simp_all)
  · have ha' : (a != 0) = true := by simpa using ha
    have ha2 := Lib.hid ha; clear ha
    go_enter Try.func19, Try.ntmps19
    go_wp2
    refine wp_loop_rounds 3 ?_
    go_wp2_with (simp only [rounds_succ])
    all_goals (go_ret; refine ⟨ret_i ?_, rfl⟩; unfold firstE; rw [if_neg ha2.out])
set_option maxHeartbeats 400000 in
/-- Three errors in new memory. -/
theorem First3_any (a b c : Int) (g : Nat) (w : World) (h0 : w.cell? ⟨g, 0, none⟩ = some (.int .i64 a)) (h1 : w.cell? ⟨g, 1, none⟩ = some (.int .i64 b)) (h2 : w.cell? ⟨g, 2, none⟩ = some (.int .i64 c)) :
    Calls Try.prog 19 #[.slice (some ⟨g, 0, none⟩) 3 3] w fun e w' => e = .returned (.int .i64 (firstE a (firstE b c))) ∧ w = w' := by
  by_cases ha : a = 0
  · subst ha
    by_cases hb : b = 0
    · subst hb
      go_enter Try.func19, Try.ntmps19
      go_wp2
      refine wp_loop_rounds 4 ?_
      go_wp2_with (simp only [rounds_succ])
      all_goals (go_ret; refine ⟨ret_i ?_, rfl⟩; unfold firstE; rw [if_pos rfl, if_pos rfl]; try simp_all)
    · have ha' : (b != 0) = true := by simpa using hb
      have ha2 := Lib.hid hb; clear hb
      go_enter Try.func19, Try.ntmps19
      go_wp2
      refine wp_loop_rounds 4 ?_
      go_wp2_with (simp only [rounds_succ])
      all_goals (go_ret; refine ⟨ret_i ?_, rfl⟩; unfold firstE; rw [if_pos rfl, if_neg ha2.out])
  · have ha' : (a != 0) = true := by simpa using ha
    have ha2 := Lib.hid ha; clear ha
    go_enter Try.func19, Try.ntmps19
    go_wp2
    refine wp_loop_rounds 4 ?_
    go_wp2_with (simp only [rounds_succ])
    all_goals (go_ret; refine ⟨ret_i ?_, rfl⟩; unfold firstE; rw [if_neg ha2.out])
theorem heap_new (w : World) (o : Obj) (g : Nat) (hg : g = w.heap.size) : (w.alloc o).heap[g]? = some o := by subst hg; exact heap_alloc_new w o
/-- .. in a block that has just been laid. -/
theorem First2_new (a b : Int) (g : Nat) (t : TypeId) (w : World) (h : w.heap[g]? = some (.cells #[.int .i64 a, .int .i64 b] t)) :
    Calls Try.prog 19 #[.slice (some ⟨g, 0, none⟩) 2 2] w fun e w' => e = .returned (.int .i64 (firstE a b)) ∧ w = w' :=
  First2_any a b g w (by simp [World.cell?, h]) (by simp [World.cell?, h])
theorem First3_new (a b c : Int) (g : Nat) (t : TypeId) (w : World) (h : w.heap[g]? = some (.cells #[.int .i64 a, .int .i64 b, .int .i64 c] t)) :
    Calls Try.prog 19 #[.slice (some ⟨g, 0, none⟩) 3 3] w fun e w' => e = .returned (.int .i64 (firstE a (firstE b c))) ∧ w = w' :=
  First3_any a b c g w (by simp [World.cell?, h]) (by simp [World.cell?, h]) (by simp [World.cell?, h])
end Go.Proofs.Ytalgepfammpmbaa
