/- Tasks of frames: slices.Equal of tasks; the first of four errors. Conditions: what each theorem names. -/
import Derived.Test.YtnicamndlkdcmaaSpD
import Derived.BigQuiet
namespace Go.Proofs.Ytnicamndlkdcmaa
open Go Go.RowKit
set_option maxHeartbeats 4000000 in
theorem eq_task (a b c d f : Int) (w : World) : Sem.run Try.prog (Op.equalIn 10000 69 (.agg #[.int .i64 a, .int .i64 b, .int .i64 c, .int .i64 d, .int .i64 f]) (.agg #[.int .i64 a, .int .i64 b, .int .i64 c, .int .i64 d, .int .i64 f])) w = .ok true w := by
  have h1 := Try.underlying69
  have h2 := Try.underlying3
  have h3 := Try.underlying40
  have g0 : ∀ w, (part 3 #[.int .i64 a, .int .i64 b, .int .i64 c, .int .i64 d, .int .i64 f] 0).run Try.prog w = .ok (.int .i64 a) w := fun _ => by kernel_rfl
  have g1 : ∀ w, (part 40 #[.int .i64 a, .int .i64 b, .int .i64 c, .int .i64 d, .int .i64 f] 1).run Try.prog w = .ok (.agg #[.int .i64 b, .int .i64 c, .int .i64 d, .int .i64 f]) w := fun _ => by kernel_rfl
  have k0 : ∀ w, (part 3 #[.int .i64 b, .int .i64 c, .int .i64 d, .int .i64 f] 0).run Try.prog w = .ok (.int .i64 b) w := fun _ => by kernel_rfl
  have k1 : ∀ w, (part 3 #[.int .i64 b, .int .i64 c, .int .i64 d, .int .i64 f] 1).run Try.prog w = .ok (.int .i64 c) w := fun _ => by kernel_rfl
  have k2 : ∀ w, (part 3 #[.int .i64 b, .int .i64 c, .int .i64 d, .int .i64 f] 2).run Try.prog w = .ok (.int .i64 d) w := fun _ => by kernel_rfl
  have k3 : ∀ w, (part 3 #[.int .i64 b, .int .i64 c, .int .i64 d, .int .i64 f] 3).run Try.prog w = .ok (.int .i64 f) w := fun _ => by kernel_rfl
  rw [show (10000 : Nat) = 9997 + 1 + 1 + 1 from rfl]
  generalize 9997 = d
  simp [Op.equalIn, run_underlying h1, run_underlying h2, run_underlying h3, Sem.run_bind, Sem.run_pure, Result.andThen_ok, g0, g1, k0, k1, k2, k3]
set_option maxRecDepth 100000 in
set_option maxHeartbeats 1600000 in
theorem EqT_yes (b b' n cap cap' : Nat) (f : Nat → List Value) (w : World) (hf : ∀ q, ∃ v0 v1 v2 v3 v4 : Int, f q = [.int .i64 v0, .int .i64 v1, .int .i64 v2, .int .i64 v3, .int .i64 v4]) (hn : n ≤ 65536) (hb : b < w.heap.size) (hb' : b' < w.heap.size)
    (hc : ∀ q j v, q < n → (f q)[j]? = some v → w.cell? ⟨b, 5 * q + j, none⟩ = some v) (hc' : ∀ q j v, q < n → (f q)[j]? = some v → w.cell? ⟨b', 5 * q + j, none⟩ = some v) :
    Calls Try.prog 30 #[.slice (some ⟨b, 0, none⟩) n cap, .slice (some ⟨b', 0, none⟩) n cap'] w fun e w' => e = .returned (.bool true) ∧ Below w.heap.size w w' := by
  have HC := Lib.hid hc; have HC' := Lib.hid hc'; have HF := Lib.hid hf; have HB := Lib.hid (And.intro hb hb')
  clear hc hc' hf hb hb'
  go_enter Try.func30, Try.ntmps30
  go_wp2_with fail
  go_loopw [13] (fun s13 wr => ∃ k : Nat, k ≤ n ∧ s13 = .int .i64 k ∧ Below w.heap.size w wr) (fun s13 _ => n - (intOf s13).toNat)
  case atStart => exact ⟨0, Nat.zero_le _, rfl, Below.refl _ _⟩
  case round =>
    obtain ⟨k, hk, rfl, hB⟩ := hrel
    have HBB := Lib.hid hB
    have hsz := hB.size
    clear hB
    by_cases hkn : k < n
    · obtain ⟨v0, v1, v2, v3, v4, hv⟩ := HF.out k
      have hcc : ∀ j v, (f k)[j]? = some v → wr.cell? ⟨b, k * 5 + j, none⟩ = some v := fun j v hj => by have h := (HBB.out.cell (p := ⟨b, 5 * k + j, none⟩) HB.out.1).trans (HC.out k j v hkn hj); rw [Nat.mul_comm] at h; exact h
      have hcc' : ∀ j v, (f k)[j]? = some v → wr.cell? ⟨b', k * 5 + j, none⟩ = some v := fun j v hj => by have h := (HBB.out.cell (p := ⟨b', 5 * k + j, none⟩) HB.out.2).trans (HC'.out k j v hkn hj); rw [Nat.mul_comm] at h; exact h
      rw [hv] at hcc hcc'
      have c0 := hcc 0 _ rfl; have c1 := hcc 1 _ rfl; have c2 := hcc 2 _ rfl; have c3 := hcc 3 _ rfl; have c4 := hcc 4 _ rfl
      have d0 := hcc' 0 _ rfl; have d1 := hcc' 1 _ rfl; have d2 := hcc' 2 _ rfl; have d3 := hcc' 3 _ rfl; have d4 := hcc' 4 _ rfl
      simp only [Nat.add_zero] at c0 d0
      have bl := cell_lt c0; have dl := cell_lt d0
      simp only at bl dl
      have hkn' : (k : Int) < (n : Int) := by omega
      have eT := eq_task v0 v1 v2 v3 v4
      clear hcc hcc' hv hsz
      go_wp2_with fail
      go_quiet (fail)
      go_wp2_with fail
      go_roundw
      case rel => exact ⟨k + 1, by omega, by go_num, HBB.out.trans ((below_drewN (Below.refl _ _) _).mono HBB.out.size)⟩
      case measure => simp [intOf]; omega
    · have hkk : ¬ (k : Int) < (n : Int) := by omega
      go_wp2_with fail
      go_ret
      exact ⟨rfl, HBB.out⟩
set_option maxHeartbeats 400000 in
/-- Four errors in new memory. -/
theorem First4_any (a b c d : Int) (g : Nat) (w : World) (h0 : w.cell? ⟨g, 0, none⟩ = some (.int .i64 a)) (h1 : w.cell? ⟨g, 1, none⟩ = some (.int .i64 b)) (h2 : w.cell? ⟨g, 2, none⟩ = some (.int .i64 c)) (h3 : w.cell? ⟨g, 3, none⟩ = some (.int .i64 d)) :
    Calls Try.prog 14 #[.slice (some ⟨g, 0, none⟩) 4 4] w fun e w' => e = .returned (.int .i64 (firstE a (firstE b (firstE c d)))) ∧ w = w' := by
  by_cases ha : a = 0
  · subst ha
    by_cases hb : b = 0
    · subst hb
      by_cases hc : c = 0
      · subst hc
        go_enter Try.func14, Try.ntmps14
        go_wp2
        refine wp_loop_rounds 5 ?_
        go_wp2_with (simp only [rounds_succ])
        all_goals (go_ret; refine ⟨ret_i ?_, rfl⟩; unfold firstE; rw [if_pos rfl, if_pos rfl, if_pos rfl]; try simp_all)
      · have hc' : (c != 0) = true := by simpa using hc
        have hc2 := Lib.hid hc; clear hc
        go_enter Try.func14, Try.ntmps14
        go_wp2
        refine wp_loop_rounds 5 ?_
        go_wp2_with (simp only [rounds_succ])
        all_goals (go_ret; refine ⟨ret_i ?_, rfl⟩; unfold firstE; rw [if_pos rfl, if_pos rfl, if_neg hc2.out])
    · have ha' : (b != 0) = true := by simpa using hb
      have ha2 := Lib.hid hb; clear hb
      go_enter Try.func14, Try.ntmps14
      go_wp2
      refine wp_loop_rounds 5 ?_
      go_wp2_with (simp only [rounds_succ])
      all_goals (go_ret; refine ⟨ret_i ?_, rfl⟩; unfold firstE; rw [if_pos rfl, if_neg ha2.out])
  · have ha' : (a != 0) = true := by simpa using ha
    have ha2 := Lib.hid ha; clear ha
    go_enter Try.func14, Try.ntmps14
    go_wp2
    refine wp_loop_rounds 5 ?_
    go_wp2_with (simp only [rounds_succ])
    all_goals (go_ret; refine ⟨ret_i ?_, rfl⟩; unfold firstE; rw [if_neg ha2.out])
theorem First4_new (a b c d : Int) (g : Nat) (t : TypeId) (w : World) (h : w.heap[g]? = some (.cells #[.int .i64 a, .int .i64 b, .int .i64 c, .int .i64 d] t)) :
    Calls Try.prog 14 #[.slice (some ⟨g, 0, none⟩) 4 4] w fun e w' => e = .returned (.int .i64 (firstE a (firstE b (firstE c d)))) ∧ w = w' :=
  First4_any a b c d g w (by simp [World.cell?, h]) (by simp [World.cell?, h]) (by simp [World.cell?, h]) (by simp [World.cell?, h])
/-- The error of Split, but for too many. -/
def spE (F s first last : Int) : Int := firstE F (firstE (whenE (!inB s 1 256) 3) (firstE (whenE (!inB first 0 16777216 || !inB last 0 16777216) 3) (whenE (decide (last < first)) 8)))
theorem inB_cases (n lo hi : Int) : (inB n lo hi = true ∧ lo ≤ n ∧ n ≤ hi) ∨ (inB n lo hi = false ∧ n < lo) ∨ (inB n lo hi = false ∧ lo ≤ n ∧ hi < n) := by
  rcases Int.lt_or_le n lo with h | h
  · exact Or.inr (Or.inl ⟨inB_f (Or.inl h), h⟩)
  · rcases Int.lt_or_le hi n with h2 | h2
    · exact Or.inr (Or.inr ⟨inB_f (Or.inr h2), h, h2⟩)
    · exact Or.inl ⟨inB_t ⟨h, h2⟩, h, h2⟩
end Go.Proofs.Ytnicamndlkdcmaa
