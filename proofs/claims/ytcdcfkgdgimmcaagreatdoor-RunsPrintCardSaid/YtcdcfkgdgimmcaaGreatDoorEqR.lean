/- slices.Equal of two rows of the same runs. Conditions: what each theorem names. -/
import Derived.Test.YtcdcfkgdgimmcaaGreatDoorRnA
import Derived.BigQuiet
import Derived.Deep.QuietTactic
namespace Go.Proofs.YtcdcfkgdgimmcaaGreatDoor
open Go Go.RowKit
set_option maxHeartbeats 4000000 in
theorem eq_run (a b c d : Int) (f : Bool) (w : World) : Sem.run Tryz.prog (Op.equalIn 10000 34 (.agg #[.int .i64 a, .int .i64 b, .int .i64 c, .int .i64 d, .bool f]) (.agg #[.int .i64 a, .int .i64 b, .int .i64 c, .int .i64 d, .bool f])) w = .ok true w := by
  have h1 := Tryz.underlying34
  have h2 := Tryz.underlying3
  have h3 := Tryz.underlying4
  have k0 : ∀ w, (part 3 #[.int .i64 a, .int .i64 b, .int .i64 c, .int .i64 d, .bool f] 0).run Tryz.prog w = .ok (.int .i64 a) w := fun _ => by kernel_rfl
  have k1 : ∀ w, (part 3 #[.int .i64 a, .int .i64 b, .int .i64 c, .int .i64 d, .bool f] 1).run Tryz.prog w = .ok (.int .i64 b) w := fun _ => by kernel_rfl
  have k2 : ∀ w, (part 3 #[.int .i64 a, .int .i64 b, .int .i64 c, .int .i64 d, .bool f] 2).run Tryz.prog w = .ok (.int .i64 c) w := fun _ => by kernel_rfl
  have k3 : ∀ w, (part 3 #[.int .i64 a, .int .i64 b, .int .i64 c, .int .i64 d, .bool f] 3).run Tryz.prog w = .ok (.int .i64 d) w := fun _ => by kernel_rfl
  have k4 : ∀ w, (part 4 #[.int .i64 a, .int .i64 b, .int .i64 c, .int .i64 d, .bool f] 4).run Tryz.prog w = .ok (.bool f) w := fun _ => by kernel_rfl
  rw [show (10000 : Nat) = 9997 + 1 + 1 + 1 from rfl]
  generalize 9997 = e
  simp [Op.equalIn, run_underlying h1, run_underlying h2, run_underlying h3, Sem.run_bind, Sem.run_pure, Result.andThen_ok, k0, k1, k2, k3, k4]
set_option maxRecDepth 100000 in
set_option maxHeartbeats 3200000 in
theorem EqRn_yes (a a' : Option Addr) (cap cap' : Nat) (rs : List Ru) (w : World) (hn : rs.length ≤ 65536) (h1 : RnsIn w a rs) (h2 : RnsIn w a' rs) :
    Calls Tryz.prog 9 #[.slice a rs.length cap, .slice a' rs.length cap'] w fun e w' => e = .returned (.bool true) ∧ Below w.heap.size w w' := by
  have H1 := Lib.hid h1; have H2 := Lib.hid h2
  obtain ⟨n, hnn⟩ : ∃ n, n = rs.length := ⟨_, rfl⟩
  rw [← hnn] at hn ⊢
  have HN := Lib.hid hnn
  clear h1 h2 hnn
  go_enter Tryz.func9, Tryz.ntmps9
  go_wp2_with fail
  go_loopw [13] (fun s13 wr => ∃ k : Nat, k ≤ n ∧ s13 = .int .i64 k ∧ Below w.heap.size w wr) (fun s13 _ => n - (intOf s13).toNat)
  case atStart => exact ⟨0, Nat.zero_le _, rfl, Below.refl _ _⟩
  case round =>
    obtain ⟨k, hk, rfl, hB⟩ := hrel
    have HBB := Lib.hid hB
    have hsz := hB.size
    clear hB
    by_cases hkn : k < n
    · have hkl : k < rs.length := by have := HN.out; omega
      obtain ⟨b, off, rfl, hc⟩ := H1.out (by omega)
      obtain ⟨b', off', rfl, hc'⟩ := H2.out (by omega)
      have hw := (hc k hkl).past HBB.out
      have hw' := (hc' k hkl).past HBB.out
      obtain ⟨K, hK⟩ : ∃ K, K = rs[k] := ⟨_, rfl⟩
      rw [← hK] at hw hw'
      obtain ⟨v0, v1, v2, v3, v4⟩ := K
      clear hK hc hc'
      obtain ⟨c0, c1, c2, c3, c4⟩ := hw
      obtain ⟨d0, d1, d2, d3, d4⟩ := hw'
      simp only at c0 c1 c2 c3 c4 d0 d1 d2 d3 d4
      have bl := cell_lt c0; have dl := cell_lt d0
      simp only at bl dl
      have hkn' : (k : Int) < (n : Int) := by omega
      have eT := eq_run v0 v1 v2 v3 v4
      clear hsz
      go_wp2_with fail
      go_quiet (fail)
      go_wp2_with fail
      go_roundw
      case rel => exact ⟨k + 1, by omega, by go_num, HBB.out.trans ((below_drewN (Below.refl _ _) _).mono HBB.out.size)⟩
      case measure => simp [intOf]; omega
    · have hkk : ¬ (k : Int) < (n : Int) := by omega
      go_wp2_with fail
      go_ret
      exact ⟨rfl, HBB.out⟩
end Go.Proofs.YtcdcfkgdgimmcaaGreatDoor
