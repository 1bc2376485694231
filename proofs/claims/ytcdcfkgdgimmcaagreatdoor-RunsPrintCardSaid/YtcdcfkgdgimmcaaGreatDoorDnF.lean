/- What is done, in the document: the runs of a work; what is refused. Conditions: what each theorem names. -/
import Derived.Test.YtcdcfkgdgimmcaaGreatDoorDnE
import Derived.BigQuiet
namespace Go.Proofs.YtcdcfkgdgimmcaaGreatDoor
open Go Go.RowKit
set_option maxRecDepth 100000 in
set_option maxHeartbeats 1600000 in
theorem EqI_yes (b off b' off' n cap cap' : Nat) (a a' : Option Addr) (f : Nat → Int) (w : World) (ha : 0 < n → a = some ⟨b, off, none⟩) (hc : ∀ i, i < n → w.cell? ⟨b, off + i, none⟩ = some (.int .i64 (f i))) (ha' : 0 < n → a' = some ⟨b', off', none⟩) (hc' : ∀ i, i < n → w.cell? ⟨b', off' + i, none⟩ = some (.int .i64 (f i))) (hn : n ≤ 65536) :
    Calls Tryz.prog 17 #[.slice a n cap, .slice a' n cap'] w fun e w' => e = .returned (.bool true) ∧ Below w.heap.size w w' := by
  have HA := Lib.hid ha; have HC := Lib.hid hc; have HA' := Lib.hid ha'; have HC' := Lib.hid hc'
  have HBW := Lib.hid (fun h => cell_lt (hc 0 h) : 0 < n → b < w.heap.size)
  have HBW' := Lib.hid (fun h => cell_lt (hc' 0 h) : 0 < n → b' < w.heap.size)
  clear ha hc ha' hc'
  go_enter Tryz.func17, Tryz.ntmps17
  go_wp2_with fail
  go_loopw [13] (fun s13 wr => ∃ k : Nat, k ≤ n ∧ s13 = .int .i64 k ∧ Below w.heap.size w wr) (fun s13 _ => n - (intOf s13).toNat)
  case atStart => exact ⟨0, Nat.zero_le _, rfl, Below.refl _ _⟩
  case round =>
    obtain ⟨k, hk, rfl, hB⟩ := hrel
    have HB := Lib.hid hB
    clear hB
    by_cases hkn : k < n
    · obtain rfl := HA.out (by omega)
      obtain rfl := HA'.out (by omega)
      have c0 := (HB.out.cell (p := ⟨b, off + k, none⟩) (HBW.out (by omega))).trans (HC.out k hkn)
      have c1 := (HB.out.cell (p := ⟨b', off' + k, none⟩) (HBW'.out (by omega))).trans (HC'.out k hkn)
      generalize f k = z at *
      have l0 := cell_lt c0; have l1 := cell_lt c1
      simp only at l0 l1
      have hkn' : (k : Int) < (n : Int) := by omega
      go_wp2_with fail
      go_quiet (fail)
      go_wp2_with fail
      go_roundw
      case rel => exact ⟨k + 1, by omega, by go_num, HB.out.trans ((below_drewN (Below.refl _ _) _).mono HB.out.size)⟩
      case measure => simp [intOf]; omega
    · have hkk : ¬ (k : Int) < (n : Int) := by omega
      go_wp2_with fail
      go_ret
      exact ⟨rfl, HB.out⟩
theorem Done_no (a : Option Addr) (n c : Nat) (ks : Nat → Wk) (v2 : Value) (w : World) (h : IsWorks w a n c ks) (hE : wkErr n ks ≠ 0) :
    Calls Tryz.prog 29 #[.slice a n c, v2] w fun e w' => e = .returned (.tuple #[.slice none 0 0, .int .i64 (wkErr n ks)]) ∧ Below w.heap.size w w' := by
  have HC := Lib.hid (CheckWork_any a n c ks w h)
  generalize wkErr n ks = E at *
  have hb : (E != 0) = true := by simpa using hE
  clear h hE
  go_enter Tryz.func29, Tryz.ntmps29
  go_wp2_with fail
  refine (HC.out).mono ?_
  rintro e w1 ⟨rfl, hB⟩
  have HB := Lib.hid hB
  clear hB
  go_wp2_with fail
  go_ret2
  exact ⟨rfl, HB.out⟩
theorem dnB_of {rs : Nat → RunV} {m k i : Nat} (hk : k < m) (h1 : (rs k).wk.toNat = i) (h2 : (rs k).fl = false) : dnB rs m i = true := by
  induction m with
  | zero => omega
  | succ m ih =>
    unfold dnB
    rcases Nat.lt_or_ge k m with h | h
    · have := ih h
      simp [this]
    · have : k = m := by omega
      subst this
      simp [h1, h2]
end Go.Proofs.YtcdcfkgdgimmcaaGreatDoor
