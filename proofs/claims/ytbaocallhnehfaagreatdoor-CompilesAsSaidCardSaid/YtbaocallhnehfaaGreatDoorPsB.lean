/- slices.Equal of integers and slices.EqualFunc of singles, decided. Conditions: the rows can be read. -/
import Derived.Test.YtbaocallhnehfaaGreatDoorPsA
import Derived.Test.YtbaocallhnehfaaGreatDoorBD
import Derived.BigQuiet
set_option linter.unusedSimpArgs false
set_option linter.unusedVariables false
namespace Go.Proofs.YtbaocallhnehfaaGreatDoor
open Go Go.RowKit
theorem IntsAt.at {B : Nat} {w : World} {a : Option Addr} {l : List Int} (h : IntsAt B w a l) {k : Nat} (hk : k < l.length) : ∃ b off, a = some ⟨b, off, none⟩ ∧ w.cell? ⟨b, off + k, none⟩ = some (.int .i64 (l.getD k 0)) := by
  rcases h with rfl | ⟨b, off, h1, -, -, h2⟩
  · simp at hk
  · exact ⟨b, off, h1, h2 k _ (by rw [List.getD_eq_getElem?_getD, List.getElem?_eq_getElem hk]; rfl)⟩
theorem RealsAt.at {B : Nat} {w : World} {a : Option Addr} {l : List Nat} (h : RealsAt B w a l) {k : Nat} (hk : k < l.length) : ∃ b off, a = some ⟨b, off, none⟩ ∧ w.cell? ⟨b, off + k, none⟩ = some (.float .f32 (l.getD k 0)) := by
  rcases h with rfl | ⟨b, off, h1, -, -, h2⟩
  · simp at hk
  · exact ⟨b, off, h1, h2 k _ (by rw [List.getD_eq_getElem?_getD, List.getElem?_eq_getElem hk]; rfl)⟩
theorem list_getD {α : Type} {d : α} {l m : List α} (h : l.length = m.length) (g : ∀ k, k < l.length → l.getD k d = m.getD k d) : l = m := by
  refine List.ext_getElem h (fun i h1 h2 => ?_)
  have := g i h1
  rw [List.getD_eq_getElem?_getD, List.getD_eq_getElem?_getD, List.getElem?_eq_getElem h1, List.getElem?_eq_getElem h2] at this
  exact this
theorem map_getD {f : Nat → Nat} (l : List Nat) {k : Nat} (hk : k < l.length) : (l.map f).getD k 0 = f (l.getD k 0) := by
  rw [List.getD_eq_getElem?_getD, List.getD_eq_getElem?_getD, List.getElem?_map, List.getElem?_eq_getElem hk]; rfl
set_option maxRecDepth 100000 in
set_option maxHeartbeats 1600000 in
theorem eqI_dec (l m : List Int) (cap cap' : Nat) (a a' : Option Addr) (w : World) (hl : l.length ≤ 65536) (hm : m.length ≤ 65536) (hcl : l.length ≤ cap ∧ cap ≤ maxLen) (hcm : m.length ≤ cap' ∧ cap' ≤ maxLen) (ha : IntsAt 0 w a l) (ha' : IntsAt 0 w a' m) :
    Calls Tryz.prog 10 #[.slice a l.length cap, .slice a' m.length cap'] w fun e w' => e = .returned (.bool (decide (l = m))) ∧ Below w.heap.size w w' := by
  have HR1 : Hid (l.length ≠ m.length → decide (l = m) = false) := Lib.hid (fun h => decide_eq_false (fun e => h (by rw [e])))
  have HR2 : Hid (∀ k, l.getD k 0 ≠ m.getD k 0 → decide (l = m) = false) := Lib.hid (fun k h => decide_eq_false (fun e => h (by rw [e])))
  have HR3 : Hid (l.length = m.length → (∀ k, k < l.length → l.getD k 0 = m.getD k 0) → decide (l = m) = true) := Lib.hid (fun h g => decide_eq_true (list_getD h g))
  obtain ⟨R, hR⟩ : ∃ R, R = decide (l = m) := ⟨_, rfl⟩
  rw [← hR] at HR1 HR2 HR3
  rw [← hR]
  have HA := Lib.hid ha; have HA' := Lib.hid ha'
  have c1 : l.length ≤ cap := hcl.1
  have c2 : cap ≤ 9223372036854775807 := by have := hcl.2; unfold maxLen at this; omega
  have c3 : m.length ≤ cap' := hcm.1
  have c4 : cap' ≤ 9223372036854775807 := by have := hcm.2; unfold maxLen at this; omega
  clear ha ha' hcl hcm hR
  by_cases hn : l.length = m.length
  · obtain ⟨n, hnn⟩ : ∃ n, n = l.length := ⟨_, rfl⟩
    have hnm : m.length = n := by rw [hnn, hn]
    have HN := Lib.hid (And.intro hnn hnm)
    rw [← hnn] at c1 HR3
    rw [hnm] at c3 HR3
    rw [← hnn, hnm]
    clear hnn hnm hn HR1
    go_enter Tryz.func10, Tryz.ntmps10
    go_wp2_with fail
    go_loopw [13] (fun s13 wr => ∃ k : Nat, k ≤ n ∧ s13 = .int .i64 k ∧ Below w.heap.size w wr ∧ ∀ i, i < k → l.getD i 0 = m.getD i 0) (fun s13 _ => n - (intOf s13).toNat)
    case atStart => exact ⟨0, Nat.zero_le _, rfl, Below.refl _ _, fun i hi => absurd hi (Nat.not_lt_zero _)⟩
    case round =>
      obtain ⟨k, hk, rfl, hB, hE⟩ := hrel
      have HB := Lib.hid (And.intro hB hE)
      clear hB hE
      by_cases hkn : k < n
      · obtain ⟨b, off, rfl, c0⟩ := (HA.out.past HB.out.1).at (k := k) (by rw [← HN.out.1]; exact hkn)
        obtain ⟨b', off', rfl, c1'⟩ := (HA'.out.past HB.out.1).at (k := k) (by rw [HN.out.2]; exact hkn)
        have HZ2 := Lib.hid (HR2.out k)
        have HZ : Hid (l.getD k 0 = m.getD k 0 → ∀ i, i < k + 1 → l.getD i 0 = m.getD i 0) := Lib.hid (fun h i hi => by
          by_cases e : i < k
          · exact HB.out.2 i e
          · obtain rfl : i = k := by omega
            exact h)
        obtain ⟨x, hx⟩ : ∃ x, x = l.getD k 0 := ⟨_, rfl⟩
        obtain ⟨y, hy⟩ : ∃ y, y = m.getD k 0 := ⟨_, rfl⟩
        have l0 := cell_lt c0; have l1 := cell_lt c1'
        simp only at l0 l1
        rw [← hx, ← hy] at HZ HZ2
        rw [← hx] at c0
        rw [← hy] at c1'
        have hkn' : (k : Int) < (n : Int) := by omega
        have hW := HB.out.1.size
        clear hx hy
        by_cases he : x = y
        · subst he
          go_wp2_with fail
          go_quiet (fail)
          go_wp2_with fail
          go_roundw
          case rel => exact ⟨k + 1, by omega, by go_num, HB.out.1.trans ((below_drewN (Below.refl _ _) _).mono HB.out.1.size), HZ.out (by first | rfl | trivial)⟩
          case measure => simp [intOf]; omega
        · have he2 : (x != y) = true := bne_iff_ne.2 he
          go_wp2_with fail
          go_quiet (fail)
          go_wp2_with fail
          go_ret
          rw [HZ2.out he]
          exact ⟨rfl, HB.out.1.trans ((below_drewN (Below.refl _ _) _).mono HB.out.1.size)⟩
      · have hkk : ¬ (k : Int) < (n : Int) := by omega
        go_wp2_with fail
        go_ret
        rw [HR3.out (by first | rfl | trivial) (fun i hi => HB.out.2 i (by omega))]
        exact ⟨rfl, HB.out.1⟩
  · have hr := HR1.out hn
    subst hr
    have hni : ¬ (l.length : Int) = (m.length : Int) := by omega
    have hni2 : ((l.length : Int) != (m.length : Int)) = true := bne_iff_ne.2 hni
    go_enter Tryz.func10, Tryz.ntmps10
    go_wp2_with fail
    go_ret
    exact ⟨rfl, Below.refl _ _⟩
set_option maxRecDepth 100000 in
set_option maxHeartbeats 1600000 in
theorem eqR_dec (l m : List Nat) (cap cap' : Nat) (a a' : Option Addr) (w : World) (hl : l.length ≤ 65536) (hm : m.length ≤ 65536) (hcl : l.length ≤ cap ∧ cap ≤ maxLen) (hcm : m.length ≤ cap' ∧ cap' ≤ maxLen) (ha : RealsAt 0 w a l) (ha' : RealsAt 0 w a' m) :
    Calls Tryz.prog 11 #[.slice a l.length cap, .slice a' m.length cap', .func (.func 12) #[] #[]] w fun e w' => e = .returned (.bool (decide (l.map (cn .f32) = m.map (cn .f32)))) ∧ Below w.heap.size w w' := by
  have HR1 : Hid (l.length ≠ m.length → decide (l.map (cn .f32) = m.map (cn .f32)) = false) := Lib.hid (fun h => decide_eq_false (fun e => h (by have := congrArg List.length e; simpa using this)))
  have HR2 : Hid (∀ k, k < l.length → l.length = m.length → cn .f32 (l.getD k 0) ≠ cn .f32 (m.getD k 0) → decide (l.map (cn .f32) = m.map (cn .f32)) = false) := Lib.hid (fun k hk hlm h => decide_eq_false (fun e => h (by
    have e2 := congrArg (fun q => List.getD q k 0) e
    rw [map_getD l hk, map_getD m (by omega)] at e2
    exact e2)))
  have HR3 : Hid (l.length = m.length → (∀ k, k < l.length → cn .f32 (l.getD k 0) = cn .f32 (m.getD k 0)) → decide (l.map (cn .f32) = m.map (cn .f32)) = true) := Lib.hid (fun h g => decide_eq_true (list_getD (d := 0) (by simp [h]) (fun k hk => by rw [List.length_map] at hk; rw [map_getD l hk, map_getD m (by omega)]; exact g k hk)))
  obtain ⟨R, hR⟩ : ∃ R, R = decide (l.map (cn .f32) = m.map (cn .f32)) := ⟨_, rfl⟩
  rw [← hR] at HR1 HR2 HR3
  rw [← hR]
  have HA := Lib.hid ha; have HA' := Lib.hid ha'
  have c1 : l.length ≤ cap := hcl.1
  have c2 : cap ≤ 9223372036854775807 := by have := hcl.2; unfold maxLen at this; omega
  have c3 : m.length ≤ cap' := hcm.1
  have c4 : cap' ≤ 9223372036854775807 := by have := hcm.2; unfold maxLen at this; omega
  clear ha ha' hcl hcm hR
  by_cases hn : l.length = m.length
  · obtain ⟨n, hnn⟩ : ∃ n, n = l.length := ⟨_, rfl⟩
    have hnm : m.length = n := by rw [hnn, hn]
    have HN := Lib.hid (And.intro hnn hnm)
    rw [← hnn] at c1 HR3 HR2
    rw [hnm] at c3 HR3 HR2
    rw [← hnn, hnm]
    clear hnn hnm hn HR1
    go_enter Tryz.func11, Tryz.ntmps11
    go_wp2_with fail
    go_loopw [17] (fun s wr => ∃ k : Nat, k ≤ n ∧ s = .int .i64 k ∧ Below w.heap.size w wr ∧ ∀ i, i < k → cn .f32 (l.getD i 0) = cn .f32 (m.getD i 0)) (fun s _ => n - (intOf s).toNat)
    case atStart => exact ⟨0, Nat.zero_le _, rfl, Below.refl _ _, fun i hi => absurd hi (Nat.not_lt_zero _)⟩
    case round =>
      obtain ⟨k, hk, rfl, hB, hE⟩ := hrel
      have HB := Lib.hid (And.intro hB hE)
      clear hB hE
      by_cases hkn : k < n
      · obtain ⟨b, off, rfl, c0⟩ := (HA.out.past HB.out.1).at (k := k) (by rw [← HN.out.1]; exact hkn)
        obtain ⟨b', off', rfl, c1'⟩ := (HA'.out.past HB.out.1).at (k := k) (by rw [HN.out.2]; exact hkn)
        have HZ2 := Lib.hid (HR2.out k hkn (by first | rfl | trivial))
        have HZ : Hid (cn .f32 (l.getD k 0) = cn .f32 (m.getD k 0) → ∀ i, i < k + 1 → cn .f32 (l.getD i 0) = cn .f32 (m.getD i 0)) := Lib.hid (fun h i hi => by
          by_cases e : i < k
          · exact HB.out.2 i e
          · obtain rfl : i = k := by omega
            exact h)
        obtain ⟨x, hx⟩ : ∃ x, x = l.getD k 0 := ⟨_, rfl⟩
        obtain ⟨y, hy⟩ : ∃ y, y = m.getD k 0 := ⟨_, rfl⟩
        have l0 := cell_lt c0; have l1 := cell_lt c1'
        simp only at l0 l1
        rw [← hx, ← hy] at HZ HZ2
        rw [← hx] at c0
        rw [← hy] at c1'
        have hkn' : (k : Int) < (n : Int) := by omega
        clear hx hy
        by_cases he : cn .f32 x = cn .f32 y
        · have hd : decide (cn .f32 x = cn .f32 y) = true := decide_eq_true he
          have HZ3 := Lib.hid (HZ.out he)
          clear he HZ HZ2
          go_wp2_with (go_at_call 12; refine (Bit_any _ _ _).mono ?_; rintro e w' ⟨rfl, rfl⟩; rw [hd])
          go_roundw
          case rel => exact ⟨k + 1, by omega, by go_num, HB.out.1, HZ3.out⟩
          case measure => simp [intOf]; omega
        · have hd : decide (cn .f32 x = cn .f32 y) = false := decide_eq_false he
          have HZ3 := Lib.hid (HZ2.out he)
          clear he HZ HZ2
          go_wp2_with (go_at_call 12; refine (Bit_any _ _ _).mono ?_; rintro e w' ⟨rfl, rfl⟩; rw [hd])
          go_ret
          rw [HZ3.out]
          exact ⟨rfl, HB.out.1⟩
      · have hkk : ¬ (k : Int) < (n : Int) := by omega
        go_wp2_with fail
        go_ret
        rw [HR3.out (by first | rfl | trivial) (fun i hi => HB.out.2 i (by omega))]
        exact ⟨rfl, HB.out.1⟩
  · have hr := HR1.out hn
    subst hr
    have hni : ¬ (l.length : Int) = (m.length : Int) := by omega
    have hni2 : ((l.length : Int) != (m.length : Int)) = true := bne_iff_ne.2 hni
    go_enter Tryz.func11, Tryz.ntmps11
    go_wp2_with fail
    go_ret
    exact ⟨rfl, Below.refl _ _⟩
end Go.Proofs.YtbaocallhnehfaaGreatDoor
