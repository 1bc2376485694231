/- Whether work is right: slices.Contains of integers, farm.CheckWork. Conditions: what each theorem names. -/
import Derived.Test.YtcdcfkgdgimmcaaDoorOpW
import Derived.Test.YtcdcfkgdgimmcaaDoorBG
namespace Go.Proofs.YtcdcfkgdgimmcaaDoor
open Go Go.RowKit
/-- Whether z is among the first n. -/
def hasZ (zs : Nat → Int) (z : Int) : Nat → Bool
  | 0 => false
  | n + 1 => hasZ zs z n || (zs n == z)
theorem hasZ_of {zs : Nat → Int} {z : Int} {n j : Nat} (hj : j < n) (h : zs j = z) : hasZ zs z n = true := by
  induction n with
  | zero => omega
  | succ n ih =>
    unfold hasZ
    rcases Nat.lt_or_ge j n with h1 | h1
    · rw [ih h1]; rfl
    · have : j = n := by omega
      subst this
      simp [h]
/-- The first of f 0 .. f (n - 1) that is not 0. -/
def firstN (f : Nat → Int) : Nat → Int
  | 0 => 0
  | n + 1 => if firstN f n = 0 then f n else firstN f n
theorem firstN_of {f : Nat → Int} {k n : Nat} (h0 : firstN f k = 0) (hk : f k ≠ 0) (hkn : k < n) : firstN f n = f k := by
  induction n with
  | zero => omega
  | succ n ih =>
    unfold firstN
    rcases Nat.lt_or_ge k n with h1 | h1
    · rw [ih h1, if_neg hk]
    · have : k = n := by omega
      subst this
      rw [if_pos h0]
theorem firstN_succ {f : Nat → Int} {k : Nat} (h0 : firstN f k = 0) (hk : f k = 0) : firstN f (k + 1) = 0 := by
  unfold firstN; rw [if_pos h0, hk]
/-- What is wrong with what work i comes after, at place k. -/
def afE (i : Nat) (zs : Nat → Int) (k : Nat) : Int := if zs k < 0 ∨ (i : Int) ≤ zs k then 11 else if hasZ zs (zs k) k = true then 7 else 0
/-- What is wrong with work i. -/
def wkE (i : Nat) (k : Wk) : Int := if k.cost < 1 ∨ 1000000 < k.cost ∨ k.rank < 0 ∨ 100 < k.rank then 3 else if 20 < k.an then 4 else firstN (afE i k.az) k.an
/-- What is wrong with work. -/
def wkErr (n : Nat) (ks : Nat → Wk) : Int := if 2000 < n then 4 else firstN (fun i => wkE i (ks i)) n
theorem InI.below {w w' : World} {a : Option Addr} {n c : Nat} {zs : Nat → Int} (h : InI w a n c zs) (hb : Below w.heap.size w w') : InI w' a n c zs := by
  refine ⟨h.1, h.2.1, fun h0 => ?_⟩
  obtain ⟨b, off, h1, h2⟩ := h.2.2 h0
  refine ⟨b, off, h1, fun j hj => ?_⟩
  obtain ⟨g1, g2⟩ := h2 j hj
  exact ⟨(hb.cell (p := ⟨b, off + j, none⟩) (cell_lt g1)).trans g1, g2⟩
theorem WkAt.below {w w' : World} {b o : Nat} {k : Wk} (h : WkAt w b o k) (hb : Below w.heap.size w w') : WkAt w' b o k := by
  obtain ⟨h1, h2, h3, h4, h5, h6⟩ := h
  exact ⟨(hb.cell (p := ⟨b, o, none⟩) (cell_lt h1)).trans h1, (hb.cell (p := ⟨b, o + 1, none⟩) (cell_lt h2)).trans h2, (hb.cell (p := ⟨b, o + 2, none⟩) (cell_lt h3)).trans h3, h4, h5, h6.below hb⟩
theorem IsWorks.below {w w' : World} {a : Option Addr} {n c : Nat} {ks : Nat → Wk} (h : IsWorks w a n c ks) (hb : Below w.heap.size w w') : IsWorks w' a n c ks := by
  refine ⟨h.1, h.2.1, fun h0 => ?_⟩
  obtain ⟨b, off, h1, h2⟩ := h.2.2 h0
  exact ⟨b, off, h1, fun i hi => (h2 i hi).below hb⟩
theorem RunAt.below {w w' : World} {b o : Nat} {k : RunV} (h : RunAt w b o k) (hb : Below w.heap.size w w') : RunAt w' b o k := by
  obtain ⟨h1, h2, h3, h4, h5, h6⟩ := h
  exact ⟨(hb.cell (p := ⟨b, o, none⟩) (cell_lt h1)).trans h1, (hb.cell (p := ⟨b, o + 1, none⟩) (cell_lt h2)).trans h2, (hb.cell (p := ⟨b, o + 2, none⟩) (cell_lt h3)).trans h3, (hb.cell (p := ⟨b, o + 3, none⟩) (cell_lt h4)).trans h4, (hb.cell (p := ⟨b, o + 4, none⟩) (cell_lt h5)).trans h5, h6⟩
theorem IsRuns.below {w w' : World} {a : Option Addr} {n c : Nat} {ks : Nat → RunV} (h : IsRuns w a n c ks) (hb : Below w.heap.size w w') : IsRuns w' a n c ks := by
  refine ⟨h.1, h.2.1, fun h0 => ?_⟩
  obtain ⟨b, off, h1, h2⟩ := h.2.2 h0
  exact ⟨b, off, h1, fun i hi => (h2 i hi).below hb⟩
theorem IndexI_any (a : Option Addr) (n c : Nat) (zs : Nat → Int) (z : Int) (w : World) (hn : n ≤ 65536) (h : InI w a n c zs) :
    Calls Tryd.prog 145 #[.slice a n c, .int .i64 z] w fun e w' => (∃ r : Int, e = .returned (.int .i64 r) ∧ (0 ≤ r ↔ hasZ zs z n = true)) ∧ w' = w := by
  have HH := Lib.hid h
  clear h
  go_enter Tryd.func145, Tryd.ntmps145
  go_wp2_with fail
  go_loopw [8] (fun s8 wr => ∃ k : Nat, k ≤ n ∧ s8 = .int .i64 k ∧ hasZ zs z k = false ∧ wr = w) (fun s8 _ => n - (intOf s8).toNat)
  case atStart => exact ⟨0, Nat.zero_le _, rfl, rfl, rfl⟩
  case round =>
    obtain ⟨k, hk, rfl, hz, rfl⟩ := hrel
    have HZ := Lib.hid hz
    clear hz
    by_cases hkn : k < n
    · obtain ⟨b, off, rfl, hc⟩ := HH.out.2.2 (by omega)
      have c0 := (hc k hkn).1
      obtain ⟨u, hu⟩ : ∃ u, u = zs k := ⟨_, rfl⟩
      rw [← hu] at c0
      have HU := Lib.hid hu
      have l0 := cell_lt c0; simp only at l0
      have hkn' : (k : Int) < (n : Int) := by omega
      clear hc hu
      by_cases he : z = u
      · have HT := Lib.hid (hasZ_of (zs := zs) (z := z) hkn (by rw [← HU.out, he]))
        have heb : (z == u) = true := by simpa using he
        go_wp2_with fail
        go_ret
        exact ⟨⟨_, rfl, by simp [HT.out]⟩, rfl⟩
      · have heb : (z == u) = false := by simpa using he
        have HT := Lib.hid (show hasZ zs z (k + 1) = false by unfold hasZ; rw [HZ.out, ← HU.out]; simp; exact fun h => he h.symm)
        go_wp2_with fail
        go_roundw
        case rel => exact ⟨k + 1, by omega, by go_num, HT.out, by trivial⟩
        case measure => simp [intOf]; omega
    · have hkk : ¬ (k : Int) < (n : Int) := by omega
      have hke : k = n := by omega
      go_wp2_with fail
      go_ret
      refine ⟨⟨_, rfl, ?_⟩, rfl⟩
      rw [← hke, HZ.out]
      simp
theorem ContainsI_any (a : Option Addr) (n c : Nat) (zs : Nat → Int) (z : Int) (w : World) (hn : n ≤ 65536) (h : InI w a n c zs) :
    Calls Tryd.prog 115 #[.slice a n c, .int .i64 z] w fun e w' => e = .returned (.bool (hasZ zs z n)) ∧ w' = w := by
  go_enter Tryd.func115, Tryd.ntmps115
  go_wp2_with fail
  refine (IndexI_any a n c zs z w hn h).mono ?_
  rintro e w' ⟨⟨r, rfl, hr⟩, rfl⟩
  cases hz : hasZ zs z n
  · rw [hz] at hr
    have HZ := Lib.hid hz
    clear hz
    have hr' : ¬ 0 ≤ r := fun h => by have := hr.1 h; cases this
    go_wp2_with fail
    go_ret
    exact ⟨by first | (simp; done) | (rw [HZ.out]; simp), rfl⟩
  · rw [hz] at hr
    have HZ := Lib.hid hz
    clear hz
    have hr' : 0 ≤ r := hr.2 rfl
    go_wp2_with fail
    go_ret
    exact ⟨by first | (simp; done) | (rw [HZ.out]; simp), rfl⟩
end Go.Proofs.YtcdcfkgdgimmcaaDoor
