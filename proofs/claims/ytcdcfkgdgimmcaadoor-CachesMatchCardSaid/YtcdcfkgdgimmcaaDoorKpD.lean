/- slices.Index of a name, slices.Equal of names, slices.Clone of names and of singles. Conditions: what each theorem names. -/
import Derived.Test.YtcdcfkgdgimmcaaDoorKpB
import Derived.Lib.SliceRun
import Derived.Lib.SlicesS
namespace Go.Proofs.YtcdcfkgdgimmcaaDoor
open Go Go.RowKit
theorem nm_at {w : World} {v : Value} {L : List Kp} (h : RowV w 1 v L.length (L.flatMap nmC)) {k : Nat} {x : Kp} (hk : L[k]? = some x) : ∃ b off cap, v = .slice (some ⟨b, off, none⟩) L.length cap ∧ L.length ≤ cap ∧ cap ≤ maxLen ∧ w.cell? ⟨b, off + k, none⟩ = some (.string x.nm) := by
  obtain ⟨h0, ao, cap, rfl, h1, h2, ⟨rfl, h3⟩ | ⟨b, off, rfl, hl, hc, hf⟩⟩ := h
  · have := (List.getElem?_eq_some_iff.1 hk).1
    omega
  · refine ⟨b, off, cap, rfl, h1, h2, hc k _ ?_⟩
    have := flat_get nmC 1 nmC_len hk (j := 0) (by omega)
    rw [Nat.mul_one, Nat.add_zero] at this
    rw [this]; rfl
/-- Where a name stands, as the program tells it. -/
def posI (nm : ByteArray) (L : List Kp) : Int := if posK nm L < L.length then (posK nm L : Int) else -1
theorem posI_hit {nm : ByteArray} {L : List Kp} {k : Nat} {x : Kp} (hk : L[k]? = some x) (he : x.nm = nm) (hb : ∀ j k', j < k → L[j]? = some k' → k'.nm ≠ nm) : posI nm L = k := by
  have := posK_at hk he hb
  have hl := (List.getElem?_eq_some_iff.1 hk).1
  unfold posI; rw [this, if_pos hl]
theorem posI_miss {nm : ByteArray} {L : List Kp} (hb : ∀ j k', j < L.length → L[j]? = some k' → k'.nm ≠ nm) : posI nm L = -1 := by
  unfold posI
  rw [if_neg]
  intro hl
  obtain ⟨k, h1, h2⟩ := posK_hit hl
  exact hb _ _ hl h1 h2
set_option maxRecDepth 100000 in
set_option maxHeartbeats 1600000 in
theorem idx_any (v : Value) (L : List Kp) (nm : ByteArray) (w : World) (h : RowV w 1 v L.length (L.flatMap nmC)) :
    Calls Tryd.prog 95 #[v, .string nm] w fun e w' => e = .returned (.int .i64 (posI nm L)) ∧ w' = w := by
  have HR := Lib.hid h
  obtain ⟨-, ao, cap, rfl, hn, hm, -⟩ := h
  obtain ⟨n, hnn⟩ : ∃ n, n = L.length := ⟨_, rfl⟩
  rw [← hnn] at hn ⊢
  have HN := Lib.hid hnn
  have hcb : cap ≤ 9223372036854775807 := by unfold maxLen at hm; omega
  clear hnn hm
  go_enter Tryd.func95, Tryd.ntmps95
  go_wp2_with fail
  go_loopw [8] (fun s8 wr => ∃ k : Nat, k ≤ n ∧ s8 = .int .i64 k ∧ wr = w ∧ ∀ j k', j < k → L[j]? = some k' → k'.nm ≠ nm) (fun s8 _ => n - (intOf s8).toNat)
  case atStart => exact ⟨0, Nat.zero_le _, rfl, rfl, fun j k' hj => absurd hj (Nat.not_lt_zero _)⟩
  case round =>
    obtain ⟨k, hk, rfl, rfl, hne⟩ := hrel
    have HNE := Lib.hid hne
    clear hne
    by_cases hkn : k < n
    · obtain ⟨x, hx⟩ : ∃ x, L[k]? = some x := ⟨_, List.getElem?_eq_getElem (by have := HN.out; omega)⟩
      obtain ⟨b, off, cap', e, -, -, hc⟩ := nm_at HR.out hx
      injection e with e1 e2 e3
      subst e1; subst e3
      clear e2
      have hcl := cell_lt hc; simp only at hcl
      have HX := Lib.hid hx
      clear hx
      by_cases he : x.nm = nm
      · have hq : (nm.toList == x.nm.toList) = true := (Lib.bytes_beq_iff _ _).2 he.symm
        have HE := Lib.hid (posI_hit HX.out he HNE.out)
        clear he
        go_wp2_with fail
        go_ret
        exact ⟨by rw [HE.out]; rfl, rfl⟩
      · have hq : (nm.toList == x.nm.toList) = false := (Lib.bytes_beq_false_iff _ _).2 (fun h => he h.symm)
        have HE := Lib.hid he
        clear he
        go_wp2_with fail
        go_roundw
        case rel =>
          refine ⟨k + 1, by omega, by go_num, by trivial, fun j k' hj hk' => ?_⟩
          by_cases ej : j = k
          · subst ej; rw [HX.out] at hk'; cases hk'; exact HE.out
          · exact HNE.out j k' (by omega) hk'
        case measure => simp [intOf]; omega
    · have hke : k = n := by omega
      subst hke
      have HE := Lib.hid (posI_miss (nm := nm) (L := L) (fun j k' hj => HNE.out j k' (by have := HN.out; omega)))
      go_wp2_with fail
      go_ret
      exact ⟨by rw [HE.out]; rfl, rfl⟩
set_option maxRecDepth 100000 in
set_option maxHeartbeats 1600000 in
theorem eqNm_any (v v' : Value) (L : List Kp) (w : World) (h : RowV w 1 v L.length (L.flatMap nmC)) (h' : RowV w 1 v' L.length (L.flatMap nmC)) :
    Calls Tryd.prog 28 #[v, v'] w fun e w' => e = .returned (.bool true) ∧ Below w.heap.size w w' := by
  have HR := Lib.hid h; have HR' := Lib.hid h'
  obtain ⟨-, ao, cap, rfl, hn, hm, -⟩ := h
  obtain ⟨-, ao', cap', rfl, hn', hm', -⟩ := h'
  obtain ⟨n, hnn⟩ : ∃ n, n = L.length := ⟨_, rfl⟩
  rw [← hnn] at hn hn' ⊢
  have HN := Lib.hid hnn
  have hcb : cap ≤ 9223372036854775807 := by unfold maxLen at hm; omega
  have hcb' : cap' ≤ 9223372036854775807 := by unfold maxLen at hm'; omega
  clear hnn hm hm'
  go_enter Tryd.func28, Tryd.ntmps28
  go_wp2_with fail
  go_loopw [13] (fun s13 wr => ∃ k : Nat, k ≤ n ∧ s13 = .int .i64 k ∧ Below w.heap.size w wr) (fun s13 _ => n - (intOf s13).toNat)
  case atStart => exact ⟨0, Nat.zero_le _, rfl, Below.refl _ _⟩
  case round =>
    obtain ⟨k, hk, rfl, hB⟩ := hrel
    have HB := Lib.hid hB
    by_cases hkn : k < n
    · obtain ⟨x, hx⟩ : ∃ x, L[k]? = some x := ⟨_, List.getElem?_eq_getElem (by have := HN.out; omega)⟩
      obtain ⟨b, off, cap1, e, -, -, hc⟩ := nm_at (HR.out.past hB) hx
      injection e with e1 e2 e3
      subst e1; subst e3
      clear e2
      obtain ⟨b', off', cap2, e, -, -, hc'⟩ := nm_at (HR'.out.past hB) hx
      injection e with e1 e2 e3
      subst e1; subst e3
      clear e2
      have hcl := cell_lt hc; have hcl' := cell_lt hc'; simp only at hcl hcl'
      generalize x.nm = z at hc hc'
      clear hx hB
      go_wp2_with fail
      go_quiet (fail)
      go_wp2_with fail
      go_roundw
      case rel => exact ⟨k + 1, by omega, by go_num, HB.out.trans ((below_drewN (Below.refl _ _) _).mono HB.out.size)⟩
      case measure => simp [intOf]; omega
    · have hke : k = n := by omega
      subst hke
      clear hB
      go_wp2_with fail
      go_ret
      exact ⟨rfl, HB.out⟩
set_option maxRecDepth 100000 in
set_option maxHeartbeats 1600000 in
theorem cloneNm_any (v : Value) (n : Nat) (xs : List Value) (w : World) (h : RowV w 1 v n xs) (hb : n * 16 ≤ 140737488355328) (h1 : ∀ u ∈ xs, u.oneCell' = true) :
    Calls Tryd.prog 58 #[v] w fun e w' => ∃ v', e = .returned v' ∧ RowV w' 1 v' n xs ∧ Below w.heap.size w w' := by
  obtain ⟨i0, hi0, hz0, hz1, hz2⟩ := info_parts infoStr
  have q22 : ∀ (w : World) (a : Option Addr) (n c n' c' : Nat), (binOp .eql 23 (.slice a n c) (.slice none n' c')).run Tryd.prog w = .ok (.bool a.isNone) w := fun w a n c n' c' => Lib.run_eql_slice_nil w _ _ a n c n' c' Tryd.underlying23
  obtain ⟨h0, ao, cap, rfl, hn, hm, ⟨rfl, h3⟩ | ⟨b, off, rfl, hbl, hc, hf⟩⟩ := h
  · obtain rfl : cap = 0 := h3
    obtain rfl : n = 0 := by omega
    obtain rfl : xs = [] := List.eq_nil_of_length_eq_zero (by simpa using h0)
    go_enter Tryd.func58, Tryd.ntmps58
    go_wp2_with fail
    go_ret
    exact ⟨_, rfl, RowV.nil _ _, Below.refl _ _⟩
  · have A : Hid (∀ j u, xs[j]? = some u → w.cell? ⟨b, off + j, none⟩ = some u) := Lib.hid hc
    have H0 := Lib.hid h0; have HH := Lib.hid (And.intro hn (And.intro hm (And.intro hb h1)))
    clear hc hf h0 hb h1 hm
    go_enter Tryd.func58, Tryd.ntmps58
    go_wp2_with (at_builtin; refine wpList_append_own _ rfl _ _ 23 rfl w.heap.size 9 i0 (.string ⟨#[]⟩) 1 16 Tryd.underlying23 hi0 hz0 hz1 hz2 rfl (by decide) _ _ _ rfl (World.ownsRow_made w #[] 0 (Nat.le_refl _) (Nat.zero_le _) (by simp)) ⟨b, off, none⟩ n cap xs rfl ?qc1 ?qc2 ?qc3 ?qc4 ?qc5 ?qc6 ?_)
    case qc1 => simpa using H0.out
    case qc2 =>
      intro j u hj
      rw [Addr.add_lit]
      exact Lib.cell?_alloc_some _ (A.out j u hj)
    case qc3 => exact HH.out.2.2.2
    case qc4 => have := HH.out; omega
    case qc5 => rw [Nat.zero_add]; exact HH.out.2.2.1
    case qc6 => simp
    intro v' w1 hown hgrow hnil
    have HO := Lib.hid (And.intro hown hgrow)
    clear hown hgrow hnil
    go_wp2_with fail
    go_ret
    refine ⟨v', rfl, by simpa using RowV.of_own HO.out.1, ?_⟩
    exact ((Below.refl _ w).alloc (Nat.le_refl _) _).grown HO.out.2 (by simp) (by intro k hk; simp [Value.ownBlock] at hk; omega)
set_option maxRecDepth 100000 in
set_option maxHeartbeats 1600000 in
theorem cloneFl_any (b off n cap : Nat) (fs : Nat → Nat) (w : World) (hr : Row w b off n fs) (hn : 0 < n) (hb : n ≤ 65536) :
    Calls Tryd.prog 56 #[.slice (some ⟨b, off, none⟩) n cap] w fun e w' => ∃ g c, e = .returned (.slice (some ⟨g, 0, none⟩) n c) ∧ w.heap.size ≤ g ∧ g < w'.heap.size ∧ n ≤ c ∧ c ≤ maxLen ∧ Row w' g 0 n fs ∧ Below w.heap.size w w' := by
  obtain ⟨i0, hi0, hz0, hz1, hz2⟩ := info_parts infoF32
  have q22 : ∀ (w : World) (a : Option Addr) (n c n' c' : Nat), (binOp .eql 36 (.slice a n c) (.slice none n' c')).run Tryd.prog w = .ok (.bool a.isNone) w := fun w a n c n' c' => Lib.run_eql_slice_nil w _ _ a n c n' c' Tryd.underlying36
  obtain ⟨xs, hxs⟩ : ∃ xs : List Value, xs = (List.range n).map fun i => .float .f32 (fs i) := ⟨_, rfl⟩
  have A : Hid (∀ j u, xs[j]? = some u → w.cell? ⟨b, off + j, none⟩ = some u) := Lib.hid (fun j u hj => by
    have hl := (List.getElem?_eq_some_iff.1 hj).1
    rw [hxs, List.length_map, List.length_range] at hl
    rw [hxs, List.getElem?_map, List.getElem?_range hl] at hj
    cases hj
    exact hr j hl)
  have HX := Lib.hid hxs
  have HN : Hid (xs.length = n) := Lib.hid (by rw [hxs]; simp)
  have H1 : Hid (∀ u ∈ xs, u.oneCell' = true) := Lib.hid (fun u hu => by rw [hxs] at hu; obtain ⟨i, -, rfl⟩ := List.mem_map.1 hu; rfl)
  clear hxs hr
  go_enter Tryd.func56, Tryd.ntmps56
  go_wp2_with (at_builtin; refine wpList_append_own _ rfl _ _ 36 rfl w.heap.size 50 i0 (.float .f32 0) 1 4 Tryd.underlying36 hi0 hz0 hz1 hz2 rfl (by decide) _ _ _ rfl (World.ownsRow_made w #[] 0 (Nat.le_refl _) (Nat.zero_le _) (by simp)) ⟨b, off, none⟩ n cap xs rfl ?qc1 ?qc2 ?qc3 ?qc4 ?qc5 ?qc6 ?_)
  case qc1 => simpa using HN.out
  case qc2 =>
    intro j u hj
    rw [Addr.add_lit]
    exact Lib.cell?_alloc_some _ (A.out j u hj)
  case qc3 => exact H1.out
  case qc4 => unfold maxLen; omega
  case qc5 => omega
  case qc6 => simp
  intro v' w1 hown hgrow hnil
  have hform := hown.form hn
  obtain ⟨g, c, rfl, hg1, hg2⟩ := hform
  have hcells := hown.cells (g := g) rfl
  have hcap : n ≤ c ∧ c ≤ maxLen := by
    rcases hown.2 with ⟨e, -⟩ | ⟨g', c', cur, e, -, -, e3, e4, -⟩
    · cases e
    · injection e with e1 e2 e3'; subst e3'; exact ⟨e3, e4⟩
  have HO := Lib.hid (And.intro hcells (And.intro hgrow (And.intro hcap (And.intro hg1 hg2))))
  clear hown hgrow hnil hcells hcap hg1 hg2
  go_wp2_with fail
  go_ret
  refine ⟨g, c, rfl, HO.out.2.2.2.1, HO.out.2.2.2.2, HO.out.2.2.1.1, HO.out.2.2.1.2, fun i hi => ?_, ?_⟩
  · have := HO.out.1 i (.float .f32 (fs i)) (by rw [HX.out]; simp [hi])
    rw [Go.WideShapes.add_plain] at this
    rw [← this]
  · exact ((Below.refl _ w).alloc (Nat.le_refl _) _).grown HO.out.2.1 (by simp) (by intro k hk; simp [Value.ownBlock] at hk; omega)
end Go.Proofs.YtcdcfkgdgimmcaaDoor
