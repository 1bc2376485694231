/- The nodes of a graph that came in, opened. Plain laws of the form. No condition. -/
import Derived.Test.YthlomgbchmhjiaaGreatDoorQF
import Derived.Test.YthlomgbchmhjiaaGreatDoorBO
namespace Go.Proofs.YthlomgbchmhjiaaGreatDoor
open Go Go.RowKit Go.ChangeShapes Go.WideShapes Go.ChangeAt
section
variable {H : Type} {enc : TypeId × Value → H} {P : Program} {w : World} {base : Nat} {spare : Nat → Bool} {held : Bool} {t : TypeId} {fuel : Nat} {cs : List Value} {x : DataW H × List MemPlace}
theorem tr_i64 (ht : P.underlying t = some (.int .i64)) (h : DataW.trod enc P w base spare held fuel t cs = some x) : ∃ n, cs = [.int .i64 n] ∧ IntKind.i64.min ≤ n ∧ n ≤ IntKind.i64.max := by
  obtain ⟨n, h1, -, h2⟩ := DataW.trod_int ht h
  exact ⟨n, h1, by simpa [Lit.wf] using h2⟩
theorem tr_ints {e : TypeId} {a : Option Addr} {l n : Nat} (hts : P.underlying t = some (.slice e)) (he : P.underlying e = some (.int .i64)) (hc : P.cellsOf e = 1) (h : DataW.trod enc P w base (fun _ => true) held fuel t [.slice a l n] = some x) : ∃ zs : List Int, zs.length = l ∧ l ≤ n ∧ n ≤ maxLen ∧ IntsAt 0 w a zs ∧ ∀ i, i < l → IntKind.i64.min ≤ zs.getD i 0 ∧ zs.getD i 0 ≤ IntKind.i64.max := by
  rcases Go.Deep.open_slice hts h with ⟨hcs, -⟩ | ⟨ad, len, cap, m, n', D, Pl, hcs, -, hl, hm, hmm, -, hel⟩
  · simp at hcs; obtain ⟨rfl, rfl, rfl⟩ := hcs
    exact ⟨[], rfl, Nat.le_refl _, Nat.zero_le _, .inl rfl, fun i h => absurd h (Nat.not_lt_zero _)⟩
  · simp at hcs; obtain ⟨rfl, rfl, rfl⟩ := hcs
    simp only [if_true] at hmm
    subst hmm
    have each : ∀ i, i < m → ∃ b, w.cell? (ad.add i) = some (.int .i64 b) ∧ IntKind.i64.min ≤ b ∧ b ≤ IntKind.i64.max := fun i hi => by
      obtain ⟨cs', h1, h2⟩ := hel i hi
      rw [hc, Nat.mul_one] at h1
      obtain ⟨b, rfl, hb⟩ := tr_i64 he h2
      exact ⟨b, cell_of_cells?_one h1, hb⟩
    obtain ⟨b, off, spot⟩ := ad
    have hg : ∀ i, i < l → ((List.range l).map (fun i => if h : i < m then (each i h).choose else 0))[i]? = some (if h : i < m then (each i h).choose else 0) := fun i hi => by
      simp [List.getElem?_range hi]
    refine ⟨(List.range l).map (fun i => if h : i < m then (each i h).choose else 0), by simp, hl, hm, ?_, ?_⟩
    · rcases Nat.eq_zero_or_pos l with h0 | h0
      · subst h0; exact .inl rfl
      · obtain ⟨b0, hb0, -⟩ := each 0 (by omega)
        have hspot : spot = none := by simpa [Addr.add] using World.cell?_spot hb0
        subst hspot
        refine .inr ⟨b, off, rfl, Nat.zero_le _, cell_lt hb0, fun i v hv => ?_⟩
        have hi : i < l := by
          have := (List.getElem?_eq_some_iff.1 hv).1
          simpa using this
        rw [hg i hi] at hv
        have hc2 := (each i (by omega)).choose_spec
        simp only [show i < m by omega, dite_true, Option.some.injEq] at hv
        subst hv
        rw [← Go.WideShapes.add_plain]
        exact hc2.1
    · intro i hi
      have hc2 := (each i (by omega)).choose_spec
      rw [List.getD_eq_getElem?_getD, hg i hi]
      simp only [show i < m by omega, dite_true, Option.getD_some]
      exact hc2.2
theorem tr_reals {e : TypeId} {a : Option Addr} {l n : Nat} (hts : P.underlying t = some (.slice e)) (he : P.underlying e = some (.float .f32)) (hc : P.cellsOf e = 1) (h : DataW.trod enc P w base (fun _ => true) held fuel t [.slice a l n] = some x) : ∃ zs : List Nat, zs.length = l ∧ l ≤ n ∧ n ≤ maxLen ∧ RealsAt 0 w a zs := by
  rcases Go.Deep.open_slice hts h with ⟨hcs, -⟩ | ⟨ad, len, cap, m, n', D, Pl, hcs, -, hl, hm, hmm, -, hel⟩
  · simp at hcs; obtain ⟨rfl, rfl, rfl⟩ := hcs
    exact ⟨[], rfl, Nat.le_refl _, Nat.zero_le _, .inl rfl⟩
  · simp at hcs; obtain ⟨rfl, rfl, rfl⟩ := hcs
    simp only [if_true] at hmm
    subst hmm
    have each : ∀ i, i < m → ∃ b, w.cell? (ad.add i) = some (.float .f32 b) := fun i hi => by
      obtain ⟨cs', h1, h2⟩ := hel i hi
      rw [hc, Nat.mul_one] at h1
      obtain ⟨b, rfl, -⟩ := trod_float he h2
      exact ⟨b, cell_of_cells?_one h1⟩
    obtain ⟨b, off, spot⟩ := ad
    have hg : ∀ i, i < l → ((List.range l).map (fun i => if h : i < m then (each i h).choose else 0))[i]? = some (if h : i < m then (each i h).choose else 0) := fun i hi => by
      simp [List.getElem?_range hi]
    refine ⟨(List.range l).map (fun i => if h : i < m then (each i h).choose else 0), by simp, hl, hm, ?_⟩
    rcases Nat.eq_zero_or_pos l with h0 | h0
    · subst h0; exact .inl rfl
    · obtain ⟨b0, hb0⟩ := each 0 (by omega)
      have hspot : spot = none := by simpa [Addr.add] using World.cell?_spot hb0
      subst hspot
      refine .inr ⟨b, off, rfl, Nat.zero_le _, cell_lt hb0, fun i v hv => ?_⟩
      have hi : i < l := by
        have := (List.getElem?_eq_some_iff.1 hv).1
        simpa using this
      rw [hg i hi] at hv
      have hc2 := (each i (by omega)).choose_spec
      simp only [show i < m by omega, dite_true, Option.some.injEq] at hv
      subst hv
      rw [← Go.WideShapes.add_plain]
      exact hc2
theorem li4 {l : List Value} (h : l.length = 4) : ∃ a b c d, l = [a, b, c, d] := by
  match l, h with
  | [a, b, c, d], _ => exact ⟨a, b, c, d, rfl⟩
theorem is_slice {e : TypeId} {c : Value} (hts : P.underlying t = some (.slice e)) (h : DataW.trod enc P w base (fun _ => true) held fuel t [c] = some x) : ∃ a l n, c = .slice a l n := by
  rcases Go.Deep.open_slice hts h with ⟨hcs, -⟩ | ⟨_, _, _, _, _, _, _, hcs, -⟩
  · simp at hcs; exact ⟨_, _, _, hcs⟩
  · simp at hcs; exact ⟨_, _, _, hcs⟩
theorem open_nodes {e ts ti tz tf tr : TypeId} {fs : Array Field} {a : Option Addr} {l n : Nat} (hts : P.underlying t = some (.slice e)) (he : P.underlying e = some (.struct fs)) (hc : P.cellsOf e = 4) (hf : fs.map (fun f => (f.offset, f.type)) = #[(0, ts), (1, tz), (2, tz), (3, tr)])
    (hs : P.underlying ts = some .string) (hs1 : P.cellsOf ts = 1) (hi : P.underlying ti = some (.int .i64)) (hi1 : P.cellsOf ti = 1) (hz : P.underlying tz = some (.slice ti)) (hz1 : P.cellsOf tz = 1)
    (hff : P.underlying tf = some (.float .f32)) (hf1 : P.cellsOf tf = 1) (hr : P.underlying tr = some (.slice tf)) (hr1 : P.cellsOf tr = 1) (h : DataW.trod enc P w base (fun _ => true) held fuel t [.slice a l n] = some x) : ∃ ns, ns.length = l ∧ IsNodes w a n ns := by
  rcases Go.Deep.open_slice hts h with ⟨hcs, -⟩ | ⟨ad, len, cap, m, n', D, Pl, hcs, -, hl, hm, hmm, -, hel⟩
  · simp at hcs; obtain ⟨rfl, rfl, rfl⟩ := hcs
    exact ⟨[], rfl, Nat.le_refl _, Nat.zero_le _, .inl rfl⟩
  · simp at hcs; obtain ⟨rfl, rfl, rfl⟩ := hcs
    simp only [if_true] at hmm
    subst hmm
    obtain ⟨b, off, spot⟩ := ad
    have hfl : ∀ i o ty, #[(0, ts), (1, tz), (2, tz), (3, tr)][i]? = some (o, ty) → (fs[i]?).map (fun f : Field => (f.offset, f.type)) = some (o, ty) := fun i o ty h => by
      rw [← hf, Array.getElem?_map] at h; exact h
    have each : ∀ i, i < m → (i = 0 → spot = none) ∧ (spot = none → ∃ k, NodeAt w b (off + i * 4) k ∧ NodeB k) := fun i hi' => by
      obtain ⟨cs', h1, h2⟩ := hel i hi'
      obtain ⟨-, hlen, hcell⟩ := World.cells?_some h1
      rw [hc] at hlen hcell
      obtain ⟨c0, c1, c2, c3, rfl⟩ := li4 hlen
      have g0 := hcell 0 (by omega); have g1 := hcell 1 (by omega); have g2 := hcell 2 (by omega); have g3 := hcell 3 (by omega)
      obtain ⟨m0, y0, t0⟩ := trod_field he (hfl 0 0 ts rfl) h2
      obtain ⟨m1, y1, t1⟩ := trod_field he (hfl 1 1 tz rfl) h2
      obtain ⟨m2, y2, t2⟩ := trod_field he (hfl 2 2 tz rfl) h2
      obtain ⟨m3, y3, t3⟩ := trod_field he (hfl 3 3 tr rfl) h2
      rw [hs1] at t0
      rw [hz1] at t1 t2
      rw [hr1] at t3
      simp at t0 t1 t2 t3 g0 g1 g2 g3
      obtain ⟨s, e0, -, -⟩ := DataW.trod_string hs t0
      simp at e0
      subst e0
      obtain ⟨ia, il, ic, rfl⟩ := is_slice hz t1
      obtain ⟨na, nl, nc, rfl⟩ := is_slice hz t2
      obtain ⟨ra, rl, rc, rfl⟩ := is_slice hr t3
      obtain ⟨zi, li, bi, mi, ai, -⟩ := tr_ints hz hi hi1 t1
      obtain ⟨zn, ln, bn, mn, an, -⟩ := tr_ints hz hi hi1 t2
      obtain ⟨zr, lr, br, mr, ar⟩ := tr_reals hr hff hf1 t3
      refine ⟨fun h0 => ?_, fun hs => ?_⟩
      · subst h0; simpa [Addr.add] using World.cell?_spot g0
      subst hs
      refine ⟨⟨s, zi, zn, zr, ia, ic, na, nc, ra, rc⟩, ⟨?_, ?_, ?_, ?_, ai, an, ar⟩, ?_⟩
      · simpa [Go.WideShapes.add_plain] using g0
      · rw [li]; simpa [Go.WideShapes.add_plain, Nat.add_assoc] using g1
      · rw [ln]; simpa [Go.WideShapes.add_plain, Nat.add_assoc] using g2
      · rw [lr]; simpa [Go.WideShapes.add_plain, Nat.add_assoc] using g3
      · exact ⟨by simp only; omega, by simp only; omega, by simp only; omega, by simp only; omega, by simp only; omega, by simp only; omega⟩
    rcases Nat.eq_zero_or_pos l with h0 | h0
    · subst h0
      exact ⟨[], rfl, ⟨Nat.zero_le _, hm, .inl rfl⟩⟩
    · have hsp := (each 0 (by omega)).1 rfl
      have hg : ∀ i, i < l → ((List.range l).map (fun i => if h : i < m then ((each i h).2 hsp).choose else ⟨ByteArray.empty, [], [], [], none, 0, none, 0, none, 0⟩))[i]? = some (if h : i < m then ((each i h).2 hsp).choose else ⟨ByteArray.empty, [], [], [], none, 0, none, 0, none, 0⟩) := fun i hi => by
        simp [List.getElem?_range hi]
      refine ⟨(List.range l).map (fun i => if h : i < m then ((each i h).2 hsp).choose else ⟨ByteArray.empty, [], [], [], none, 0, none, 0, none, 0⟩), by simp, ⟨by simpa using hl, hm, .inr ⟨b, off, by rw [hsp], fun k nd hk => ?_⟩⟩⟩
      have hi : k < l := by
        have := (List.getElem?_eq_some_iff.1 hk).1
        simpa using this
      rw [hg k hi] at hk
      have hc2 := ((each k (by omega)).2 hsp).choose_spec
      simp only [show k < m by omega, dite_true, Option.some.injEq] at hk
      subst hk
      exact hc2
end
end Go.Proofs.YthlomgbchmhjiaaGreatDoor
