/- Slices of pairs of ints, of names and of frames (with their room) that came in. Plain laws of the form. No condition. -/
import Derived.Test.YtcdcfkgdgimmcaaDoorLawKc
import Derived.SliceStrings
namespace Go.Proofs.YtcdcfkgdgimmcaaDoor
open Go Go.RowKit Go.ChangeShapes Go.WideShapes Go.ChangeAt
section
variable {H : Type} {enc : TypeId × Value → H} {P : Program} {w : World} {base : Nat} {spare : Nat → Bool} {held : Bool} {t : TypeId} {fuel : Nat} {cs : List Value} {x : DataW H × List MemPlace}
theorem open_framesC {e ti tr tv tf : TypeId} {fs fr : Array Field} {a : Option Addr} {l n : Nat} (hts : P.underlying t = some (.slice e)) (he : P.underlying e = some (.struct fs)) (hc : P.cellsOf e = 5) (hf : fs.map (fun f => (f.offset, f.type)) = #[(0, tr), (4, tv)])
    (hi : P.underlying ti = some (.int .i64)) (hi1 : P.cellsOf ti = 1) (hr : P.underlying tr = some (.struct fr)) (hr1 : P.cellsOf tr = 4) (hrf : fr.map (fun f => (f.offset, f.type)) = #[(0, ti), (1, ti), (2, ti), (3, ti)])
    (hv : P.underlying tv = some (.slice tf)) (hv1 : P.cellsOf tv = 1) (hff : P.underlying tf = some (.float .f32)) (hf1 : P.cellsOf tf = 1) (h : DataW.trod enc P w base (fun _ => true) held fuel t [.slice a l n] = some x) : ∃ ks, IsFrames w a l ks ∧ ∀ q, q < l → (ks q).an ≤ (ks q).ac ∧ (ks q).ac ≤ maxLen := by
  rcases Go.Deep.open_slice hts h with ⟨hcs, -⟩ | ⟨ad, len, cap, m, n', D, Pl, hcs, -, hl, hm, hmm, -, hel⟩
  · simp at hcs; obtain ⟨rfl, rfl, rfl⟩ := hcs
    exact ⟨fun _ => ⟨0, 0, 0, 0, none, 0, 0, fun _ => 0⟩, ⟨Nat.zero_le _, ⟨fun h => absurd h (Nat.lt_irrefl _), fun q hq => absurd hq (Nat.not_lt_zero _)⟩, fun q hq => absurd hq (Nat.not_lt_zero _)⟩, fun q hq => absurd hq (Nat.not_lt_zero _)⟩
  · simp at hcs; obtain ⟨rfl, rfl, rfl⟩ := hcs
    simp only [if_true] at hmm
    subst hmm
    obtain ⟨b, off, spot⟩ := ad
    have each : ∀ i, i < m → (i = 0 → spot = none) ∧ ∃ k : Fr, (spot = none → ∀ j v, (frV k)[j]? = some v → w.cell? ⟨b, off + i * 5 + j, none⟩ = some v) ∧ (0 < k.an → ∃ b off, k.aa = some ⟨b, off, none⟩ ∧ Row w b off k.an k.fs) ∧ (IntKind.i64.min ≤ k.x ∧ k.x ≤ IntKind.i64.max) ∧ ((IntKind.i64.min ≤ k.y ∧ k.y ≤ IntKind.i64.max) ∧ (k.an ≤ k.ac ∧ k.ac ≤ maxLen)) := fun i hi' => by
      obtain ⟨cs', h1, h2⟩ := hel i hi'
      obtain ⟨-, hlen, hcell⟩ := World.cells?_some h1
      rw [hc] at hlen hcell
      obtain ⟨c0, c1, c2, c3, c4, rfl⟩ := list5 hlen
      have g0 := hcell 0 (by omega)
      obtain ⟨m0, y0, t0⟩ := trod_field he (fld hf (i := 0) rfl) h2
      obtain ⟨m1, y1, t1⟩ := trod_field he (fld hf (i := 1) rfl) h2
      rw [hr1] at t0
      rw [hv1] at t1
      simp at t0 t1 g0
      obtain ⟨z0, z1, z2, z3, e0, b0, b1⟩ := trod_reg hr hr1 hrf hi hi1 t0
      simp at e0
      obtain ⟨rfl, rfl, rfl, rfl⟩ := e0
      have hs : ∃ aa an ac, c4 = .slice aa an ac := by
        rcases Go.Deep.open_slice hv t1 with ⟨hcs, -⟩ | ⟨_, _, _, _, _, _, _, hcs, -⟩
        · simp at hcs; exact ⟨_, _, _, hcs⟩
        · simp at hcs; exact ⟨_, _, _, hcs⟩
      obtain ⟨aa, an, ac, rfl⟩ := hs
      obtain ⟨zs, hin⟩ := open_floats_slice hv hff hf1 t1
      refine ⟨fun h0 => ?_, ⟨z0, z1, z2, z3, aa, an, ac, zs⟩, fun hs j v hj => ?_, fun h0 => ?_, b0, b1, (by rcases hin with ⟨hz, hz'⟩ | ⟨b2, off2, h1, -, h3, h4, h5⟩; exact ⟨by show an ≤ ac; omega, by show ac ≤ maxLen; unfold maxLen; omega⟩; exact ⟨h3, h4⟩)⟩
      · subst h0; simpa [Addr.add] using World.cell?_spot g0
      · subst hs
        have hj5 : j < 5 := by
          rcases Nat.lt_or_ge j 5 with h | h
          · exact h
          · rw [List.getElem?_eq_none (by simp [frV]; omega)] at hj; cases hj
        have := hcell j hj5
        rw [show ([Value.int .i64 z0, .int .i64 z1, .int .i64 z2, .int .i64 z3, .slice aa an ac] : List Value)[j]? = some v from hj] at this
        simpa [Go.WideShapes.add_plain, Nat.add_assoc] using this
      · rcases hin with ⟨hz, -⟩ | ⟨b2, off2, h1, -, h3, -, h5⟩
        · exact absurd h0 (by show ¬ 0 < an; omega)
        · exact ⟨b2, off2, h1, fun j hj => (h5 j (Nat.lt_of_lt_of_le hj h3)).1⟩
    by_cases hs : spot = none
    · refine ⟨fun i => if h : i < m then (each i h).2.choose else ⟨0, 0, 0, 0, none, 0, 0, fun _ => 0⟩, ⟨by omega, ⟨fun h0 => ⟨b, off, by rw [hs], fun i hi' => ?_⟩, fun i hi' => ?_⟩, fun i hi' => ?_⟩, fun i hi' => ?_⟩
      all_goals
        have := (each i (by omega)).2.choose_spec
        simp only [show i < m by omega, dite_true]
      · exact this.1 hs
      · exact this.2.1
      · exact ⟨this.2.2.1, this.2.2.2.1⟩
      · exact this.2.2.2.2
    · refine ⟨fun i => if h : i < m then (each i h).2.choose else ⟨0, 0, 0, 0, none, 0, 0, fun _ => 0⟩, ⟨by omega, ⟨fun h0 => absurd ((each 0 (by omega)).1 rfl) hs, fun i hi' => ?_⟩, fun i hi' => ?_⟩, fun i hi' => ?_⟩
      all_goals
        have := (each i (by omega)).2.choose_spec
        simp only [show i < m by omega, dite_true]
      · exact this.2.1
      · exact ⟨this.2.2.1, this.2.2.2.1⟩
      · exact this.2.2.2.2
theorem open_names {e : TypeId} {a : Option Addr} {l n : Nat} (hts : P.underlying t = some (.slice e)) (he : P.underlying e = some .string) (hc : P.cellsOf e = 1) (h : DataW.trod enc P w base (fun _ => true) held fuel t [.slice a l n] = some x) : ∃ ss, IsNames w a l n ss := by
  rcases open_strings hts he hc h with ⟨hcs, -⟩ | ⟨ad, len, cap, ss, hcs, -, hl, hm, hmm, -, hel, hsz⟩
  · simp at hcs; obtain ⟨rfl, rfl, rfl⟩ := hcs
    exact ⟨fun _ => ByteArray.empty, Nat.le_refl _, Nat.zero_le _, fun h => absurd h (Nat.lt_irrefl _)⟩
  · simp at hcs; obtain ⟨rfl, rfl, rfl⟩ := hcs
    simp only [if_true] at hmm
    refine ⟨fun i => ss.getD i ByteArray.empty, hl, hm, fun h0 => ?_⟩
    obtain ⟨b, off, spot⟩ := ad
    have g0 := hel 0 (by omega)
    have hs : spot = none := by simpa [Addr.add] using World.cell?_spot g0
    subst hs
    refine ⟨b, off, rfl, fun i hi => ⟨?_, ?_⟩⟩
    · have := hel i (by omega)
      rwa [Go.WideShapes.add_plain] at this
    · have hi' : i < ss.length := by omega
      have e : ss.getD i ByteArray.empty = ss[i] := by simp [List.getD, hi']
      show (ss.getD i ByteArray.empty).size ≤ maxLen
      rw [e]
      exact hsz _ (List.getElem_mem hi')
theorem open_pairs {e ti : TypeId} {a : Option Addr} {l n : Nat} (hts : P.underlying t = some (.slice e)) (he : P.underlying e = some (.array 2 ti)) (hc : P.cellsOf e = 2) (hi : P.underlying ti = some (.int .i64)) (hi1 : P.cellsOf ti = 1) (h : DataW.trod enc P w base (fun _ => true) held fuel t [.slice a l n] = some x) : ∃ z0 z1, IsPairs w a l n z0 z1 := by
  rcases Go.Deep.open_slice hts h with ⟨hcs, -⟩ | ⟨ad, len, cap, m, n', D, Pl, hcs, -, hl, hm, hmm, -, hel⟩
  · simp at hcs; obtain ⟨rfl, rfl, rfl⟩ := hcs
    exact ⟨fun _ => 0, fun _ => 0, Nat.le_refl _, Nat.zero_le _, fun h => absurd h (Nat.lt_irrefl _)⟩
  · simp at hcs; obtain ⟨rfl, rfl, rfl⟩ := hcs
    simp only [if_true] at hmm
    subst hmm
    obtain ⟨b, off, spot⟩ := ad
    have each : ∀ i, i < m → (i = 0 → spot = none) ∧ ∃ k : Int × Int, (spot = none → w.cell? ⟨b, off + i * 2, none⟩ = some (.int .i64 k.1) ∧ w.cell? ⟨b, off + i * 2 + 1, none⟩ = some (.int .i64 k.2)) ∧ (-9223372036854775808 ≤ k.2 ∧ k.2 ≤ 9223372036854775807) := fun i hi' => by
      obtain ⟨cs', h1, h2⟩ := hel i hi'
      obtain ⟨-, hlen, hcell⟩ := World.cells?_some h1
      rw [hc] at hlen hcell
      obtain ⟨c0, c1, rfl⟩ : ∃ c0 c1, cs' = [c0, c1] := by
        match cs', hlen with
        | [c0, c1], _ => exact ⟨c0, c1, rfl⟩
      have g0 := hcell 0 (by omega)
      have g1 := hcell 1 (by omega)
      obtain ⟨xs, m', -, -, -, hxl, hf⟩ := DataW.trod_array he h2
      rw [hi1] at hf
      have f0 := hf 0 (by omega)
      have f1 := hf 1 (by omega)
      obtain ⟨y0, e0⟩ : ∃ y, xs[0]? = some y := ⟨_, List.getElem?_eq_getElem (by omega)⟩
      obtain ⟨y1, e1⟩ : ∃ y, xs[1]? = some y := ⟨_, List.getElem?_eq_getElem (by omega)⟩
      rw [e0] at f0
      rw [e1] at f1
      simp at f0 f1 g0 g1
      obtain ⟨v0, q0, -⟩ := trod_i64 hi f0
      obtain ⟨v1, q1, b1⟩ := trod_i64 hi f1
      simp at q0 q1
      subst q0; subst q1
      refine ⟨fun h0 => ?_, (v0, v1), fun hs => ?_, by simpa [IntKind.min, IntKind.max, IntKind.signed, IntKind.bits] using b1⟩
      · subst h0; simpa [Addr.add] using World.cell?_spot g0
      · subst hs
        exact ⟨by simpa [Go.WideShapes.add_plain, Nat.add_assoc] using g0, by simpa [Go.WideShapes.add_plain, Nat.add_assoc] using g1⟩
    by_cases hs : spot = none
    · refine ⟨fun i => if h : i < m then (each i h).2.choose.1 else 0, fun i => if h : i < m then (each i h).2.choose.2 else 0, hl, hm, fun h0 => ⟨b, off, by rw [hs], fun i hi' => ?_⟩⟩
      have := (each i (by omega)).2.choose_spec
      simp only [show i < m by omega, dite_true]
      exact ⟨(this.1 hs).1, (this.1 hs).2, this.2⟩
    · exact ⟨fun _ => 0, fun _ => 0, hl, hm, fun h0 => absurd ((each 0 (by omega)).1 rfl) hs⟩
end
end Go.Proofs.YtcdcfkgdgimmcaaDoor
