/- Slices of works and of runs that came in. Plain laws of the form. No condition. -/
import Derived.Test.YtcdcfkgdgimmcaaDoorBO
namespace Go.Proofs.YtcdcfkgdgimmcaaDoor
open Go Go.RowKit Go.ChangeShapes Go.WideShapes Go.ChangeAt
/-- A slice of integers that came in, as far as it is read. -/
def InI (w : World) (a : Option Addr) (n c : Nat) (zs : Nat → Int) : Prop :=
  n ≤ c ∧ c ≤ maxLen ∧ (0 < n → ∃ b off, a = some ⟨b, off, none⟩ ∧ ∀ j, j < n → w.cell? ⟨b, off + j, none⟩ = some (.int .i64 (zs j)) ∧ IntKind.i64.min ≤ zs j ∧ zs j ≤ IntKind.i64.max)
/-- A work: what it costs, its rank, and what it comes after. -/
structure Wk where
  cost : Int
  rank : Int
  aa : Option Addr
  an : Nat
  ac : Nat
  az : Nat → Int
def WkAt (w : World) (b o : Nat) (k : Wk) : Prop :=
  w.cell? ⟨b, o, none⟩ = some (.int .i64 k.cost) ∧ w.cell? ⟨b, o + 1, none⟩ = some (.int .i64 k.rank) ∧ w.cell? ⟨b, o + 2, none⟩ = some (.slice k.aa k.an k.ac) ∧
  (IntKind.i64.min ≤ k.cost ∧ k.cost ≤ IntKind.i64.max) ∧ (IntKind.i64.min ≤ k.rank ∧ k.rank ≤ IntKind.i64.max) ∧ InI w k.aa k.an k.ac k.az
def IsWorks (w : World) (a : Option Addr) (n c : Nat) (ks : Nat → Wk) : Prop :=
  n ≤ c ∧ c ≤ maxLen ∧ (0 < n → ∃ b off, a = some ⟨b, off, none⟩ ∧ ∀ i, i < n → WkAt w b (off + i * 3) (ks i))
/-- A run. -/
structure RunV where
  wk : Int
  mc : Int
  fr : Int
  to : Int
  fl : Bool
def RunAt (w : World) (b o : Nat) (k : RunV) : Prop :=
  w.cell? ⟨b, o, none⟩ = some (.int .i64 k.wk) ∧ w.cell? ⟨b, o + 1, none⟩ = some (.int .i64 k.mc) ∧ w.cell? ⟨b, o + 2, none⟩ = some (.int .i64 k.fr) ∧ w.cell? ⟨b, o + 3, none⟩ = some (.int .i64 k.to) ∧ w.cell? ⟨b, o + 4, none⟩ = some (.bool k.fl) ∧
  (IntKind.i64.min ≤ k.wk ∧ k.wk ≤ IntKind.i64.max)
def IsRuns (w : World) (a : Option Addr) (n c : Nat) (ks : Nat → RunV) : Prop :=
  n ≤ c ∧ c ≤ maxLen ∧ (0 < n → ∃ b off, a = some ⟨b, off, none⟩ ∧ ∀ i, i < n → RunAt w b (off + i * 5) (ks i))
section
variable {H : Type} {enc : TypeId × Value → H} {P : Program} {w : World} {base : Nat} {spare : Nat → Bool} {held : Bool} {t : TypeId} {fuel : Nat} {cs : List Value} {x : DataW H × List MemPlace}
theorem trod_i64 (ht : P.underlying t = some (.int .i64)) (h : DataW.trod enc P w base spare held fuel t cs = some x) : ∃ n, cs = [.int .i64 n] ∧ IntKind.i64.min ≤ n ∧ n ≤ IntKind.i64.max := by
  obtain ⟨n, h1, -, h2⟩ := DataW.trod_int ht h
  exact ⟨n, h1, by simpa [Lit.wf] using h2⟩
theorem trod_bool (ht : P.underlying t = some .bool) (h : DataW.trod enc P w base spare held fuel t cs = some x) : ∃ b, cs = [.bool b] := by
  cases fuel with
  | zero => simp [DataW.trod] at h
  | succ n =>
    unfold DataW.trod at h
    rw [ht] at h
    split at h <;> simp_all
theorem trod_inI {e : TypeId} {a : Option Addr} {l n : Nat} (hts : P.underlying t = some (.slice e)) (he : P.underlying e = some (.int .i64)) (hc : P.cellsOf e = 1) (h : DataW.trod enc P w base (fun _ => true) held fuel t [.slice a l n] = some x) : ∃ zs, InI w a l n zs := by
  rcases Go.Deep.open_slice hts h with ⟨hcs, -⟩ | ⟨ad, len, cap, m, n', D, Pl, hcs, -, hl, hm, hmm, -, hel⟩
  · simp at hcs; obtain ⟨rfl, rfl, rfl⟩ := hcs
    exact ⟨fun _ => 0, Nat.le_refl _, Nat.zero_le _, fun h => absurd h (Nat.lt_irrefl _)⟩
  · simp at hcs; obtain ⟨rfl, rfl, rfl⟩ := hcs
    simp only [if_true] at hmm
    subst hmm
    have each : ∀ i, i < m → ∃ b, w.cell? (ad.add i) = some (.int .i64 b) ∧ IntKind.i64.min ≤ b ∧ b ≤ IntKind.i64.max := fun i hi => by
      obtain ⟨cs', h1, h2⟩ := hel i hi
      rw [hc, Nat.mul_one] at h1
      obtain ⟨b, rfl, hb⟩ := trod_i64 he h2
      exact ⟨b, cell_of_cells?_one h1, hb⟩
    obtain ⟨b, off, spot⟩ := ad
    refine ⟨fun i => if h : i < m then (each i h).choose else 0, hl, hm, fun h0 => ?_⟩
    obtain ⟨b0, hb0, -⟩ := each 0 (by omega)
    have hspot : spot = none := by simpa [Addr.add] using World.cell?_spot hb0
    subst hspot
    refine ⟨b, off, rfl, fun i hi => ?_⟩
    have := (each i (by omega)).choose_spec
    simp only [show i < m by omega, dite_true]
    rw [← Go.WideShapes.add_plain]
    exact this
theorem list3 {l : List Value} (h : l.length = 3) : ∃ a b c, l = [a, b, c] := by
  match l, h with
  | [a, b, c], _ => exact ⟨a, b, c, rfl⟩
theorem list5 {l : List Value} (h : l.length = 5) : ∃ a b c d e, l = [a, b, c, d, e] := by
  match l, h with
  | [a, b, c, d, e], _ => exact ⟨a, b, c, d, e, rfl⟩
theorem open_works {e ti tz : TypeId} {fs : Array Field} {a : Option Addr} {l n : Nat} (hts : P.underlying t = some (.slice e)) (he : P.underlying e = some (.struct fs)) (hc : P.cellsOf e = 3) (hf : fs.map (fun f => (f.offset, f.type)) = #[(0, ti), (1, ti), (2, tz)])
    (hi : P.underlying ti = some (.int .i64)) (hi1 : P.cellsOf ti = 1) (hz : P.underlying tz = some (.slice ti)) (hz1 : P.cellsOf tz = 1) (h : DataW.trod enc P w base (fun _ => true) held fuel t [.slice a l n] = some x) : ∃ ks, IsWorks w a l n ks := by
  rcases Go.Deep.open_slice hts h with ⟨hcs, -⟩ | ⟨ad, len, cap, m, n', D, Pl, hcs, -, hl, hm, hmm, -, hel⟩
  · simp at hcs; obtain ⟨rfl, rfl, rfl⟩ := hcs
    exact ⟨fun _ => ⟨0, 0, none, 0, 0, fun _ => 0⟩, Nat.le_refl _, Nat.zero_le _, fun h => absurd h (Nat.lt_irrefl _)⟩
  · simp at hcs; obtain ⟨rfl, rfl, rfl⟩ := hcs
    simp only [if_true] at hmm
    subst hmm
    obtain ⟨b, off, spot⟩ := ad
    have hff : ∀ i o ty, #[(0, ti), (1, ti), (2, tz)][i]? = some (o, ty) → (fs[i]?).map (fun f : Field => (f.offset, f.type)) = some (o, ty) := fun i o ty h => by
      rw [← hf, Array.getElem?_map] at h; exact h
    have each : ∀ i, i < m → (i = 0 → spot = none) ∧ (spot = none → ∃ k, WkAt w b (off + i * 3) k) := fun i hi' => by
      obtain ⟨cs', h1, h2⟩ := hel i hi'
      obtain ⟨-, hlen, hcell⟩ := World.cells?_some h1
      rw [hc] at hlen hcell
      obtain ⟨c0, c1, c2, rfl⟩ := list3 hlen
      have g0 := hcell 0 (by omega); have g1 := hcell 1 (by omega); have g2 := hcell 2 (by omega)
      obtain ⟨m0, y0, t0⟩ := trod_field he (hff 0 0 ti rfl) h2
      obtain ⟨m1, y1, t1⟩ := trod_field he (hff 1 1 ti rfl) h2
      obtain ⟨m2, y2, t2⟩ := trod_field he (hff 2 2 tz rfl) h2
      rw [hi1] at t0 t1
      rw [hz1] at t2
      simp at t0 t1 t2 g0 g1 g2
      obtain ⟨z0, e0, b0⟩ := trod_i64 hi t0
      obtain ⟨z1, e1, b1⟩ := trod_i64 hi t1
      simp at e0 e1
      subst e0; subst e1
      have hs : ∃ aa an ac, c2 = .slice aa an ac := by
        rcases Go.Deep.open_slice hz t2 with ⟨hcs, -⟩ | ⟨_, _, _, _, _, _, _, hcs, -⟩
        · simp at hcs; exact ⟨_, _, _, hcs⟩
        · simp at hcs; exact ⟨_, _, _, hcs⟩
      obtain ⟨aa, an, ac, rfl⟩ := hs
      obtain ⟨zs, hin⟩ := trod_inI hz hi hi1 t2
      refine ⟨fun h0 => ?_, fun hs => ?_⟩
      · subst h0; simpa [Addr.add] using World.cell?_spot g0
      subst hs
      refine ⟨⟨z0, z1, aa, an, ac, zs⟩, ?_, ?_, ?_, b0, b1, hin⟩
      · simpa [Go.WideShapes.add_plain] using g0
      · simpa [Go.WideShapes.add_plain, Nat.add_assoc] using g1
      · simpa [Go.WideShapes.add_plain, Nat.add_assoc] using g2
    by_cases hs : spot = none
    · refine ⟨fun i => if h : i < m then ((each i h).2 hs).choose else ⟨0, 0, none, 0, 0, fun _ => 0⟩, hl, hm, fun h0 => ?_⟩
      refine ⟨b, off, by rw [hs], fun i hi' => ?_⟩
      have := ((each i (by omega)).2 hs).choose_spec
      simp only [show i < m by omega, dite_true]
      exact this
    · refine ⟨fun _ => ⟨0, 0, none, 0, 0, fun _ => 0⟩, hl, hm, fun h0 => absurd ((each 0 (by omega)).1 rfl) hs⟩
theorem open_runs {e ti tb : TypeId} {fs : Array Field} {a : Option Addr} {l n : Nat} (hts : P.underlying t = some (.slice e)) (he : P.underlying e = some (.struct fs)) (hc : P.cellsOf e = 5) (hf : fs.map (fun f => (f.offset, f.type)) = #[(0, ti), (1, ti), (2, ti), (3, ti), (4, tb)])
    (hi : P.underlying ti = some (.int .i64)) (hi1 : P.cellsOf ti = 1) (hz : P.underlying tb = some .bool) (hz1 : P.cellsOf tb = 1) (h : DataW.trod enc P w base (fun _ => true) held fuel t [.slice a l n] = some x) : ∃ ks, IsRuns w a l n ks := by
  rcases Go.Deep.open_slice hts h with ⟨hcs, -⟩ | ⟨ad, len, cap, m, n', D, Pl, hcs, -, hl, hm, hmm, -, hel⟩
  · simp at hcs; obtain ⟨rfl, rfl, rfl⟩ := hcs
    exact ⟨fun _ => ⟨0, 0, 0, 0, false⟩, Nat.le_refl _, Nat.zero_le _, fun h => absurd h (Nat.lt_irrefl _)⟩
  · simp at hcs; obtain ⟨rfl, rfl, rfl⟩ := hcs
    simp only [if_true] at hmm
    subst hmm
    obtain ⟨b, off, spot⟩ := ad
    have hff : ∀ i o ty, #[(0, ti), (1, ti), (2, ti), (3, ti), (4, tb)][i]? = some (o, ty) → (fs[i]?).map (fun f : Field => (f.offset, f.type)) = some (o, ty) := fun i o ty h => by
      rw [← hf, Array.getElem?_map] at h; exact h
    have each : ∀ i, i < m → (i = 0 → spot = none) ∧ (spot = none → ∃ k, RunAt w b (off + i * 5) k) := fun i hi' => by
      obtain ⟨cs', h1, h2⟩ := hel i hi'
      obtain ⟨-, hlen, hcell⟩ := World.cells?_some h1
      rw [hc] at hlen hcell
      obtain ⟨c0, c1, c2, c3, c4, rfl⟩ := list5 hlen
      have g0 := hcell 0 (by omega); have g1 := hcell 1 (by omega); have g2 := hcell 2 (by omega); have g3 := hcell 3 (by omega); have g4 := hcell 4 (by omega)
      obtain ⟨m0, y0, t0⟩ := trod_field he (hff 0 0 ti rfl) h2
      obtain ⟨m1, y1, t1⟩ := trod_field he (hff 1 1 ti rfl) h2
      obtain ⟨m2, y2, t2⟩ := trod_field he (hff 2 2 ti rfl) h2
      obtain ⟨m3, y3, t3⟩ := trod_field he (hff 3 3 ti rfl) h2
      obtain ⟨m4, y4, t4⟩ := trod_field he (hff 4 4 tb rfl) h2
      rw [hi1] at t0 t1 t2 t3
      rw [hz1] at t4
      simp at t0 t1 t2 t3 t4 g0 g1 g2 g3 g4
      obtain ⟨z0, e0, b0⟩ := trod_i64 hi t0
      obtain ⟨z1, e1, -⟩ := trod_i64 hi t1
      obtain ⟨z2, e2, -⟩ := trod_i64 hi t2
      obtain ⟨z3, e3, -⟩ := trod_i64 hi t3
      obtain ⟨z4, e4⟩ := trod_bool hz t4
      simp at e0 e1 e2 e3 e4
      subst e0; subst e1; subst e2; subst e3; subst e4
      refine ⟨fun h0 => ?_, fun hs => ?_⟩
      · subst h0; simpa [Addr.add] using World.cell?_spot g0
      subst hs
      refine ⟨⟨z0, z1, z2, z3, z4⟩, ?_, ?_, ?_, ?_, ?_, b0⟩
      · simpa [Go.WideShapes.add_plain] using g0
      · simpa [Go.WideShapes.add_plain, Nat.add_assoc] using g1
      · simpa [Go.WideShapes.add_plain, Nat.add_assoc] using g2
      · simpa [Go.WideShapes.add_plain, Nat.add_assoc] using g3
      · simpa [Go.WideShapes.add_plain, Nat.add_assoc] using g4
    by_cases hs : spot = none
    · refine ⟨fun i => if h : i < m then ((each i h).2 hs).choose else ⟨0, 0, 0, 0, false⟩, hl, hm, fun h0 => ?_⟩
      refine ⟨b, off, by rw [hs], fun i hi' => ?_⟩
      have := ((each i (by omega)).2 hs).choose_spec
      simp only [show i < m by omega, dite_true]
      exact this
    · refine ⟨fun _ => ⟨0, 0, 0, 0, false⟩, hl, hm, fun h0 => absurd ((each 0 (by omega)).1 rfl) hs⟩
end
end Go.Proofs.YtcdcfkgdgimmcaaDoor
