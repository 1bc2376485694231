/- Slices of machines that came in. Plain laws of the form. No condition. -/
import Derived.Test.YtkadinjhfldokaaOpW
import Derived.Test.YtkadinjhfldokaaDnA
namespace Go.Proofs.Ytkadinjhfldokaa
open Go Go.RowKit Go.ChangeShapes Go.WideShapes Go.ChangeAt
/-- A slice of spans that came in, as far as it is read. -/
def InS (w : World) (a : Option Addr) (n c : Nat) (df dt : Nat → Int) : Prop :=
  n ≤ c ∧ c ≤ maxLen ∧ (0 < n → ∃ b off, a = some ⟨b, off, none⟩ ∧ ∀ j, j < n → w.cell? ⟨b, off + j * 2, none⟩ = some (.int .i64 (df j)) ∧ w.cell? ⟨b, off + j * 2 + 1, none⟩ = some (.int .i64 (dt j)) ∧
    (IntKind.i64.min ≤ df j ∧ df j ≤ IntKind.i64.max) ∧ (IntKind.i64.min ≤ dt j ∧ dt j ≤ IntKind.i64.max))
/-- A machine: its speed, and when it is down. -/
structure Mc where
  sp : Int
  da : Option Addr
  dn : Nat
  dc : Nat
  df : Nat → Int
  dt : Nat → Int
def McAt (w : World) (b o : Nat) (k : Mc) : Prop :=
  w.cell? ⟨b, o, none⟩ = some (.int .i64 k.sp) ∧ w.cell? ⟨b, o + 1, none⟩ = some (.slice k.da k.dn k.dc) ∧ (IntKind.i64.min ≤ k.sp ∧ k.sp ≤ IntKind.i64.max) ∧ InS w k.da k.dn k.dc k.df k.dt
def IsMachines (w : World) (a : Option Addr) (n c : Nat) (ks : Nat → Mc) : Prop :=
  n ≤ c ∧ c ≤ maxLen ∧ (0 < n → ∃ b off, a = some ⟨b, off, none⟩ ∧ ∀ i, i < n → McAt w b (off + i * 2) (ks i))
section
variable {H : Type} {enc : TypeId × Value → H} {P : Program} {w : World} {base : Nat} {spare : Nat → Bool} {held : Bool} {t : TypeId} {fuel : Nat} {cs : List Value} {x : DataW H × List MemPlace}
theorem list2 {l : List Value} (h : l.length = 2) : ∃ a b, l = [a, b] := by
  match l, h with
  | [a, b], _ => exact ⟨a, b, rfl⟩
theorem trod_inS {e ti : TypeId} {fs : Array Field} {a : Option Addr} {l n : Nat} (hts : P.underlying t = some (.slice e)) (he : P.underlying e = some (.struct fs)) (hc : P.cellsOf e = 2) (hf : fs.map (fun f => (f.offset, f.type)) = #[(0, ti), (1, ti)])
    (hi : P.underlying ti = some (.int .i64)) (hi1 : P.cellsOf ti = 1) (h : DataW.trod enc P w base (fun _ => true) held fuel t [.slice a l n] = some x) : ∃ df dt, InS w a l n df dt := by
  rcases Go.Deep.open_slice hts h with ⟨hcs, -⟩ | ⟨ad, len, cap, m, n', D, Pl, hcs, -, hl, hm, hmm, -, hel⟩
  · simp at hcs; obtain ⟨rfl, rfl, rfl⟩ := hcs
    exact ⟨fun _ => 0, fun _ => 0, Nat.le_refl _, Nat.zero_le _, fun h => absurd h (Nat.lt_irrefl _)⟩
  · simp at hcs; obtain ⟨rfl, rfl, rfl⟩ := hcs
    simp only [if_true] at hmm
    subst hmm
    obtain ⟨b, off, spot⟩ := ad
    have hff : ∀ i o ty, #[(0, ti), (1, ti)][i]? = some (o, ty) → (fs[i]?).map (fun f : Field => (f.offset, f.type)) = some (o, ty) := fun i o ty h => by
      rw [← hf, Array.getElem?_map] at h; exact h
    have each : ∀ i, i < m → (i = 0 → spot = none) ∧ (spot = none → ∃ k : Int × Int, w.cell? ⟨b, off + i * 2, none⟩ = some (.int .i64 k.1) ∧ w.cell? ⟨b, off + i * 2 + 1, none⟩ = some (.int .i64 k.2) ∧ (IntKind.i64.min ≤ k.1 ∧ k.1 ≤ IntKind.i64.max) ∧ (IntKind.i64.min ≤ k.2 ∧ k.2 ≤ IntKind.i64.max)) := fun i hi' => by
      obtain ⟨cs', h1, h2⟩ := hel i hi'
      obtain ⟨-, hlen, hcell⟩ := World.cells?_some h1
      rw [hc] at hlen hcell
      obtain ⟨c0, c1, rfl⟩ := list2 hlen
      have g0 := hcell 0 (by omega); have g1 := hcell 1 (by omega)
      obtain ⟨m0, y0, t0⟩ := trod_field he (hff 0 0 ti rfl) h2
      obtain ⟨m1, y1, t1⟩ := trod_field he (hff 1 1 ti rfl) h2
      rw [hi1] at t0 t1
      simp at t0 t1 g0 g1
      obtain ⟨z0, e0, b0⟩ := trod_i64 hi t0
      obtain ⟨z1, e1, b1⟩ := trod_i64 hi t1
      simp at e0 e1
      subst e0; subst e1
      refine ⟨fun h0 => ?_, fun hs => ?_⟩
      · subst h0; simpa [Addr.add] using World.cell?_spot g0
      subst hs
      refine ⟨⟨z0, z1⟩, ?_, ?_, b0, b1⟩
      · simpa [Go.WideShapes.add_plain] using g0
      · simpa [Go.WideShapes.add_plain, Nat.add_assoc] using g1
    by_cases hs : spot = none
    · refine ⟨fun i => if h : i < m then ((each i h).2 hs).choose.1 else 0, fun i => if h : i < m then ((each i h).2 hs).choose.2 else 0, hl, hm, fun h0 => ?_⟩
      refine ⟨b, off, by rw [hs], fun i hi' => ?_⟩
      have := ((each i (by omega)).2 hs).choose_spec
      simp only [show i < m by omega, dite_true]
      exact this
    · refine ⟨fun _ => 0, fun _ => 0, hl, hm, fun h0 => absurd ((each 0 (by omega)).1 rfl) hs⟩
theorem open_machines {e ti ts tz : TypeId} {fs gs : Array Field} {a : Option Addr} {l n : Nat} (hts : P.underlying t = some (.slice e)) (he : P.underlying e = some (.struct fs)) (hc : P.cellsOf e = 2) (hf : fs.map (fun f => (f.offset, f.type)) = #[(0, ti), (1, tz)])
    (hi : P.underlying ti = some (.int .i64)) (hi1 : P.cellsOf ti = 1) (hz : P.underlying tz = some (.slice ts)) (hz1 : P.cellsOf tz = 1) (hs0 : P.underlying ts = some (.struct gs)) (hs1 : P.cellsOf ts = 2) (hg : gs.map (fun f => (f.offset, f.type)) = #[(0, ti), (1, ti)])
    (h : DataW.trod enc P w base (fun _ => true) held fuel t [.slice a l n] = some x) : ∃ ks, IsMachines w a l n ks := by
  rcases Go.Deep.open_slice hts h with ⟨hcs, -⟩ | ⟨ad, len, cap, m, n', D, Pl, hcs, -, hl, hm, hmm, -, hel⟩
  · simp at hcs; obtain ⟨rfl, rfl, rfl⟩ := hcs
    exact ⟨fun _ => ⟨0, none, 0, 0, fun _ => 0, fun _ => 0⟩, Nat.le_refl _, Nat.zero_le _, fun h => absurd h (Nat.lt_irrefl _)⟩
  · simp at hcs; obtain ⟨rfl, rfl, rfl⟩ := hcs
    simp only [if_true] at hmm
    subst hmm
    obtain ⟨b, off, spot⟩ := ad
    have hff : ∀ i o ty, #[(0, ti), (1, tz)][i]? = some (o, ty) → (fs[i]?).map (fun f : Field => (f.offset, f.type)) = some (o, ty) := fun i o ty h => by
      rw [← hf, Array.getElem?_map] at h; exact h
    have each : ∀ i, i < m → (i = 0 → spot = none) ∧ (spot = none → ∃ k, McAt w b (off + i * 2) k) := fun i hi' => by
      obtain ⟨cs', h1, h2⟩ := hel i hi'
      obtain ⟨-, hlen, hcell⟩ := World.cells?_some h1
      rw [hc] at hlen hcell
      obtain ⟨c0, c1, rfl⟩ := list2 hlen
      have g0 := hcell 0 (by omega); have g1 := hcell 1 (by omega)
      obtain ⟨m0, y0, t0⟩ := trod_field he (hff 0 0 ti rfl) h2
      obtain ⟨m1, y1, t1⟩ := trod_field he (hff 1 1 tz rfl) h2
      rw [hi1] at t0
      rw [hz1] at t1
      simp at t0 t1 g0 g1
      obtain ⟨z0, e0, b0⟩ := trod_i64 hi t0
      simp at e0
      subst e0
      have hs : ∃ aa an ac, c1 = .slice aa an ac := by
        rcases Go.Deep.open_slice hz t1 with ⟨hcs, -⟩ | ⟨_, _, _, _, _, _, _, hcs, -⟩
        · simp at hcs; exact ⟨_, _, _, hcs⟩
        · simp at hcs; exact ⟨_, _, _, hcs⟩
      obtain ⟨aa, an, ac, rfl⟩ := hs
      obtain ⟨df, dt, hin⟩ := trod_inS hz hs0 hs1 hg hi hi1 t1
      refine ⟨fun h0 => ?_, fun hs => ?_⟩
      · subst h0; simpa [Addr.add] using World.cell?_spot g0
      subst hs
      refine ⟨⟨z0, aa, an, ac, df, dt⟩, ?_, ?_, b0, hin⟩
      · simpa [Go.WideShapes.add_plain] using g0
      · simpa [Go.WideShapes.add_plain, Nat.add_assoc] using g1
    by_cases hs : spot = none
    · refine ⟨fun i => if h : i < m then ((each i h).2 hs).choose else ⟨0, none, 0, 0, fun _ => 0, fun _ => 0⟩, hl, hm, fun h0 => ?_⟩
      refine ⟨b, off, by rw [hs], fun i hi' => ?_⟩
      have := ((each i (by omega)).2 hs).choose_spec
      simp only [show i < m by omega, dite_true]
      exact this
    · refine ⟨fun _ => ⟨0, none, 0, 0, fun _ => 0, fun _ => 0⟩, hl, hm, fun h0 => absurd ((each 0 (by omega)).1 rfl) hs⟩
end
/-- They read as they did. -/
theorem InS.below {W w : World} {a : Option Addr} {n c : Nat} {df dt : Nat → Int} (k : InS W a n c df dt) (hb : Below W.heap.size W w) : InS w a n c df dt := by
  refine ⟨k.1, k.2.1, fun h0 => ?_⟩
  obtain ⟨b, off, h1, h2⟩ := k.2.2 h0
  exact ⟨b, off, h1, fun j hj => ⟨(hb.cell (p := ⟨b, off + j * 2, none⟩) (cell_lt (h2 j hj).1)).trans (h2 j hj).1, (hb.cell (p := ⟨b, off + j * 2 + 1, none⟩) (cell_lt (h2 j hj).2.1)).trans (h2 j hj).2.1, (h2 j hj).2.2⟩⟩
theorem McAt.below {W w : World} {b o : Nat} {k : Mc} (h : McAt W b o k) (hb : Below W.heap.size W w) : McAt w b o k :=
  ⟨(hb.cell (p := ⟨b, o, none⟩) (cell_lt h.1)).trans h.1, (hb.cell (p := ⟨b, o + 1, none⟩) (cell_lt h.2.1)).trans h.2.1, h.2.2.1, h.2.2.2.below hb⟩
theorem IsMachines.below {W w : World} {a : Option Addr} {n c : Nat} {ks : Nat → Mc} (k : IsMachines W a n c ks) (hb : Below W.heap.size W w) : IsMachines w a n c ks := by
  refine ⟨k.1, k.2.1, fun h0 => ?_⟩
  obtain ⟨b, off, h1, h2⟩ := k.2.2 h0
  exact ⟨b, off, h1, fun j hj => (h2 j hj).below hb⟩
end Go.Proofs.Ytkadinjhfldokaa
