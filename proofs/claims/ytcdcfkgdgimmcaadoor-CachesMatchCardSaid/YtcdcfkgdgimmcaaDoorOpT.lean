/- Slices of tasks and of frames that came in. Plain laws of the form. No condition. -/
import Derived.Test.YtcdcfkgdgimmcaaDoorOpW
import Derived.Test.YtcdcfkgdgimmcaaDoorJnC
namespace Go.Proofs.YtcdcfkgdgimmcaaDoor
open Go Go.RowKit Go.ChangeShapes Go.WideShapes Go.ChangeAt
/-- A task: its number and its region. -/
structure Tk where
  no : Int
  x : Int
  y : Int
  v : Int
  h : Int
def tkC (k : Tk) : List Value := [.int .i64 k.no, .int .i64 k.x, .int .i64 k.y, .int .i64 k.v, .int .i64 k.h]
def IsTasks (w : World) (a : Option Addr) (n : Nat) (ts : Nat → Tk) : Prop :=
  n ≤ maxLen ∧ (0 < n → ∃ b off, a = some ⟨b, off, none⟩ ∧ ∀ q, q < n → ∀ j v, (tkC (ts q))[j]? = some v → w.cell? ⟨b, off + q * 5 + j, none⟩ = some v)
def IsFrames (w : World) (a : Option Addr) (n : Nat) (ks : Nat → Fr) : Prop :=
  n ≤ maxLen ∧ FrsAt w a n ks ∧ ∀ q, q < n → (IntKind.i64.min ≤ (ks q).x ∧ (ks q).x ≤ IntKind.i64.max) ∧ (IntKind.i64.min ≤ (ks q).y ∧ (ks q).y ≤ IntKind.i64.max)
section
variable {H : Type} {enc : TypeId × Value → H} {P : Program} {w : World} {base : Nat} {spare : Nat → Bool} {held : Bool} {t : TypeId} {fuel : Nat} {cs : List Value} {x : DataW H × List MemPlace}
theorem list4 {l : List Value} (h : l.length = 4) : ∃ a b c d, l = [a, b, c, d] := by
  match l, h with
  | [a, b, c, d], _ => exact ⟨a, b, c, d, rfl⟩
theorem fld {fs : Array Field} {L : Array (Nat × TypeId)} (hf : fs.map (fun f => (f.offset, f.type)) = L) {i o : Nat} {ty : TypeId} (h : L[i]? = some (o, ty)) : (fs[i]?).map (fun f : Field => (f.offset, f.type)) = some (o, ty) := by
  rw [← hf, Array.getElem?_map] at h; exact h
theorem trod_reg {ti : TypeId} {fs : Array Field} (hu : P.underlying t = some (.struct fs)) (hc : P.cellsOf t = 4) (hf : fs.map (fun f => (f.offset, f.type)) = #[(0, ti), (1, ti), (2, ti), (3, ti)])
    (hi : P.underlying ti = some (.int .i64)) (hi1 : P.cellsOf ti = 1) (h : DataW.trod enc P w base spare held fuel t cs = some x) : ∃ z0 z1 z2 z3, cs = [.int .i64 z0, .int .i64 z1, .int .i64 z2, .int .i64 z3] ∧ (IntKind.i64.min ≤ z0 ∧ z0 ≤ IntKind.i64.max) ∧ (IntKind.i64.min ≤ z1 ∧ z1 ≤ IntKind.i64.max) := by
  obtain ⟨xs, n, -, -, hlen, -, -⟩ := DataW.trod_struct hu h
  rw [hc] at hlen
  obtain ⟨c0, c1, c2, c3, rfl⟩ := list4 hlen
  obtain ⟨m0, y0, t0⟩ := trod_field hu (fld hf (i := 0) rfl) h
  obtain ⟨m1, y1, t1⟩ := trod_field hu (fld hf (i := 1) rfl) h
  obtain ⟨m2, y2, t2⟩ := trod_field hu (fld hf (i := 2) rfl) h
  obtain ⟨m3, y3, t3⟩ := trod_field hu (fld hf (i := 3) rfl) h
  rw [hi1] at t0 t1 t2 t3
  simp at t0 t1 t2 t3
  obtain ⟨z0, e0, b0⟩ := trod_i64 hi t0
  obtain ⟨z1, e1, b1⟩ := trod_i64 hi t1
  obtain ⟨z2, e2, -⟩ := trod_i64 hi t2
  obtain ⟨z3, e3, -⟩ := trod_i64 hi t3
  simp at e0 e1 e2 e3
  subst e0; subst e1; subst e2; subst e3
  exact ⟨z0, z1, z2, z3, rfl, b0, b1⟩
theorem open_tasks {e ti tr : TypeId} {fs fr : Array Field} {a : Option Addr} {l n : Nat} (hts : P.underlying t = some (.slice e)) (he : P.underlying e = some (.struct fs)) (hc : P.cellsOf e = 5) (hf : fs.map (fun f => (f.offset, f.type)) = #[(0, ti), (1, tr)])
    (hi : P.underlying ti = some (.int .i64)) (hi1 : P.cellsOf ti = 1) (hr : P.underlying tr = some (.struct fr)) (hr1 : P.cellsOf tr = 4) (hrf : fr.map (fun f => (f.offset, f.type)) = #[(0, ti), (1, ti), (2, ti), (3, ti)]) (h : DataW.trod enc P w base (fun _ => true) held fuel t [.slice a l n] = some x) : ∃ ks, IsTasks w a l ks := by
  rcases Go.Deep.open_slice hts h with ⟨hcs, -⟩ | ⟨ad, len, cap, m, n', D, Pl, hcs, -, hl, hm, hmm, -, hel⟩
  · simp at hcs; obtain ⟨rfl, rfl, rfl⟩ := hcs
    exact ⟨fun _ => ⟨0, 0, 0, 0, 0⟩, Nat.zero_le _, fun h => absurd h (Nat.lt_irrefl _)⟩
  · simp at hcs; obtain ⟨rfl, rfl, rfl⟩ := hcs
    simp only [if_true] at hmm
    subst hmm
    obtain ⟨b, off, spot⟩ := ad
    have each : ∀ i, i < m → (i = 0 → spot = none) ∧ (spot = none → ∃ k, ∀ j v, (tkC k)[j]? = some v → w.cell? ⟨b, off + i * 5 + j, none⟩ = some v) := fun i hi' => by
      obtain ⟨cs', h1, h2⟩ := hel i hi'
      obtain ⟨-, hlen, hcell⟩ := World.cells?_some h1
      rw [hc] at hlen hcell
      obtain ⟨c0, c1, c2, c3, c4, rfl⟩ := list5 hlen
      have g0 := hcell 0 (by omega)
      obtain ⟨m0, y0, t0⟩ := trod_field he (fld hf (i := 0) rfl) h2
      obtain ⟨m1, y1, t1⟩ := trod_field he (fld hf (i := 1) rfl) h2
      rw [hi1] at t0
      rw [hr1] at t1
      simp at t0 t1 g0
      obtain ⟨z0, e0, b0⟩ := trod_i64 hi t0
      obtain ⟨z1, z2, z3, z4, e1, -, -⟩ := trod_reg hr hr1 hrf hi hi1 t1
      simp at e0 e1
      subst e0
      obtain ⟨rfl, rfl, rfl, rfl⟩ := e1
      refine ⟨fun h0 => ?_, fun hs => ?_⟩
      · subst h0; simpa [Addr.add] using World.cell?_spot g0
      subst hs
      refine ⟨⟨z0, z1, z2, z3, z4⟩, fun j v hj => ?_⟩
      have hj5 : j < 5 := by
        rcases Nat.lt_or_ge j 5 with h | h
        · exact h
        · rw [List.getElem?_eq_none (by simp [tkC]; omega)] at hj; cases hj
      have := hcell j hj5
      rw [show ([Value.int .i64 z0, .int .i64 z1, .int .i64 z2, .int .i64 z3, .int .i64 z4] : List Value)[j]? = some v from hj] at this
      simpa [Go.WideShapes.add_plain, Nat.add_assoc] using this
    by_cases hs : spot = none
    · refine ⟨fun i => if h : i < m then ((each i h).2 hs).choose else ⟨0, 0, 0, 0, 0⟩, by omega, fun h0 => ?_⟩
      refine ⟨b, off, by rw [hs], fun i hi' => ?_⟩
      have := ((each i (by omega)).2 hs).choose_spec
      simp only [show i < m by omega, dite_true]
      exact this
    · refine ⟨fun _ => ⟨0, 0, 0, 0, 0⟩, by omega, fun h0 => absurd ((each 0 (by omega)).1 rfl) hs⟩
theorem open_frames {e ti tr tv tf : TypeId} {fs fr : Array Field} {a : Option Addr} {l n : Nat} (hts : P.underlying t = some (.slice e)) (he : P.underlying e = some (.struct fs)) (hc : P.cellsOf e = 5) (hf : fs.map (fun f => (f.offset, f.type)) = #[(0, tr), (4, tv)])
    (hi : P.underlying ti = some (.int .i64)) (hi1 : P.cellsOf ti = 1) (hr : P.underlying tr = some (.struct fr)) (hr1 : P.cellsOf tr = 4) (hrf : fr.map (fun f => (f.offset, f.type)) = #[(0, ti), (1, ti), (2, ti), (3, ti)])
    (hv : P.underlying tv = some (.slice tf)) (hv1 : P.cellsOf tv = 1) (hff : P.underlying tf = some (.float .f32)) (hf1 : P.cellsOf tf = 1) (h : DataW.trod enc P w base (fun _ => true) held fuel t [.slice a l n] = some x) : ∃ ks, IsFrames w a l ks := by
  rcases Go.Deep.open_slice hts h with ⟨hcs, -⟩ | ⟨ad, len, cap, m, n', D, Pl, hcs, -, hl, hm, hmm, -, hel⟩
  · simp at hcs; obtain ⟨rfl, rfl, rfl⟩ := hcs
    exact ⟨fun _ => ⟨0, 0, 0, 0, none, 0, 0, fun _ => 0⟩, Nat.zero_le _, ⟨fun h => absurd h (Nat.lt_irrefl _), fun q hq => absurd hq (Nat.not_lt_zero _)⟩, fun q hq => absurd hq (Nat.not_lt_zero _)⟩
  · simp at hcs; obtain ⟨rfl, rfl, rfl⟩ := hcs
    simp only [if_true] at hmm
    subst hmm
    obtain ⟨b, off, spot⟩ := ad
    have each : ∀ i, i < m → (i = 0 → spot = none) ∧ ∃ k : Fr, (spot = none → ∀ j v, (frV k)[j]? = some v → w.cell? ⟨b, off + i * 5 + j, none⟩ = some v) ∧ (0 < k.an → ∃ b off, k.aa = some ⟨b, off, none⟩ ∧ Row w b off k.an k.fs) ∧ (IntKind.i64.min ≤ k.x ∧ k.x ≤ IntKind.i64.max) ∧ (IntKind.i64.min ≤ k.y ∧ k.y ≤ IntKind.i64.max) := fun i hi' => by
      obtain ⟨cs', h1, h2⟩ := hel i hi'
      obtain ⟨-, hlen, hcell⟩ := World.cells?_some h1
      rw [hc] at hlen hcell
      obtain ⟨c0, c1, c2, c3, c4, rfl⟩ := list5 hlen
      have g0 := hcell 0 (by omega)
      obtain ⟨m0, y0, t0⟩ := trod_field he (fld hf (i := 0) rfl) h2
      obtain ⟨m1, y1, t1⟩ := trod_field he (fld hf (i := 1) rfl) h2
      rw [hr1] at t0
      rw [hv1] at t1
      simp at t0 t1 g0
      obtain ⟨z0, z1, z2, z3, e0, b0, b1⟩ := trod_reg hr hr1 hrf hi hi1 t0
      simp at e0
      obtain ⟨rfl, rfl, rfl, rfl⟩ := e0
      have hs : ∃ aa an ac, c4 = .slice aa an ac := by
        rcases Go.Deep.open_slice hv t1 with ⟨hcs, -⟩ | ⟨_, _, _, _, _, _, _, hcs, -⟩
        · simp at hcs; exact ⟨_, _, _, hcs⟩
        · simp at hcs; exact ⟨_, _, _, hcs⟩
      obtain ⟨aa, an, ac, rfl⟩ := hs
      obtain ⟨zs, hin⟩ := open_floats_slice hv hff hf1 t1
      refine ⟨fun h0 => ?_, ⟨z0, z1, z2, z3, aa, an, ac, zs⟩, fun hs j v hj => ?_, fun h0 => ?_, b0, b1⟩
      · subst h0; simpa [Addr.add] using World.cell?_spot g0
      · subst hs
        have hj5 : j < 5 := by
          rcases Nat.lt_or_ge j 5 with h | h
          · exact h
          · rw [List.getElem?_eq_none (by simp [frV]; omega)] at hj; cases hj
        have := hcell j hj5
        rw [show ([Value.int .i64 z0, .int .i64 z1, .int .i64 z2, .int .i64 z3, .slice aa an ac] : List Value)[j]? = some v from hj] at this
        simpa [Go.WideShapes.add_plain, Nat.add_assoc] using this
      · rcases hin with ⟨hz, -⟩ | ⟨b2, off2, h1, -, h3, -, h5⟩
        · exact absurd h0 (by show ¬ 0 < an; omega)
        · exact ⟨b2, off2, h1, fun j hj => (h5 j (Nat.lt_of_lt_of_le hj h3)).1⟩
    by_cases hs : spot = none
    · refine ⟨fun i => if h : i < m then (each i h).2.choose else ⟨0, 0, 0, 0, none, 0, 0, fun _ => 0⟩, by omega, ⟨fun h0 => ⟨b, off, by rw [hs], fun i hi' => ?_⟩, fun i hi' => ?_⟩, fun i hi' => ?_⟩
      all_goals
        have := (each i (by omega)).2.choose_spec
        simp only [show i < m by omega, dite_true]
      · exact this.1 hs
      · exact this.2.1
      · exact this.2.2
    · refine ⟨fun i => if h : i < m then (each i h).2.choose else ⟨0, 0, 0, 0, none, 0, 0, fun _ => 0⟩, by omega, ⟨fun h0 => absurd ((each 0 (by omega)).1 rfl) hs, fun i hi' => ?_⟩, fun i hi' => ?_⟩
      all_goals
        have := (each i (by omega)).2.choose_spec
        simp only [show i < m by omega, dite_true]
      · exact this.2.1
      · exact this.2.2
theorem slice_len {e : TypeId} {a : Option Addr} {l n : Nat} (hts : P.underlying t = some (.slice e)) (h : DataW.trod enc P w base spare held fuel t [.slice a l n] = some x) : l = 0 ∨ ∃ es rs, x.1 = .slice es rs ∧ l ≤ es.length + rs.length := by
  rcases Go.Deep.open_slice hts h with ⟨hcs, -⟩ | ⟨ad, len, cap, m, n', D, Pl, hcs, -, hl, hm, hmm, hx, -⟩
  · simp at hcs; exact .inl hcs.2.1
  · simp at hcs; obtain ⟨rfl, rfl, rfl⟩ := hcs
    refine .inr ⟨_, _, by rw [hx], ?_⟩
    simp
end
end Go.Proofs.YtcdcfkgdgimmcaaDoor
