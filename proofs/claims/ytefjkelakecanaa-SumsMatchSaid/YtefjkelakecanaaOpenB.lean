/- A slice of singles within a struct that came in. Plain laws of the form. No condition. -/
import Derived.Test.YtefjkelakecanaaOpen
namespace Go.Proofs.Ytefjkelakecanaa
open Go Go.RowKit Go.ChangeShapes Go.WideShapes Go.ChangeAt
/-- What the walk is told of a slice of singles that came in. -/
def IsFloats (w : World) (a : Option Addr) (len cap : Nat) (fs : Nat → Nat) : Prop :=
  (len = 0 ∧ cap = 0) ∨
  ∃ b off, a = some ⟨b, off, none⟩ ∧ 0 < cap ∧ len ≤ cap ∧ cap ≤ maxLen ∧ ∀ i, i < cap → w.cell? ⟨b, off + i, none⟩ = some (.float .f32 (fs i)) ∧ fs i < 2 ^ FloatKind.f32.format.width
section
variable {H : Type} {enc : TypeId × Value → H} {P : Program} {w : World} {base : Nat} {spare : Nat → Bool} {held : Bool} {t : TypeId} {fuel : Nat} {cs : List Value} {x : DataW H × List MemPlace}
theorem trod_float {k : FloatKind} (ht : P.underlying t = some (.float k)) (h : DataW.trod enc P w base spare held fuel t cs = some x) : ∃ n, cs = [.float k n] ∧ (Lit.float k n).wf = true := by
  cases fuel with
  | zero => simp [DataW.trod] at h
  | succ n =>
    unfold DataW.trod at h
    rw [ht] at h
    split at h <;> simp_all
theorem open_floats_slice {e : TypeId} {a : Option Addr} {l n : Nat} (hts : P.underlying t = some (.slice e)) (he : P.underlying e = some (.float .f32)) (hc : P.cellsOf e = 1) (h : DataW.trod enc P w base (fun _ => true) held fuel t [.slice a l n] = some x) : ∃ fs, IsFloats w a l n fs := by
  rcases Go.Deep.open_slice hts h with ⟨hcs, -⟩ | ⟨ad, len, cap, m, n', D, Pl, hcs, -, hl, hm, hmm, -, hel⟩
  · simp at hcs; obtain ⟨rfl, rfl, rfl⟩ := hcs
    exact ⟨fun _ => 0, .inl ⟨rfl, rfl⟩⟩
  · simp at hcs; obtain ⟨rfl, rfl, rfl⟩ := hcs
    simp only [if_true] at hmm
    subst hmm
    have each : ∀ i, i < m → ∃ b, w.cell? (ad.add i) = some (.float .f32 b) ∧ b < 2 ^ FloatKind.f32.format.width := fun i hi => by
      obtain ⟨cs', h1, h2⟩ := hel i hi
      rw [hc, Nat.mul_one] at h1
      obtain ⟨b, rfl, hb⟩ := trod_float he h2
      refine ⟨b, cell_of_cells?_one h1, ?_⟩
      exact (show b < 2 ^ 32 by simpa [Lit.wf] using hb)
    obtain ⟨b, off, spot⟩ := ad
    rcases Nat.eq_zero_or_pos m with hz | hz
    · subst hz
      exact ⟨fun _ => 0, .inl ⟨by omega, rfl⟩⟩
    · obtain ⟨b0, hb0, -⟩ := each 0 hz
      have hspot : spot = none := by simpa [Addr.add] using World.cell?_spot hb0
      subst hspot
      refine ⟨fun i => if h : i < m then (each i h).choose else 0, .inr ⟨b, off, rfl, hz, hl, hm, fun i hi => ?_⟩⟩
      have := (each i hi).choose_spec
      simp only [hi, dite_true]
      rw [← Go.WideShapes.add_plain]
      exact this
theorem trod_field {fs : Array Field} {i : Nat} {off : Nat} {ts : TypeId} (ht : P.underlying t = some (.struct fs)) (hi : (fs[i]?).map (fun f => (f.offset, f.type)) = some (off, ts)) (h : DataW.trod enc P w base spare held fuel t cs = some x) :
    ∃ n y, DataW.trod enc P w base spare held n ts ((cs.drop off).take (P.cellsOf ts)) = some y := by
  obtain ⟨xs, n, -, -, -, hl, hf⟩ := DataW.trod_struct ht h
  obtain ⟨f, hf1, hf2⟩ := Option.map_eq_some_iff.1 hi
  simp only [Prod.mk.injEq] at hf2
  have := hf i f hf1
  rw [hf2.1, hf2.2] at this
  have hlt : i < xs.length := by rw [hl]; exact (Array.getElem?_eq_some_iff.1 hf1).1
  exact ⟨n, xs[i], by rw [this]; exact List.getElem?_eq_getElem hlt⟩
end
end Go.Proofs.Ytefjkelakecanaa
