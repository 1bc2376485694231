/- How a value that came in is opened by its type: integers, floats, structs and arrays by value, slices. Plain laws of the form. No condition. (with: OpenB) -/
import Derived.Test.YtbaocallhnehfaaGreatDoorBA
import Derived.ProofKit
import Derived.OpenShut
import Derived.ShutString
import Derived.ChangeOld
import Derived.Deep.Slices
namespace Go.Proofs.YtbaocallhnehfaaGreatDoor
open Go Go.RowKit Go.ChangeShapes Go.WideShapes Go.ChangeAt
section
variable {P : Program} {w : World} {r : Reach} {b0 : Nat}
theorem cell_slice {u e : TypeId} {c : Value} (hu : P.underlying u = some (.slice e)) (h : Cell.okWide P w r b0 u c) : ∃ a l n, c = .slice a l n := by
  simp only [Cell.okWide, hu] at h
  cases c <;> simp_all [Cell.ok]
/-- A struct or an array by value: its cells, each by its own type. -/
theorem agg_cells {t : TypeId} {us : List TypeId} {v : Value} (hu : (match P.underlying t with | some (.struct _) | some (.array _ _) => true | _ => false) = true) (hc : P.cellTypes P.depth t = some us) (hn : P.cellsOf t = us.length)
    (hv : Value.okWide P w r b0 t v) : ∃ cs : List Value, v = .agg cs.toArray ∧ cs.length = us.length ∧ ∀ (i : Nat) u c, us[i]? = some u → cs[i]? = some c → Cell.okWide P w r b0 u c := by
  have hv' : ∃ cs, v = .agg cs ∧ cs.size = P.cellsOf t ∧ Row.okWide P w r b0 t cs := by
    unfold Value.okWide at hv
    split at hv
    · exact hv
    · exact hv
    · rename_i h1 h2
      split at hu
      · rename_i x hx; exact absurd hx (h1 x)
      · rename_i x y hx; exact absurd hx (h2 x y)
      · cases hu
  obtain ⟨cs, rfl, hs, ts, ht, -, hcs⟩ := hv'
  rw [hc] at ht
  cases ht
  refine ⟨cs.toList, by simp, by simpa using hs.trans hn, fun i u c h1 h2 => ?_⟩
  have hi : i < us.length := (List.getElem?_eq_some_iff.1 h1).1
  obtain ⟨u', hu', ho⟩ := hcs i c (by simpa using h2)
  rw [Nat.mod_eq_of_lt hi, h1] at hu'
  cases hu'
  exact ho
theorem list1 {l : List Value} {n : Nat} (h : l.length = n + 1) : ∃ a m, l = a :: m ∧ m.length = n := by
  cases l with
  | nil => cases h
  | cons a m => exact ⟨a, m, rfl, by simpa using h⟩
theorem list0 {l : List Value} (h : l.length = 0) : l = [] := List.eq_nil_of_length_eq_zero h
end
/-- What the walk is told of a slice of integers that came in. -/
def IsRow (k : IntKind) (w : World) (a : Option Addr) (len cap : Nat) (zs : List Int) : Prop :=
  (a = none ∧ len = 0 ∧ cap = 0 ∧ zs = []) ∨
  ∃ x, a = some x ∧ len ≤ cap ∧ cap ≤ maxLen ∧ zs.length = cap ∧ (∀ i, i < zs.length → w.cell? (x.add i) = some (.int k (zs.getD i 0))) ∧ ∀ n ∈ zs, (Lit.int k n).wf = true
end Go.Proofs.YtbaocallhnehfaaGreatDoor

namespace Go.Proofs.YtbaocallhnehfaaGreatDoor
open Go Go.RowKit Go.ChangeShapes Go.WideShapes Go.ChangeAt
/-- What the walk is told of a slice of singles that came in. -/
def IsFloats (w : World) (a : Option Addr) (len cap : Nat) (fs : Nat → Nat) : Prop :=
  (len = 0 ∧ cap = 0) ∨
  ∃ b off, a = some ⟨b, off, none⟩ ∧ 0 < cap ∧ len ≤ cap ∧ cap ≤ maxLen ∧ ∀ i, i < cap → w.cell? ⟨b, off + i, none⟩ = some (.float .f32 (fs i)) ∧ fs i < 2 ^ FloatKind.f32.format.width
section
variable {H : Type} {enc : TypeId × Value → H} {P : Program} {w : World} {base : Nat} {spare : Nat → Bool} {held : Bool} {t : TypeId} {fuel : Nat} {cs : List Value} {x : DataW H × List MemPlace}
theorem trod_float {k : FloatKind} (ht : P.underlying t = some (.float k)) (h : DataW.trod enc P w base spare held fuel t cs = some x) : ∃ n, cs = [.float k n] ∧ (Lit.float k n).wf = true := by
  cases fuel with
  | zero => simp [DataW.trod] at h
  | succ n =>
    unfold DataW.trod at h
    rw [ht] at h
    split at h <;> simp_all
theorem trod_field {fs : Array Field} {i : Nat} {off : Nat} {ts : TypeId} (ht : P.underlying t = some (.struct fs)) (hi : (fs[i]?).map (fun f => (f.offset, f.type)) = some (off, ts)) (h : DataW.trod enc P w base spare held fuel t cs = some x) :
    ∃ n y, DataW.trod enc P w base spare held n ts ((cs.drop off).take (P.cellsOf ts)) = some y := by
  obtain ⟨xs, n, -, -, -, hl, hf⟩ := DataW.trod_struct ht h
  obtain ⟨f, hf1, hf2⟩ := Option.map_eq_some_iff.1 hi
  simp only [Prod.mk.injEq] at hf2
  have := hf i f hf1
  rw [hf2.1, hf2.2] at this
  have hlt : i < xs.length := by rw [hl]; exact (Array.getElem?_eq_some_iff.1 hf1).1
  exact ⟨n, xs[i], by rw [this]; exact List.getElem?_eq_getElem hlt⟩
end
end Go.Proofs.YtbaocallhnehfaaGreatDoor
