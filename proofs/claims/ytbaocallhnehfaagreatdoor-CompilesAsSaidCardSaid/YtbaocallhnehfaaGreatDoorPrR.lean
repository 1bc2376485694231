/- Rows of structs that came in, opened. Plain laws of the form. No condition. -/
import Derived.Test.YtbaocallhnehfaaGreatDoorOpG
import Derived.OpenShut
set_option linter.unusedVariables false
namespace Go.Proofs.YtbaocallhnehfaaGreatDoor
open Go Go.RowKit Go.ChangeShapes Go.WideShapes Go.ChangeAt
/-- A row of structs of size sz that came in: where it lies, and each one's cells. -/
structure RowP (w : World) (a : Option Addr) (n c sz : Nat) (v : Nat → List Value) : Prop where
  lc : n ≤ c
  lm : c ≤ maxLen
  at_ : n = 0 ∨ ∃ b off, a = some ⟨b, off, none⟩ ∧ ∀ i, i < n → ∀ j x, (v i)[j]? = some x → w.cell? ⟨b, off + i * sz + j, none⟩ = some x
theorem RowP.past {w w' : World} {a : Option Addr} {n c sz : Nat} {v : Nat → List Value} (h : RowP w a n c sz v) (hb : Below w.heap.size w w') : RowP w' a n c sz v := by
  refine ⟨h.lc, h.lm, ?_⟩
  rcases h.at_ with h1 | ⟨b, off, h1, h2⟩
  · exact .inl h1
  · exact .inr ⟨b, off, h1, fun i hi j x hx => by
      have h3 := h2 i hi j x hx
      rw [hb.cell (p := ⟨b, off + i * sz + j, none⟩) (cell_lt h3)]; exact h3⟩
theorem RowP.get {w : World} {a : Option Addr} {n c sz : Nat} {v : Nat → List Value} (h : RowP w a n c sz v) {i : Nat} (hi : i < n) : ∃ b off, a = some ⟨b, off, none⟩ ∧ ∀ j x, (v i)[j]? = some x → w.cell? ⟨b, off + i * sz + j, none⟩ = some x := by
  rcases h.at_ with h1 | ⟨b, off, h1, h2⟩
  · omega
  · exact ⟨b, off, h1, h2 i hi⟩
/-- Cell o of a value of type t is one of type u. -/
inductive LeafP (P : Program) : TypeId → Nat → TypeId → Prop
  | self {t : TypeId} (h : P.cellsOf t = 1) : LeafP P t 0 t
  | field {t ts u : TypeId} {fs : Array Field} {off o k : Nat} (i : Nat) (ht : P.underlying t = some (.struct fs)) (hi : (fs[i]?).map (fun f : Field => (f.offset, f.type)) = some (off, ts)) (hk : P.cellsOf ts = k) (hl : o < k) (h : LeafP P ts o u) : LeafP P t (off + o) u
  | elem {t e u : TypeId} {n o k : Nat} (i : Nat) (ht : P.underlying t = some (.array n e)) (hi : i < n) (hk : P.cellsOf e = k) (hl : o < k) (h : LeafP P e o u) : LeafP P t (i * k + o) u
section
variable {H : Type} {enc : TypeId × Value → H} {P : Program} {w : World} {base : Nat} {spare : Nat → Bool} {held : Bool}
theorem LeafP.trod {t u : TypeId} {o : Nat} (h : LeafP P t o u) : ∀ (fuel : Nat) (cs : List Value) (x : DataW H × List MemPlace), DataW.trod enc P w base spare held fuel t cs = some x → cs.length ≤ P.cellsOf t → ∀ c, cs[o]? = some c → ∃ m y, DataW.trod enc P w base spare held m u [c] = some y := by
  induction h with
  | self h1 =>
    intro fuel cs x hx hlen c hc
    rw [h1] at hlen
    match cs, hlen, hc with
    | [d], _, hc =>
      simp only [List.getElem?_cons_zero, Option.some.injEq] at hc
      subst hc
      exact ⟨fuel, x, hx⟩
    | [], _, hc => simp at hc
    | _ :: _ :: _, hlen, _ => simp at hlen
  | field i ht hi hk hl _ ih =>
    subst hk
    intro fuel cs x hx _ c hc
    obtain ⟨m, y, hy⟩ := trod_field ht hi hx
    refine ih m _ y hy (by simp; omega) c ?_
    rw [List.getElem?_take, if_pos hl, List.getElem?_drop]
    exact hc
  | elem i ht hi hk hl _ ih =>
    subst hk
    intro fuel cs x hx _ c hc
    obtain ⟨xs, m, -, -, -, hxl, he⟩ := DataW.trod_array ht hx
    have h1 := he i hi
    obtain ⟨y, hy⟩ : ∃ y, xs[i]? = some y := ⟨_, List.getElem?_eq_getElem (by omega)⟩
    rw [hy] at h1
    refine ih m _ y h1 (by simp; omega) c ?_
    rw [List.getElem?_take, if_pos hl, List.getElem?_drop]
    exact hc
end
def allP (P : Nat → Prop) : Nat → Prop
  | 0 => True
  | n + 1 => allP P n ∧ P n
theorem allP_at {P : Nat → Prop} : ∀ {n : Nat}, allP P n → ∀ j, j < n → P j
  | 0, _, _, hj => absurd hj (Nat.not_lt_zero _)
  | n + 1, h, j, hj => if e : j = n then by rw [e]; exact h.2 else allP_at h.1 j (by omega)
section
variable {H : Type} {enc : TypeId × Value → H} {w : World} {base : Nat} {held : Bool} {fuel : Nat} {cs : List Value} {x : DataW H × List MemPlace}
theorem open_rowP {P : Program} {t e : TypeId} {D : Type} [Inhabited D] (v : D → List Value) (Pr : D → Prop) {a : Option Addr} {l n sz : Nat} (hts : P.underlying t = some (.slice e)) (hc : P.cellsOf e = sz) (hs : 0 < sz)
    (each : ∀ m cs y, DataW.trod enc P w base (fun _ => true) held m e cs = some y → cs.length = sz → ∃ d : D, (∀ (j : Nat) (u : Value), (v d)[j]? = some u → cs[j]? = some u) ∧ Pr d)
    (h : DataW.trod enc P w base (fun _ => true) held fuel t [.slice a l n] = some x) : ∃ f : Nat → D, RowP w a l n sz (fun i => v (f i)) ∧ ∀ i, i < l → Pr (f i) := by
  rcases Go.Deep.open_slice hts h with ⟨hcs, -⟩ | ⟨ad, len, cap, m, n', D', Pl, hcs, -, hl, hm, hmm, -, hel⟩
  · simp at hcs; obtain ⟨rfl, rfl, rfl⟩ := hcs
    exact ⟨fun _ => default, ⟨Nat.le_refl _, Nat.zero_le _, .inl rfl⟩, fun i hi => absurd hi (Nat.not_lt_zero _)⟩
  · simp at hcs; obtain ⟨rfl, rfl, rfl⟩ := hcs
    simp only [if_true] at hmm
    subst hmm
    obtain ⟨b, off, spot⟩ := ad
    have ev : ∀ i, i < m → ∃ d : D, (spot = none → ∀ (j : Nat) (u : Value), (v d)[j]? = some u → w.cell? ⟨b, off + i * sz + j, none⟩ = some u) ∧ Pr d ∧ (i = 0 → spot = none) := fun i hi => by
      obtain ⟨cs', h1, h2⟩ := hel i hi
      obtain ⟨-, hlen, hcell⟩ := World.cells?_some h1
      rw [hc] at hlen hcell
      obtain ⟨d, d1, d2⟩ := each _ _ _ h2 hlen
      refine ⟨d, fun hsp j u hj => ?_, d2, fun h0 => ?_⟩
      · have h3 := d1 j u hj
        have h4 := hcell j (by have := (List.getElem?_eq_some_iff.1 h3).1; omega)
        rw [h3] at h4
        subst hsp
        rw [← h4]
        simp [Go.WideShapes.add_plain, Nat.add_assoc]
      · have h4 := hcell 0 hs
        rw [List.getElem?_eq_getElem (by omega : 0 < cs'.length)] at h4
        subst h0
        simpa [Addr.add] using World.cell?_spot h4
    rcases Nat.eq_zero_or_pos l with h0 | h0
    · subst h0
      exact ⟨fun _ => default, ⟨Nat.zero_le _, hm, .inl rfl⟩, fun i hi => absurd hi (Nat.not_lt_zero _)⟩
    · have hsp := (ev 0 (by omega)).choose_spec.2.2 rfl
      refine ⟨fun i => if hi : i < m then (ev i hi).choose else default, ⟨hl, hm, .inr ⟨b, off, by rw [hsp], fun i hi j u hj => ?_⟩⟩, fun i hi => ?_⟩
      · simp only [show i < m by omega, dite_true] at hj
        exact (ev i (by omega)).choose_spec.1 hsp j u hj
      · simp only [show i < m by omega, dite_true]
        exact (ev i (by omega)).choose_spec.2.1

theorem atP_ {T u : TypeId} {n o : Nat} (lf : LeafP Tryz.prog T o u) (hc : Tryz.prog.cellsOf T = n) (h : DataW.trod enc Tryz.prog w base (fun _ => true) held fuel T cs = some x) (hlen : cs.length = n) (ho : o < n) : ∃ c m y, cs[o]? = some c ∧ DataW.trod enc Tryz.prog w base (fun _ => true) held m u [c] = some y := by
  obtain ⟨m, y, hy⟩ := lf.trod fuel cs x h (by omega) _ (List.getElem?_eq_getElem (by omega : o < cs.length))
  exact ⟨_, m, y, List.getElem?_eq_getElem (by omega), hy⟩
end
end Go.Proofs.YtbaocallhnehfaaGreatDoor
