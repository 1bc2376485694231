/- farm.Parse: the calls, and what stands of the runs so far. Conditions: the library's variables read as listed (LibW). -/
import Derived.Test.YtcdcfkgdgimmcaaGreatDoorRnC
import Derived.Test.YtcdcfkgdgimmcaaGreatDoorCA
import Derived.Test.YtcdcfkgdgimmcaaGreatDoorNtD
namespace Go.Proofs.YtcdcfkgdgimmcaaGreatDoor
open Go Go.RowKit
theorem infoRun : (Tryz.prog.info? 34).map (fun i => (i.zero, i.size, i.bytes)) = some (some (.agg #[.int .i64 0, .int .i64 0, .int .i64 0, .int .i64 0, .bool false]), 5, 40) := by kernel_rfl
/-- strings.Split at a space. -/
theorem Split_any (l : ByteArray) (w : World) (h : LibW w) (hs : l.size < 4294967281) : Calls Tryz.prog 25 #[.string l, .string ⟨#[32]⟩] w fun e w' =>
    ∃ g, e = .returned (.slice (some ⟨g, 0, none⟩) (spP l.data.toList).length (spP l.data.toList).length) ∧ g < w'.heap.size ∧ (∀ i p, (spP l.data.toList)[i]? = some p → w'.cell? ⟨g, i, none⟩ = some (.string ⟨p.toArray⟩)) ∧ Below w.heap.size w w' := by
  obtain ⟨m, hm⟩ := h.len
  have hd := Lib.splitB_data ⟨#[32]⟩ 0 (Lib.countB l ⟨#[32]⟩) l
  have e1 : Lib.splitK (⟨#[32]⟩ : ByteArray).data.toList 0 (Lib.countB l ⟨#[32]⟩) l.data.toList = spP l.data.toList := splitK_sp _ l.data.toList (Nat.lt_succ_self _)
  rw [e1] at hd
  have hl := Lib.splitB_all ⟨#[32]⟩ (by decide) 0 (Lib.countB l ⟨#[32]⟩) l rfl
  have hlen : (spP l.data.toList).length = Lib.countB l ⟨#[32]⟩ + 1 := by rw [← hd, List.length_map, hl]
  refine (Tryz.strings_Split l ⟨#[32]⟩ m w hs hm (by decide)).mono ?_
  rintro e w' ⟨rfl, rfl⟩
  refine ⟨w.heap.size, by rw [hlen], by simp, fun i p hp => ?_, by (repeat (first | exact Below.refl _ _ | assumption | (refine Below.setCell ?_ (by first | (simp; done) | (simp; omega) | omega) _) | (refine Below.drew ?_) | (refine below_drewN ?_ _) | (refine Below.alloc ?_ (by first | (simp; done) | (simp; omega) | omega) _) | (refine Below.trans ?_ (Below.mono (by assumption) (by first | (simp; done) | (simp; omega) | omega)))))⟩
  rw [World.cell?_alloc_new]
  rw [← hd, List.getElem?_map, Option.map_eq_some_iff] at hp
  obtain ⟨q, hq, rfl⟩ := hp
  simp only [List.getElem?_toArray, List.getElem?_map, hq, Option.map_some]
/-- The cells of runs. -/
def rnVs : List Ru → List Value
  | [] => []
  | r :: l => rnV r ++ rnVs l
theorem rnVs_app : ∀ l m : List Ru, rnVs (l ++ m) = rnVs l ++ rnVs m
  | [], m => rfl
  | r :: l, m => by show rnV r ++ rnVs (l ++ m) = rnV r ++ rnVs l ++ rnVs m; rw [rnVs_app l m, List.append_assoc]
theorem rnVs_get : ∀ (l : List Ru) (i j : Nat) (h : i < l.length), j < 5 → (rnVs l)[i * 5 + j]? = (rnV l[i])[j]?
  | [], i, j, h, _ => by simp at h
  | r :: l, 0, j, _, hj => by
    show (rnV r ++ rnVs l)[0 * 5 + j]? = _
    rw [Nat.zero_mul, Nat.zero_add, List.getElem?_append_left (by show j < 5; exact hj)]; rfl
  | r :: l, i + 1, j, h, hj => by
    show (rnV r ++ rnVs l)[(i + 1) * 5 + j]? = _
    have e : (rnV r).length = 5 := rfl
    rw [List.getElem?_append_right (by rw [e]; omega), e, show (i + 1) * 5 + j - 5 = i * 5 + j by omega, rnVs_get l i j (by simpa using h) hj]
    rfl
/-- The runs so far. -/
structure OwR (w wr : World) (u : Value) (rs : List Ru) : Prop where
  own : wr.ownsRow w.heap.size 34 5 u rs.length (rnVs rs)
  bel : Below w.heap.size w wr
theorem OwR.nil (w : World) : OwR w w (.slice none 0 0) [] := ⟨World.ownsRow_nil _ _ _ _, Below.refl _ _⟩
theorem OwR.past {w wr wy : World} {u : Value} {rs : List Ru} (k : OwR w wr u rs) (h : Below wr.heap.size wr wy) : OwR w wy u rs := ⟨own_past k.own h, k.bel.trans (h.mono k.bel.size)⟩
theorem OwR.app {w wr wa w1 : World} {u u' : Value} {rs : List Ru} {r : Ru} (k0 : OwR w wr u rs) (hb : Below wr.heap.size wr wa) (hown : w1.ownsRow w.heap.size 34 5 u' (rs.length + 1) (rnVs rs ++ rnV r)) (hg : wa.grownBy w1 u.ownBlock) : OwR w w1 u' (rs ++ [r]) := by
  have k := k0.past hb
  refine ⟨?_, k.bel.grown hg k.bel.size (fun j hj => (k.own.lt j hj).1)⟩
  rw [rnVs_app, List.length_append]
  show w1.ownsRow w.heap.size _ 5 u' (rs.length + 1) (rnVs rs ++ (rnV r ++ []))
  rw [List.append_nil]; exact hown
theorem OwR.isIn {w wr : World} {u : Value} {rs : List Ru} (k : OwR w wr u rs) : ∃ a c, u = .slice a rs.length c ∧ RnsIn wr a rs ∧ rs.length ≤ c ∧ c ≤ maxLen := by
  rcases Nat.eq_zero_or_pos rs.length with h0 | h0
  · rcases k.own.2 with ⟨h1, h2⟩ | ⟨g, cap, cur, h1, h5⟩
    · exact ⟨none, 0, by rw [h1, h2], fun h => by omega, by omega, by decide⟩
    · exact ⟨_, cap, h1, fun h => by omega, h5.2.2.1, h5.2.2.2.1⟩
  · obtain ⟨g, c, rfl, -, -, hc1, hc2⟩ := own_form k.own h0
    have hc := k.own.cells (g := g) rfl
    refine ⟨_, c, rfl, fun _ => ⟨g, 0, rfl, fun i hi => ?_⟩, hc1, by unfold maxLen; omega⟩
    have get : ∀ j v, j < 5 → (rnV rs[i])[j]? = some v → wr.cell? ⟨g, 0 + i * 5 + j, none⟩ = some v := fun j v hj hv => by
      have := hc (i * 5 + j) v (by rw [rnVs_get rs i j hi hj]; exact hv)
      rw [Go.WideShapes.add_plain] at this
      rw [Nat.add_assoc]; exact this
    exact ⟨get 0 _ (by omega) rfl, get 1 _ (by omega) rfl, get 2 _ (by omega) rfl, get 3 _ (by omega) rfl, get 4 _ (by omega) rfl⟩
/-- What Parse leaves. -/
def PrsPost (s : List UInt8) (w : World) (e : Ending) (w' : World) : Prop :=
  Below w.heap.size w w' ∧ ((∃ rs t, s = runsT rs ++ t ∧ ¬ goodL t ∧ t ≠ [] ∧ e = .returned (.tuple #[.slice none 0 0, .int .i64 rs.length, .int .i64 9])) ∨
    (∃ rs, s = runsT rs ∧ runsE rs ≠ 0 ∧ e = .returned (.tuple #[.slice none 0 0, .int .i64 0, .int .i64 (runsE rs)])) ∨
    (∃ rs a c, s = runsT rs ∧ runsE rs = 0 ∧ e = .returned (.tuple #[.slice a rs.length c, .int .i64 0, .int .i64 0]) ∧ RnsIn w' a rs ∧ rs.length ≤ c ∧ c ≤ maxLen))
theorem prs_bad {s : List UInt8} {rs : List Ru} {t : List UInt8} {w w' : World} {e : Ending} (hb : Below w.heap.size w w') (hs : s = runsT rs ++ t) (hg : ¬ goodL t) (ht : t ≠ []) (he : e = .returned (.tuple #[.slice none 0 0, .int .i64 rs.length, .int .i64 9])) : PrsPost s w e w' := ⟨hb, .inl ⟨rs, t, hs, hg, ht, he⟩⟩
end Go.Proofs.YtcdcfkgdgimmcaaGreatDoor
