/- strings.Split at a space and at the document's text of the operations; what its words say. Conditions: the library's variables read as listed (LibW). -/
import Derived.Test.YtjcakbikpficbaaGreatDoorNtD
import Derived.Test.YtjcakbikpficbaaGreatDoorNtF
import Derived.Test.YtjcakbikpficbaaGreatDoorNfQ
namespace Go.Proofs.YtjcakbikpficbaaGreatDoor
open Go Go.RowKit
/-- strings.Split at a space. -/
theorem SplitW (l : ByteArray) (w : World) (h : LibW w) (hs : l.size < 4294967281) : Calls Tryz.prog 50 #[.string l, .string ⟨#[32]⟩] w fun e w' =>
    ∃ g, e = .returned (.slice (some ⟨g, 0, none⟩) (spP l.data.toList).length (spP l.data.toList).length) ∧ g < w'.heap.size ∧ (∀ i p, (spP l.data.toList)[i]? = some p → w'.cell? ⟨g, i, none⟩ = some (.string (bs p))) ∧ Below w.heap.size w w' := by
  obtain ⟨m, hm⟩ := h.len
  have hd := Lib.splitB_data ⟨#[32]⟩ 0 (Lib.countB l ⟨#[32]⟩) l
  have e1 : Lib.splitK (⟨#[32]⟩ : ByteArray).data.toList 0 (Lib.countB l ⟨#[32]⟩) l.data.toList = spP l.data.toList := splitK_sp _ l.data.toList (Nat.lt_succ_self _)
  rw [e1] at hd
  have hl := Lib.splitB_all ⟨#[32]⟩ (by decide) 0 (Lib.countB l ⟨#[32]⟩) l rfl
  have hlen : (spP l.data.toList).length = Lib.countB l ⟨#[32]⟩ + 1 := by rw [← hd, List.length_map, hl]
  refine (Tryz.strings_Split l ⟨#[32]⟩ m w hs hm (by decide)).mono ?_
  rintro e w' ⟨rfl, rfl⟩
  refine ⟨w.heap.size, by rw [hlen], by simp, fun i p hp => ?_, by (repeat (first | exact Below.refl _ _ | assumption | (refine Below.setCell ?_ (by first | (simp; done) | (simp; omega) | omega) _) | (refine Below.drew ?_) | (refine below_drewN ?_ _) | (refine Below.alloc ?_ (by first | (simp; done) | (simp; omega) | omega) _) | (refine Below.trans ?_ (Below.mono (by assumption) (by first | (simp; done) | (simp; omega) | omega)))))⟩
  rw [World.cell?_alloc_new]
  rw [← hd, List.getElem?_map, Option.map_eq_some_iff] at hp
  obtain ⟨q, hq, rfl⟩ := hp
  simp only [List.getElem?_toArray, List.getElem?_map, hq, Option.map_some, bs_of]
theorem fX_count : Lib.countB (bs fX) ⟨#[59]⟩ = 26 := by decide +kernel
theorem fX_split : Lib.splitK [59] 0 26 fX = fQ := by decide +kernel
theorem fQ_len : fQ.length = 27 := by decide +kernel
/-- strings.Split of the text of the operations. -/
theorem SplitX (w : World) (h : LibW w) : Calls Tryz.prog 50 #[.string (bs fX), .string ⟨#[59]⟩] w fun e w' =>
    ∃ g, e = .returned (.slice (some ⟨g, 0, none⟩) 27 27) ∧ g < w'.heap.size ∧ (∀ i p, fQ[i]? = some p → w'.cell? ⟨g, i, none⟩ = some (.string (bs p))) ∧ Below w.heap.size w w' := by
  obtain ⟨m, hm⟩ := h.len
  have hd := Lib.splitB_data ⟨#[59]⟩ 0 26 (bs fX)
  have e1 : Lib.splitK (⟨#[59]⟩ : ByteArray).data.toList 0 26 (bs fX).data.toList = fQ := by rw [bs_data]; exact fX_split
  rw [e1] at hd
  refine (Tryz.strings_Split (bs fX) ⟨#[59]⟩ m w (by decide +kernel) hm (by decide)).mono ?_
  rw [fX_count]
  rintro e w' ⟨rfl, rfl⟩
  refine ⟨w.heap.size, rfl, by simp, fun i p hp => ?_, by (repeat (first | exact Below.refl _ _ | assumption | (refine Below.setCell ?_ (by first | (simp; done) | (simp; omega) | omega) _) | (refine Below.drew ?_) | (refine below_drewN ?_ _) | (refine Below.alloc ?_ (by first | (simp; done) | (simp; omega) | omega) _) | (refine Below.trans ?_ (Below.mono (by assumption) (by first | (simp; done) | (simp; omega) | omega)))))⟩
  rw [World.cell?_alloc_new]
  rw [← hd, List.getElem?_map, Option.map_eq_some_iff] at hp
  obtain ⟨q, hq, rfl⟩ := hp
  simp only [List.getElem?_toArray, List.getElem?_map, hq, Option.map_some, bs_of]
def fS (k : Nat) : List UInt8 := fQ.getD k []
def fN (k j : Nat) : List UInt8 := (fW.getD k []).getD j []
def kindB (b : UInt8) : Int := if b = 109 then 2 else 1
theorem fS_get {k : Nat} (hk : k < 27) : fQ[k]? = some (fS k) := by
  have : ∀ k, k < 27 → fQ[k]? = some (fS k) := by decide +kernel
  exact this k hk
theorem fS_sp {k : Nat} (hk : k < 27) : spP (fS k) = [(F k).nm, fN k 1, fN k 2, fN k 3, fN k 4] := by
  have : ∀ k, k < 27 → spP (fS k) = [(F k).nm, fN k 1, fN k 2, fN k 3, fN k 4] := by decide +kernel
  exact this k hk
theorem fN_ins {k : Nat} (hk : k < 27) : (fN k 1).map kindB = (F k).ins := by
  have : ∀ k, k < 27 → (fN k 1).map kindB = (F k).ins := by decide +kernel
  exact this k hk
theorem fN_out {k : Nat} (hk : k < 27) : (fN k 2).map kindB = [(F k).out] := by
  have : ∀ k, k < 27 → (fN k 2).map kindB = [(F k).out] := by decide +kernel
  exact this k hk
theorem fN_num {k : Nat} (hk : k < 27) : (intB (fN k 3) 10 = true ∧ intV (fN k 3) = (F k).ints) ∧ intB (fN k 4) 10 = true ∧ intV (fN k 4) = (F k).reals := by
  have : ∀ k, k < 27 → (intB (fN k 3) 10 = true ∧ intV (fN k 3) = (F k).ints) ∧ intB (fN k 4) 10 = true ∧ intV (fN k 4) = (F k).reals := by decide +kernel
  exact this k hk
theorem fN_len {k : Nat} (hk : k < 27) : (fS k).length ≤ 40 ∧ (fN k 1).length ≤ 3 ∧ (fN k 3).length ≤ 10 ∧ (fN k 4).length ≤ 10 := by
  have : ∀ k, k < 27 → (fS k).length ≤ 40 ∧ (fN k 1).length ≤ 3 ∧ (fN k 3).length ≤ 10 ∧ (fN k 4).length ≤ 10 := by decide +kernel
  exact this k hk
end Go.Proofs.YtjcakbikpficbaaGreatDoor
