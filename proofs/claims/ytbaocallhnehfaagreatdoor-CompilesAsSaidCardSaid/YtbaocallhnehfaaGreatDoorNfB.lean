/- node.forms: the operations. No condition. -/
import Derived.Test.YtbaocallhnehfaaGreatDoorQD
import Derived.Lib.Hide
import Derived.Great.BuildSlice
namespace Go.Proofs.YtbaocallhnehfaaGreatDoor
open Go Go.RowKit
/-- Blocks of integers made so far. -/
def InsW (W wr : World) (L : List (Nat × List Int)) : Prop := Below W.heap.size W wr ∧ ∀ p, p ∈ L → W.heap.size ≤ p.1 ∧ p.1 < wr.heap.size ∧ ∀ i v, p.2[i]? = some v → wr.cell? ⟨p.1, i, none⟩ = some (.int .i64 v)
theorem InsW.past {W wr w' : World} {L : List (Nat × List Int)} (h : InsW W wr L) (hb : Below wr.heap.size wr w') : InsW W w' L :=
  ⟨h.1.trans (hb.mono h.1.size), fun p hp => ⟨(h.2 p hp).1, Nat.lt_of_lt_of_le (h.2 p hp).2.1 hb.size, fun i v hv => by rw [hb.cell (p := ⟨p.1, i, none⟩) (h.2 p hp).2.1]; exact (h.2 p hp).2.2 i v hv⟩⟩
theorem InsW.add {W wr : World} {L : List (Nat × List Int)} (h : InsW W wr L) (l : List Int) (t : TypeId) : InsW W (wr.alloc (.cells (l.map (Value.int .i64)).toArray t)) (L ++ [(wr.heap.size, l)]) := by
  have h2 := h.past ((Below.refl _ wr).alloc (Nat.le_refl _) (.cells (l.map (Value.int .i64)).toArray t))
  refine ⟨h2.1, fun p hp => ?_⟩
  rcases List.mem_append.1 hp with hp | hp
  · exact h2.2 p hp
  · simp at hp
    subst hp
    refine ⟨h.1.size, by simp, fun i v hv => ?_⟩
    rw [World.cell?_alloc_new]
    simp only at hv
    simp [hv]
theorem InsW.at {W wr : World} {L : List (Nat × List Int)} (h : InsW W wr L) {b : Nat} {l : List Int} (hm : (b, l) ∈ L) : IntsAt W.heap.size wr (some ⟨b, 0, none⟩) l :=
  .inr ⟨b, 0, rfl, (h.2 _ hm).1, (h.2 _ hm).2.1, fun i v hv => by rw [Nat.zero_add]; exact (h.2 _ hm).2.2 i v hv⟩
theorem InsW.step1 {W wr w' : World} {L : List (Nat × List Int)} {a : Int} {t : TypeId} (h : InsW W wr L) (hb : Below (wr.alloc (.cells #[.int .i64 a] t)).heap.size (wr.alloc (.cells #[.int .i64 a] t)) w') : InsW W w' (L ++ [(wr.heap.size, [a])]) := (h.add [a] t).past hb
theorem InsW.step2 {W wr w' : World} {L : List (Nat × List Int)} {a b : Int} {t : TypeId} (h : InsW W wr L) (hb : Below (wr.alloc (.cells #[.int .i64 a, .int .i64 b] t)).heap.size (wr.alloc (.cells #[.int .i64 a, .int .i64 b] t)) w') : InsW W w' (L ++ [(wr.heap.size, [a, b])]) := (h.add [a, b] t).past hb
theorem InsW.step3 {W wr w' : World} {L : List (Nat × List Int)} {a b c : Int} {t : TypeId} (h : InsW W wr L) (hb : Below (wr.alloc (.cells #[.int .i64 a, .int .i64 b, .int .i64 c] t)).heap.size (wr.alloc (.cells #[.int .i64 a, .int .i64 b, .int .i64 c] t)) w') : InsW W w' (L ++ [(wr.heap.size, [a, b, c])]) := (h.add [a, b, c] t).past hb
theorem infoForm : (Tryz.prog.info? 58).map (fun i => (i.zero, i.size, i.bytes)) = some (some (.agg #[.string ⟨#[]⟩, .slice none 0 0, .int .i64 0, .int .i64 0, .int .i64 0, .bool false]), 6, 72) := by kernel_rfl
/-- The form while the marks of those that look around are set, up to k. -/
def Fa (k q : Nat) : FormD := ⟨(F q).nm, (F q).ins, (F q).out, (F q).ints, (F q).reals, decide (q < k) && (F q).area⟩
theorem Fa_end (q : Nat) (h : q < 27) : Fa 27 q = F q := by unfold Fa; rw [decide_eq_true h, Bool.true_and]
theorem fa_get {k q : Nat} {a : Option Addr} {c j : Nat} {x : Value} (h : (fCells (Fa (k + 1) q) a c)[j]? = some x) (hn : ¬ (q = k ∧ j = 5) ∨ (F k).area = false) : (fCells (Fa k q) a c)[j]? = some x := by
  match j, h with
  | 0, h => exact h
  | 1, h => exact h
  | 2, h => exact h
  | 3, h => exact h
  | 4, h => exact h
  | 5, h =>
    have e : (Fa (k + 1) q).area = (Fa k q).area := by
      unfold Fa
      simp only
      rcases hn with hn | hn
      · have hq : q ≠ k := fun e => hn ⟨e, rfl⟩
        rw [show decide (q < k + 1) = decide (q < k) from decide_eq_decide.2 (by omega)]
      · by_cases hq : q = k
        · rw [hq, hn, Bool.and_false, Bool.and_false]
        · rw [show decide (q < k + 1) = decide (q < k) from decide_eq_decide.2 (by omega)]
    have h' : some (Value.bool (Fa (k + 1) q).area) = some x := h
    rw [e] at h'
    exact h'
/-- The row while the marks are set: on the block behind all that w' holds. -/
structure FmK (B : Nat) (w' wr : World) (k : Nat) : Prop where
  bel : Below w'.heap.size w' wr
  lt : w'.heap.size < wr.heap.size
  fr : ∀ o, wr.frozen? ⟨w'.heap.size, o, none⟩ = false
  c : ∀ q, q < 27 → ∃ a c, IntsAt B w' a (F q).ins ∧ ∀ j x, (fCells (Fa k q) a c)[j]? = some x → wr.cell? ⟨w'.heap.size, q * 6 + j, none⟩ = some x
theorem FmK.skip {B : Nat} {w' wr : World} {k : Nat} (h : FmK B w' wr k) (ha : (F k).area = false) : FmK B w' wr (k + 1) :=
  ⟨h.bel, h.lt, h.fr, fun q hq => by
    obtain ⟨a, c, h1, h2⟩ := h.c q hq
    exact ⟨a, c, h1, fun j x hx => h2 j x (fa_get hx (.inr ha))⟩⟩
theorem FmK.mark {B : Nat} {w' wr : World} {k : Nat} (h : FmK B w' wr k) (hk : k < 27) (ha : (F k).area = true) : FmK B w' (wr.setCell ⟨w'.heap.size, k * 6 + 5, none⟩ (.bool true)) (k + 1) :=
  ⟨h.bel.setCell (Nat.le_refl _) _, by have := h.lt; simpa [World.setCell] using this, fun o => (World.frozen?_setCell _ _ _ _).trans (h.fr o), fun q hq => by
    obtain ⟨a, c, h1, h2⟩ := h.c q hq
    refine ⟨a, c, h1, fun j x hx => ?_⟩
    have hj : j < 6 := by
      have := (List.getElem?_eq_some_iff.1 hx).1
      exact this
    by_cases e : q = k ∧ j = 5
    · obtain ⟨rfl, rfl⟩ := e
      obtain ⟨a', c', -, h3⟩ := h.c q hq
      rw [World.cell?_setCell_same _ _ _ (h3 5 _ rfl)]
      have h' : some (Value.bool (Fa (q + 1) q).area) = some x := hx
      rw [← h']
      unfold Fa
      simp [ha]
    · have hne : k * 6 + 5 ≠ q * 6 + j := fun e' => e (by omega)
      rw [World.cell?_setCell_other _ _ _ _ (by first | (simp; omega) | (simp; done) | omega)]
      exact h2 j x (fa_get hx (.inl e))⟩
theorem FmK.row {B : Nat} {w' wr : World} (h : FmK B w' wr 27) (hB : B ≤ w'.heap.size) : FormRow B wr (.slice (some ⟨w'.heap.size, 0, none⟩) 27 27) :=
  ⟨w'.heap.size, 0, 27, rfl, hB, fun q hq => by
    obtain ⟨a, c, h1, h2⟩ := h.c q hq
    rw [Fa_end q hq] at h2
    rw [Nat.zero_add]
    exact ⟨h2 0 _ rfl, ⟨a, c, h2 1 _ rfl, h1.past h.bel⟩, h2 2 _ rfl, h2 3 _ rfl, h2 4 _ rfl, h2 5 _ rfl⟩⟩
theorem fc_of {V : World} {n o : Nat} {f : FormD} {a : Option Addr} {c : Nat} (h0 : V.cell? ⟨n, o, none⟩ = some (.string (bs f.nm))) (h1 : V.cell? ⟨n, o + 1, none⟩ = some (.slice a f.ins.length c)) (h2 : V.cell? ⟨n, o + 2, none⟩ = some (.int .i64 f.out)) (h3 : V.cell? ⟨n, o + 3, none⟩ = some (.int .i64 f.ints)) (h4 : V.cell? ⟨n, o + 4, none⟩ = some (.int .i64 f.reals)) (h5 : V.cell? ⟨n, o + 5, none⟩ = some (.bool f.area)) :
    ∀ j x, (fCells f a c)[j]? = some x → V.cell? ⟨n, o + j, none⟩ = some x := fun j x hx => by
  match j, hx with
  | 0, hx => cases hx; exact h0
  | 1, hx => cases hx; exact h1
  | 2, hx => cases hx; exact h2
  | 3, hx => cases hx; exact h3
  | 4, hx => cases hx; exact h4
  | 5, hx => cases hx; exact h5
/-- The cells of the row, before the marks are set: b tells the blocks of what goes in. -/
def fC (b : Nat → Nat) : List Value := [.string (bs [115, 111, 117, 114, 99, 101]), .slice none 0 0, .int .i64 1, .int .i64 1, .int .i64 0, .bool false,
      .string (bs [102, 105, 108, 108]), .slice none 0 0, .int .i64 1, .int .i64 0, .int .i64 4, .bool false,
      .string (bs [103, 114, 97, 100, 101]), .slice (some ⟨b 2, 0, none⟩) 1 1, .int .i64 1, .int .i64 1, .int .i64 0, .bool false,
      .string (bs [99, 117, 98, 101]), .slice (some ⟨b 3, 0, none⟩) 1 1, .int .i64 1, .int .i64 2, .int .i64 0, .bool false,
      .string (bs [99, 111, 110, 118, 101, 114, 116]), .slice (some ⟨b 4, 0, none⟩) 1 1, .int .i64 1, .int .i64 2, .int .i64 0, .bool false,
      .string (bs [115, 97, 116, 117, 114, 97, 116, 101]), .slice (some ⟨b 5, 0, none⟩) 1 1, .int .i64 1, .int .i64 0, .int .i64 1, .bool false,
      .string (bs [116, 117, 114, 110]), .slice (some ⟨b 6, 0, none⟩) 1 1, .int .i64 1, .int .i64 0, .int .i64 1, .bool false,
      .string (bs [116, 111, 110, 101]), .slice (some ⟨b 7, 0, none⟩) 1 1, .int .i64 1, .int .i64 1, .int .i64 2, .bool false,
      .string (bs [101, 120, 112, 111, 115, 101]), .slice (some ⟨b 8, 0, none⟩) 1 1, .int .i64 1, .int .i64 0, .int .i64 1, .bool false,
      .string (bs [99, 111, 109, 112, 114, 101, 115, 115]), .slice (some ⟨b 9, 0, none⟩) 1 1, .int .i64 1, .int .i64 0, .int .i64 1, .bool false,
      .string (bs [103, 114, 97, 105, 110]), .slice (some ⟨b 10, 0, none⟩) 1 1, .int .i64 1, .int .i64 3, .int .i64 2, .bool false,
      .string (bs [118, 105, 103, 110, 101, 116, 116, 101]), .slice (some ⟨b 11, 0, none⟩) 1 1, .int .i64 1, .int .i64 0, .int .i64 5, .bool false,
      .string (bs [115, 104, 97, 114, 112, 101, 110]), .slice (some ⟨b 12, 0, none⟩) 1 1, .int .i64 1, .int .i64 0, .int .i64 2, .bool false,
      .string (bs [98, 108, 117, 114]), .slice (some ⟨b 13, 0, none⟩) 1 1, .int .i64 1, .int .i64 1, .int .i64 0, .bool false,
      .string (bs [109, 105, 120]), .slice (some ⟨b 14, 0, none⟩) 2 2, .int .i64 1, .int .i64 0, .int .i64 1, .bool false,
      .string (bs [99, 111, 109, 98, 105, 110, 101]), .slice (some ⟨b 15, 0, none⟩) 2 2, .int .i64 1, .int .i64 1, .int .i64 0, .bool false,
      .string (bs [116, 104, 114, 111, 117, 103, 104]), .slice (some ⟨b 16, 0, none⟩) 3 3, .int .i64 1, .int .i64 0, .int .i64 0, .bool false,
      .string (bs [97, 108, 112, 104, 97]), .slice (some ⟨b 17, 0, none⟩) 1 1, .int .i64 2, .int .i64 0, .int .i64 0, .bool false,
      .string (bs [99, 111, 118, 101, 114]), .slice (some ⟨b 18, 0, none⟩) 2 2, .int .i64 1, .int .i64 0, .int .i64 0, .bool false,
      .string (bs [108, 117, 109, 97]), .slice (some ⟨b 19, 0, none⟩) 1 1, .int .i64 2, .int .i64 0, .int .i64 3, .bool false,
      .string (bs [104, 117, 101]), .slice (some ⟨b 20, 0, none⟩) 1 1, .int .i64 2, .int .i64 0, .int .i64 9, .bool false,
      .string (bs [119, 105, 110, 100, 111, 119]), .slice none 0 0, .int .i64 2, .int .i64 1, .int .i64 0, .bool false,
      .string (bs [105, 110, 118, 101, 114, 116]), .slice (some ⟨b 22, 0, none⟩) 1 1, .int .i64 2, .int .i64 0, .int .i64 0, .bool false,
      .string (bs [109, 101, 101, 116]), .slice (some ⟨b 23, 0, none⟩) 2 2, .int .i64 2, .int .i64 1, .int .i64 0, .bool false,
      .string (bs [115, 112, 114, 101, 97, 100]), .slice (some ⟨b 24, 0, none⟩) 1 1, .int .i64 2, .int .i64 1, .int .i64 0, .bool false,
      .string (bs [115, 104, 114, 105, 110, 107]), .slice (some ⟨b 25, 0, none⟩) 1 1, .int .i64 2, .int .i64 1, .int .i64 0, .bool false,
      .string (bs [102, 101, 97, 116, 104, 101, 114]), .slice (some ⟨b 26, 0, none⟩) 1 1, .int .i64 2, .int .i64 1, .int .i64 0, .bool false]
theorem fm_start {B : Nat} {w' V : World} {b : Nat → Nat} (hbel : Below w'.heap.size w' V) (hblk : Blk V w'.heap.size (fC b)) (hi : ∀ q, q < 27 → (F q).ins = [] ∨ IntsAt B w' (some ⟨b q, 0, none⟩) (F q).ins) : FmK B w' V 0 :=
  ⟨hbel, hblk.lt, hblk.f, fun q hq => by
    rcases (show q = 0 ∨ q = 1 ∨ q = 2 ∨ q = 3 ∨ q = 4 ∨ q = 5 ∨ q = 6 ∨ q = 7 ∨ q = 8 ∨ q = 9 ∨ q = 10 ∨ q = 11 ∨ q = 12 ∨ q = 13 ∨ q = 14 ∨ q = 15 ∨ q = 16 ∨ q = 17 ∨ q = 18 ∨ q = 19 ∨ q = 20 ∨ q = 21 ∨ q = 22 ∨ q = 23 ∨ q = 24 ∨ q = 25 ∨ q = 26 by omega) with rfl | rfl | rfl | rfl | rfl | rfl | rfl | rfl | rfl | rfl | rfl | rfl | rfl | rfl | rfl | rfl | rfl | rfl | rfl | rfl | rfl | rfl | rfl | rfl | rfl | rfl | rfl
    · exact ⟨none, 0, .inl rfl, fc_of (hblk.c 0 _ rfl) (hblk.c 1 _ rfl) (hblk.c 2 _ rfl) (hblk.c 3 _ rfl) (hblk.c 4 _ rfl) (hblk.c 5 _ rfl)⟩
    · exact ⟨none, 0, .inl rfl, fc_of (hblk.c 6 _ rfl) (hblk.c 7 _ rfl) (hblk.c 8 _ rfl) (hblk.c 9 _ rfl) (hblk.c 10 _ rfl) (hblk.c 11 _ rfl)⟩
    · exact ⟨some ⟨b 2, 0, none⟩, 1, (hi 2 (by omega)).resolve_left (by decide), fc_of (hblk.c 12 _ rfl) (hblk.c 13 _ rfl) (hblk.c 14 _ rfl) (hblk.c 15 _ rfl) (hblk.c 16 _ rfl) (hblk.c 17 _ rfl)⟩
    · exact ⟨some ⟨b 3, 0, none⟩, 1, (hi 3 (by omega)).resolve_left (by decide), fc_of (hblk.c 18 _ rfl) (hblk.c 19 _ rfl) (hblk.c 20 _ rfl) (hblk.c 21 _ rfl) (hblk.c 22 _ rfl) (hblk.c 23 _ rfl)⟩
    · exact ⟨some ⟨b 4, 0, none⟩, 1, (hi 4 (by omega)).resolve_left (by decide), fc_of (hblk.c 24 _ rfl) (hblk.c 25 _ rfl) (hblk.c 26 _ rfl) (hblk.c 27 _ rfl) (hblk.c 28 _ rfl) (hblk.c 29 _ rfl)⟩
    · exact ⟨some ⟨b 5, 0, none⟩, 1, (hi 5 (by omega)).resolve_left (by decide), fc_of (hblk.c 30 _ rfl) (hblk.c 31 _ rfl) (hblk.c 32 _ rfl) (hblk.c 33 _ rfl) (hblk.c 34 _ rfl) (hblk.c 35 _ rfl)⟩
    · exact ⟨some ⟨b 6, 0, none⟩, 1, (hi 6 (by omega)).resolve_left (by decide), fc_of (hblk.c 36 _ rfl) (hblk.c 37 _ rfl) (hblk.c 38 _ rfl) (hblk.c 39 _ rfl) (hblk.c 40 _ rfl) (hblk.c 41 _ rfl)⟩
    · exact ⟨some ⟨b 7, 0, none⟩, 1, (hi 7 (by omega)).resolve_left (by decide), fc_of (hblk.c 42 _ rfl) (hblk.c 43 _ rfl) (hblk.c 44 _ rfl) (hblk.c 45 _ rfl) (hblk.c 46 _ rfl) (hblk.c 47 _ rfl)⟩
    · exact ⟨some ⟨b 8, 0, none⟩, 1, (hi 8 (by omega)).resolve_left (by decide), fc_of (hblk.c 48 _ rfl) (hblk.c 49 _ rfl) (hblk.c 50 _ rfl) (hblk.c 51 _ rfl) (hblk.c 52 _ rfl) (hblk.c 53 _ rfl)⟩
    · exact ⟨some ⟨b 9, 0, none⟩, 1, (hi 9 (by omega)).resolve_left (by decide), fc_of (hblk.c 54 _ rfl) (hblk.c 55 _ rfl) (hblk.c 56 _ rfl) (hblk.c 57 _ rfl) (hblk.c 58 _ rfl) (hblk.c 59 _ rfl)⟩
    · exact ⟨some ⟨b 10, 0, none⟩, 1, (hi 10 (by omega)).resolve_left (by decide), fc_of (hblk.c 60 _ rfl) (hblk.c 61 _ rfl) (hblk.c 62 _ rfl) (hblk.c 63 _ rfl) (hblk.c 64 _ rfl) (hblk.c 65 _ rfl)⟩
    · exact ⟨some ⟨b 11, 0, none⟩, 1, (hi 11 (by omega)).resolve_left (by decide), fc_of (hblk.c 66 _ rfl) (hblk.c 67 _ rfl) (hblk.c 68 _ rfl) (hblk.c 69 _ rfl) (hblk.c 70 _ rfl) (hblk.c 71 _ rfl)⟩
    · exact ⟨some ⟨b 12, 0, none⟩, 1, (hi 12 (by omega)).resolve_left (by decide), fc_of (hblk.c 72 _ rfl) (hblk.c 73 _ rfl) (hblk.c 74 _ rfl) (hblk.c 75 _ rfl) (hblk.c 76 _ rfl) (hblk.c 77 _ rfl)⟩
    · exact ⟨some ⟨b 13, 0, none⟩, 1, (hi 13 (by omega)).resolve_left (by decide), fc_of (hblk.c 78 _ rfl) (hblk.c 79 _ rfl) (hblk.c 80 _ rfl) (hblk.c 81 _ rfl) (hblk.c 82 _ rfl) (hblk.c 83 _ rfl)⟩
    · exact ⟨some ⟨b 14, 0, none⟩, 2, (hi 14 (by omega)).resolve_left (by decide), fc_of (hblk.c 84 _ rfl) (hblk.c 85 _ rfl) (hblk.c 86 _ rfl) (hblk.c 87 _ rfl) (hblk.c 88 _ rfl) (hblk.c 89 _ rfl)⟩
    · exact ⟨some ⟨b 15, 0, none⟩, 2, (hi 15 (by omega)).resolve_left (by decide), fc_of (hblk.c 90 _ rfl) (hblk.c 91 _ rfl) (hblk.c 92 _ rfl) (hblk.c 93 _ rfl) (hblk.c 94 _ rfl) (hblk.c 95 _ rfl)⟩
    · exact ⟨some ⟨b 16, 0, none⟩, 3, (hi 16 (by omega)).resolve_left (by decide), fc_of (hblk.c 96 _ rfl) (hblk.c 97 _ rfl) (hblk.c 98 _ rfl) (hblk.c 99 _ rfl) (hblk.c 100 _ rfl) (hblk.c 101 _ rfl)⟩
    · exact ⟨some ⟨b 17, 0, none⟩, 1, (hi 17 (by omega)).resolve_left (by decide), fc_of (hblk.c 102 _ rfl) (hblk.c 103 _ rfl) (hblk.c 104 _ rfl) (hblk.c 105 _ rfl) (hblk.c 106 _ rfl) (hblk.c 107 _ rfl)⟩
    · exact ⟨some ⟨b 18, 0, none⟩, 2, (hi 18 (by omega)).resolve_left (by decide), fc_of (hblk.c 108 _ rfl) (hblk.c 109 _ rfl) (hblk.c 110 _ rfl) (hblk.c 111 _ rfl) (hblk.c 112 _ rfl) (hblk.c 113 _ rfl)⟩
    · exact ⟨some ⟨b 19, 0, none⟩, 1, (hi 19 (by omega)).resolve_left (by decide), fc_of (hblk.c 114 _ rfl) (hblk.c 115 _ rfl) (hblk.c 116 _ rfl) (hblk.c 117 _ rfl) (hblk.c 118 _ rfl) (hblk.c 119 _ rfl)⟩
    · exact ⟨some ⟨b 20, 0, none⟩, 1, (hi 20 (by omega)).resolve_left (by decide), fc_of (hblk.c 120 _ rfl) (hblk.c 121 _ rfl) (hblk.c 122 _ rfl) (hblk.c 123 _ rfl) (hblk.c 124 _ rfl) (hblk.c 125 _ rfl)⟩
    · exact ⟨none, 0, .inl rfl, fc_of (hblk.c 126 _ rfl) (hblk.c 127 _ rfl) (hblk.c 128 _ rfl) (hblk.c 129 _ rfl) (hblk.c 130 _ rfl) (hblk.c 131 _ rfl)⟩
    · exact ⟨some ⟨b 22, 0, none⟩, 1, (hi 22 (by omega)).resolve_left (by decide), fc_of (hblk.c 132 _ rfl) (hblk.c 133 _ rfl) (hblk.c 134 _ rfl) (hblk.c 135 _ rfl) (hblk.c 136 _ rfl) (hblk.c 137 _ rfl)⟩
    · exact ⟨some ⟨b 23, 0, none⟩, 2, (hi 23 (by omega)).resolve_left (by decide), fc_of (hblk.c 138 _ rfl) (hblk.c 139 _ rfl) (hblk.c 140 _ rfl) (hblk.c 141 _ rfl) (hblk.c 142 _ rfl) (hblk.c 143 _ rfl)⟩
    · exact ⟨some ⟨b 24, 0, none⟩, 1, (hi 24 (by omega)).resolve_left (by decide), fc_of (hblk.c 144 _ rfl) (hblk.c 145 _ rfl) (hblk.c 146 _ rfl) (hblk.c 147 _ rfl) (hblk.c 148 _ rfl) (hblk.c 149 _ rfl)⟩
    · exact ⟨some ⟨b 25, 0, none⟩, 1, (hi 25 (by omega)).resolve_left (by decide), fc_of (hblk.c 150 _ rfl) (hblk.c 151 _ rfl) (hblk.c 152 _ rfl) (hblk.c 153 _ rfl) (hblk.c 154 _ rfl) (hblk.c 155 _ rfl)⟩
    · exact ⟨some ⟨b 26, 0, none⟩, 1, (hi 26 (by omega)).resolve_left (by decide), fc_of (hblk.c 156 _ rfl) (hblk.c 157 _ rfl) (hblk.c 158 _ rfl) (hblk.c 159 _ rfl) (hblk.c 160 _ rfl) (hblk.c 161 _ rfl)⟩⟩
theorem bs_beq (S l : List UInt8) : ((bs S).toList == l) = (S == l) := by rw [ByteArray.toList_eq, bs_data]
set_option maxRecDepth 100000 in
set_option maxHeartbeats 12800000 in
theorem forms_any (w : World) : Calls Tryz.prog 53 #[] w (FormsP w) := by
  have HI : Hid (InsW w w []) := Lib.hid ⟨Below.refl _ _, by simp⟩
  obtain ⟨i0, hi0, hz0, hz1, hz2⟩ := info_parts infoForm
  go_enter Tryz.func53, Tryz.ntmps53
  go_upto_region 3 with (go_at_call 84; refine (form_any _ _ _ _ _ _ _ _).mono ?_; rintro e w' ⟨rfl, hb⟩; (first | replace HI := Lib.hid (HI.out.step1 hb) | replace HI := Lib.hid (HI.out.step2 hb) | replace HI := Lib.hid (HI.out.step3 hb) | replace HI := Lib.hid (HI.out.past hb)); clear hb)
  rename_i w0 w1 w2 w3 w4 w5 w6 w7 w8 w9 w10 w11 w12 w13 w14 w15 w16 w17 w18 w19 w20 w21 w22 w23 w24 w25 K hK
  obtain ⟨C, hC⟩ : ∃ C : List Value, C = fC (fun | 2 => w1.heap.size | 3 => w2.heap.size | 4 => w3.heap.size | 5 => w4.heap.size | 6 => w5.heap.size | 7 => w6.heap.size | 8 => w7.heap.size | 9 => w8.heap.size | 10 => w9.heap.size | 11 => w10.heap.size | 12 => w11.heap.size | 13 => w12.heap.size | 14 => w13.heap.size | 15 => w14.heap.size | 16 => w15.heap.size | 17 => w16.heap.size | 18 => w17.heap.size | 19 => w18.heap.size | 20 => w19.heap.size | 22 => w21.heap.size | 23 => w22.heap.size | 24 => w23.heap.size | 25 => w24.heap.size | 26 => w25.heap.size | _ => 0) := ⟨_, rfl⟩
  have HC := Lib.hid hC
  clear hC
  refine wp_buildSlice 74 58 27 _ rfl C.toArray i0 _ Tryz.underlying74 hi0 hz0 (by rw [hz1]; decide) (by rw [hz1]; decide) (by rw [hz1, HC.out]; kernel_rfl) ?_
  refine hK _ _ ?_
  go_upto_region 3 with fail
  refine wp_world (fun V hV => ?_)
  have hblk : Blk V w'.heap.size C := by rw [hV]; exact Blk.new _ _ _ _ rfl
  have hbel : Below w'.heap.size w' V := by rw [hV]; exact (Below.refl _ _).alloc (Nat.le_refl _) _
  rw [HC.out] at hblk
  have hi := HI.out
  have HM : Hid (FmK w.heap.size w' V 0) := Lib.hid (fm_start hbel hblk (by
    clear hV hK HI HC hbel hblk
    intro q hq
    rcases (show q = 0 ∨ q = 1 ∨ q = 2 ∨ q = 3 ∨ q = 4 ∨ q = 5 ∨ q = 6 ∨ q = 7 ∨ q = 8 ∨ q = 9 ∨ q = 10 ∨ q = 11 ∨ q = 12 ∨ q = 13 ∨ q = 14 ∨ q = 15 ∨ q = 16 ∨ q = 17 ∨ q = 18 ∨ q = 19 ∨ q = 20 ∨ q = 21 ∨ q = 22 ∨ q = 23 ∨ q = 24 ∨ q = 25 ∨ q = 26 by omega) with rfl | rfl | rfl | rfl | rfl | rfl | rfl | rfl | rfl | rfl | rfl | rfl | rfl | rfl | rfl | rfl | rfl | rfl | rfl | rfl | rfl | rfl | rfl | rfl | rfl | rfl | rfl
    · exact .inl rfl
    · exact .inl rfl
    · exact .inr (hi.at (l := [1]) (b := w1.heap.size) (by simp))
    · exact .inr (hi.at (l := [1]) (b := w2.heap.size) (by simp))
    · exact .inr (hi.at (l := [1]) (b := w3.heap.size) (by simp))
    · exact .inr (hi.at (l := [1]) (b := w4.heap.size) (by simp))
    · exact .inr (hi.at (l := [1]) (b := w5.heap.size) (by simp))
    · exact .inr (hi.at (l := [1]) (b := w6.heap.size) (by simp))
    · exact .inr (hi.at (l := [1]) (b := w7.heap.size) (by simp))
    · exact .inr (hi.at (l := [1]) (b := w8.heap.size) (by simp))
    · exact .inr (hi.at (l := [1]) (b := w9.heap.size) (by simp))
    · exact .inr (hi.at (l := [1]) (b := w10.heap.size) (by simp))
    · exact .inr (hi.at (l := [1]) (b := w11.heap.size) (by simp))
    · exact .inr (hi.at (l := [1]) (b := w12.heap.size) (by simp))
    · exact .inr (hi.at (l := [1, 1]) (b := w13.heap.size) (by simp))
    · exact .inr (hi.at (l := [1, 1]) (b := w14.heap.size) (by simp))
    · exact .inr (hi.at (l := [1, 1, 2]) (b := w15.heap.size) (by simp))
    · exact .inr (hi.at (l := [1]) (b := w16.heap.size) (by simp))
    · exact .inr (hi.at (l := [1, 2]) (b := w17.heap.size) (by simp))
    · exact .inr (hi.at (l := [1]) (b := w18.heap.size) (by simp))
    · exact .inr (hi.at (l := [1]) (b := w19.heap.size) (by simp))
    · exact .inl rfl
    · exact .inr (hi.at (l := [2]) (b := w21.heap.size) (by simp))
    · exact .inr (hi.at (l := [2, 2]) (b := w22.heap.size) (by simp))
    · exact .inr (hi.at (l := [2]) (b := w23.heap.size) (by simp))
    · exact .inr (hi.at (l := [2]) (b := w24.heap.size) (by simp))
    · exact .inr (hi.at (l := [2]) (b := w25.heap.size) (by simp))))
  clear hi
  have HW := Lib.hid HI.out.1
  clear hblk hbel hV HC HI hi0 hz0 hz1 hz2
  clear hK
  go_wp2_with fail
  go_loopw [85] (fun s85 wr => ∃ k : Nat, k ≤ 27 ∧ s85 = .int .i64 k ∧ FmK w.heap.size w' wr k) (fun s85 _ => 27 - (intOf s85).toNat)
  case atStart => exact ⟨0, by omega, rfl, HM.out⟩
  case round =>
    obtain ⟨k, hk, rfl, hM⟩ := hrel
    clear HM
    have HM := Lib.hid hM
    by_cases hkn : k < 27
    · have hkm : (k : Int) < 27 := by omega
      obtain ⟨fa, fc, -, hq⟩ := hM.c k hkn
      have c0 : wr.cell? ⟨w'.heap.size, k * 6, none⟩ = some (.string (bs (F k).nm)) := hq 0 _ rfl
      have c5 : wr.cell? ⟨w'.heap.size, k * 6 + 5, none⟩ = some (.bool (decide (k < k) && (F k).area)) := hq 5 _ rfl
      have HA := Lib.hid (F_area hkn)
      have hfr := hM.fr
      have hlt := hM.lt
      have HK := Lib.hid hkn
      obtain ⟨S, hS⟩ : ∃ S, S = (F k).nm := ⟨_, rfl⟩
      rw [← hS] at c0 HA
      obtain ⟨y, hy⟩ : ∃ y, y = (decide (k < k) && (F k).area) := ⟨_, rfl⟩
      rw [← hy] at c5
      clear hy hS hq hM hkn
      have e0 := bs_beq S [115, 104, 97, 114, 112, 101, 110]; have e1 := bs_beq S [98, 108, 117, 114]; have e2 := bs_beq S [115, 112, 114, 101, 97, 100]; have e3 := bs_beq S [115, 104, 114, 105, 110, 107]; have e4 := bs_beq S [102, 101, 97, 116, 104, 101, 114]
      cases h0 : (S == [115, 104, 97, 114, 112, 101, 110]) with
      | true =>
        rw [h0] at e0
        have HY : Hid ((F k).area = true) := Lib.hid (by rw [HA.out, h0]; simp)
        clear e1 e2 e3 e4
        go_wp2_with fail
        go_roundw
        case rel => exact ⟨k + 1, by have := HK.out; omega, by go_num, HM.out.mark HK.out HY.out⟩
        case measure => simp [intOf]; have := HK.out; omega
      | false =>
        rw [h0] at e0
        cases h1 : (S == [98, 108, 117, 114]) with
        | true =>
          rw [h1] at e1
          have HY : Hid ((F k).area = true) := Lib.hid (by rw [HA.out, h0, h1]; simp)
          clear e2 e3 e4
          go_wp2_with fail
          go_roundw
          case rel => exact ⟨k + 1, by have := HK.out; omega, by go_num, HM.out.mark HK.out HY.out⟩
          case measure => simp [intOf]; have := HK.out; omega
        | false =>
          rw [h1] at e1
          cases h2 : (S == [115, 112, 114, 101, 97, 100]) with
          | true =>
            rw [h2] at e2
            have HY : Hid ((F k).area = true) := Lib.hid (by rw [HA.out, h0, h1, h2]; simp)
            clear e3 e4
            go_wp2_with fail
            go_roundw
            case rel => exact ⟨k + 1, by have := HK.out; omega, by go_num, HM.out.mark HK.out HY.out⟩
            case measure => simp [intOf]; have := HK.out; omega
          | false =>
            rw [h2] at e2
            cases h3 : (S == [115, 104, 114, 105, 110, 107]) with
            | true =>
              rw [h3] at e3
              have HY : Hid ((F k).area = true) := Lib.hid (by rw [HA.out, h0, h1, h2, h3]; simp)
              clear e4
              go_wp2_with fail
              go_roundw
              case rel => exact ⟨k + 1, by have := HK.out; omega, by go_num, HM.out.mark HK.out HY.out⟩
              case measure => simp [intOf]; have := HK.out; omega
            | false =>
              rw [h3] at e3
              cases h4 : (S == [102, 101, 97, 116, 104, 101, 114]) with
              | true =>
                rw [h4] at e4
                have HY : Hid ((F k).area = true) := Lib.hid (by rw [HA.out, h0, h1, h2, h3, h4]; simp)
                go_wp2_with fail
                go_roundw
                case rel => exact ⟨k + 1, by have := HK.out; omega, by go_num, HM.out.mark HK.out HY.out⟩
                case measure => simp [intOf]; have := HK.out; omega
              | false =>
                rw [h4] at e4
                have HY : Hid ((F k).area = false) := Lib.hid (by rw [HA.out, h0, h1, h2, h3, h4]; rfl)
                go_wp2_with fail
                go_roundw
                case rel => exact ⟨k + 1, by have := HK.out; omega, by go_num, HM.out.skip HY.out⟩
                case measure => simp [intOf]; have := HK.out; omega
    · obtain rfl : k = 27 := by omega
      have hkm : ¬ ((27 : Nat) : Int) < 27 := by omega
      clear hM
      go_wp2_with fail
      go_ret
      exact ⟨_, rfl, HM.out.row HW.out.size, HW.out.trans (HM.out.bel.mono HW.out.size)⟩
end Go.Proofs.YtbaocallhnehfaaGreatDoor
