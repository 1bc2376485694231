/- Tiles: frame.Tiles of a right region. Conditions: what each theorem names. -/
import Derived.Test.YtcdcfkgdgimmcaaDoorSpA
import Derived.Test.YtcdcfkgdgimmcaaDoorBC
namespace Go.Proofs.YtcdcfkgdgimmcaaDoor
open Go Go.RowKit
/-- A tile's four numbers: column i, row j. -/
def tlV (X Y W H s : Int) (i j : Nat) : List Value :=
  [.int .i64 (max X (X - X % s + s * i)), .int .i64 (max Y (Y - Y % s + s * j)), .int .i64 (min (X + W) (X - X % s + s * i + s) - max X (X - X % s + s * i)), .int .i64 (min (Y + H) (Y - Y % s + s * j + s) - max Y (Y - Y % s + s * j))]
/-- How many tiles stand beside one another. -/
def tlN (X W s : Int) : Nat := ((W + X % s + s - 1) / s).toNat
/-- The first q tiles, row by row. -/
def tlL (X Y W H s : Int) : Nat → List Value
  | 0 => []
  | q + 1 => tlL X Y W H s q ++ tlV X Y W H s (q % tlN X W s) (q / tlN X W s)
theorem tlL_len (X Y W H s : Int) (q : Nat) : (tlL X Y W H s q).length = 4 * q := by
  induction q with
  | zero => rfl
  | succ q ih => unfold tlL; rw [List.length_append, ih]; simp [tlV]; omega
theorem tlN_iff {X W s : Int} (hs : 1 ≤ s) (hW : 1 ≤ W) (i : Nat) : X - X % s + s * (i : Int) < X + W ↔ i < tlN X W s := by
  have h0 := Int.emod_nonneg X (show s ≠ 0 by omega)
  have h1 := Int.emod_lt_of_pos X (show 0 < s by omega)
  obtain ⟨d, hd⟩ : ∃ d, d = X % s := ⟨_, rfl⟩
  unfold tlN
  rw [← hd] at h0 h1 ⊢
  have h2 : 0 ≤ (W + d + s - 1) / s := Int.ediv_nonneg (by omega) (by omega)
  have h3 := Int.mul_ediv_add_emod (W + d + s - 1) s
  have h4 := Int.emod_nonneg (W + d + s - 1) (show s ≠ 0 by omega)
  have h5 := Int.emod_lt_of_pos (W + d + s - 1) (show 0 < s by omega)
  obtain ⟨Q, hQ⟩ : ∃ Q, Q = (W + d + s - 1) / s := ⟨_, rfl⟩
  rw [← hQ] at h2 h3 ⊢
  constructor
  · intro h
    rcases Nat.lt_or_ge i Q.toNat with h' | h'
    · exact h'
    · exfalso
      have : s * Q ≤ s * (i : Int) := Int.mul_le_mul_of_nonneg_left (by omega) (by omega)
      omega
  · intro h
    have : s * ((i : Int) + 1) ≤ s * Q := Int.mul_le_mul_of_nonneg_left (by omega) (by omega)
    rw [Int.mul_add, Int.mul_one] at this
    omega
theorem tlN_bd {X W s : Int} (hs : 1 ≤ s) (hW : 1 ≤ W ∧ W ≤ 256) : 1 ≤ tlN X W s ∧ tlN X W s ≤ 512 := by
  have h0 := Int.emod_nonneg X (show s ≠ 0 by omega)
  have h1 := Int.emod_lt_of_pos X (show 0 < s by omega)
  constructor
  · have := (tlN_iff (X := X) hs hW.1 0).1 (by simp; omega)
    omega
  · rcases Nat.lt_or_ge 512 (tlN X W s) with h | h
    · exfalso
      have := (tlN_iff (X := X) hs hW.1 512).2 h
      have h2 : 1 * 512 ≤ s * ((512 : Nat) : Int) := Int.mul_le_mul_of_nonneg_right hs (by omega)
      by_cases h3 : s ≤ 256
      · omega
      · have h4 : s * 1 ≤ s * ((512 : Nat) : Int) := Int.mul_le_mul_of_nonneg_left (by omega) (by omega)
        have h5 : s * 2 ≤ s * ((512 : Nat) : Int) := Int.mul_le_mul_of_nonneg_left (by omega) (by omega)
        omega
    · exact h
theorem infoRegion : (Tryd.prog.info? 35).map (fun i => (i.zero, i.size, i.bytes)) = some (some (.agg #[.int .i64 0, .int .i64 0, .int .i64 0, .int .i64 0]), 4, 32) := by kernel_rfl
/-- What stands of the walk's variables. -/
structure TlR (w wr : World) (La : List Value) (u : Value) (X Y W H s : Int) (q : Nat) : Prop where
  fa : Blk wr w.heap.size La
  own : wr.ownsRow (w.heap.size + 1) 35 4 u q (tlL X Y W H s q)
  bel : Below w.heap.size w wr
theorem TlR.past {w wr wy : World} {La : List Value} {u : Value} {X Y W H s : Int} {q : Nat} (k : TlR w wr La u X Y W H s q) (h : Below wr.heap.size wr wy) : TlR w wy La u X Y W H s q := ⟨k.fa.past h, own_past k.own h, k.bel.trans (h.mono k.bel.size)⟩
theorem TlR.app {w wr wa w1 : World} {La : List Value} {u u' : Value} {X Y W H s : Int} {q : Nat} {vs : List Value} (k0 : TlR w wr La u X Y W H s q) (hb : Below wr.heap.size wr wa) (hv : vs = tlV X Y W H s (q % tlN X W s) (q / tlN X W s)) (hown : w1.ownsRow (w.heap.size + 1) 35 4 u' (q + 1) (tlL X Y W H s q ++ vs)) (hg : wa.grownBy w1 u.ownBlock) : TlR w w1 La u' X Y W H s (q + 1) := by
  have k := k0.past hb
  have blk := hg.block w.heap.size k.fa.lt (own_block k.own (by omega))
  refine ⟨k.fa.block hg.size blk, by unfold tlL; rw [← hv]; exact hown, k.bel.grown hg k.bel.size (fun j hj => ?_)⟩
  have := k.own.lt j hj
  omega
end Go.Proofs.YtcdcfkgdgimmcaaDoor
