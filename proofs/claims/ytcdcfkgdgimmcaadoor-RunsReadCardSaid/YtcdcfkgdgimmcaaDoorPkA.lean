/- Packed levels: the bytes; finish.packed; appends of bytes. Conditions: what each theorem names. -/
import Derived.Test.YtcdcfkgdgimmcaaDoorCA
import Derived.Maps.OwnOps
import Derived.Laws.IdiomStrings
namespace Go.Proofs.YtcdcfkgdgimmcaaDoor
open Go Go.RowKit
/-- An integer made a byte. -/
def by8 (x : Int) : UInt8 := UInt8.ofNat (x % 256).toNat
theorem by8_nat (x : Int) : ((by8 x).toNat : Int) = x % 256 := by
  unfold by8
  rw [UInt8.toNat_ofNat']
  omega
theorem by8_wrap (x : Int) : IntKind.u8.wrap x = ((by8 x).toNat : Int) := by
  rw [by8_nat]
  rfl
/-- The bytes of the first groups. -/
def pkL (g : Nat → List UInt8) : Nat → List UInt8
  | 0 => []
  | k + 1 => pkL g k ++ g k
theorem pkL_len {g : Nat → List UInt8} {m : Nat} (h : ∀ k, (g k).length = m) : ∀ k, (pkL g k).length = k * m := by
  intro k
  induction k with
  | zero => simp [pkL]
  | succ k ih => rw [show pkL g (k + 1) = pkL g k ++ g k from rfl, List.length_append, ih, h, Nat.add_mul, Nat.one_mul]
theorem pkL_congr {g h : Nat → List UInt8} : ∀ k, (∀ i, i < k → g i = h i) → pkL g k = pkL h k := by
  intro k
  induction k with
  | zero => intro _; rfl
  | succ k ih => intro e; show pkL g k ++ g k = pkL h k ++ h k; rw [ih (fun i hi => e i (by omega)), e k (by omega)]
def vals8 (l : List UInt8) : List Value := l.map (fun b => Value.int .u8 (b.toNat : Int))
theorem vals8_app (l m : List UInt8) : vals8 (l ++ m) = vals8 l ++ vals8 m := List.map_append
theorem vals8_len (l : List UInt8) : (vals8 l).length = l.length := List.length_map ..
def g8 (zs : Nat → Int) (k : Nat) : List UInt8 := [by8 (zs k)]
def g16 (zs : Nat → Int) (k : Nat) : List UInt8 := [by8 (zs k / 256), by8 (zs k)]
/-- The word of three levels. -/
def at10 (zs : Nat → Int) (N i : Nat) : Int := if i < N then zs i else 0
def w10 (zs : Nat → Int) (N k : Nat) : Int := ((at10 zs N (3 * k) * 1024 + at10 zs N (3 * k + 1)) * 1024 + at10 zs N (3 * k + 2)) * 4
def g10 (zs : Nat → Int) (N k : Nat) : List UInt8 := [by8 (w10 zs N k / 16777216), by8 (w10 zs N k / 65536), by8 (w10 zs N k / 256), by8 (w10 zs N k)]
theorem infoU8 : (Tryd.prog.info? 5).map (fun i => (i.zero, i.size, i.bytes)) = some (some (.int .u8 0), 1, 1) := by kernel_rfl
/-- What stands of the bytes so far. -/
structure PkR (w wr : World) (u : Value) (l : List UInt8) : Prop where
  own : wr.ownsRow w.heap.size 5 1 u l.length (vals8 l)
  bel : Below w.heap.size w wr
theorem PkR.past {w wr wy : World} {u : Value} {l : List UInt8} (k : PkR w wr u l) (h : Below wr.heap.size wr wy) : PkR w wy u l := ⟨own_past k.own h, k.bel.trans (h.mono k.bel.size)⟩
theorem PkR.app {w wr wa w1 : World} {u u' : Value} {l m : List UInt8} {n : Nat} (k0 : PkR w wr u l) (hb : Below wr.heap.size wr wa) (hn : n = (l ++ m).length) (hown : w1.ownsRow w.heap.size 5 1 u' n (vals8 l ++ vals8 m)) (hg : wa.grownBy w1 u.ownBlock) : PkR w w1 u' (l ++ m) := by
  have k := k0.past hb
  refine ⟨by rw [vals8_app, ← hn]; exact hown, k.bel.grown hg k.bel.size (fun j hj => ?_)⟩
  have := k.own.lt j hj
  omega
/-- The string of the bytes. -/
theorem run_string8 {w wr : World} {u : Value} {l : List UInt8} (k : PkR w wr u l) : (convert 81 9 u).run Tryd.prog wr = .ok (.string ⟨l.toArray⟩) wr := by
  rcases Nat.eq_zero_or_pos l.length with h0 | h0
  · have hl : l = [] := List.length_eq_zero_iff.1 h0
    subst hl
    rcases k.own.2 with ⟨h1, -⟩ | ⟨g, cap, cur, h1, h2, h3, h4, h5, -⟩
    · subst h1
      rw [run_convert_bytes_string wr 81 9 5 none 0 0 Tryd.underlying81 Tryd.underlying5 Tryd.underlying9]
      rfl
    · subst h1
      exact run_convert_bytes_back wr 81 9 5 ⟨g, 0, none⟩ cap [] Tryd.underlying81 Tryd.underlying5 Tryd.underlying9 (fun j hj => by simp at hj)
  · obtain ⟨g, cap, rfl, -, -, -, -⟩ := own_form k.own h0
    have hc := k.own.cells (g := g) rfl
    refine run_convert_bytes_back wr 81 9 5 ⟨g, 0, none⟩ cap l Tryd.underlying81 Tryd.underlying5 Tryd.underlying9 (fun j hj => ?_)
    refine hc j _ ?_
    simp [vals8, hj]
end Go.Proofs.YtcdcfkgdgimmcaaDoor
