/- Forms of operations in memory: integers of a slice, one form as a value, a row of forms. Plain laws over any world. No condition. -/
import Derived.Test.YtjcakbikpficbaaGreatDoorNfP
import Derived.Test.YtjcakbikpficbaaGreatDoorKpA
namespace Go.Proofs.YtjcakbikpficbaaGreatDoor
open Go Go.RowKit
/-- A slice's integers, on a block that is not below B. -/
def IntsAt (B : Nat) (w : World) (a : Option Addr) (l : List Int) : Prop := l = [] ∨ ∃ b off, a = some ⟨b, off, none⟩ ∧ B ≤ b ∧ b < w.heap.size ∧ ∀ i v, l[i]? = some v → w.cell? ⟨b, off + i, none⟩ = some (.int .i64 v)
theorem IntsAt.past {B : Nat} {w w' : World} {a : Option Addr} {l : List Int} (h : IntsAt B w a l) (hb : Below w.heap.size w w') : IntsAt B w' a l := by
  rcases h with h | ⟨b, off, h1, h0, h2, h3⟩
  · exact .inl h
  · exact .inr ⟨b, off, h1, h0, Nat.lt_of_lt_of_le h2 hb.size, fun i v hv => by rw [hb.cell (p := ⟨b, off + i, none⟩) h2]; exact h3 i v hv⟩
theorem IntsAt.mono {B B' : Nat} {w : World} {a : Option Addr} {l : List Int} (h : IntsAt B w a l) (hb : B' ≤ B) : IntsAt B' w a l := by
  rcases h with h | ⟨b, off, h1, h0, h2⟩
  · exact .inl h
  · exact .inr ⟨b, off, h1, Nat.le_trans hb h0, h2⟩
theorem IntsAt.tch {B : Nat} {S : Nat → Prop} {w w' : World} {a : Option Addr} {l : List Int} (h : IntsAt B w a l) (t : Tch S w w') (hn : ∀ b, S b → b < B) : IntsAt B w' a l := by
  rcases h with h | ⟨b, off, h1, h0, h2, h3⟩
  · exact .inl h
  · exact .inr ⟨b, off, h1, h0, Nat.lt_of_lt_of_le h2 t.size, fun i v hv => by rw [World.cell?_of_block (a := ⟨b, off + i, none⟩) (t.block b h2 (fun hS => by have := hn b hS; omega))]; exact h3 i v hv⟩
/-- Bytes as a string. -/
def bs (l : List UInt8) : ByteArray := ⟨l.toArray⟩
theorem bs_inj {l m : List UInt8} (h : bs l = bs m) : l = m := by
  have := congrArg (fun b : ByteArray => b.data.toList) h
  simpa [bs] using this
theorem bs_data (l : List UInt8) : (bs l).data.toList = l := by simp [bs]
theorem bs_of (s : ByteArray) : bs s.data.toList = s := by cases s; simp [bs]
/-- A form as a value. -/
def formV (f : FormD) (a : Option Addr) (c : Nat) : Value := .agg #[.string (bs f.nm), .slice a f.ins.length c, .int .i64 f.out, .int .i64 f.ints, .int .i64 f.reals, .bool f.area]
def FormIs (w : World) (v : Value) (f : FormD) : Prop := ∃ a c, v = formV f a c ∧ IntsAt 0 w a f.ins
theorem FormIs.past {w w' : World} {v : Value} {f : FormD} (h : FormIs w v f) (hb : Below w.heap.size w w') : FormIs w' v f := by
  obtain ⟨a, c, h1, h2⟩ := h; exact ⟨a, c, h1, h2.past hb⟩
/-- The cells of a form. -/
structure FormC (B : Nat) (w : World) (b o : Nat) (f : FormD) : Prop where
  c0 : w.cell? ⟨b, o, none⟩ = some (.string (bs f.nm))
  c1 : ∃ a c, w.cell? ⟨b, o + 1, none⟩ = some (.slice a f.ins.length c) ∧ IntsAt B w a f.ins
  c2 : w.cell? ⟨b, o + 2, none⟩ = some (.int .i64 f.out)
  c3 : w.cell? ⟨b, o + 3, none⟩ = some (.int .i64 f.ints)
  c4 : w.cell? ⟨b, o + 4, none⟩ = some (.int .i64 f.reals)
  c5 : w.cell? ⟨b, o + 5, none⟩ = some (.bool f.area)
theorem FormC.past {B : Nat} {w w' : World} {b o : Nat} {f : FormD} (h : FormC B w b o f) (hb : Below w.heap.size w w') : FormC B w' b o f := by
  obtain ⟨h0, ⟨a, c, h1, h1'⟩, h2, h3, h4, h5⟩ := h
  have hl := cell_lt h0
  simp only at hl
  have g : ∀ j, w'.cell? ⟨b, j, none⟩ = w.cell? ⟨b, j, none⟩ := fun j => hb.cell (p := ⟨b, j, none⟩) hl
  exact ⟨by rw [g]; exact h0, ⟨a, c, by rw [g]; exact h1, h1'.past hb⟩, by rw [g]; exact h2, by rw [g]; exact h3, by rw [g]; exact h4, by rw [g]; exact h5⟩
/-- The row of all forms. -/
def FormRow (B : Nat) (w : World) (v : Value) : Prop := ∃ b off c, v = .slice (some ⟨b, off, none⟩) 27 c ∧ B ≤ b ∧ ∀ q, q < 27 → FormC B w b (off + q * 6) (F q)
theorem FormRow.past {B : Nat} {w w' : World} {v : Value} (h : FormRow B w v) (hb : Below w.heap.size w w') : FormRow B w' v := by
  obtain ⟨b, off, c, h1, h0, h2⟩ := h; exact ⟨b, off, c, h1, h0, fun q hq => (h2 q hq).past hb⟩
/-- What a function that hands back all forms leaves. -/
def FormsP (w : World) (e : Ending) (w' : World) : Prop := ∃ v, e = .returned v ∧ FormRow w.heap.size w' v ∧ Below w.heap.size w w'
/-- The zero form. -/
def zForm : Value := .agg #[.string ⟨#[]⟩, .slice none 0 0, .int .i64 0, .int .i64 0, .int .i64 0, .bool false]
def zCells : List Value := [.string ⟨#[]⟩, .slice none 0 0, .int .i64 0, .int .i64 0, .int .i64 0, .bool false]
def fCells (f : FormD) (a : Option Addr) (c : Nat) : List Value := [.string (bs f.nm), .slice a f.ins.length c, .int .i64 f.out, .int .i64 f.ints, .int .i64 f.reals, .bool f.area]
/-- Six cells of one block are written. -/
theorem tch6 (W : World) (n : Nat) (v0 v1 v2 v3 v4 v5 : Value) : Tch (fun b => b = n) W ((((((W.setCell ⟨n, 0, none⟩ v0).setCell ⟨n, 1, none⟩ v1).setCell ⟨n, 2, none⟩ v2).setCell ⟨n, 3, none⟩ v3).setCell ⟨n, 4, none⟩ v4).setCell ⟨n, 5, none⟩ v5) :=
  ((((((Tch.refl (fun b => b = n) W).set ⟨n, 0, none⟩ v0 rfl).set ⟨n, 1, none⟩ v1 rfl).set ⟨n, 2, none⟩ v2 rfl).set ⟨n, 3, none⟩ v3 rfl).set ⟨n, 4, none⟩ v4 rfl).set ⟨n, 5, none⟩ v5 rfl
/-- A new block is written: nothing below it is touched. -/
theorem below_own {w W W' : World} {n : Nat} (h : Below w.heap.size w W) (t : Tch (fun b => b = n) W W') (hn : w.heap.size ≤ n) : Below w.heap.size w W' :=
  ((Tch.of_below (S := fun _ => False) h).then t (fun i hi e => by subst e; omega)).to_below (Nat.le_refl _) (fun _ hk => hk.elim)
end Go.Proofs.YtjcakbikpficbaaGreatDoor
