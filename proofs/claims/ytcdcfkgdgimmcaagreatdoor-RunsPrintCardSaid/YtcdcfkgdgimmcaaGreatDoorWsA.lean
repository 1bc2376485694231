/- (*strings.Builder).WriteString at this program: the shelf's contract, laid by hand (its laying command names every type by a body, and no body here names interface {}). -/
import Derived.Shelf.Strings.BuilderK
import Derived.Lib.AppendIntMem
import Derived.Test.YtcdcfkgdgimmcaaGreatDoorShelf
namespace Go.Proofs.YtcdcfkgdgimmcaaGreatDoor
open Go Go.RowKit Go.Shelf
def wsRen : Go.Shelf.Ren := ⟨fun | 166 => 19 | 240 => 36 | 276 => 56 | n => n, fun | 0 => 0 | 3 => 3 | 4 => 4 | 5 => 5 | 9 => 9 | 20 => 20 | 37 => 48 | 70 => 47 | 72 => 50 | 74 => 52 | 75 => 53 | 76 => 54 | 80 => 57 | 164 => 99 | 165 => 100 | 71 => 49 | n => n, fun n => n⟩
theorem wsLays : Go.Proofs.Lays.n166 Tryz.prog wsRen := {
  mixed := by kernel_rfl
  f166 := Tryz.func19.trans (congrArg some (by kernel_rfl))
  f240 := Tryz.func36.trans (congrArg some (by kernel_rfl))
  f276 := Tryz.func56.trans (congrArg some (by kernel_rfl))
  t0 := Tryz.underlying0
  a0 := Tryz.isAgg0
  z0 := Tryz.sizeOf0
  v0 := Tryz.zeroValue0
  t3 := Tryz.underlying3
  a3 := Tryz.isAgg3
  z3 := Tryz.sizeOf3
  v3 := Tryz.zeroValue3
  t4 := Tryz.underlying4
  a4 := Tryz.isAgg4
  z4 := Tryz.sizeOf4
  v4 := Tryz.zeroValue4
  t9 := Tryz.underlying9
  a9 := Tryz.isAgg9
  z9 := Tryz.sizeOf9
  v9 := Tryz.zeroValue9
  t20 := Tryz.underlying20
  a20 := Tryz.isAgg20
  z20 := Tryz.sizeOf20
  v20 := Tryz.zeroValue20
  t37 := Tryz.underlying48
  a37 := Tryz.isAgg48
  z37 := Tryz.sizeOf48
  v37 := Tryz.zeroValue48
  t70 := Tryz.underlying47
  a70 := Tryz.isAgg47
  z70 := Tryz.sizeOf47
  v70 := Tryz.zeroValue47
  t72 := Tryz.underlying50
  a72 := Tryz.isAgg50
  z72 := Tryz.sizeOf50
  v72 := Tryz.zeroValue50
  t75 := Tryz.underlying53
  a75 := Tryz.isAgg53
  z75 := Tryz.sizeOf53
  v75 := Tryz.zeroValue53
  t164 := Tryz.underlying99
  a164 := Tryz.isAgg99
  z164 := Tryz.sizeOf99
  v164 := Tryz.zeroValue99 }
theorem wsExtra : Builder.Extra Tryz.prog wsRen := {
  sizeBuilder := by kernel_rfl
  liesBuilder := by kernel_rfl
  t5 := Tryz.underlying5
  a5 := Tryz.isAgg5
  z5 := Tryz.sizeOf5
  v5 := Tryz.zeroValue5
  infoByte := by kernel_rfl
  cellsByte := by kernel_rfl
  sizeByte := by kernel_rfl
  neB5 := by decide }
/-- A builder that holds the bytes l, in block b. -/
def BuF (w : World) (b : Nat) (l : List UInt8) : Prop := Lib.IsBuilderF 50 5 b b (Lib.byteCells l) w
theorem BuF.fresh (w : World) : BuF (w.alloc (.cells #[.pointer none, .slice none 0 0] 50)) w.heap.size [] := Lib.IsBuilderF.of (Lib.fresh_isBuilder _ _ w)
theorem owF_past {W w : World} {base : Nat} {e : TypeId} {size : Nat} {v : Value} {n : Nat} {xs : List Value} (h : W.ownsRowF base e size v n xs) (hb : Below W.heap.size W w) : w.ownsRowF base e size v n xs :=
  ⟨h.1, h.2.imp id fun ⟨g, cap, cur, fz, h1, h2, h3, h4⟩ => ⟨g, cap, cur, fz, h1, h2, by
    rw [hb.block g ((Array.getElem?_eq_some_iff.1 h3).1)]
    exact h3, h4⟩⟩
theorem atF_past {T e : TypeId} {B b : Nat} {p : Value} {bs : List Value} {W w : World} (h : Lib.BuilderAtF T e B b p bs W) (hb : Below W.heap.size W w) : Lib.BuilderAtF T e B b p bs w := by
  obtain ⟨h1, v, h2, h3, h4⟩ := h
  exact ⟨h1, v, by rw [hb.block b ((Array.getElem?_eq_some_iff.1 h2).1)]; exact h2, owF_past h3 hb, h4⟩
theorem BuF.past {W w : World} {b : Nat} {l : List UInt8} (h : BuF W b l) (hb : Below W.heap.size W w) : BuF w b l := h.imp (fun x => atF_past x hb) (fun x => atF_past x hb)
theorem BuF.lt {w : World} {b : Nat} {l : List UInt8} (h : BuF w b l) : b < w.heap.size := h.elim (fun x => x.lt) (fun x => x.lt)
/-- WriteString of s behind the bytes l. -/
theorem Ws_any (b : Nat) (l : List UInt8) (s : ByteArray) (w : World) (h : BuF w b l) (hlen : l.length + s.size ≤ 140737488355328) :
    Calls Tryz.prog 19 #[.pointer (some ⟨b, 0, none⟩), .string s] w fun e w' => e = .returned (.tuple #[.int .i64 s.size, .nilIface]) ∧ BuF w' b (l ++ s.data.toList) ∧ Below b w w' ∧ Lib.OthersKept 5 (some b) w w' := by
  have hl : (Lib.byteCells l).length = l.length := Lib.byteCells_length l
  refine (Any.Builder_WriteString_k wsLays wsExtra b b (Lib.byteCells l) s w h (by rw [hl]; exact hlen) (Nat.le_of_lt h.lt)).mono ?_
  rintro e w' ⟨rfl, h1, hb⟩
  refine ⟨rfl, .inr ?_, hb⟩
  rw [Lib.byteCells_append]
  exact h1
/-- The bytes, handed back. -/
theorem Bs_any (b : Nat) (l : List UInt8) (w : World) (h : BuF w b l) :
    Calls Tryz.prog 21 #[.pointer (some ⟨b, 0, none⟩)] w fun e w' => e = .returned (.string ⟨l.toArray⟩) ∧ Below b w w' := by
  refine (Any.Builder_String_any_f Tryz.lays169 Tryz.Builder_Extra_169 b b l w h (Nat.le_of_lt h.lt)).mono ?_
  rintro e w' ⟨rfl, -, hb⟩
  exact ⟨rfl, hb⟩
/-- A block of another kind stays. -/
theorem oth_at {T b k : Nat} {vs : Array Value} {w w' : World} (h : Lib.OthersKept 5 (some b) w w') (hk : w.heap[k]? = some (.cells vs T (0, 0))) (hT : T ≠ 5) (hb : k ≠ b) : w'.heap[k]? = some (.cells vs T (0, 0)) :=
  h k _ hk (fun e => hb (Option.some.inj e)) (fun c fz e => by injection e with _ e _; exact hT e)
theorem heap_newF (w : World) (vs : Array Value) (T : TypeId) (n : Nat) (hn : n = w.heap.size) : (w.alloc (.cells vs T)).heap[n]? = some (.cells vs T (0, 0)) := by subst hn; exact heap_alloc_new w _
end Go.Proofs.YtcdcfkgdgimmcaaGreatDoor
