/- What the library's own variables hold, carried from world to world; strings.Cut, strconv.Itoa and strconv.Atoi in one form each. Conditions: those variables read as the rows list them (LibW). -/
import Derived.Test.YtjcakbikpficbaaGreatDoorShelf
import Derived.Test.YtjcakbikpficbaaGreatDoorBG
import Derived.Test.YtjcakbikpficbaaGreatDoorNtC
import Derived.Stop.LaidErr
import Derived.HandedShaped
import Derived.Shelf.Vars
import Derived.WalkSmall
import Derived.Lib.AtoiErrMem
import Derived.Shelf.Small.Wraps
import Derived.Shelf.Strings.SlTrimAscii
namespace Go.Proofs.YtjcakbikpficbaaGreatDoor
open Go Go.RowKit Go.Lib Go.Sort
theorem var_lt {P : Program} {w : World} {n : String} {g : Nat} {cs : Array Value} (hg : P.globalNamed n = some g) (h : w.var? P n = some cs) : g < w.heap.size := by
  unfold World.var? at h
  simp only [hg, Option.bind_some] at h
  rcases Nat.lt_or_ge g w.heap.size with h' | h'
  · exact h'
  · rw [Array.getElem?_eq_none h'] at h; cases h
/-- What the library's variables hold in a world. -/
structure LibW (w : World) : Prop where
  len : ∃ m, w.cell? ⟨3, 0, none⟩ = some (.int .i64 m)
  tab : Lib.TabIs Tryz.prog w "internal/strconv.uint64pow10" .u64 Lib.pow10Tab
  syn : ∃ tp p, w.var? Tryz.prog "strconv.ErrSyntax" = some #[.iface tp p]
  rng : ∃ tp p, w.var? Tryz.prog "strconv.ErrRange" = some #[.iface tp p]
theorem gTab : Tryz.prog.globalNamed "internal/strconv.uint64pow10" = some 6 := by kernel_rfl
theorem gSyn : Tryz.prog.globalNamed "strconv.ErrSyntax" = some 1 := by kernel_rfl
theorem gRng : Tryz.prog.globalNamed "strconv.ErrRange" = some 2 := by kernel_rfl
theorem LibW.past {w w' : World} (h : LibW w) (hb : Below w.heap.size w w') : LibW w' := by
  obtain ⟨⟨m, h1⟩, h2, ⟨t3, p3, h3⟩, ⟨t4, p4, h4⟩⟩ := h
  refine ⟨⟨m, ?_⟩, ?_, ⟨t3, p3, ?_⟩, ⟨t4, p4, ?_⟩⟩
  · rw [hb.cell (p := ⟨3, 0, none⟩) (cell_lt h1)]; exact h1
  · exact var?_below hb gTab (var_lt gTab h2) h2
  · exact var?_below hb gSyn (var_lt gSyn h3) h3
  · exact var?_below hb gRng (var_lt gRng h4) h4
theorem below_grow (w : World) (k : Nat) (os : Array Obj) : Below w.heap.size w (grow (w.drewN k) os) :=
  ⟨rfl, rfl, rfl, by show w.heap.size ≤ (w.heap ++ os).size; simp, fun j hj => by show (w.heap ++ os)[j]? = _; rw [Array.getElem?_append_left hj]⟩
theorem below_bytes (w : World) (e : TypeId) (s : ByteArray) : Below w.heap.size w (Lib.bytesWorld w e s) :=
  Lib.bytesWorld_below w e s
theorem Cut_any (s sep : ByteArray) (w : World) (h : LibW w) (hs : s.size < 4294967281) : Calls Tryz.prog 91 #[.string s, .string sep] w fun e w' => e = .returned (.tuple #[.string ⟨(Lib.cut s.data.toList sep.data.toList).1.toArray⟩, .string ⟨(Lib.cut s.data.toList sep.data.toList).2.1.toArray⟩, .bool (Lib.cut s.data.toList sep.data.toList).2.2]) ∧ Below w.heap.size w w' := by
  obtain ⟨m, hm⟩ := h.len
  refine (Tryz.strings_Cut s sep m w hs hm).mono ?_
  rintro e w' ⟨rfl, n, rfl⟩
  exact ⟨rfl, below_drewN (Below.refl _ _) n⟩
theorem Itoa_any (n : Int) (w : World) (h : LibW w) (h0 : -9223372036854775808 ≤ n) (h1 : n ≤ 9223372036854775807) : Calls Tryz.prog 94 #[.int .i64 n] w fun e w' => e = .returned (.string ⟨(Lib.itoa n).toArray⟩) ∧ Below w.heap.size w w' := by
  refine (Tryz.strconv_Itoa n h0 h1 w h.tab).mono ?_
  rintro e w' ⟨rfl, k, os, rfl⟩
  exact ⟨rfl, below_grow w k os⟩
/-- The error of a text that is no number. -/
def errV : NumEnd Int → Nat → Value
  | .ok _, _ => .nilIface
  | _, N => .iface 214 (.pointer (some ⟨N, 0, none⟩))
theorem Atoi_any (s : ByteArray) (w : World) (h : LibW w) (hs : s.size ≤ 281474976710656) : Calls Tryz.prog 51 #[.string s] w fun e w' => (∃ N, e = .returned (.tuple #[.int .i64 (atV s.data.toList), errV (Lib.atoiAll s.data.toList) N])) ∧ Below w.heap.size w w' := by
  unfold atV
  cases ha : Lib.atoiAll s.data.toList with
  | ok v =>
    refine (Tryz.strconv_Atoi_ok s (by omega) v ha w).mono ?_
    rintro e w' ⟨rfl, hw⟩
    refine ⟨⟨0, rfl⟩, ?_⟩
    rcases hw with rfl | ⟨t, rfl⟩
    · exact Below.refl _ _
    · exact below_bytes _ _ _
  | range =>
    obtain ⟨tp, p, hv⟩ := h.rng
    refine (Tryz.strconv_Atoi_range_var s hs ha tp p w hv).mono ?_
    rintro e w' ⟨N, rfl, -, -, hb⟩
    exact ⟨⟨N, rfl⟩, hb⟩
  | _ =>
    obtain ⟨tp, p, hv⟩ := h.syn
    refine (Tryz.strconv_Atoi_syntax_var s hs ha tp p w hv).mono ?_
    rintro e w' ⟨N, rfl, -, -, hb⟩
    exact ⟨⟨N, rfl⟩, hb⟩
end Go.Proofs.YtjcakbikpficbaaGreatDoor
