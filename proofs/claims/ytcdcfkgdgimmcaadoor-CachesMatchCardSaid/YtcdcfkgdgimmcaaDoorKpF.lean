/- The cache's calls: NewCache, Put, Get, Keys, Size, Counts. Conditions: what each theorem names. -/
import Derived.Test.YtcdcfkgdgimmcaaDoorKpE
import Derived.Test.YtcdcfkgdgimmcaaDoorCaB
import Derived.Test.YtcdcfkgdgimmcaaDoorShelf
import Derived.Shelf.Strings.SlTrimAscii
namespace Go.Proofs.YtcdcfkgdgimmcaaDoor
open Go Go.RowKit
def hexN : ByteArray := ⟨#[48, 49, 50, 51, 52, 53, 54, 55, 56, 57, 97, 98, 99, 100, 101, 102]⟩
def trH (s : ByteArray) : ByteArray := ⟨(Lib.trimS s.data.toList hexN.data.toList).toArray⟩
theorem trimH_any (s : ByteArray) (w : World) (hs : s.size ≤ 9223372036854775807) : Calls Tryd.prog 12 #[.string s, .string hexN] w fun e w' => e = .returned (.string (trH s)) ∧ Below w.heap.size w w' :=
  Any.strings_Trim_laid Tryd.lays160 (by kernel_rfl) s hexN w hs (by decide) (ascii_of_all (by decide))
/-- A right key. -/
def rgK (s : ByteArray) : Bool := decide ((s.size : Int) = 16) && (trH s).toList.isEmpty
set_option maxRecDepth 100000 in
set_option maxHeartbeats 1600000 in
theorem NewCache_no (most : Int) (w : World) (h : ¬ (1 ≤ most ∧ most ≤ 16777216)) :
    Calls Tryd.prog 7 #[.int .i64 most] w fun e w' => e = .returned (.tuple #[.pointer none, .int .i64 3]) ∧ w' = w := by
  go_enter Tryd.func7, Tryd.ntmps7
  by_cases h1 : most < 1
  · clear h
    go_wp2_with fail
    exact bodyPost_ret (v := .tuple #[.pointer none, .int .i64 3]) (by simp [results, Tryd.results7, go_sem]) rfl ⟨rfl, rfl⟩
  · have h2 : 16777216 < most := by omega
    clear h
    go_wp2_with fail
    exact bodyPost_ret (v := .tuple #[.pointer none, .int .i64 3]) (by simp [results, Tryd.results7, go_sem]) rfl ⟨rfl, rfl⟩
/-- A new cache. -/
def NewC (w w' : World) (most : Int) (c : Nat) : Prop := ∃ mb, CacheG w' Tryd.prog 9 c mb (.slice none 0 0) most 0 0 0 [] none ∧ w.heap.size ≤ c ∧ w.heap.size ≤ mb ∧ Below w.heap.size w w'
set_option maxRecDepth 100000 in
set_option maxHeartbeats 1600000 in
theorem NewCache_yes (most : Int) (w : World) (h : 1 ≤ most ∧ most ≤ 16777216) :
    Calls Tryd.prog 7 #[.int .i64 most] w fun e w' => ∃ c, e = .returned (.tuple #[.pointer (some ⟨c, 0, none⟩), .int .i64 0]) ∧ NewC w w' most c := by
  have hmm := @run_makeMap Tryd.prog
  have h1 : ¬ most < 1 := by omega
  have h2 : ¬ 16777216 < most := by omega
  clear h
  go_enter Tryd.func7, Tryd.ntmps7
  go_wp2_with fail
  refine bodyPost_ret (v := .tuple #[.pointer (some ⟨w.heap.size + 1, 0, none⟩), .int .i64 0]) (by simp [results, Tryd.results7, go_sem]) rfl ⟨w.heap.size + 1, rfl, w.heap.size, ⟨?_, RowV.nil _ _, ⟨_, ?_, MapK.nil _ _⟩, by omega, (by intro b hb; cases hb), ⟨by simp, by simp, by simp⟩, OkK.nil⟩, by omega, by omega, by (repeat (first | exact Below.refl _ _ | assumption | (refine Below.setCell ?_ (by first | (simp; done) | (simp; omega) | omega) _) | (refine Below.drew ?_) | (refine below_drewN ?_ _) | (refine Below.alloc ?_ (by first | (simp; done) | (simp; omega) | omega) _) | (refine Below.trans ?_ (Below.mono (by assumption) (by first | (simp; done) | (simp; omega) | omega)))))⟩
  · exact Blk.new _ _ _ _ (by simp)
  · exact (World.ownsMap_made w _ _ _).alloc _
set_option maxRecDepth 100000 in
set_option maxHeartbeats 1600000 in
theorem Size_any (c mb : Nat) (ks : Value) (most hi mi : Int) (N : Nat) (L : List Kp) (T : Option Nat) (w : World) (h : CacheG w Tryd.prog 9 c mb ks most hi mi N L T) :
    Calls Tryd.prog 27 #[.pointer (some ⟨c, 0, none⟩)] w fun e w' => e = .returned (.int .i64 (pixL L)) ∧ w' = w := by
  have b1 := h.b.c 1 _ rfl; have bl := h.b.lt
  clear h
  go_enter Tryd.func27, Tryd.ntmps27
  go_wp2_with fail
  go_ret
  exact ⟨rfl, rfl⟩
set_option maxRecDepth 100000 in
set_option maxHeartbeats 1600000 in
theorem Counts_any (c mb : Nat) (ks : Value) (most hi mi : Int) (N : Nat) (L : List Kp) (T : Option Nat) (w : World) (h : CacheG w Tryd.prog 9 c mb ks most hi mi N L T) :
    Calls Tryd.prog 26 #[.pointer (some ⟨c, 0, none⟩)] w fun e w' => e = .returned (.tuple #[.int .i64 hi, .int .i64 mi]) ∧ Below w.heap.size w w' := by
  have b1 := h.b.c 4 _ rfl; have b2 := h.b.c 5 _ rfl; have bl := h.b.lt
  clear h
  go_enter Tryd.func26, Tryd.ntmps26
  go_wp2_with fail
  go_quiet (fail)
  go_wp2_with fail
  exact bodyPost_ret (v := .tuple #[.int .i64 hi, .int .i64 mi]) (by simp [results, Tryd.results26, go_sem]) rfl ⟨rfl, below_drewN (Below.refl _ _) _⟩
set_option maxRecDepth 100000 in
set_option maxHeartbeats 1600000 in
theorem Keys_any (c mb : Nat) (ks : Value) (most hi mi : Int) (N : Nat) (L : List Kp) (T : Option Nat) (w : World) (h : CacheG w Tryd.prog 9 c mb ks most hi mi N L T) (hL : L.length ≤ 1000) :
    Calls Tryd.prog 29 #[.pointer (some ⟨c, 0, none⟩)] w fun e w' => ∃ v', e = .returned v' ∧ RowV w' 1 v' L.length (L.flatMap nmC) ∧ Below w.heap.size w w' := by
  have HC := Lib.hid (cloneNm_any ks L.length _ w h.k (by omega) (nm_one L))
  have b1 := h.b.c 2 _ rfl; have bl := h.b.lt
  have hks : ∃ ao n cap, ks = .slice ao n cap := by obtain ⟨-, ao, cap, rfl, -⟩ := h.k; exact ⟨_, _, _, rfl⟩
  obtain ⟨ao, kn, kc, rfl⟩ := hks
  clear h
  go_enter Tryd.func29, Tryd.ntmps29
  go_wp2_with fail
  refine HC.out.mono ?_
  rintro e w1 ⟨v', rfl, hR, hB⟩
  have HR := Lib.hid (And.intro hR hB)
  clear hR hB b1 bl
  go_wp2_with fail
  go_ret
  exact ⟨v', rfl, HR.out.1, HR.out.2⟩
end Go.Proofs.YtcdcfkgdgimmcaaDoor
