/- Decimal numerals without superfluous zeros: reading and writing lead back. Conditions: none (plain). (with: NtB, NtC, Door, NtD) -/
import Derived.Lib.AtoiTie
import Derived.Lib.AtoiAllCases
import Derived.Lib.ItoaMem
import Derived.Lib.ItoaNum
import Derived.Lib.AtoiErr
import Derived.Lib.CutLaws
import Derived.Lib.Strings
import Derived.Test.YtbaocallhnehfaaGreatDoorShelf
import Derived.Test.YtbaocallhnehfaaGreatDoorBG
import Derived.Stop.LaidErr
import Derived.HandedShaped
import Derived.Shelf.Vars
import Derived.WalkSmall
import Derived.Lib.AtoiErrMem
import Derived.Shelf.Small.Wraps
import Derived.Shelf.Strings.SlTrimAscii
namespace Go.Proofs.YtbaocallhnehfaaGreatDoor
open Go Go.Lib
/-- A decimal digit. -/
def digB (b : UInt8) : Bool := decide (48 ≤ b.toNat ∧ b.toNat ≤ 57)
theorem digitVal_digB (b : UInt8) : digitVal b = if digB b then some (b.toNat - 48) else none := by
  unfold digitVal digB
  by_cases h : 48 ≤ b.toNat ∧ b.toNat ≤ 57
  · rw [if_pos h, decide_eq_true h]; rfl
  · rw [if_neg h, decide_eq_false h]; rfl
theorem decFrom_snoc : ∀ (l : List UInt8) (acc : Nat) (b : UInt8), decFrom acc (l ++ [b]) = match decFrom acc l, digitVal b with
    | some n, some d => some (n * 10 + d)
    | _, _ => none
  | [], acc, b => by
    show decFrom acc [b] = _
    unfold decFrom
    cases h : digitVal b with
    | none => simp
    | some d => simp [decFrom]
  | a :: t, acc, b => by
    show decFrom acc (a :: (t ++ [b])) = _
    unfold decFrom
    cases h : digitVal a with
    | none => simp
    | some d => simp only; exact decFrom_snoc t _ b
theorem decFrom_digits : ∀ (l : List UInt8) (acc : Nat), (decFrom acc l).isSome = l.all digB
  | [], acc => rfl
  | a :: t, acc => by
    unfold decFrom
    rw [digitVal_digB, List.all_cons]
    cases digB a with
    | false => rfl
    | true => rw [Bool.true_and]; exact decFrom_digits t _
theorem byte_of {b : UInt8} (h : digB b = true) : UInt8.ofNat (48 + (b.toNat - 48)) = b := by
  unfold digB at h
  have h := of_decide_eq_true h
  rw [show 48 + (b.toNat - 48) = b.toNat by omega, UInt8.ofNat_toNat]
theorem head_app {α : Type} (l m : List α) (h : l ≠ []) : (l ++ m).head? = l.head? := by
  cases l with
  | nil => exact absurd rfl h
  | cons a t => rfl
/-- A row of digits without superfluous zeros. -/
def canB (l : List UInt8) : Bool := !l.isEmpty && (l.all digB && !(decide (1 < l.length) && decide (l.head? = some 48)))
theorem snoc_of {α : Type} (l : List α) (h : l ≠ []) : ∃ t b, l = t ++ [b] := ⟨l.dropLast, l.getLast h, (List.dropLast_concat_getLast h).symm⟩
/-- What is read of such a row leads back. -/
theorem decDigits_can : ∀ (n : Nat) (l : List UInt8) (u : Nat), l.length < n → canB l = true → decFrom 0 l = some u → decDigits u = l ∧ (l.head? ≠ some 48 → 1 ≤ u)
  | 0, l, u, h, _, _ => by omega
  | n + 1, l, u, h, hc, hu => by
    unfold canB at hc
    simp only [Bool.and_eq_true, Bool.not_eq_true', Bool.and_eq_false_iff, decide_eq_false_iff_not] at hc
    obtain ⟨h1, h2, h3⟩ := hc
    have hne : l ≠ [] := fun e => by rw [e] at h1; cases h1
    obtain ⟨t, b, rfl⟩ := snoc_of l hne
    rw [List.all_append, Bool.and_eq_true] at h2
    obtain ⟨h4, h5⟩ := h2
    have h5 : digB b = true := by simpa using h5
    rw [decFrom_snoc] at hu
    have hs := decFrom_digits t 0
    rw [h4] at hs
    obtain ⟨m, hm⟩ := Option.isSome_iff_exists.1 hs
    rw [hm, digitVal_digB, h5] at hu
    simp only [if_true, Option.some.injEq] at hu
    have hb : 48 ≤ b.toNat ∧ b.toNat ≤ 57 := of_decide_eq_true h5
    by_cases ht : t = []
    · subst ht
      have hm0 : m = 0 := by simp [decFrom] at hm; omega
      subst hm0
      have hu' : u = b.toNat - 48 := by omega
      refine ⟨?_, ?_⟩
      · rw [decDigits, dif_pos (by omega), hu', byte_of h5]; rfl
      · intro hh
        have : b ≠ 48 := fun e => hh (by rw [e]; rfl)
        have hn : b.toNat ≠ 48 := fun e => this (UInt8.toNat_inj.1 e)
        omega
    · have hl : 1 < (t ++ [b]).length := by
        have : 0 < t.length := List.length_pos_iff.2 ht
        simp; omega
      have hh : (t ++ [b]).head? ≠ some 48 := by
        rcases h3 with h3 | h3
        · exact absurd hl h3
        · exact h3
      rw [head_app _ _ ht] at hh
      have hct : canB t = true := by
        unfold canB
        rw [h4]
        have : t.isEmpty = false := by cases t with | nil => exact absurd rfl ht | cons _ _ => rfl
        rw [this, decide_eq_false hh, Bool.and_false]; rfl
      obtain ⟨e1, e2⟩ := decDigits_can n t m (by simp at h; omega) hct hm
      have hm1 := e2 hh
      refine ⟨?_, fun _ => by omega⟩
      rw [decDigits, dif_neg (by omega), show u / 10 = m by omega, show u % 10 = b.toNat - 48 by omega, byte_of h5, e1]
/-- A '-' ahead is left out. -/
def unMinus (l : List UInt8) : List UInt8 := if l.head? = some 45 then l.tail else l
/-- A number without superfluous zeros, of at most so many digits. -/
def intB (l : List UInt8) (most : Nat) : Bool := canB (unMinus l) && (decide ((unMinus l).length ≤ most) && decide (l ≠ [45, 48]))
def intV (l : List UInt8) : Int := (atoi l).getD 0
theorem dec_can {l : List UInt8} (h : canB l = true) : ∃ u, decFrom 0 l = some u ∧ decDigits u = l ∧ l ≠ [] := by
  have h' := h
  unfold canB at h'
  simp only [Bool.and_eq_true, Bool.not_eq_true'] at h'
  have hs := decFrom_digits l 0
  rw [h'.2.1] at hs
  obtain ⟨u, hu⟩ := Option.isSome_iff_exists.1 hs
  exact ⟨u, hu, (decDigits_can _ l u (Nat.lt_succ_self _) h hu).1, fun e => by rw [e] at h'; cases h'.1⟩
theorem decNat_of {l : List UInt8} {u : Nat} (h : l ≠ []) (hu : decFrom 0 l = some u) : decNat l = some u := by
  unfold decNat
  cases l with
  | nil => exact absurd rfl h
  | cons a t => exact hu
theorem int_read {l : List UInt8} {most : Nat} (h : intB l most = true) : atoi l = some (intV l) ∧ itoa (intV l) = l := by
  unfold intB at h
  simp only [Bool.and_eq_true, decide_eq_true_eq] at h
  obtain ⟨hc, -, hz⟩ := h
  obtain ⟨u, hu, hd, hne⟩ := dec_can hc
  by_cases h45 : l.head? = some 45
  · obtain ⟨r, rfl⟩ : ∃ r, l = 45 :: r := by
      cases l with
      | nil => cases h45
      | cons a t => simp at h45; exact ⟨t, by rw [h45]⟩
    have e : unMinus (45 :: r) = r := by unfold unMinus; simp
    rw [e] at hu hd hne
    have ha : atoi (45 :: r) = some (-(u : Int)) := by
      unfold atoi
      simp only [beq_self_eq_true, if_true]
      rw [decNat_of hne hu]; rfl
    refine ⟨by unfold intV; rw [ha]; rfl, ?_⟩
    unfold intV
    rw [ha]
    show itoa (-(u : Int)) = _
    have hu1 : 1 ≤ u := by
      rcases Nat.eq_zero_or_pos u with h0 | h0
      · subst h0
        have : decDigits 0 = [48] := by rw [decDigits, dif_pos (by omega)]; rfl
        rw [this] at hd
        exact absurd (by rw [← hd]) hz
      · exact h0
    rw [itoa_neg u hu1, hd]
  · have e : unMinus l = l := by unfold unMinus; rw [if_neg h45]
    rw [e] at hu hd hne hc
    obtain ⟨b, r, rfl⟩ : ∃ b r, l = b :: r := by
      cases l with
      | nil => exact absurd rfl hne
      | cons a t => exact ⟨a, t, rfl⟩
    have n45 : (b == 45) = false := by
      simp at h45; simpa using h45
    have hb : digB b = true := by
      unfold canB at hc
      simp only [Bool.and_eq_true, List.all_cons] at hc
      exact hc.2.1.1
    have n43 : (b == 43) = false := by
      by_cases h43 : b = 43
      · subst h43; exact absurd hb (by decide)
      · simpa using h43
    have ha : atoi (b :: r) = some (u : Int) := by
      unfold atoi
      simp only [n45, n43, decNat_of hne hu]; rfl
    refine ⟨by unfold intV; rw [ha]; rfl, ?_⟩
    unfold intV
    rw [ha]
    show itoa (u : Int) = _
    rw [itoa_nonneg, hd]
end Go.Proofs.YtbaocallhnehfaaGreatDoor

namespace Go.Proofs.YtbaocallhnehfaaGreatDoor
open Go Go.Lib
theorem idx_one (c : UInt8) : ∀ l : List UInt8, (index l [c] = -1 ∧ c ∉ l) ∨ ∃ a b, l = a ++ c :: b ∧ c ∉ a ∧ index l [c] = (a.length : Int)
  | [] => .inl ⟨rfl, by simp⟩
  | x :: l => by
    unfold index
    by_cases h : c = x
    · subst h
      exact .inr ⟨[], l, rfl, by simp, by simp [List.isPrefixOf]⟩
    · have e : List.isPrefixOf [c] (x :: l) = false := by simp [List.isPrefixOf, h]
      rw [e]
      rcases idx_one c l with ⟨h1, h2⟩ | ⟨a, b, h1, h2, h3⟩
      · exact .inl ⟨by rw [h1]; rfl, by simp [h, h2]⟩
      · refine .inr ⟨x :: a, b, by rw [h1]; rfl, by simp [h, h2], ?_⟩
        have : ¬ index l [c] = -1 := by rw [h3]; omega
        simp only [Bool.false_eq_true, if_false, beq_iff_eq, if_neg this]
        rw [h3]; simp
theorem take_len {α : Type} (a b : List α) : (a ++ b).take a.length = a := by simp
end Go.Proofs.YtbaocallhnehfaaGreatDoor

namespace Go.Proofs.YtbaocallhnehfaaGreatDoor
open Go Go.Lib
def p6 : List UInt8 := [80, 54, 10]
def m255 : List UInt8 := [50, 53, 53, 10]
def picH (l : List UInt8) : List UInt8 := trimPrefix l p6
def picC (l : List UInt8) : List UInt8 × List UInt8 × Bool := cut (picH l) [10]
def picR (l : List UInt8) : List UInt8 := trimPrefix (picC l).2.1 m255
def picD (l : List UInt8) : List UInt8 × List UInt8 × Bool := cut (picC l).1 [32]
/-- A side of a picture. -/
def sideB (v : Int) : Bool := decide (1 ≤ v ∧ v ≤ 256)
def picB (l : List UInt8) : Bool := hasPrefix l p6 && ((picC l).2.2 && (hasPrefix (picC l).2.1 m255 && ((picD l).2.2 && (intB (picD l).1 9 && (intB (picD l).2.1 9 && (sideB (intV (picD l).1) && (sideB (intV (picD l).2.1) && decide (((picR l).length : Int) = 3 * intV (picD l).1 * intV (picD l).2.1))))))))
def lawC (l : List UInt8) : List UInt8 × List UInt8 × Bool := cut (picH l) (10 :: m255)
def lawD (l : List UInt8) : List UInt8 × List UInt8 × Bool := cut (lawC l).1 [32]
def atOK (l : List UInt8) : Bool := match atoiAll l with | .ok _ => true | _ => false
def atV (l : List UInt8) : Int := match atoiAll l with | .ok v => v | .range => atoiSat l | _ => 0
/-- What the law asks of a side's text. -/
def sayB (l : List UInt8) : Bool := atOK l && (decide (itoa (atV l) = l) && sideB (atV l))
def lawB (l : List UInt8) : Bool := hasPrefix l p6 && ((lawC l).2.2 && ((lawD l).2.2 && (sayB (lawD l).1 && (sayB (lawD l).2.1 && decide (((lawC l).2.1.length : Int) = 3 * atV (lawD l).1 * atV (lawD l).2.1)))))
theorem unMinus_len (l : List UInt8) : l.length ≤ (unMinus l).length + 1 := by
  unfold unMinus
  split
  · rw [List.length_tail]; omega
  · omega
theorem int_at {l : List UInt8} {most : Nat} (hm : most ≤ 17) (h : intB l most = true) : atoiAll l = .ok (intV l) := by
  have h' := h
  unfold intB at h'
  simp only [Bool.and_eq_true, decide_eq_true_eq] at h'
  have := unMinus_len l
  rw [atoiAll_short l (by omega), (int_read h).1]; rfl
end Go.Proofs.YtbaocallhnehfaaGreatDoor

namespace Go.Proofs.YtbaocallhnehfaaGreatDoor
open Go Go.RowKit Go.Lib Go.Sort
theorem var_lt {P : Program} {w : World} {n : String} {g : Nat} {cs : Array Value} (hg : P.globalNamed n = some g) (h : w.var? P n = some cs) : g < w.heap.size := by
  unfold World.var? at h
  simp only [hg, Option.bind_some] at h
  rcases Nat.lt_or_ge g w.heap.size with h' | h'
  · exact h'
  · rw [Array.getElem?_eq_none h'] at h; cases h
/-- What the library's variables hold in a world. -/
structure LibW (w : World) : Prop where
  len : ∃ m, w.cell? ⟨1, 0, none⟩ = some (.int .i64 m)
  tab : Lib.TabIs Tryz.prog w "internal/strconv.uint64pow10" .u64 Lib.pow10Tab
  syn : ∃ tp p, w.var? Tryz.prog "strconv.ErrSyntax" = some #[.iface tp p]
  rng : ∃ tp p, w.var? Tryz.prog "strconv.ErrRange" = some #[.iface tp p]
theorem gTab : Tryz.prog.globalNamed "internal/strconv.uint64pow10" = some 2 := by kernel_rfl
theorem gSyn : Tryz.prog.globalNamed "strconv.ErrSyntax" = some 3 := by kernel_rfl
theorem gRng : Tryz.prog.globalNamed "strconv.ErrRange" = some 4 := by kernel_rfl
theorem LibW.past {w w' : World} (h : LibW w) (hb : Below w.heap.size w w') : LibW w' := by
  obtain ⟨⟨m, h1⟩, h2, ⟨t3, p3, h3⟩, ⟨t4, p4, h4⟩⟩ := h
  refine ⟨⟨m, ?_⟩, ?_, ⟨t3, p3, ?_⟩, ⟨t4, p4, ?_⟩⟩
  · rw [hb.cell (p := ⟨1, 0, none⟩) (cell_lt h1)]; exact h1
  · exact var?_below hb gTab (var_lt gTab h2) h2
  · exact var?_below hb gSyn (var_lt gSyn h3) h3
  · exact var?_below hb gRng (var_lt gRng h4) h4
theorem below_grow (w : World) (k : Nat) (os : Array Obj) : Below w.heap.size w (grow (w.drewN k) os) :=
  ⟨rfl, rfl, rfl, by show w.heap.size ≤ (w.heap ++ os).size; simp, fun j hj => by show (w.heap ++ os)[j]? = _; rw [Array.getElem?_append_left hj]⟩
theorem below_bytes (w : World) (e : TypeId) (s : ByteArray) : Below w.heap.size w (Lib.bytesWorld w e s) :=
  Lib.bytesWorld_below w e s
theorem Cut_any (s sep : ByteArray) (w : World) (h : LibW w) (hs : s.size < 4294967281) : Calls Tryz.prog 47 #[.string s, .string sep] w fun e w' => e = .returned (.tuple #[.string ⟨(Lib.cut s.data.toList sep.data.toList).1.toArray⟩, .string ⟨(Lib.cut s.data.toList sep.data.toList).2.1.toArray⟩, .bool (Lib.cut s.data.toList sep.data.toList).2.2]) ∧ Below w.heap.size w w' := by
  obtain ⟨m, hm⟩ := h.len
  refine (Tryz.strings_Cut s sep m w hs hm).mono ?_
  rintro e w' ⟨rfl, n, rfl⟩
  exact ⟨rfl, below_drewN (Below.refl _ _) n⟩
theorem Itoa_any (n : Int) (w : World) (h : LibW w) (h0 : -9223372036854775808 ≤ n) (h1 : n ≤ 9223372036854775807) : Calls Tryz.prog 32 #[.int .i64 n] w fun e w' => e = .returned (.string ⟨(Lib.itoa n).toArray⟩) ∧ Below w.heap.size w w' := by
  refine (Tryz.strconv_Itoa n h0 h1 w h.tab).mono ?_
  rintro e w' ⟨rfl, k, os, rfl⟩
  exact ⟨rfl, below_grow w k os⟩
/-- The error of a text that is no number. -/
def errV : NumEnd Int → Nat → Value
  | .ok _, _ => .nilIface
  | _, N => .iface 176 (.pointer (some ⟨N, 0, none⟩))
theorem Atoi_any (s : ByteArray) (w : World) (h : LibW w) (hs : s.size ≤ 281474976710656) : Calls Tryz.prog 70 #[.string s] w fun e w' => (∃ N, e = .returned (.tuple #[.int .i64 (atV s.data.toList), errV (Lib.atoiAll s.data.toList) N])) ∧ Below w.heap.size w w' := by
  unfold atV
  cases ha : Lib.atoiAll s.data.toList with
  | ok v =>
    refine (Tryz.strconv_Atoi_ok s (by omega) v ha w).mono ?_
    rintro e w' ⟨rfl, hw⟩
    refine ⟨⟨0, rfl⟩, ?_⟩
    rcases hw with rfl | ⟨t, rfl⟩
    · exact Below.refl _ _
    · exact below_bytes _ _ _
  | range =>
    obtain ⟨tp, p, hv⟩ := h.rng
    refine (Tryz.strconv_Atoi_range_var s hs ha tp p w hv).mono ?_
    rintro e w' ⟨N, rfl, -, -, hb⟩
    exact ⟨⟨N, rfl⟩, hb⟩
  | _ =>
    obtain ⟨tp, p, hv⟩ := h.syn
    refine (Tryz.strconv_Atoi_syntax_var s hs ha tp p w hv).mono ?_
    rintro e w' ⟨N, rfl, -, -, hb⟩
    exact ⟨⟨N, rfl⟩, hb⟩
end Go.Proofs.YtbaocallhnehfaaGreatDoor

namespace Go.Proofs.YtbaocallhnehfaaGreatDoor
open Go Go.RowKit
def setD : ByteArray := ⟨#[48, 49, 50, 51, 52, 53, 54, 55, 56, 57]⟩
/-- What num.Integer hands back. -/
def intR (l : List UInt8) (most : Nat) : Int := if intB l most then intV l else 0
def IntRes (l : List UInt8) (most : Nat) (w : World) (e : Ending) (w' : World) : Prop := e = .returned (.tuple #[.int .i64 (intR l most), .bool (intB l most)]) ∧ Below w.heap.size w w'
end Go.Proofs.YtbaocallhnehfaaGreatDoor
