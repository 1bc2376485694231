/- PicturesRead: the calls of the statement, and the walk. Conditions: the library's variables read as listed (LibW). -/
import Derived.Test.YtcdcfkgdgimmcaaDoorRpC
namespace Go.Proofs.YtcdcfkgdgimmcaaDoor
open Go Go.RowKit
set_option maxHeartbeats 4000000 in
theorem eq_regS (a b c d : Int) (w : World) : Sem.run Tryd.prog (Op.equalIn 10000 35 (.agg #[.int .i64 a, .int .i64 b, .int .i64 c, .int .i64 d]) (.agg #[.int .i64 a, .int .i64 b, .int .i64 c, .int .i64 d])) w = .ok true w := by
  have h2 := Tryd.underlying3
  have h3 := Tryd.underlying35
  have k0 : ∀ a b c d w, (part 3 #[.int .i64 a, .int .i64 b, .int .i64 c, .int .i64 d] 0).run Tryd.prog w = .ok (.int .i64 a) w := fun _ _ _ _ _ => by kernel_rfl
  have k1 : ∀ a b c d w, (part 3 #[.int .i64 a, .int .i64 b, .int .i64 c, .int .i64 d] 1).run Tryd.prog w = .ok (.int .i64 b) w := fun _ _ _ _ _ => by kernel_rfl
  have k2 : ∀ a b c d w, (part 3 #[.int .i64 a, .int .i64 b, .int .i64 c, .int .i64 d] 2).run Tryd.prog w = .ok (.int .i64 c) w := fun _ _ _ _ _ => by kernel_rfl
  have k3 : ∀ a b c d w, (part 3 #[.int .i64 a, .int .i64 b, .int .i64 c, .int .i64 d] 3).run Tryd.prog w = .ok (.int .i64 d) w := fun _ _ _ _ _ => by kernel_rfl
  rw [show (10000 : Nat) = 9998 + 1 + 1 from rfl]
  generalize 9998 = e
  simp [Op.equalIn, run_underlying h2, run_underlying h3, Sem.run_bind, Sem.run_pure, Result.andThen_ok, k0, k1, k2, k3]
/-- An error that is nil, or not. -/
def errB : Bool → Nat → Value
  | true, _ => .nilIface
  | false, N => .iface 162 (.pointer (some ⟨N, 0, none⟩))
theorem errB_t (N : Nat) : errB true N = .nilIface := rfl
theorem errB_f (N : Nat) : errB false N = .iface 162 (.pointer (some ⟨N, 0, none⟩)) := rfl
/-- What the law asks of a text. -/
structure LawX (s h1 z r a b ia ib : ByteArray) (k1 kc kd kx ky : Bool) (W H : Int) : Prop where
  c1 : ∀ w, Calls Tryd.prog 32 #[.string s, .string ⟨#[80, 54, 10]⟩] w fun e w' => e = .returned (.tuple #[.string h1, .bool k1]) ∧ w = w'
  c2 : ∀ w, LibW w → Calls Tryd.prog 33 #[.string h1, .string ⟨#[10, 50, 53, 53, 10]⟩] w fun e w' => e = .returned (.tuple #[.string z, .string r, .bool kc]) ∧ Below w.heap.size w w'
  c3 : ∀ w, LibW w → Calls Tryd.prog 33 #[.string z, .string ⟨#[32]⟩] w fun e w' => e = .returned (.tuple #[.string a, .string b, .bool kd]) ∧ Below w.heap.size w w'
  c4 : ∀ w, LibW w → Calls Tryd.prog 34 #[.string a] w fun e w' => (∃ N, e = .returned (.tuple #[.int .i64 W, errB kx N])) ∧ Below w.heap.size w w'
  c5 : ∀ w, LibW w → Calls Tryd.prog 34 #[.string b] w fun e w' => (∃ N, e = .returned (.tuple #[.int .i64 H, errB ky N])) ∧ Below w.heap.size w w'
  c6 : ∀ w, LibW w → Calls Tryd.prog 35 #[.int .i64 W] w fun e w' => e = .returned (.string ia) ∧ Below w.heap.size w w'
  c7 : ∀ w, LibW w → Calls Tryd.prog 35 #[.int .i64 H] w fun e w' => e = .returned (.string ib) ∧ Below w.heap.size w w'
  ok : lawB s.data.toList = (k1 && (kc && (kd && ((kx && (decide (ia = a) && sideB W)) && ((ky && (decide (ib = b) && sideB H)) && decide ((r.size : Int) = 3 * W * H))))))
  W0 : -9223372036854775808 ≤ W ∧ W ≤ 9223372036854775807
  H0 : -9223372036854775808 ≤ H ∧ H ≤ 9223372036854775807
  vs : W = atV (lawD s.data.toList).1 ∧ H = atV (lawD s.data.toList).2.1
  rlen : s.size ≤ 5000 → r.size ≤ 5000
theorem atV_bd (l : List UInt8) : -9223372036854775808 ≤ atV l ∧ atV l ≤ 9223372036854775807 := by
  unfold atV
  cases h : Lib.atoiAll l with
  | ok v => exact Lib.atoiAll_bounds h
  | range => exact Lib.atoiSat_bounds l
  | _ => exact (show -9223372036854775808 ≤ (0 : Int) ∧ (0 : Int) ≤ 9223372036854775807 by decide)
theorem Atoi_B (s : ByteArray) (w : World) (h : LibW w) (hs : s.size ≤ 281474976710656) : Calls Tryd.prog 34 #[.string s] w fun e w' => (∃ N, e = .returned (.tuple #[.int .i64 (atV s.data.toList), errB (atOK s.data.toList) N])) ∧ Below w.heap.size w w' := by
  refine (Atoi_any s w h hs).mono ?_
  rintro e w' ⟨⟨N, rfl⟩, hb⟩
  refine ⟨⟨N, ?_⟩, hb⟩
  unfold atOK
  cases h : Lib.atoiAll s.data.toList <;> rfl
theorem str_dec (l : List UInt8) (a : List UInt8) : decide (l = a) = decide ((⟨l.toArray⟩ : ByteArray) = ⟨a.toArray⟩) := by
  by_cases h : l = a
  · rw [h]; simp
  · rw [decide_eq_false h]
    symm
    rw [decide_eq_false_iff_not]
    intro e
    exact h (by simpa using congrArg (fun x : ByteArray => x.data.toList) e)
theorem lawX_of (s : ByteArray) (hs : s.size ≤ 1048576) : ∃ h1 z r a b ia ib : ByteArray, ∃ k1 kc kd kx ky : Bool, ∃ W H : Int, LawX s h1 z r a b ia ib k1 kc kd kx ky W H := by
  have l0 : s.data.toList.length ≤ 1048576 := by rw [← Lib.size_eq]; exact hs
  have l1 := trimP_len s.data.toList p6
  have l2 := cut_len (picH s.data.toList) (10 :: m255)
  have l3 := cut_len (lawC s.data.toList).1 [32]
  have l1 : (picH s.data.toList).length ≤ 1048576 := by unfold picH; omega
  have l2a : (lawC s.data.toList).1.length ≤ 1048576 := by unfold lawC; omega
  have l3a : (lawD s.data.toList).1.length ≤ 1048576 := by unfold lawD; omega
  have l3b : (lawD s.data.toList).2.1.length ≤ 1048576 := by unfold lawD; omega
  refine ⟨⟨(picH s.data.toList).toArray⟩, ⟨(lawC s.data.toList).1.toArray⟩, ⟨(lawC s.data.toList).2.1.toArray⟩, ⟨(lawD s.data.toList).1.toArray⟩, ⟨(lawD s.data.toList).2.1.toArray⟩, ⟨(Lib.itoa (atV (lawD s.data.toList).1)).toArray⟩, ⟨(Lib.itoa (atV (lawD s.data.toList).2.1)).toArray⟩,
    Lib.hasPrefix s.data.toList p6, (lawC s.data.toList).2.2, (lawD s.data.toList).2.2, atOK (lawD s.data.toList).1, atOK (lawD s.data.toList).2.1, atV (lawD s.data.toList).1, atV (lawD s.data.toList).2.1, ?_⟩
  refine ⟨?_, ?_, ?_, ?_, ?_, ?_, ?_, ?_, atV_bd _, atV_bd _, ⟨rfl, rfl⟩, ?_⟩
  · intro w
    refine (Tryd.strings_CutPrefix s ⟨#[80, 54, 10]⟩ w).mono ?_
    rintro e w' ⟨rfl, rfl⟩
    exact ⟨rfl, rfl⟩
  · intro w hL
    exact Cut_any _ _ w hL (by rw [mk_size]; omega)
  · intro w hL
    exact Cut_any _ _ w hL (by rw [mk_size]; omega)
  · intro w hL
    exact Atoi_B ⟨(lawD s.data.toList).1.toArray⟩ w hL (by rw [mk_size]; omega)
  · intro w hL
    exact Atoi_B ⟨(lawD s.data.toList).2.1.toArray⟩ w hL (by rw [mk_size]; omega)
  · intro w hL
    exact Itoa_any _ w hL (atV_bd _).1 (atV_bd _).2
  · intro w hL
    exact Itoa_any _ w hL (atV_bd _).1 (atV_bd _).2
  · unfold lawB sayB
    rw [mk_size, str_dec, str_dec]
  · intro h5
    have := trimP_len s.data.toList p6
    have := cut_len (picH s.data.toList) (10 :: m255)
    rw [Lib.size_eq] at h5
    rw [mk_size]
    unfold lawC
    unfold picH at *
    omega
theorem law_bad {k1 kc kd kx ky ia ib : Bool} {W H : Int} {n : Nat} (h : false = (k1 && (kc && (kd && ((kx && (ia && sideB W)) && ((ky && (ib && sideB H)) && decide ((n : Int) = 3 * W * H))))))) :
    k1 = false ∨ (k1 = true ∧ kc = false) ∨ (k1 = true ∧ kc = true ∧ kd = false) ∨ (k1 = true ∧ kc = true ∧ kd = true ∧ kx = false) ∨ (k1 = true ∧ kc = true ∧ kd = true ∧ kx = true ∧ ky = false) ∨
    (k1 = true ∧ kc = true ∧ kd = true ∧ kx = true ∧ ky = true ∧ (ia = false ∨ (ia = true ∧ ib = false) ∨ (ia = true ∧ ib = true ∧ sideB W = false) ∨ (ia = true ∧ ib = true ∧ sideB W = true ∧ sideB H = false) ∨ (ia = true ∧ ib = true ∧ sideB W = true ∧ sideB H = true ∧ ((n : Int) == 3 * W * H) = false))) := by
  cases k1 <;> cases kc <;> cases kd <;> cases kx <;> cases ky <;> cases ia <;> cases ib <;> cases hw : sideB W <;> cases hh : sideB H <;> simp_all
theorem law_good {k1 kc kd kx ky ia ib : Bool} {W H : Int} {n : Nat} (h : true = (k1 && (kc && (kd && ((kx && (ia && sideB W)) && ((ky && (ib && sideB H)) && decide ((n : Int) = 3 * W * H))))))) :
    k1 = true ∧ kc = true ∧ kd = true ∧ kx = true ∧ ky = true ∧ ia = true ∧ ib = true ∧ sideB W = true ∧ sideB H = true ∧ (n : Int) = 3 * W * H := by
  cases k1 <;> cases kc <;> cases kd <;> cases kx <;> cases ky <;> cases ia <;> cases ib <;> cases hw : sideB W <;> cases hh : sideB H <;> simp_all
theorem side_in (W : Int) : inB W 1 256 = sideB W := by
  unfold inB sideB
  by_cases h1 : 1 ≤ W <;> by_cases h2 : W ≤ 256 <;> simp [h1, h2]
end Go.Proofs.YtcdcfkgdgimmcaaDoor
