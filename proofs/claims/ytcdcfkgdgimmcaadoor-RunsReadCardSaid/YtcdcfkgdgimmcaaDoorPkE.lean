/- Packed levels: finish.Unpack at ten bits, and its errors. Conditions: what each theorem names. -/
import Derived.Test.YtcdcfkgdgimmcaaDoorPkD
namespace Go.Proofs.YtcdcfkgdgimmcaaDoor
open Go Go.RowKit
theorem and_nat {x c : Nat} (h : x < 4611686018427387904) (hc : 2 ^ c - 1 < 4611686018427387904) : bits .and .i64 (x : Int) ((2 ^ c - 1 : Nat) : Int) = ((x % 2 ^ c : Nat) : Int) := by
  have e : (BitVec.ofInt 64 (x : Int) &&& BitVec.ofInt 64 ((2 ^ c - 1 : Nat) : Int)).toNat = x % 2 ^ c := by
    rw [BitVec.toNat_and, BitVec.ofInt_natCast, BitVec.toNat_ofNat, BitVec.ofInt_natCast, BitVec.toNat_ofNat, Nat.mod_eq_of_lt (by omega), Nat.mod_eq_of_lt (by omega), Nat.and_two_pow_sub_one_eq_mod]
  have hl := Nat.mod_le x (2 ^ c)
  show IntKind.i64.wrap (((BitVec.ofInt 64 (x : Int) &&& BitVec.ofInt 64 ((2 ^ c - 1 : Nat) : Int)).toNat : Nat) : Int) = _
  rw [e, IntKind.wrap_i64]
  omega
theorem and1023 {x : Int} (h0 : 0 ≤ x) (h1 : x < 4611686018427387904) : bits .and .i64 x 1023 = x % 1024 := by
  obtain ⟨n, rfl⟩ : ∃ n : Nat, x = n := ⟨x.toNat, by omega⟩
  exact and_nat (c := 10) (by omega) (by decide)
theorem and3 {x : Int} (h0 : 0 ≤ x) (h1 : x < 4611686018427387904) : bits .and .i64 x 3 = x % 4 := by
  obtain ⟨n, rfl⟩ : ∃ n : Nat, x = n := ⟨x.toNat, by omega⟩
  exact and_nat (c := 2) (by omega) (by decide)
/-- A level of a word. -/
def lev10 (t : ByteArray) (k j : Nat) : Int := wdI t (4 * k) 4 / (if j = 0 then 4194304 else if j = 1 then 4096 else 4) % 1024
def f10 (t : ByteArray) (i : Nat) : Int := lev10 t (i / 3) (i % 3)
theorem f10_at (t : ByteArray) (k j : Nat) (hj : j < 3) : f10 t (3 * k + j) = lev10 t k j := by
  unfold f10; rw [show (3 * k + j) / 3 = k by omega, show (3 * k + j) % 3 = j by omega]
/-- Whether a word is one of levels. -/
def Good (t : ByteArray) (many k : Nat) : Prop := wdI t (4 * k) 4 % 4 = 0 ∧ ∀ j, j < 3 → many ≤ 3 * k + j → lev10 t k j = 0
theorem un_form {w wr : World} {u : Value} {f : Nat → Int} {n : Nat} (h : UnR w wr u f n) : ∃ a c, u = .slice a n c := by
  rcases h.own.2 with ⟨h1, h0⟩ | ⟨g, cap, cur, h1, -⟩
  · subst h0; exact ⟨_, _, h1⟩
  · exact ⟨_, _, h1⟩
/-- The length of a text. -/
def longI (d : Int) (many : Nat) : Nat := if d = 8 then many else if d = 16 then 2 * many else (many + 2) / 3 * 4
end Go.Proofs.YtcdcfkgdgimmcaaDoor
