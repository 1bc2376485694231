/- The six known spaces by number; what is known by a name that is none of theirs. No condition. -/
import Derived.Test.YtfmdnibfeckmaaaDoorTcK
import Derived.Test.YtfmdnibfeckmaaaDoorSmH
namespace Go.Proofs.YtfmdnibfeckmaaaDoor
open Go Go.RowKit
def rowS (l : List Nat) : Nat → Nat := fun i => l.getD i 0
def nmS : Nat → ByteArray
  | 0 => ⟨#[108, 105, 110, 101, 97, 114]⟩
  | 1 => ⟨#[118, 105, 100, 101, 111]⟩
  | 2 => ⟨#[99, 105, 110, 101, 109, 97]⟩
  | 3 => ⟨#[119, 105, 100, 101]⟩
  | 4 => ⟨#[115, 99, 101, 110, 101]⟩
  | _ => ⟨#[102, 105, 108, 109]⟩
def prS : Nat → Nat → Nat
  | 0 => rowS [1059313418, 1051260355, 1050253722, 1058642330, 1041865114, 1031127695, 1050679863, 1051226800]
  | 1 => rowS [1059313418, 1051260355, 1050253722, 1058642330, 1041865114, 1031127695, 1050679863, 1051226800]
  | 2 => rowS [1059984507, 1050924810, 1049079316, 1060152279, 1041865114, 1031127695, 1050723484, 1051964998]
  | 3 => rowS [1060454269, 1049985286, 1043207291, 1061947441, 1040590045, 1027369599, 1050679863, 1051226800]
  | 4 => rowS [1060538155, 1050018841, 1042871747, 1062501089, 1040388719, 1026832728, 1050981182, 1051517717]
  | _ => rowS [1060538155, 1050018841, 1042871747, 1062501089, 1040388719, 1026832728, 1050981182, 1051517717]
def kiS : Nat → Int
  | 0 => 1
  | 1 => 3
  | 2 => 2
  | 3 => 2
  | 4 => 1
  | _ => 4
def taS : Nat → Nat
  | 0 => 0
  | 1 => 1075419546
  | 2 => 1076258406
  | 3 => 1075419546
  | 4 => 0
  | _ => 1132462080
def tbS : Nat → Nat
  | 0 => 0
  | 1 => 1029785518
  | 2 => 0
  | 3 => 0
  | 4 => 0
  | _ => 1031798784
def tcS : Nat → Nat
  | 0 => 0
  | 1 => 1095678034
  | 2 => 0
  | 3 => 0
  | 4 => 0
  | _ => 0
/-- A known space as a value. -/
def spS (i : Nat) : Value := spcV (nmS i) (prS i) (kiS i) (taS i) (tbS i) (tcS i)
theorem Known_s (k : Nat) (hk : k < 6) (w : World) : Calls Tryd.prog 10 #[.string (nmS k)] w fun e w' => e = .returned (.tuple #[spS k, .int .i64 0]) ∧ Below w.heap.size w w' := by
  rcases (show k = 0 ∨ k = 1 ∨ k = 2 ∨ k = 3 ∨ k = 4 ∨ k = 5 by omega) with rfl | rfl | rfl | rfl | rfl | rfl
  · exact KnownS_linear w
  · exact KnownS_video w
  · exact KnownS_cinema w
  · exact KnownS_wide w
  · exact KnownS_scene w
  · exact KnownS_film w
def zerS : Value := .agg #[.string ⟨#[]⟩, .float .f32 0, .float .f32 0, .float .f32 0, .float .f32 0, .float .f32 0, .float .f32 0, .float .f32 0, .float .f32 0, .int .i64 0, .float .f32 0, .float .f32 0, .float .f32 0]
theorem list_eq {a : ByteArray} {l : List UInt8} (h : (a.toList == l) = true) : a = ⟨l.toArray⟩ := by
  rw [ByteArray.toList_eq] at h
  have h2 : a.data.toList = l := by simpa using h
  subst h2
  cases a; simp
set_option maxRecDepth 100000 in
set_option maxHeartbeats 3200000 in
theorem Known_other (n : ByteArray) (w : World) (hn : ∀ i, i < 6 → n ≠ nmS i) : Calls Tryd.prog 10 #[.string n] w fun e w' => e = .returned (.tuple #[zerS, .int .i64 6]) ∧ Below w.heap.size w w' := by
  have e0 : (n.toList == [108, 105, 110, 101, 97, 114]) = false := by
    cases h : (n.toList == [108, 105, 110, 101, 97, 114]) with
    | false => rfl
    | true => exact absurd (list_eq h) (hn 0 (by omega))
  have e1 : (n.toList == [118, 105, 100, 101, 111]) = false := by
    cases h : (n.toList == [118, 105, 100, 101, 111]) with
    | false => rfl
    | true => exact absurd (list_eq h) (hn 1 (by omega))
  have e2 : (n.toList == [99, 105, 110, 101, 109, 97]) = false := by
    cases h : (n.toList == [99, 105, 110, 101, 109, 97]) with
    | false => rfl
    | true => exact absurd (list_eq h) (hn 2 (by omega))
  have e3 : (n.toList == [119, 105, 100, 101]) = false := by
    cases h : (n.toList == [119, 105, 100, 101]) with
    | false => rfl
    | true => exact absurd (list_eq h) (hn 3 (by omega))
  have e4 : (n.toList == [115, 99, 101, 110, 101]) = false := by
    cases h : (n.toList == [115, 99, 101, 110, 101]) with
    | false => rfl
    | true => exact absurd (list_eq h) (hn 4 (by omega))
  have e5 : (n.toList == [102, 105, 108, 109]) = false := by
    cases h : (n.toList == [102, 105, 108, 109]) with
    | false => rfl
    | true => exact absurd (list_eq h) (hn 5 (by omega))
  clear hn
  go_enter Tryd.func10, Tryd.ntmps10
  go_wp2
  refine bodyPost_ret (v := .tuple #[.agg #[.string ⟨#[]⟩, .float .f32 0, .float .f32 0, .float .f32 0, .float .f32 0, .float .f32 0, .float .f32 0, .float .f32 0, .float .f32 0, .int .i64 0, .float .f32 0, .float .f32 0, .float .f32 0], .int .i64 6]) (by simp [results, Tryd.results10, go_sem]) rfl ⟨rfl, ?_⟩
  (repeat (first | exact Below.refl _ _ | assumption | (refine Below.setCell ?_ (by first | (simp; done) | (simp; omega) | omega) _) | (refine Below.drew ?_) | (refine below_drewN ?_ _) | (refine Below.alloc ?_ (by first | (simp; done) | (simp; omega) | omega) _) | (refine Below.trans ?_ (Below.mono (by assumption) (by first | (simp; done) | (simp; omega) | omega)))))
end Go.Proofs.YtfmdnibfeckmaaaDoor
