/- The six known spaces by number. No condition. -/
import Derived.Test.YtfmdnibfeckmaaaTcK
import Derived.Test.YtfmdnibfeckmaaaTcN
namespace Go.Proofs.Ytfmdnibfeckmaaa
open Go Go.RowKit
def nmK : Nat → ByteArray
  | 0 => ⟨#[108, 105, 110, 101, 97, 114]⟩
  | 1 => ⟨#[118, 105, 100, 101, 111]⟩
  | 2 => ⟨#[99, 105, 110, 101, 109, 97]⟩
  | 3 => ⟨#[119, 105, 100, 101]⟩
  | 4 => ⟨#[115, 99, 101, 110, 101]⟩
  | _ => ⟨#[102, 105, 108, 109]⟩
def prK : Nat → Nat → Nat
  | 0 => prU
  | 1 => prU
  | 2 => prC
  | 3 => prW
  | 4 => prS
  | _ => prS
def kiK : Nat → Int
  | 0 => 1
  | 1 => 3
  | 2 => 2
  | 3 => 2
  | 4 => 1
  | _ => 4
def taK : Nat → Nat
  | 0 => 0
  | 1 => 1075419546
  | 2 => 1076258406
  | 3 => 1075419546
  | 4 => 0
  | _ => 1132462080
def tbK : Nat → Nat
  | 0 => 0
  | 1 => 1029785518
  | 2 => 0
  | 3 => 0
  | 4 => 0
  | _ => 1031798784
def tcK : Nat → Nat
  | 0 => 0
  | 1 => 1095678034
  | 2 => 0
  | 3 => 0
  | 4 => 0
  | _ => 0
abbrev spaceV (n : ByteArray) (p : Nat → Nat) (i : Int) (a b c : Nat) : Value := .agg #[.string n, .float .f32 (p 0), .float .f32 (p 1), .float .f32 (p 2), .float .f32 (p 3), .float .f32 (p 4), .float .f32 (p 5), .float .f32 (p 6), .float .f32 (p 7), .int .i64 i, .float .f32 a, .float .f32 b, .float .f32 c]
theorem Known_k (k : Nat) (hk : k < 6) (w : World) : Calls Try.prog 13 #[.string (nmK k)] w fun e w' => e = .returned (.tuple #[spaceV (nmK k) (prK k) (kiK k) (taK k) (tbK k) (tcK k), .int .i64 0]) ∧ Below w.heap.size w w' := by
  rcases (show k = 0 ∨ k = 1 ∨ k = 2 ∨ k = 3 ∨ k = 4 ∨ k = 5 by omega) with rfl | rfl | rfl | rfl | rfl | rfl
  · exact KnownS_linear w
  · exact KnownS_video w
  · exact KnownS_cinema w
  · exact KnownS_wide w
  · exact KnownS_scene w
  · exact KnownS_film w
theorem cv_K (k l : Nat) (hk : k < 6) (hl : l < 6) : ∃ df T, CvOK df (prK k) (prK l) T := by
  rcases (show k = 0 ∨ k = 1 ∨ k = 2 ∨ k = 3 ∨ k = 4 ∨ k = 5 by omega) with rfl | rfl | rfl | rfl | rfl | rfl <;>
  rcases (show l = 0 ∨ l = 1 ∨ l = 2 ∨ l = 3 ∨ l = 4 ∨ l = 5 by omega) with rfl | rfl | rfl | rfl | rfl | rfl
  · exact ⟨_, _, cv_UU⟩
  · exact ⟨_, _, cv_UU⟩
  · exact ⟨_, _, cv_UC⟩
  · exact ⟨_, _, cv_UW⟩
  · exact ⟨_, _, cv_US⟩
  · exact ⟨_, _, cv_US⟩
  · exact ⟨_, _, cv_UU⟩
  · exact ⟨_, _, cv_UU⟩
  · exact ⟨_, _, cv_UC⟩
  · exact ⟨_, _, cv_UW⟩
  · exact ⟨_, _, cv_US⟩
  · exact ⟨_, _, cv_US⟩
  · exact ⟨_, _, cv_CU⟩
  · exact ⟨_, _, cv_CU⟩
  · exact ⟨_, _, cv_CC⟩
  · exact ⟨_, _, cv_CW⟩
  · exact ⟨_, _, cv_CS⟩
  · exact ⟨_, _, cv_CS⟩
  · exact ⟨_, _, cv_WU⟩
  · exact ⟨_, _, cv_WU⟩
  · exact ⟨_, _, cv_WC⟩
  · exact ⟨_, _, cv_WW⟩
  · exact ⟨_, _, cv_WS⟩
  · exact ⟨_, _, cv_WS⟩
  · exact ⟨_, _, cv_SU⟩
  · exact ⟨_, _, cv_SU⟩
  · exact ⟨_, _, cv_SC⟩
  · exact ⟨_, _, cv_SW⟩
  · exact ⟨_, _, cv_SS⟩
  · exact ⟨_, _, cv_SS⟩
  · exact ⟨_, _, cv_SU⟩
  · exact ⟨_, _, cv_SU⟩
  · exact ⟨_, _, cv_SC⟩
  · exact ⟨_, _, cv_SW⟩
  · exact ⟨_, _, cv_SS⟩
  · exact ⟨_, _, cv_SS⟩
end Go.Proofs.Ytfmdnibfeckmaaa
