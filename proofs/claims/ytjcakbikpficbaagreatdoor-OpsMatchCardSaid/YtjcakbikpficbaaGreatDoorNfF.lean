/- dyelaw2.sameForm at one form twice. Conditions: its integers can be read. -/
import Derived.Test.YtjcakbikpficbaaGreatDoorNfE
namespace Go.Proofs.YtjcakbikpficbaaGreatDoor
open Go Go.RowKit
theorem IntsAt.get {B : Nat} {w : World} {a : Option Addr} {l : List Int} (h : IntsAt B w a l) : ∃ b off, (0 < l.length → a = some ⟨b, off, none⟩) ∧ ∀ i, i < l.length → w.cell? ⟨b, off + i, none⟩ = some (.int .i64 (l.getD i 0)) := by
  rcases h with rfl | ⟨b, off, h1, -, -, h2⟩
  · exact ⟨0, 0, fun h => by simp at h, fun i h => by simp at h⟩
  · exact ⟨b, off, fun _ => h1, fun i hi => h2 i _ (by rw [List.getD_eq_getElem?_getD, List.getElem?_eq_getElem hi]; rfl)⟩
set_option maxRecDepth 100000 in
set_option maxHeartbeats 1600000 in
theorem eqI_same (B B' : Nat) (l : List Int) (n cap cap' : Nat) (a a' : Option Addr) (w : World) (hl : l.length = n) (hn : n ≤ 65536) (ha : IntsAt B w a l) (ha' : IntsAt B' w a' l) :
    Calls Tryz.prog 20 #[.slice a n cap, .slice a' n cap'] w fun e w' => e = .returned (.bool true) ∧ Below w.heap.size w w' := by
  obtain ⟨b, off, hA, hC⟩ := ha.get
  obtain ⟨b', off', hA', hC'⟩ := ha'.get
  rw [hl] at hA hC hA' hC'
  have HA := Lib.hid hA; have HC := Lib.hid hC; have HA' := Lib.hid hA'; have HC' := Lib.hid hC'
  have HBW := Lib.hid (fun h => cell_lt (hC 0 h) : 0 < n → b < w.heap.size)
  have HBW' := Lib.hid (fun h => cell_lt (hC' 0 h) : 0 < n → b' < w.heap.size)
  clear hA hC hA' hC' ha ha' hl
  go_enter Tryz.func20, Tryz.ntmps20
  go_wp2_with fail
  go_loopw [13] (fun s13 wr => ∃ k : Nat, k ≤ n ∧ s13 = .int .i64 k ∧ Below w.heap.size w wr) (fun s13 _ => n - (intOf s13).toNat)
  case atStart => exact ⟨0, Nat.zero_le _, rfl, Below.refl _ _⟩
  case round =>
    obtain ⟨k, hk, rfl, hB⟩ := hrel
    have HB := Lib.hid hB
    clear hB
    by_cases hkn : k < n
    · obtain rfl := HA.out (by omega)
      obtain rfl := HA'.out (by omega)
      have c0 := (HB.out.cell (p := ⟨b, off + k, none⟩) (HBW.out (by omega))).trans (HC.out k hkn)
      have c1 := (HB.out.cell (p := ⟨b', off' + k, none⟩) (HBW'.out (by omega))).trans (HC'.out k hkn)
      generalize l.getD k 0 = z at *
      have l0 := cell_lt c0; have l1 := cell_lt c1
      simp only at l0 l1
      have hkn' : (k : Int) < (n : Int) := by omega
      go_wp2_with fail
      go_quiet (fail)
      go_wp2_with fail
      go_roundw
      case rel => exact ⟨k + 1, by omega, by go_num, HB.out.trans ((below_drewN (Below.refl _ _) _).mono HB.out.size)⟩
      case measure => simp [intOf]; omega
    · have hkk : ¬ (k : Int) < (n : Int) := by omega
      go_wp2_with fail
      go_ret
      exact ⟨rfl, HB.out⟩
set_option maxRecDepth 100000 in
set_option maxHeartbeats 3200000 in
theorem sameForm_any (f : FormD) (a a' : Option Addr) (c c' : Nat) (w : World) (hn : f.ins.length ≤ 65536) (ha : IntsAt 0 w a f.ins) (ha' : IntsAt 0 w a' f.ins) :
    Calls Tryz.prog 10 #[formV f a c, formV f a' c'] w fun e w' => e = .returned (.bool true) ∧ Below w.heap.size w w' := by
  have HA := Lib.hid (And.intro ha ha')
  have HE := Lib.hid (fun w' (hw' : Below w.heap.size w w') => eqI_same 0 0 f.ins f.ins.length c c' a a' w' rfl hn (ha.past hw') (ha'.past hw') : ∀ w', _)
  obtain ⟨n, hnn⟩ : ∃ n, n = f.ins.length := ⟨_, rfl⟩
  unfold formV
  rw [← hnn] at HE ⊢
  clear hnn ha ha' hn
  go_enter Tryz.func10, Tryz.ntmps10
  go_wp2_with (go_at_call 20; refine (HE.out _ (by (repeat (first | exact Below.refl _ _ | assumption | (refine Below.setCell ?_ (by first | (simp; done) | (simp; omega) | omega) _) | (refine Below.drew ?_) | (refine below_drewN ?_ _) | (refine Below.alloc ?_ (by first | (simp; done) | (simp; omega) | omega) _) | (refine Below.trans ?_ (Below.mono (by assumption) (by first | (simp; done) | (simp; omega) | omega))))))).mono ?_; rintro e w1 ⟨rfl, hb⟩)
  go_ret
  exact ⟨rfl, by (repeat (first | exact Below.refl _ _ | assumption | (refine Below.setCell ?_ (by first | (simp; done) | (simp; omega) | omega) _) | (refine Below.drew ?_) | (refine below_drewN ?_ _) | (refine Below.alloc ?_ (by first | (simp; done) | (simp; omega) | omega) _) | (refine Below.trans ?_ (Below.mono (by assumption) (by first | (simp; done) | (simp; omega) | omega)))))⟩
end Go.Proofs.YtjcakbikpficbaaGreatDoor
