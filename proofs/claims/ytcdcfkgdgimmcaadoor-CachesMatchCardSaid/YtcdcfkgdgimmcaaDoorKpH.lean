/- The cache's calls: Put. Conditions: what each theorem names. -/
import Derived.Test.YtcdcfkgdgimmcaaDoorKpG
import Derived.Deep.LoopGhost
namespace Go.Proofs.YtcdcfkgdgimmcaaDoor
open Go Go.RowKit
set_option maxRecDepth 100000 in
set_option maxHeartbeats 3200000 in
theorem Put_err (c : Nat) (nm : ByteArray) (fv : List Value) (w : World) (x y v h : Int) (a : Option Addr) (n cap : Nat) (hf : fv = [.int .i64 x, .int .i64 y, .int .i64 v, .int .i64 h, .slice a n cap]) (hnm : nm.size ≤ 9223372036854775807) (hr : rgK nm = false) :
    Calls Tryd.prog 16 #[.pointer (some ⟨c, 0, none⟩), .string nm, .agg fv.toArray] w fun e w' => e = .returned (.int .i64 6) ∧ Below w.heap.size w w' := by
  subst hf
  have HT := Lib.hid (fun w => trimH_any nm w hnm)
  obtain ⟨t, ht⟩ : ∃ t, t = trH nm := ⟨_, rfl⟩
  unfold rgK at hr
  rw [← ht] at HT hr
  clear ht
  by_cases h16 : (nm.size : Int) = 16
  · rw [decide_eq_true h16, Bool.true_and] at hr
    go_enter Tryd.func16, Tryd.ntmps16
    go_wp2_with (go_at_call 12; refine (HT.out _).mono ?_; rintro e w1 ⟨rfl, hb1⟩)
    go_ret
    exact ⟨rfl, ((Below.refl _ _).alloc (Nat.le_refl _) _).trans (hb1.mono (by simp))⟩
  · clear hr
    go_enter Tryd.func16, Tryd.ntmps16
    go_wp2_with fail
    go_ret
    exact ⟨rfl, (Below.refl _ _).alloc (Nat.le_refl _) _⟩
set_option maxRecDepth 100000 in
set_option maxHeartbeats 3200000 in
theorem Put_bad (c : Nat) (nm : ByteArray) (w : World) (x y v h : Int) (a : Option Addr) (n cap : Nat) (hnm : nm.size ≤ 9223372036854775807) (hr : rgK nm = true) (hE : fraErr x y v h n ≠ 0) :
    Calls Tryd.prog 16 #[.pointer (some ⟨c, 0, none⟩), .string nm, .agg #[.int .i64 x, .int .i64 y, .int .i64 v, .int .i64 h, .slice a n cap]] w fun e w' => e = .returned (.int .i64 (fraErr x y v h n)) ∧ Below w.heap.size w w' := by
  have HT := Lib.hid (fun w => trimH_any nm w hnm)
  have HF := Lib.hid (fun w => FClean_no x y v h a n cap w hE)
  obtain ⟨t, ht⟩ : ∃ t, t = trH nm := ⟨_, rfl⟩
  unfold rgK at hr
  rw [← ht, Bool.and_eq_true, decide_eq_true_eq] at hr
  rw [← ht] at HT
  obtain ⟨h16, htq⟩ := hr
  obtain ⟨E, hEE⟩ : ∃ E, E = fraErr x y v h n := ⟨_, rfl⟩
  rw [← hEE] at HF hE ⊢
  have hc : (E != 0) = true := by simpa using hE
  clear ht hE hEE
  go_enter Tryd.func16, Tryd.ntmps16
  go_upto_region 3 with (go_at_call 12; refine (HT.out _).mono ?_; rintro e w1 ⟨rfl, hb1⟩; have F1 := (Blk.new w [.int .i64 x, .int .i64 y, .int .i64 v, .int .i64 h, .slice a n cap] _ _ rfl).past hb1; have B1 := ((Below.refl _ w).alloc (Nat.le_refl _) _).trans (hb1.mono (by simp)); have H1 := Lib.hid (And.intro F1 B1); clear hb1 F1 B1)
  have f0 := H1.out.1.c 0 _ rfl; have f1 := H1.out.1.c 1 _ rfl; have f2 := H1.out.1.c 2 _ rfl; have f3 := H1.out.1.c 3 _ rfl; have f4 := H1.out.1.c 4 _ rfl; have fl := H1.out.1.lt
  go_wp2_with fail
  refine (HF.out _).mono ?_
  rintro e w2 ⟨rfl, hb2⟩
  have F2 := H1.out.1.past hb2
  have H2 := Lib.hid (H1.out.2.trans (hb2.mono H1.out.2.size))
  clear f0 f1 f2 f3 f4 fl hb2
  have f0 := F2.c 0 _ rfl; have f1 := F2.c 1 _ rfl; have f2 := F2.c 2 _ rfl; have f3 := F2.c 3 _ rfl; have f4 := F2.c 4 _ rfl; have fl := F2.lt; have ff := F2.f
  clear F2
  go_wp2_with fail
  go_ret
  have B2 := H2.out
  exact ⟨rfl, by (repeat (first | exact Below.refl _ _ | assumption | (refine Below.setCell ?_ (by first | (simp; done) | (simp; omega) | omega) _) | (refine Below.drew ?_) | (refine below_drewN ?_ _) | (refine Below.alloc ?_ (by first | (simp; done) | (simp; omega) | omega) _) | (refine Below.trans ?_ (Below.mono (by assumption) (by first | (simp; done) | (simp; omega) | omega)))))⟩
end Go.Proofs.YtcdcfkgdgimmcaaDoor
