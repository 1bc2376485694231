/- LevelsMatch: the walk of the statement. No condition. -/
import Derived.Test.YtmnmcmmhnbnndaaOffB
import Derived.Test.YtmnmcmmhnbnndaaOpen
namespace Go.Proofs.Ytmnmcmmhnbnndaa
open Go.RowKit
set_option maxRecDepth 100000 in
set_option maxHeartbeats 1600000 in
theorem lm_ayy (v o : Nat) (n d how s x y c : Int) (w : World) (hh : 0 ≤ how ∧ how ≤ 2) (hd : 1 ≤ d ∧ d ≤ 16) (hn : 0 ≤ n ∧ n ≤ 2 ^ d.toNat - 1) :
    Calls Try.prog 4 #[.float .f32 v, .float .f32 o, .int .i64 n, .int .i64 d, .int .i64 how, .int .u32 s, .int .i64 x, .int .i64 y, .int .i64 c] w fun e w' => e = .returned (.bool true) ∧ Below w.heap.size w w' := by
  have z0 : (FloatKind.f32.format.order 0 0 == some Ordering.eq) = true := by decide
  have i1 := inB_t hh
  have i2 := inB_t hd
  have hh' := Lib.hid hh; clear hh
  have i3 := inB_t hn
  have hb := pow_bd hd
  have hk := level_back hd hn.1 hn.2
  obtain ⟨d1, d2⟩ := hd
  obtain ⟨b1, b2⟩ := hb
  have hn' := Lib.hid hn; clear hn
  go_enter Try.func4, Try.ntmps4
  go_wp2_with (first | (go_at_call 21; refine (In_any _ _ _ _).mono ?_; rintro e w' ⟨rfl, rfl⟩) | (go_at_call 22; refine (finishes_any _).mono ?_; rintro e w' ⟨n, rfl, rfl⟩) | (go_at_call 29; refine (Ordered_any _ _ _).mono ?_; rintro e w' ⟨rfl, rfl⟩) | (go_at_call 30; refine (OrderedOf_any _ _ _).mono ?_; rintro e w' ⟨rfl, m, rfl⟩) | (go_at_call 31; refine (OffsetOf_any _ _ _ _ _ _).mono ?_; rintro e w1 ⟨rfl, hb1⟩) | (go_at_call 24; refine (same_any _ _ _).mono ?_; rintro e w' ⟨rfl, rfl⟩) | (go_at_call 32; refine (LevelOf_any _ _ _ _ (by omega)).mono ?_; rintro e w' ⟨m, rfl, rfl⟩) | (go_at_call 25; refine (ValueOf_any _ _ _ (by omega) (by have := hn'.out; omega)).mono ?_; rintro e w' ⟨m, rfl, rfl⟩) | (go_at_call 27; refine (Value_yes _ _ _ (by omega) hn'.out).mono ?_; rintro e w' ⟨m, rfl, rfl⟩) | (go_at_call 26; refine (Level_yes _ _ _ _ (by omega)).mono ?_; rintro e w' ⟨m, rfl, rfl⟩) | (go_at_call 28; refine (Offset_yes _ _ _ _ _ _ hh'.out).mono ?_; rintro e w' ⟨m, rfl, rfl⟩))
  go_ret
  refine ⟨rfl, ?_⟩
  (repeat (first | exact Below.refl _ _ | assumption | (refine Below.setCell ?_ (by first | (simp; done) | (simp; omega) | omega) _) | (refine Below.drew ?_) | (refine below_drewN ?_ _) | (refine Below.alloc ?_ (by first | (simp; done) | (simp; omega) | omega) _) | (refine Below.trans ?_ (Below.mono (by assumption) (by first | (simp; done) | (simp; omega) | omega)))))
set_option maxRecDepth 100000 in
set_option maxHeartbeats 1600000 in
theorem lm_ayz (v o : Nat) (n d how s x y c : Int) (w : World) (hh : 0 ≤ how ∧ how ≤ 2) (hd : 1 ≤ d ∧ d ≤ 16) (hn : n < 0 ∨ 2 ^ d.toNat - 1 < n) :
    Calls Try.prog 4 #[.float .f32 v, .float .f32 o, .int .i64 n, .int .i64 d, .int .i64 how, .int .u32 s, .int .i64 x, .int .i64 y, .int .i64 c] w fun e w' => e = .returned (.bool true) ∧ Below w.heap.size w w' := by
  have z0 : (FloatKind.f32.format.order 0 0 == some Ordering.eq) = true := by decide
  have i1 := inB_t hh
  have i2 := inB_t hd
  have hh' := Lib.hid hh; clear hh
  have i3 := inB_f hn
  have hb := pow_bd hd
  obtain ⟨d1, d2⟩ := hd
  obtain ⟨b1, b2⟩ := hb
  have hn' := Lib.hid hn; clear hn
  go_enter Try.func4, Try.ntmps4
  go_wp2_with (first | (go_at_call 21; refine (In_any _ _ _ _).mono ?_; rintro e w' ⟨rfl, rfl⟩) | (go_at_call 22; refine (finishes_any _).mono ?_; rintro e w' ⟨n, rfl, rfl⟩) | (go_at_call 29; refine (Ordered_any _ _ _).mono ?_; rintro e w' ⟨rfl, rfl⟩) | (go_at_call 30; refine (OrderedOf_any _ _ _).mono ?_; rintro e w' ⟨rfl, m, rfl⟩) | (go_at_call 31; refine (OffsetOf_any _ _ _ _ _ _).mono ?_; rintro e w1 ⟨rfl, hb1⟩) | (go_at_call 24; refine (same_any _ _ _).mono ?_; rintro e w' ⟨rfl, rfl⟩) | (go_at_call 32; refine (LevelOf_any _ _ _ _ (by omega)).mono ?_; rintro e w' ⟨m, rfl, rfl⟩) | (go_at_call 25; refine (ValueOf_any _ _ _ (by omega) (by have := hn'.out; omega)).mono ?_; rintro e w' ⟨m, rfl, rfl⟩) | (go_at_call 27; refine (Value_no _ _ _ (by omega) hn'.out).mono ?_; rintro e w' ⟨rfl, rfl⟩) | (go_at_call 26; refine (Level_yes _ _ _ _ (by omega)).mono ?_; rintro e w' ⟨m, rfl, rfl⟩) | (go_at_call 28; refine (Offset_yes _ _ _ _ _ _ hh'.out).mono ?_; rintro e w' ⟨m, rfl, rfl⟩))
  go_ret
  refine ⟨rfl, ?_⟩
  (repeat (first | exact Below.refl _ _ | assumption | (refine Below.setCell ?_ (by first | (simp; done) | (simp; omega) | omega) _) | (refine Below.drew ?_) | (refine below_drewN ?_ _) | (refine Below.alloc ?_ (by first | (simp; done) | (simp; omega) | omega) _) | (refine Below.trans ?_ (Below.mono (by assumption) (by first | (simp; done) | (simp; omega) | omega)))))
set_option maxRecDepth 100000 in
set_option maxHeartbeats 1600000 in
theorem lm_azx (v o : Nat) (n d how s x y c : Int) (w : World) (hh : 0 ≤ how ∧ how ≤ 2) (hd : d < 1 ∨ 16 < d) :
    Calls Try.prog 4 #[.float .f32 v, .float .f32 o, .int .i64 n, .int .i64 d, .int .i64 how, .int .u32 s, .int .i64 x, .int .i64 y, .int .i64 c] w fun e w' => e = .returned (.bool true) ∧ Below w.heap.size w w' := by
  have z0 : (FloatKind.f32.format.order 0 0 == some Ordering.eq) = true := by decide
  have i1 := inB_t hh
  have i2 := inB_f hd
  have hh' := Lib.hid hh; clear hh
  have hd' := Lib.hid hd; clear hd
  go_enter Try.func4, Try.ntmps4
  go_wp2_with (first | (go_at_call 21; refine (In_any _ _ _ _).mono ?_; rintro e w' ⟨rfl, rfl⟩) | (go_at_call 22; refine (finishes_any _).mono ?_; rintro e w' ⟨n, rfl, rfl⟩) | (go_at_call 29; refine (Ordered_any _ _ _).mono ?_; rintro e w' ⟨rfl, rfl⟩) | (go_at_call 30; refine (OrderedOf_any _ _ _).mono ?_; rintro e w' ⟨rfl, m, rfl⟩) | (go_at_call 31; refine (OffsetOf_any _ _ _ _ _ _).mono ?_; rintro e w1 ⟨rfl, hb1⟩) | (go_at_call 24; refine (same_any _ _ _).mono ?_; rintro e w' ⟨rfl, rfl⟩) | (go_at_call 32; refine (LevelOf_any _ _ _ _ (by omega)).mono ?_; rintro e w' ⟨m, rfl, rfl⟩) | (go_at_call 25; refine (ValueOf_any _ _ _ (by omega) (by have := hn'.out; omega)).mono ?_; rintro e w' ⟨m, rfl, rfl⟩) | (go_at_call 27; refine (Value_deep _ _ _ hd'.out).mono ?_; rintro e w' ⟨rfl, rfl⟩) | (go_at_call 26; refine (Level_no _ _ _ _ hd'.out).mono ?_; rintro e w' ⟨rfl, rfl⟩) | (go_at_call 28; refine (Offset_yes _ _ _ _ _ _ hh'.out).mono ?_; rintro e w' ⟨m, rfl, rfl⟩))
  go_ret
  refine ⟨rfl, ?_⟩
  (repeat (first | exact Below.refl _ _ | assumption | (refine Below.setCell ?_ (by first | (simp; done) | (simp; omega) | omega) _) | (refine Below.drew ?_) | (refine below_drewN ?_ _) | (refine Below.alloc ?_ (by first | (simp; done) | (simp; omega) | omega) _) | (refine Below.trans ?_ (Below.mono (by assumption) (by first | (simp; done) | (simp; omega) | omega)))))
set_option maxRecDepth 100000 in
set_option maxHeartbeats 1600000 in
theorem lm_byy (v o : Nat) (n d how s x y c : Int) (w : World) (hh : how < 0 ∨ 2 < how) (hd : 1 ≤ d ∧ d ≤ 16) (hn : 0 ≤ n ∧ n ≤ 2 ^ d.toNat - 1) :
    Calls Try.prog 4 #[.float .f32 v, .float .f32 o, .int .i64 n, .int .i64 d, .int .i64 how, .int .u32 s, .int .i64 x, .int .i64 y, .int .i64 c] w fun e w' => e = .returned (.bool true) ∧ Below w.heap.size w w' := by
  have z0 : (FloatKind.f32.format.order 0 0 == some Ordering.eq) = true := by decide
  have i1 := inB_f hh
  have i2 := inB_t hd
  have hh' := Lib.hid hh; clear hh
  have i3 := inB_t hn
  have hb := pow_bd hd
  have hk := level_back hd hn.1 hn.2
  obtain ⟨d1, d2⟩ := hd
  obtain ⟨b1, b2⟩ := hb
  have hn' := Lib.hid hn; clear hn
  go_enter Try.func4, Try.ntmps4
  go_wp2_with (first | (go_at_call 21; refine (In_any _ _ _ _).mono ?_; rintro e w' ⟨rfl, rfl⟩) | (go_at_call 22; refine (finishes_any _).mono ?_; rintro e w' ⟨n, rfl, rfl⟩) | (go_at_call 29; refine (Ordered_any _ _ _).mono ?_; rintro e w' ⟨rfl, rfl⟩) | (go_at_call 30; refine (OrderedOf_any _ _ _).mono ?_; rintro e w' ⟨rfl, m, rfl⟩) | (go_at_call 31; refine (OffsetOf_any _ _ _ _ _ _).mono ?_; rintro e w1 ⟨rfl, hb1⟩) | (go_at_call 24; refine (same_any _ _ _).mono ?_; rintro e w' ⟨rfl, rfl⟩) | (go_at_call 32; refine (LevelOf_any _ _ _ _ (by omega)).mono ?_; rintro e w' ⟨m, rfl, rfl⟩) | (go_at_call 25; refine (ValueOf_any _ _ _ (by omega) (by have := hn'.out; omega)).mono ?_; rintro e w' ⟨m, rfl, rfl⟩) | (go_at_call 27; refine (Value_yes _ _ _ (by omega) hn'.out).mono ?_; rintro e w' ⟨m, rfl, rfl⟩) | (go_at_call 26; refine (Level_yes _ _ _ _ (by omega)).mono ?_; rintro e w' ⟨m, rfl, rfl⟩) | (go_at_call 28; refine (Offset_no _ _ _ _ _ _ hh'.out).mono ?_; rintro e w' ⟨rfl, rfl⟩))
  go_ret
  refine ⟨rfl, ?_⟩
  (repeat (first | exact Below.refl _ _ | assumption | (refine Below.setCell ?_ (by first | (simp; done) | (simp; omega) | omega) _) | (refine Below.drew ?_) | (refine below_drewN ?_ _) | (refine Below.alloc ?_ (by first | (simp; done) | (simp; omega) | omega) _) | (refine Below.trans ?_ (Below.mono (by assumption) (by first | (simp; done) | (simp; omega) | omega)))))
set_option maxRecDepth 100000 in
set_option maxHeartbeats 1600000 in
theorem lm_byz (v o : Nat) (n d how s x y c : Int) (w : World) (hh : how < 0 ∨ 2 < how) (hd : 1 ≤ d ∧ d ≤ 16) (hn : n < 0 ∨ 2 ^ d.toNat - 1 < n) :
    Calls Try.prog 4 #[.float .f32 v, .float .f32 o, .int .i64 n, .int .i64 d, .int .i64 how, .int .u32 s, .int .i64 x, .int .i64 y, .int .i64 c] w fun e w' => e = .returned (.bool true) ∧ Below w.heap.size w w' := by
  have z0 : (FloatKind.f32.format.order 0 0 == some Ordering.eq) = true := by decide
  have i1 := inB_f hh
  have i2 := inB_t hd
  have hh' := Lib.hid hh; clear hh
  have i3 := inB_f hn
  have hb := pow_bd hd
  obtain ⟨d1, d2⟩ := hd
  obtain ⟨b1, b2⟩ := hb
  have hn' := Lib.hid hn; clear hn
  go_enter Try.func4, Try.ntmps4
  go_wp2_with (first | (go_at_call 21; refine (In_any _ _ _ _).mono ?_; rintro e w' ⟨rfl, rfl⟩) | (go_at_call 22; refine (finishes_any _).mono ?_; rintro e w' ⟨n, rfl, rfl⟩) | (go_at_call 29; refine (Ordered_any _ _ _).mono ?_; rintro e w' ⟨rfl, rfl⟩) | (go_at_call 30; refine (OrderedOf_any _ _ _).mono ?_; rintro e w' ⟨rfl, m, rfl⟩) | (go_at_call 31; refine (OffsetOf_any _ _ _ _ _ _).mono ?_; rintro e w1 ⟨rfl, hb1⟩) | (go_at_call 24; refine (same_any _ _ _).mono ?_; rintro e w' ⟨rfl, rfl⟩) | (go_at_call 32; refine (LevelOf_any _ _ _ _ (by omega)).mono ?_; rintro e w' ⟨m, rfl, rfl⟩) | (go_at_call 25; refine (ValueOf_any _ _ _ (by omega) (by have := hn'.out; omega)).mono ?_; rintro e w' ⟨m, rfl, rfl⟩) | (go_at_call 27; refine (Value_no _ _ _ (by omega) hn'.out).mono ?_; rintro e w' ⟨rfl, rfl⟩) | (go_at_call 26; refine (Level_yes _ _ _ _ (by omega)).mono ?_; rintro e w' ⟨m, rfl, rfl⟩) | (go_at_call 28; refine (Offset_no _ _ _ _ _ _ hh'.out).mono ?_; rintro e w' ⟨rfl, rfl⟩))
  go_ret
  refine ⟨rfl, ?_⟩
  (repeat (first | exact Below.refl _ _ | assumption | (refine Below.setCell ?_ (by first | (simp; done) | (simp; omega) | omega) _) | (refine Below.drew ?_) | (refine below_drewN ?_ _) | (refine Below.alloc ?_ (by first | (simp; done) | (simp; omega) | omega) _) | (refine Below.trans ?_ (Below.mono (by assumption) (by first | (simp; done) | (simp; omega) | omega)))))
set_option maxRecDepth 100000 in
set_option maxHeartbeats 1600000 in
theorem lm_bzx (v o : Nat) (n d how s x y c : Int) (w : World) (hh : how < 0 ∨ 2 < how) (hd : d < 1 ∨ 16 < d) :
    Calls Try.prog 4 #[.float .f32 v, .float .f32 o, .int .i64 n, .int .i64 d, .int .i64 how, .int .u32 s, .int .i64 x, .int .i64 y, .int .i64 c] w fun e w' => e = .returned (.bool true) ∧ Below w.heap.size w w' := by
  have z0 : (FloatKind.f32.format.order 0 0 == some Ordering.eq) = true := by decide
  have i1 := inB_f hh
  have i2 := inB_f hd
  have hh' := Lib.hid hh; clear hh
  have hd' := Lib.hid hd; clear hd
  go_enter Try.func4, Try.ntmps4
  go_wp2_with (first | (go_at_call 21; refine (In_any _ _ _ _).mono ?_; rintro e w' ⟨rfl, rfl⟩) | (go_at_call 22; refine (finishes_any _).mono ?_; rintro e w' ⟨n, rfl, rfl⟩) | (go_at_call 29; refine (Ordered_any _ _ _).mono ?_; rintro e w' ⟨rfl, rfl⟩) | (go_at_call 30; refine (OrderedOf_any _ _ _).mono ?_; rintro e w' ⟨rfl, m, rfl⟩) | (go_at_call 31; refine (OffsetOf_any _ _ _ _ _ _).mono ?_; rintro e w1 ⟨rfl, hb1⟩) | (go_at_call 24; refine (same_any _ _ _).mono ?_; rintro e w' ⟨rfl, rfl⟩) | (go_at_call 32; refine (LevelOf_any _ _ _ _ (by omega)).mono ?_; rintro e w' ⟨m, rfl, rfl⟩) | (go_at_call 25; refine (ValueOf_any _ _ _ (by omega) (by have := hn'.out; omega)).mono ?_; rintro e w' ⟨m, rfl, rfl⟩) | (go_at_call 27; refine (Value_deep _ _ _ hd'.out).mono ?_; rintro e w' ⟨rfl, rfl⟩) | (go_at_call 26; refine (Level_no _ _ _ _ hd'.out).mono ?_; rintro e w' ⟨rfl, rfl⟩) | (go_at_call 28; refine (Offset_no _ _ _ _ _ _ hh'.out).mono ?_; rintro e w' ⟨rfl, rfl⟩))
  go_ret
  refine ⟨rfl, ?_⟩
  (repeat (first | exact Below.refl _ _ | assumption | (refine Below.setCell ?_ (by first | (simp; done) | (simp; omega) | omega) _) | (refine Below.drew ?_) | (refine below_drewN ?_ _) | (refine Below.alloc ?_ (by first | (simp; done) | (simp; omega) | omega) _) | (refine Below.trans ?_ (Below.mono (by assumption) (by first | (simp; done) | (simp; omega) | omega)))))
theorem lm_walk (v o : Nat) (n d how s x y c : Int) (w : World) (_ : v < 2 ^ 32) (_ : o < 2 ^ 32) (_ : IntKind.i64.min ≤ n ∧ n ≤ IntKind.i64.max) (_ : IntKind.i64.min ≤ d ∧ d ≤ IntKind.i64.max) (_ : IntKind.i64.min ≤ how ∧ how ≤ IntKind.i64.max)
    (_ : IntKind.u32.min ≤ s ∧ s ≤ IntKind.u32.max) (_ : IntKind.i64.min ≤ x ∧ x ≤ IntKind.i64.max) (_ : IntKind.i64.min ≤ y ∧ y ≤ IntKind.i64.max) (_ : IntKind.i64.min ≤ c ∧ c ≤ IntKind.i64.max) :
    Calls Try.prog 4 #[.float .f32 v, .float .f32 o, .int .i64 n, .int .i64 d, .int .i64 how, .int .u32 s, .int .i64 x, .int .i64 y, .int .i64 c] w fun e w' => e = .returned (.bool true) ∧ Below w.heap.size w w' := by
  have hh : (0 ≤ how ∧ how ≤ 2) ∨ (how < 0 ∨ 2 < how) := by omega
  have hd : (1 ≤ d ∧ d ≤ 16) ∨ (d < 1 ∨ 16 < d) := by omega
  have hn : (0 ≤ n ∧ n ≤ 2 ^ d.toNat - 1) ∨ (n < 0 ∨ 2 ^ d.toNat - 1 < n) := by omega
  rcases hh with hh | hh <;> rcases hd with hd | hd
  · rcases hn with hn | hn
    · exact lm_ayy v o n d how s x y c w hh hd hn
    · exact lm_ayz v o n d how s x y c w hh hd hn
  · exact lm_azx v o n d how s x y c w hh hd
  · rcases hn with hn | hn
    · exact lm_byy v o n d how s x y c w hh hd hn
    · exact lm_byz v o n d how s x y c w hh hd hn
  · exact lm_bzx v o n d how s x y c w hh hd
end Go.Proofs.Ytmnmcmmhnbnndaa
