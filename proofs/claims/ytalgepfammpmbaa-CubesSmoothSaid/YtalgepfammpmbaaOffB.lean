/- Contracts: num.Unit, dyeref2.UnitOf, finish.Offset, dyeref2.OffsetOf, finish.Value. No condition. -/
import Derived.Test.YtalgepfammpmbaaOff
namespace Go.Proofs.Ytalgepfammpmbaa
open Go.RowKit
set_option maxHeartbeats 400000 in
theorem Unit_any (h : Int) (w : World) (h0 : 0 ≤ h) (h1 : h < 4294967296) : Calls Try.prog 126 #[.int .u32 h] w fun e w' => ∃ m, e = .returned (.float .f32 (unitF h)) ∧ w' = w.drewN m := by
  have hn := unit_not_nan h0 h1
  go_enter Try.func126, Try.ntmps126
  go_wp2_with (first | ((with_reducible apply wpList_farith); rfl; rfl; rfl; intro _ _ _) | ((with_reducible apply wpList_up); rfl; exact Try.underlying27; exact Try.underlying151; intro _ _ _))
  rename_i r m hr
  rw [fop_cn_left, fop_cn_right] at hr
  go_ret
  exact ⟨m, by rw [FR.exact hr hn]; rfl, rfl⟩
set_option maxHeartbeats 400000 in
theorem UnitOf_any (h : Int) (w : World) (h0 : 0 ≤ h) (h1 : h < 4294967296) : Calls Try.prog 128 #[.int .u32 h] w fun e w' => ∃ m, e = .returned (.float .f32 (unitF h)) ∧ w' = w.drewN m := by
  have hn := unit_not_nan h0 h1
  have hs := (unit_same h0 h1).1
  go_enter Try.func128, Try.ntmps128
  go_wp2_with (first | ((with_reducible apply wpList_farith); rfl; rfl; rfl; intro _ _ _) | ((with_reducible apply wpList_up); rfl; exact Try.underlying27; exact Try.underlying151; intro _ _ _))
  rename_i r m hr
  rw [fop_cn_left, fop_cn_right] at hr
  rw [hs] at hr
  go_ret
  exact ⟨m, by rw [FR.exact hr hn]; rfl, rfl⟩
theorem off_one {how s x y c : Int} {r1 r2 r3 : Nat} (h : how = 1) (a1 : FR .f32 r1 (fop .add .f32 (cn .f32 (floatOfInt .f32 (ordZ (x % 8) (y % 8)))) (cn .f32 1056964608))) (a2 : FR .f32 r2 (fop .quo .f32 (cn .f32 r1) (cn .f32 1115684864)))
    (a3 : FR .f32 r3 (fop .sub .f32 (cn .f32 r2) (cn .f32 1056964608))) : r3 = offF how s x y c := by
  rw [a2.eq, fop_cn_right, a1.eq, fop_cn_left, fop_cn_right, fop_cn_right] at a3
  rw [FR.exact a3 (off1_not_nan x y)]; unfold offF; rw [if_pos h]
theorem off_two {how s x y c : Int} {r3 : Nat} (h : how = 2) (a3 : FR .f32 r3 (fop .sub .f32 (cn .f32 (unitF (hashZ s x y c))) (cn .f32 1056964608))) : r3 = offF how s x y c := by
  rw [fop_cn_left, fop_cn_right] at a3
  rw [FR.exact a3 (off2_not_nan s x y c)]; unfold offF; rw [if_neg (by omega), if_pos h]
set_option maxHeartbeats 800000 in
theorem Offset_yes (how s x y c : Int) (w : World) (hh : 0 ≤ how ∧ how ≤ 2) : Calls Try.prog 32 #[.int .i64 how, .int .u32 s, .int .i64 x, .int .i64 y, .int .i64 c] w fun e w' => ∃ m, e = .returned (.tuple #[.float .f32 (offF how s x y c), .int .i64 0]) ∧ w' = w.drewN m := by
  have hb := hashZ_bd s x y c
  go_enter Try.func32, Try.ntmps32
  rcases (show how = 0 ∨ how = 1 ∨ how = 2 by omega) with h | h | h <;> subst h
  · go_wp2
    go_ret2
    exact ⟨0, rfl, rfl⟩
  · go_wp2_with (first | ((with_reducible apply wpList_farith); rfl; rfl; rfl; intro _ _ _) | ((with_reducible apply wpList_up); rfl; exact Try.underlying27; exact Try.underlying151; intro _ _ _) | (go_at_call 33; refine (Ordered_any _ _ _).mono ?_; rintro e w' ⟨rfl, rfl⟩))
    rename_i a1 _ _ a2 _ _ a3
    go_ret2
    exact ⟨_, by rw [off_one (s := s) (c := c) rfl a1 a2 a3]; rfl, rfl⟩
  · go_wp2_with (first | ((with_reducible apply wpList_farith); rfl; rfl; rfl; intro _ _ _) | ((with_reducible apply wpList_up); rfl; exact Try.underlying27; exact Try.underlying151; intro _ _ _) | (go_at_call 127; refine (Hash_any _ _ _ _ _).mono ?_; rintro e w' ⟨rfl, rfl⟩) | (go_at_call 126; refine (Unit_any _ _ hb.1 hb.2).mono ?_; rintro e w' ⟨m, rfl, rfl⟩))
    rename_i a3
    go_ret2
    exact ⟨_, by rw [off_two rfl a3]; rfl, rfl⟩
set_option maxHeartbeats 400000 in
theorem Offset_no (how s x y c : Int) (w : World) (hh : how < 0 ∨ 2 < how) : Calls Try.prog 32 #[.int .i64 how, .int .u32 s, .int .i64 x, .int .i64 y, .int .i64 c] w fun e w' => e = .returned (.tuple #[.float .f32 0, .int .i64 1]) ∧ w = w' := by
  have h0 : how ≠ 0 := by omega
  have h1 : how ≠ 1 := by omega
  have h2 : how ≠ 2 := by omega
  go_enter Try.func32, Try.ntmps32
  go_wp2
  go_ret2
  exact ⟨rfl, rfl⟩
set_option maxHeartbeats 800000 in
theorem OffsetOf_any (how s x y c : Int) (w : World) : Calls Try.prog 37 #[.int .i64 how, .int .u32 s, .int .i64 x, .int .i64 y, .int .i64 c] w fun e w' => e = .returned (.float .f32 (offF how s x y c)) ∧ Below w.heap.size w w' := by
  have hb := hashZ_bd s x y c
  go_enter Try.func37, Try.ntmps37
  by_cases h1 : how = 1
  · subst h1
    go_wp2_with (first | ((with_reducible apply wpList_farith); rfl; rfl; rfl; intro _ _ _) | ((with_reducible apply wpList_up); rfl; exact Try.underlying27; exact Try.underlying151; intro _ _ _) | (go_at_call 34; refine (OrderedOf_any _ _ _).mono ?_; rintro e w' ⟨rfl, m, rfl⟩))
    rename_i a1 _ _ a2 _ _ a3
    go_ret
    exact ⟨by rw [off_one (s := s) (c := c) rfl a1 a2 a3]; rfl, by (repeat (first | exact Below.refl _ _ | assumption | (refine Below.setCell ?_ (by first | (simp; done) | (simp; omega) | omega) _) | (refine Below.drew ?_) | (refine below_drewN ?_ _) | (refine Below.alloc ?_ (by first | (simp; done) | (simp; omega) | omega) _) | (refine Below.trans ?_ (Below.mono (by assumption) (by first | (simp; done) | (simp; omega) | omega)))))⟩
  by_cases h2 : how = 2
  · subst h2
    go_wp2_with (first | ((with_reducible apply wpList_farith); rfl; rfl; rfl; intro _ _ _) | ((with_reducible apply wpList_up); rfl; exact Try.underlying27; exact Try.underlying151; intro _ _ _) | (go_at_call 129; refine (HashOf_any _ _ _ _ _).mono ?_; rintro e w1 ⟨rfl, hb1⟩) | (go_at_call 128; refine (UnitOf_any _ _ hb.1 hb.2).mono ?_; rintro e w' ⟨m, rfl, rfl⟩))
    rename_i a3
    go_ret
    exact ⟨by rw [off_two rfl a3]; rfl, by (repeat (first | exact Below.refl _ _ | assumption | (refine Below.setCell ?_ (by first | (simp; done) | (simp; omega) | omega) _) | (refine Below.drew ?_) | (refine below_drewN ?_ _) | (refine Below.alloc ?_ (by first | (simp; done) | (simp; omega) | omega) _) | (refine Below.trans ?_ (Below.mono (by assumption) (by first | (simp; done) | (simp; omega) | omega)))))⟩
  · go_wp2
    go_ret
    have e : offF how s x y c = 0 := by unfold offF; rw [if_neg h1, if_neg h2]
    exact ⟨by rw [e]; rfl, Below.refl _ _⟩
set_option maxHeartbeats 400000 in
theorem Value_yes (n d : Int) (w : World) (hd : 1 ≤ d ∧ d ≤ 16) (hn : 0 ≤ n ∧ n ≤ 2 ^ d.toNat - 1) : Calls Try.prog 31 #[.int .i64 n, .int .i64 d] w fun e w' => ∃ m, e = .returned (.tuple #[.float .f32 (valueF n d), .int .i64 0]) ∧ w' = w.drewN m := by
  have hi := inB_t hd
  have hb := pow_bd hd
  obtain ⟨d1, d2⟩ := hd
  obtain ⟨b1, b2⟩ := hb
  obtain ⟨n1, n2⟩ := hn
  go_enter Try.func31, Try.ntmps31
  go_wp2_with (first | (go_at_call 123; refine (deep_any _ _).mono ?_; rintro e w' ⟨rfl, rfl⟩) | (go_at_call 125; refine (value_any _ _ _ (by omega) (by omega)).mono ?_; rintro e w' ⟨n, rfl, rfl⟩))
  go_ret2
  exact ⟨_, rfl, rfl⟩
set_option maxHeartbeats 400000 in
theorem Value_deep (n d : Int) (w : World) (hd : d < 1 ∨ 16 < d) : Calls Try.prog 31 #[.int .i64 n, .int .i64 d] w fun e w' => e = .returned (.tuple #[.float .f32 0, .int .i64 3]) ∧ w = w' := by
  have hi := inB_f hd
  go_enter Try.func31, Try.ntmps31
  go_wp2_with (first | (go_at_call 123; refine (deep_any _ _).mono ?_; rintro e w' ⟨rfl, rfl⟩))
  go_ret2
  exact ⟨rfl, rfl⟩
set_option maxHeartbeats 400000 in
theorem Value_no (n d : Int) (w : World) (hd : 1 ≤ d ∧ d ≤ 16) (hn : n < 0 ∨ 2 ^ d.toNat - 1 < n) : Calls Try.prog 31 #[.int .i64 n, .int .i64 d] w fun e w' => e = .returned (.tuple #[.float .f32 0, .int .i64 3]) ∧ w = w' := by
  have hi := inB_t hd
  have hb := pow_bd hd
  obtain ⟨d1, d2⟩ := hd
  obtain ⟨b1, b2⟩ := hb
  rcases hn with hn | hn
  · go_enter Try.func31, Try.ntmps31
    go_wp2_with (first | (go_at_call 123; refine (deep_any _ _).mono ?_; rintro e w' ⟨rfl, rfl⟩))
    go_ret2
    exact ⟨rfl, rfl⟩
  · have h0 : 0 ≤ n := by omega
    go_enter Try.func31, Try.ntmps31
    go_wp2_with (first | (go_at_call 123; refine (deep_any _ _).mono ?_; rintro e w' ⟨rfl, rfl⟩))
    go_ret2
    exact ⟨rfl, rfl⟩
end Go.Proofs.Ytalgepfammpmbaa
