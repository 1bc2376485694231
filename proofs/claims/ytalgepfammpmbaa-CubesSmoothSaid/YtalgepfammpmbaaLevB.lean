/- Levels: finish.level, Level, Value, dyeref2.LevelOf, and that the package is there. No condition. -/
import Derived.Test.YtalgepfammpmbaaLevA
import Derived.Test.YtalgepfammpmbaaNearB
namespace Go.Proofs.Ytalgepfammpmbaa
open Go.RowKit

/-- The level of a value. -/
def levelOf (v o : Nat) (d : Int) : Int := (nearOf (fop .add .f32 (fop .mul .f32 v (floatOfInt .f32 (2 ^ d.toNat - 1))) o) 0 (2 ^ d.toNat - 1)).1
theorem near_FR {r s : Nat} (h : FR .f32 r s) (lo hi : Int) : nearOf r lo hi = nearOf s lo hi := by rw [← nearOf_cn r, h.eq]
theorem level_FR {v o r s : Nat} {d : Int} (h1 : FR .f32 r (fop .mul .f32 (cn .f32 v) (cn .f32 (floatOfInt .f32 (2 ^ d.toNat - 1))))) (h2 : FR .f32 s (fop .add .f32 (cn .f32 r) (cn .f32 o))) :
    (nearOf s 0 (2 ^ d.toNat - 1)).1 = levelOf v o d := by
  rw [near_FR h2, h1.eq, fop_cn_left, fop_cn_right, fop_cn_right]; rfl

set_option maxHeartbeats 400000 in
theorem level_any (v o : Nat) (d : Int) (w : World) (hd : 1 ≤ d ∧ d ≤ 16) : Calls Try.prog 124 #[.float .f32 v, .float .f32 o, .int .i64 d] w fun e w' => ∃ m, e = .returned (.int .i64 (levelOf v o d)) ∧ w' = w.drewN m := by
  have hb := pow_bd hd
  obtain ⟨h1, h2⟩ := hd
  obtain ⟨h3, h4⟩ := hb
  go_enter Try.func124, Try.ntmps124
  go_wp2_with (first | ((with_reducible apply wpList_farith); rfl; rfl; rfl; intro _ _ _) | ((with_reducible apply wpList_up); rfl; exact Try.underlying27; exact Try.underlying151; intro _ _ _) | (go_at_call 185; refine (Near_any _ _ _ _ (by omega) (by omega) (by omega)).mono ?_; rintro e w' ⟨n, rfl, rfl⟩))
  go_ret
  exact ⟨_, ret_i (level_FR (by assumption) (by assumption)), rfl⟩
set_option maxHeartbeats 400000 in
theorem LevelOf_any (v o : Nat) (d : Int) (w : World) (hd : 1 ≤ d ∧ d ≤ 16) : Calls Try.prog 38 #[.float .f32 v, .float .f32 o, .int .i64 d] w fun e w' => ∃ m, e = .returned (.int .i64 (levelOf v o d)) ∧ w' = w.drewN m := by
  have hb := pow_bd hd
  obtain ⟨h1, h2⟩ := hd
  obtain ⟨h3, h4⟩ := hb
  go_enter Try.func38, Try.ntmps38
  go_wp2_with (first | ((with_reducible apply wpList_farith); rfl; rfl; rfl; intro _ _ _) | ((with_reducible apply wpList_up); rfl; exact Try.underlying27; exact Try.underlying151; intro _ _ _) | (go_at_call 130; refine (NearOf_any _ _ _ _ (by omega) (by omega)).mono ?_; rintro e w' ⟨n, rfl, rfl⟩))
  go_ret
  exact ⟨_, ret_i (level_FR (by assumption) (by assumption)), rfl⟩
set_option maxHeartbeats 400000 in
theorem Level_yes (v o : Nat) (d : Int) (w : World) (hd : 1 ≤ d ∧ d ≤ 16) : Calls Try.prog 30 #[.float .f32 v, .float .f32 o, .int .i64 d] w fun e w' => ∃ m, e = .returned (.tuple #[.int .i64 (levelOf v o d), .int .i64 0]) ∧ w' = w.drewN m := by
  have hi := inB_t hd
  go_enter Try.func30, Try.ntmps30
  go_wp2_with (first | (go_at_call 123; refine (deep_any _ _).mono ?_; rintro e w' ⟨rfl, rfl⟩) | (go_at_call 124; refine (level_any _ _ _ _ hd).mono ?_; rintro e w' ⟨n, rfl, rfl⟩))
  go_ret2
  exact ⟨_, rfl, rfl⟩
set_option maxHeartbeats 400000 in
theorem Level_no (v o : Nat) (d : Int) (w : World) (hd : d < 1 ∨ 16 < d) : Calls Try.prog 30 #[.float .f32 v, .float .f32 o, .int .i64 d] w fun e w' => e = .returned (.tuple #[.int .i64 0, .int .i64 3]) ∧ w = w' := by
  have hi := inB_f hd
  go_enter Try.func30, Try.ntmps30
  go_wp2_with (first | (go_at_call 123; refine (deep_any _ _).mono ?_; rintro e w' ⟨rfl, rfl⟩))
  go_ret2
  exact ⟨rfl, rfl⟩
theorem lev_half : levelOf 1056964608 0 8 = 128 := by decide +kernel
set_option maxHeartbeats 400000 in
theorem finishes_any (w : World) : Calls Try.prog 22 #[] w fun e w' => ∃ m, e = .returned (.bool true) ∧ w' = w.drewN m := by
  have hl := lev_half
  go_enter Try.func22, Try.ntmps22
  go_wp2_with (first | (go_at_call 30; refine (Level_yes _ _ _ _ (by omega)).mono ?_; rintro e w' ⟨n, rfl, rfl⟩))
  all_goals (go_ret; exact ⟨_, rfl, rfl⟩)
end Go.Proofs.Ytalgepfammpmbaa
