/- Vignettes of a frame that is wrong: finish.Vignette. No condition but that of the errors. (with: VgF, ShE, PgR) -/
import Derived.Test.YtbaocallhnehfaaGreatDoorQA
import Derived.Test.YtbaocallhnehfaaGreatDoorQB
import Derived.Test.YtbaocallhnehfaaGreatDoorQG
import Derived.Test.YtbaocallhnehfaaGreatDoorPgQ
import Derived.Test.YtbaocallhnehfaaGreatDoorQE
namespace Go.Proofs.YtbaocallhnehfaaGreatDoor
open Go.RowKit
set_option maxRecDepth 100000 in
set_option maxHeartbeats 3200000 in
theorem Vignette_own (x y v h : Int) (a : Option Addr) (n cap : Nat) (vx vy vi vo vd : Nat) (w : World) (he : fraErr x y v h n = 0) (E : Int) (hE : vigE vx vy vi vo vd = E) (hE0 : E ≠ 0) :
    Calls Tryz.prog 61 #[.agg #[.int .i64 x, .int .i64 y, .int .i64 v, .int .i64 h, .slice a n cap], .agg #[.float .f32 vx, .float .f32 vy, .float .f32 vi, .float .f32 vo, .float .f32 vd]] w fun e w' =>
      e = .returned (.tuple #[.agg #[.int .i64 0, .int .i64 0, .int .i64 0, .int .i64 0, .slice none 0 0], .int .i64 E]) ∧ Below w.heap.size w w' := by
  have HE := Lib.hid hE; have HE0 := Lib.hid hE0
  clear hE hE0
  cases hA : allNum [vx, vy, vi, vo, vd]
  case false =>
    have hE := HE.out; unfold vigE at hE; rw [hA] at hE; simp only [Bool.false_eq_true, if_false] at hE; subst hE
    go_enter Tryz.func61, Tryz.ntmps61
    go_wp2_with (first | ((go_at_call 89; refine (FCheck_any _ _ _ _ _ _ _ _).mono ?_; rintro e w1 ⟨rfl, hb1⟩; have hs1 := hb1.size; simp at hs1; have hs1' : w.heap.size ≤ w1.heap.size := (by omega); have hq0 : w.heap.size < w1.heap.size := (by omega); have hq1 : w.heap.size + 1 < w1.heap.size := (by omega); have hq2 : w.heap.size + 1 + 1 < w1.heap.size := (by omega); have B1 : Below w.heap.size w w1 := (by (repeat (first | exact Below.refl _ _ | assumption | (refine Below.setCell ?_ (by first | (simp; done) | (simp; omega) | omega) _) | (refine Below.drew ?_) | (refine below_drewN ?_ _) | (refine Below.alloc ?_ (by first | (simp; done) | (simp; omega) | omega) _) | (refine Below.trans ?_ (Below.mono (by assumption) (by first | (simp; done) | (simp; omega) | omega)))))); have FB : Blk w1 w.heap.size [.int .i64 x, .int .i64 y, .int .i64 v, .int .i64 h, .slice a n cap] := (((Blk.new _ _ _ _ rfl).alloc _).alloc _).below hb1 (by first | (simp; done) | (simp; omega) | omega); have VB : Blk w1 (w.heap.size + 1) (vigL vx vy vi vo vd) := ((Blk.new _ _ _ _ (by first | (simp; done) | (simp; omega) | omega)).alloc _).below hb1 (by first | (simp; done) | (simp; omega) | omega); have ZB : Blk w1 (w.heap.size + 1 + 1) [.int .i64 0, .int .i64 0, .int .i64 0, .int .i64 0, .slice none 0 0] := (Blk.new _ _ _ _ (by first | (simp; done) | (simp; omega) | omega)).below hb1 (by first | (simp; done) | (simp; omega) | omega); clear hb1; have g0 := VB.c 0 _ rfl; have g1 := VB.c 1 _ rfl; have g2 := VB.c 2 _ rfl; have g3 := VB.c 3 _ rfl; have g4 := VB.c 4 _ rfl; have z0 := ZB.c 0 _ rfl; have z1 := ZB.c 1 _ rfl; have z2 := ZB.c 2 _ rfl; have z3 := ZB.c 3 _ rfl; have z4 := ZB.c 4 _ rfl; have zf := ZB.f; have HVB := Lib.hid VB; have HFB := Lib.hid FB; have HZB := Lib.hid ZB; clear VB FB ZB); rw [he]) | (go_at_call 54; refine (All5_any _ _ _ vx vy vi vo vd _ (by simp [go_sem]) (by simp [go_sem]) (by simp [go_sem]) (by simp [go_sem]) (by simp [go_sem])).mono ?_; rintro e w2 ⟨rfl, hw2⟩; have B12 : Below w1.heap.size w1 w2 := (by rw [← hw2]; (repeat (first | exact Below.refl _ _ | assumption | (refine Below.setCell ?_ (by first | (simp; done) | (simp; omega) | omega) _) | (refine Below.drew ?_) | (refine below_drewN ?_ _) | (refine Below.alloc ?_ (by first | (simp; done) | (simp; omega) | omega) _) | (refine Below.trans ?_ (Below.mono (by assumption) (by first | (simp; done) | (simp; omega) | omega)))))); have B2 : Below w.heap.size w w2 := B1.trans (B12.mono hs1'); have V2 := HVB.out.past B12; have Z2 := HZB.out.past B12; have HV2 := Lib.hid V2; have HZ2 := Lib.hid Z2; clear hw2 g0 g1 g2 g3 g4 z0 z1 z2 z3 z4 zf hq0 hq1 hq2; have g0 := V2.c 0 _ rfl; have g1 := V2.c 1 _ rfl; have g2 := V2.c 2 _ rfl; have g3 := V2.c 3 _ rfl; have g4 := V2.c 4 _ rfl; have z0 := Z2.c 0 _ rfl; have z1 := Z2.c 1 _ rfl; have z2 := Z2.c 2 _ rfl; have z3 := Z2.c 3 _ rfl; have z4 := Z2.c 4 _ rfl; have zf := Z2.f; have zl := Z2.lt; have vl := V2.lt; have F2 := HFB.out.past B12; have f0 := F2.c 0 _ rfl; have f1 := F2.c 1 _ rfl; have f2 := F2.c 2 _ rfl; have f3 := F2.c 3 _ rfl; have f4 := F2.c 4 _ rfl; have fl := F2.lt; clear V2 Z2 F2))
    refine bodyPost_ret (v := .tuple #[.agg #[.int .i64 0, .int .i64 0, .int .i64 0, .int .i64 0, .slice none 0 0], .int .i64 2]) (by simp [results, Tryz.results61, go_sem, z0, z1, z2, z3, z4]) rfl ⟨rfl, ?_⟩
    exact ((((B2.setCell (by first | (simp; done) | (simp; omega) | omega) _).setCell (by first | (simp; done) | (simp; omega) | omega) _).setCell (by first | (simp; done) | (simp; omega) | omega) _).setCell (by first | (simp; done) | (simp; omega) | omega) _).setCell (by first | (simp; done) | (simp; omega) | omega) _
  case true =>
    cases hO : (FloatKind.f32.format.order vo vi == some .gt)
    case false =>
      have hE := HE.out; unfold vigE at hE; rw [hA, if_pos rfl, hO] at hE; simp only [Bool.false_eq_true, if_false] at hE; subst hE
      go_enter Tryz.func61, Tryz.ntmps61
      go_wp2_with (first | ((go_at_call 89; refine (FCheck_any _ _ _ _ _ _ _ _).mono ?_; rintro e w1 ⟨rfl, hb1⟩; have hs1 := hb1.size; simp at hs1; have hs1' : w.heap.size ≤ w1.heap.size := (by omega); have hq0 : w.heap.size < w1.heap.size := (by omega); have hq1 : w.heap.size + 1 < w1.heap.size := (by omega); have hq2 : w.heap.size + 1 + 1 < w1.heap.size := (by omega); have B1 : Below w.heap.size w w1 := (by (repeat (first | exact Below.refl _ _ | assumption | (refine Below.setCell ?_ (by first | (simp; done) | (simp; omega) | omega) _) | (refine Below.drew ?_) | (refine below_drewN ?_ _) | (refine Below.alloc ?_ (by first | (simp; done) | (simp; omega) | omega) _) | (refine Below.trans ?_ (Below.mono (by assumption) (by first | (simp; done) | (simp; omega) | omega)))))); have FB : Blk w1 w.heap.size [.int .i64 x, .int .i64 y, .int .i64 v, .int .i64 h, .slice a n cap] := (((Blk.new _ _ _ _ rfl).alloc _).alloc _).below hb1 (by first | (simp; done) | (simp; omega) | omega); have VB : Blk w1 (w.heap.size + 1) (vigL vx vy vi vo vd) := ((Blk.new _ _ _ _ (by first | (simp; done) | (simp; omega) | omega)).alloc _).below hb1 (by first | (simp; done) | (simp; omega) | omega); have ZB : Blk w1 (w.heap.size + 1 + 1) [.int .i64 0, .int .i64 0, .int .i64 0, .int .i64 0, .slice none 0 0] := (Blk.new _ _ _ _ (by first | (simp; done) | (simp; omega) | omega)).below hb1 (by first | (simp; done) | (simp; omega) | omega); clear hb1; have g0 := VB.c 0 _ rfl; have g1 := VB.c 1 _ rfl; have g2 := VB.c 2 _ rfl; have g3 := VB.c 3 _ rfl; have g4 := VB.c 4 _ rfl; have z0 := ZB.c 0 _ rfl; have z1 := ZB.c 1 _ rfl; have z2 := ZB.c 2 _ rfl; have z3 := ZB.c 3 _ rfl; have z4 := ZB.c 4 _ rfl; have zf := ZB.f; have HVB := Lib.hid VB; have HFB := Lib.hid FB; have HZB := Lib.hid ZB; clear VB FB ZB); rw [he]) | (go_at_call 54; refine (All5_any _ _ _ vx vy vi vo vd _ (by simp [go_sem]) (by simp [go_sem]) (by simp [go_sem]) (by simp [go_sem]) (by simp [go_sem])).mono ?_; rintro e w2 ⟨rfl, hw2⟩; have B12 : Below w1.heap.size w1 w2 := (by rw [← hw2]; (repeat (first | exact Below.refl _ _ | assumption | (refine Below.setCell ?_ (by first | (simp; done) | (simp; omega) | omega) _) | (refine Below.drew ?_) | (refine below_drewN ?_ _) | (refine Below.alloc ?_ (by first | (simp; done) | (simp; omega) | omega) _) | (refine Below.trans ?_ (Below.mono (by assumption) (by first | (simp; done) | (simp; omega) | omega)))))); have B2 : Below w.heap.size w w2 := B1.trans (B12.mono hs1'); have V2 := HVB.out.past B12; have Z2 := HZB.out.past B12; have HV2 := Lib.hid V2; have HZ2 := Lib.hid Z2; clear hw2 g0 g1 g2 g3 g4 z0 z1 z2 z3 z4 zf hq0 hq1 hq2; have g0 := V2.c 0 _ rfl; have g1 := V2.c 1 _ rfl; have g2 := V2.c 2 _ rfl; have g3 := V2.c 3 _ rfl; have g4 := V2.c 4 _ rfl; have z0 := Z2.c 0 _ rfl; have z1 := Z2.c 1 _ rfl; have z2 := Z2.c 2 _ rfl; have z3 := Z2.c 3 _ rfl; have z4 := Z2.c 4 _ rfl; have zf := Z2.f; have zl := Z2.lt; have vl := V2.lt; have F2 := HFB.out.past B12; have f0 := F2.c 0 _ rfl; have f1 := F2.c 1 _ rfl; have f2 := F2.c 2 _ rfl; have f3 := F2.c 3 _ rfl; have f4 := F2.c 4 _ rfl; have fl := F2.lt; clear V2 Z2 F2))
      refine bodyPost_ret (v := .tuple #[.agg #[.int .i64 0, .int .i64 0, .int .i64 0, .int .i64 0, .slice none 0 0], .int .i64 8]) (by simp [results, Tryz.results61, go_sem, z0, z1, z2, z3, z4]) rfl ⟨rfl, ?_⟩
      exact ((((B2.setCell (by first | (simp; done) | (simp; omega) | omega) _).setCell (by first | (simp; done) | (simp; omega) | omega) _).setCell (by first | (simp; done) | (simp; omega) | omega) _).setCell (by first | (simp; done) | (simp; omega) | omega) _).setCell (by first | (simp; done) | (simp; omega) | omega) _
    case true =>
      have hE := HE.out; unfold vigE vigBad at hE; rw [hA, if_pos rfl, hO, if_pos rfl] at hE
      cases hL : (FloatKind.f32.format.order vd 0 == some .lt) <;> cases hG : (FloatKind.f32.format.order vd 1065353216 == some .gt) <;> rw [hL, hG] at hE <;> simp only [Bool.or_self, Bool.or_true, Bool.or_false, Bool.false_eq_true, if_false, if_true] at hE <;> subst hE
      case false.false => exact absurd rfl HE0.out
      all_goals
        go_enter Tryz.func61, Tryz.ntmps61
        go_wp2_with (first | ((go_at_call 89; refine (FCheck_any _ _ _ _ _ _ _ _).mono ?_; rintro e w1 ⟨rfl, hb1⟩; have hs1 := hb1.size; simp at hs1; have hs1' : w.heap.size ≤ w1.heap.size := (by omega); have hq0 : w.heap.size < w1.heap.size := (by omega); have hq1 : w.heap.size + 1 < w1.heap.size := (by omega); have hq2 : w.heap.size + 1 + 1 < w1.heap.size := (by omega); have B1 : Below w.heap.size w w1 := (by (repeat (first | exact Below.refl _ _ | assumption | (refine Below.setCell ?_ (by first | (simp; done) | (simp; omega) | omega) _) | (refine Below.drew ?_) | (refine below_drewN ?_ _) | (refine Below.alloc ?_ (by first | (simp; done) | (simp; omega) | omega) _) | (refine Below.trans ?_ (Below.mono (by assumption) (by first | (simp; done) | (simp; omega) | omega)))))); have FB : Blk w1 w.heap.size [.int .i64 x, .int .i64 y, .int .i64 v, .int .i64 h, .slice a n cap] := (((Blk.new _ _ _ _ rfl).alloc _).alloc _).below hb1 (by first | (simp; done) | (simp; omega) | omega); have VB : Blk w1 (w.heap.size + 1) (vigL vx vy vi vo vd) := ((Blk.new _ _ _ _ (by first | (simp; done) | (simp; omega) | omega)).alloc _).below hb1 (by first | (simp; done) | (simp; omega) | omega); have ZB : Blk w1 (w.heap.size + 1 + 1) [.int .i64 0, .int .i64 0, .int .i64 0, .int .i64 0, .slice none 0 0] := (Blk.new _ _ _ _ (by first | (simp; done) | (simp; omega) | omega)).below hb1 (by first | (simp; done) | (simp; omega) | omega); clear hb1; have g0 := VB.c 0 _ rfl; have g1 := VB.c 1 _ rfl; have g2 := VB.c 2 _ rfl; have g3 := VB.c 3 _ rfl; have g4 := VB.c 4 _ rfl; have z0 := ZB.c 0 _ rfl; have z1 := ZB.c 1 _ rfl; have z2 := ZB.c 2 _ rfl; have z3 := ZB.c 3 _ rfl; have z4 := ZB.c 4 _ rfl; have zf := ZB.f; have HVB := Lib.hid VB; have HFB := Lib.hid FB; have HZB := Lib.hid ZB; clear VB FB ZB); rw [he]) | (go_at_call 54; refine (All5_any _ _ _ vx vy vi vo vd _ (by simp [go_sem]) (by simp [go_sem]) (by simp [go_sem]) (by simp [go_sem]) (by simp [go_sem])).mono ?_; rintro e w2 ⟨rfl, hw2⟩; have B12 : Below w1.heap.size w1 w2 := (by rw [← hw2]; (repeat (first | exact Below.refl _ _ | assumption | (refine Below.setCell ?_ (by first | (simp; done) | (simp; omega) | omega) _) | (refine Below.drew ?_) | (refine below_drewN ?_ _) | (refine Below.alloc ?_ (by first | (simp; done) | (simp; omega) | omega) _) | (refine Below.trans ?_ (Below.mono (by assumption) (by first | (simp; done) | (simp; omega) | omega)))))); have B2 : Below w.heap.size w w2 := B1.trans (B12.mono hs1'); have V2 := HVB.out.past B12; have Z2 := HZB.out.past B12; have HV2 := Lib.hid V2; have HZ2 := Lib.hid Z2; clear hw2 g0 g1 g2 g3 g4 z0 z1 z2 z3 z4 zf hq0 hq1 hq2; have g0 := V2.c 0 _ rfl; have g1 := V2.c 1 _ rfl; have g2 := V2.c 2 _ rfl; have g3 := V2.c 3 _ rfl; have g4 := V2.c 4 _ rfl; have z0 := Z2.c 0 _ rfl; have z1 := Z2.c 1 _ rfl; have z2 := Z2.c 2 _ rfl; have z3 := Z2.c 3 _ rfl; have z4 := Z2.c 4 _ rfl; have zf := Z2.f; have zl := Z2.lt; have vl := V2.lt; have F2 := HFB.out.past B12; have f0 := F2.c 0 _ rfl; have f1 := F2.c 1 _ rfl; have f2 := F2.c 2 _ rfl; have f3 := F2.c 3 _ rfl; have f4 := F2.c 4 _ rfl; have fl := F2.lt; clear V2 Z2 F2))
        refine bodyPost_ret (v := .tuple #[.agg #[.int .i64 0, .int .i64 0, .int .i64 0, .int .i64 0, .slice none 0 0], .int .i64 3]) (by simp [results, Tryz.results61, go_sem, z0, z1, z2, z3, z4]) rfl ⟨rfl, ?_⟩
        exact ((((B2.setCell (by first | (simp; done) | (simp; omega) | omega) _).setCell (by first | (simp; done) | (simp; omega) | omega) _).setCell (by first | (simp; done) | (simp; omega) | omega) _).setCell (by first | (simp; done) | (simp; omega) | omega) _).setCell (by first | (simp; done) | (simp; omega) | omega) _
end Go.Proofs.YtbaocallhnehfaaGreatDoor

namespace Go.Proofs.YtbaocallhnehfaaGreatDoor
open Go.RowKit
set_option maxRecDepth 100000 in
set_option maxHeartbeats 1600000 in
theorem VignetteError_any (vx vy vi vo vd : Nat) (w : World) : Calls Tryz.prog 42 #[.agg #[.float .f32 vx, .float .f32 vy, .float .f32 vi, .float .f32 vo, .float .f32 vd]] w fun e w' => e = .returned (.int .i64 (vigE vx vy vi vo vd)) ∧ Below w.heap.size w w' := by
  go_enter Tryz.func42, Tryz.ntmps42
  go_wp2_with fail
  refine wp_world (fun W hW => ?_)
  have VB : Blk W w.heap.size (vigL vx vy vi vo vd) := by rw [hW]; exact (Blk.new _ _ _ _ rfl).alloc _
  have SB : Blk W (w.heap.size + 1) (vigL vx vy vi vo vd) := by rw [hW]; exact Blk.new _ _ _ _ (by simp)
  have BW : Below w.heap.size w W := by rw [hW]; (repeat (first | exact Below.refl _ _ | assumption | (refine Below.setCell ?_ (by first | (simp; done) | (simp; omega) | omega) _) | (refine Below.drew ?_) | (refine below_drewN ?_ _) | (refine Below.alloc ?_ (by first | (simp; done) | (simp; omega) | omega) _) | (refine Below.trans ?_ (Below.mono (by assumption) (by first | (simp; done) | (simp; omega) | omega)))))
  clear hW
  have hcell : ∀ k, k < 5 → W.cell? ⟨w.heap.size + 1, k, none⟩ = some (.float .f32 ([vx, vy, vi, vo, vd].getD k 0)) := fun k hk => SB.c k _ (by
    rcases (show k = 0 ∨ k = 1 ∨ k = 2 ∨ k = 3 ∨ k = 4 by omega) with rfl | rfl | rfl | rfl | rfl <;> rfl)
  have HC := Lib.hid hcell; have HV := Lib.hid VB; have HB := Lib.hid BW
  clear hcell VB SB BW
  go_loopw [17] (fun i wr => ∃ k : Nat, k ≤ 5 ∧ i = .int .i64 k ∧ (∃ m, wr = W.drewN m) ∧ allNum [vx, vy, vi, vo, vd] = allNum ([vx, vy, vi, vo, vd].drop k)) (fun i _ => 5 - (intOf i).toNat)
  case atStart => exact ⟨0, by omega, rfl, ⟨0, rfl⟩, rfl⟩
  case round =>
    obtain ⟨k, hk, rfl, ⟨m, rfl⟩, hall⟩ := hrel
    by_cases hk5 : k < 5
    · have hcx := HC.out k hk5
      obtain ⟨l, hl⟩ : ∃ l, [vx, vy, vi, vo, vd].drop k = [vx, vy, vi, vo, vd].getD k 0 :: l ∧ l = [vx, vy, vi, vo, vd].drop (k + 1) := ⟨[vx, vy, vi, vo, vd].drop (k + 1), by rw [List.drop_eq_getElem_cons (by simpa using hk5)]; simp [List.getElem?_eq_getElem (show k < [vx, vy, vi, vo, vd].length by simpa using hk5)], rfl⟩
      rw [hl.1] at hall
      have hl2 := Lib.hid hl.2
      clear hl
      generalize [vx, vy, vi, vo, vd].getD k 0 = z at *
      have hall' := Lib.hid hall; clear hall
      cases hz : isNum .f32 z
      · go_wp2_with (first | (go_at_call 37; refine (IsNumberR_any _ _).mono ?_; rintro e w' ⟨rfl, m2, rfl⟩))
        go_ret
        refine ⟨ret_i ?_, ?_⟩
        · have : allNum [vx, vy, vi, vo, vd] = false := by rw [hall'.out]; simp [allNum, hz]
          unfold vigE; rw [this]; rfl
        · exact below_drewN HB.out _
      · go_wp2_with (first | (go_at_call 37; refine (IsNumberR_any _ _).mono ?_; rintro e w' ⟨rfl, m2, rfl⟩))
        go_roundw
        case rel => exact ⟨k + 1, by omega, by first | rfl | simp, ⟨m + m2, by first | rfl | simp [World.drewN_drewN] | (rw [World.drewN_drewN])⟩, by rw [hall'.out, ← hl2.out]; simp [allNum, hz]⟩
        case measure => simp [intOf]; omega
    · have hk' : k = 5 := by omega
      subst hk'
      have hall' : allNum [vx, vy, vi, vo, vd] = true := by rw [hall]; rfl
      have hd : isNum .f32 vd = true := by simp [allNum] at hall'; exact hall'.2.2.2.2
      have e1 := Lib.hid (tri_lowV hd num_01.1); have e2 := Lib.hid (tri_highV hd num_01.2)
      have HA := Lib.hid hall'
      have g2 := HV.out.c 2 _ rfl; have g3 := HV.out.c 3 _ rfl; have g4 := HV.out.c 4 _ rfl
      clear hall hall' hd hk
      cases hO : (FloatKind.f32.format.order vo vi == some .gt) <;> cases hg : ((FloatKind.f32.format.order vd 0 == some .gt) || (FloatKind.f32.format.order vd 0 == some .eq)) <;> cases hl : ((FloatKind.f32.format.order vd 1065353216 == some .lt) || (FloatKind.f32.format.order vd 1065353216 == some .eq))
      all_goals
        have HO := Lib.hid hO; have HG := Lib.hid hg; have HL := Lib.hid hl
        go_wp2_with (first | (go_at_call 18; refine (When_any _ _ _).mono ?_; rintro e w' ⟨rfl, rfl⟩))
        go_ret
        refine ⟨ret_i ?_, below_drewN HB.out _⟩
        unfold vigE
        rw [HA.out, if_pos rfl, HO.out]
        first | rfl | (rw [if_pos rfl]; unfold vigBad; rw [e1.out, e2.out, ← Bool.not_or, ← Bool.not_or, HG.out, HL.out]; rfl)
set_option maxRecDepth 100000 in
set_option maxHeartbeats 3200000 in
theorem Vignette_yes (x y v h : Int) (b off n cap : Nat) (fs : Nat → Nat) (vx vy vi vo vd : Nat) (w : World) (he : fraErr x y v h n = 0) (hE : vigE vx vy vi vo vd = 0) (hcap : n ≤ cap) (hcb : cap ≤ 9223372036854775807)
    (hcell : ∀ i, i < n → w.cell? ⟨b, off + i, none⟩ = some (.float .f32 (fs i))) (hfs : ∀ i, i < n → fs i < 2 ^ FloatKind.f32.format.width) :
    Calls Tryz.prog 61 #[.agg #[.int .i64 x, .int .i64 y, .int .i64 v, .int .i64 h, .slice (some ⟨b, off, none⟩) n cap], .agg #[.float .f32 vx, .float .f32 vy, .float .f32 vi, .float .f32 vo, .float .f32 vd]] w fun e w' =>
      (∃ g, e = .returned (.tuple #[.agg #[.int .i64 x, .int .i64 y, .int .i64 v, .int .i64 h, .slice (some ⟨g, 0, none⟩) n n], .int .i64 0]) ∧ w.heap.size ≤ g ∧ g < w'.heap.size ∧ ∀ i, i < n → w'.cell? ⟨g, i, none⟩ = some (.float .f32 (vgG x y v fs vx vy vi vo vd (i / 4) (i % 4)))) ∧ Below w.heap.size w w' := by
  obtain ⟨hr, hl⟩ := fraErr_ok he
  obtain ⟨r1, r2, r3, r4, r5, r6, r7, r8, r9, r10⟩ := regErr_ok hr
  obtain ⟨hA, hO, hL, hG⟩ := vigE_ok hE
  have hn0 : 0 < n := by have : 4 ≤ 4 * v * h := by { rw [Int.mul_assoc]; omega }; omega
  have hbw : b < w.heap.size := cell_lt (hcell 0 hn0)
  obtain ⟨a, ha⟩ : ∃ a : Option Addr, a = some ⟨b, off, none⟩ := ⟨_, rfl⟩
  have HC := Lib.hid (And.intro hcell hfs)
  have HR := Lib.hid (And.intro hr (And.intro hl (And.intro hcap hcb)))
  have HAA := Lib.hid ha
  rw [← ha]
  clear hcell hfs hr hl hcap hcb hE ha r1 r2 r3 r4 r5 r6 r7 r8 r9 r10
  go_enter Tryz.func61, Tryz.ntmps61
  go_wp2_with (first | ((go_at_call 89; refine (FCheck_any _ _ _ _ _ _ _ _).mono ?_; rintro e w1 ⟨rfl, hb1⟩; have hs1 := hb1.size; simp at hs1; have hs1' : w.heap.size ≤ w1.heap.size := (by omega); have hq0 : w.heap.size < w1.heap.size := (by omega); have hq1 : w.heap.size + 1 < w1.heap.size := (by omega); have hq2 : w.heap.size + 1 + 1 < w1.heap.size := (by omega); have B1 : Below w.heap.size w w1 := (by (repeat (first | exact Below.refl _ _ | assumption | (refine Below.setCell ?_ (by first | (simp; done) | (simp; omega) | omega) _) | (refine Below.drew ?_) | (refine below_drewN ?_ _) | (refine Below.alloc ?_ (by first | (simp; done) | (simp; omega) | omega) _) | (refine Below.trans ?_ (Below.mono (by assumption) (by first | (simp; done) | (simp; omega) | omega)))))); have FB : Blk w1 w.heap.size [.int .i64 x, .int .i64 y, .int .i64 v, .int .i64 h, .slice a n cap] := (((Blk.new _ _ _ _ rfl).alloc _).alloc _).below hb1 (by first | (simp; done) | (simp; omega) | omega); have VB : Blk w1 (w.heap.size + 1) (vigL vx vy vi vo vd) := ((Blk.new _ _ _ _ (by first | (simp; done) | (simp; omega) | omega)).alloc _).below hb1 (by first | (simp; done) | (simp; omega) | omega); have ZB : Blk w1 (w.heap.size + 1 + 1) [.int .i64 0, .int .i64 0, .int .i64 0, .int .i64 0, .slice none 0 0] := (Blk.new _ _ _ _ (by first | (simp; done) | (simp; omega) | omega)).below hb1 (by first | (simp; done) | (simp; omega) | omega); clear hb1; have g0 := VB.c 0 _ rfl; have g1 := VB.c 1 _ rfl; have g2 := VB.c 2 _ rfl; have g3 := VB.c 3 _ rfl; have g4 := VB.c 4 _ rfl; have z0 := ZB.c 0 _ rfl; have z1 := ZB.c 1 _ rfl; have z2 := ZB.c 2 _ rfl; have z3 := ZB.c 3 _ rfl; have z4 := ZB.c 4 _ rfl; have zf := ZB.f; have HVB := Lib.hid VB; have HFB := Lib.hid FB; have HZB := Lib.hid ZB; clear VB FB ZB); rw [he]) | (go_at_call 54; refine (All5_any _ _ _ vx vy vi vo vd _ (by simp [go_sem]) (by simp [go_sem]) (by simp [go_sem]) (by simp [go_sem]) (by simp [go_sem])).mono ?_; rintro e w2 ⟨rfl, hw2⟩; have B12 : Below w1.heap.size w1 w2 := (by rw [← hw2]; (repeat (first | exact Below.refl _ _ | assumption | (refine Below.setCell ?_ (by first | (simp; done) | (simp; omega) | omega) _) | (refine Below.drew ?_) | (refine below_drewN ?_ _) | (refine Below.alloc ?_ (by first | (simp; done) | (simp; omega) | omega) _) | (refine Below.trans ?_ (Below.mono (by assumption) (by first | (simp; done) | (simp; omega) | omega)))))); have B2 : Below w.heap.size w w2 := B1.trans (B12.mono hs1'); have V2 := HVB.out.past B12; have Z2 := HZB.out.past B12; have HV2 := Lib.hid V2; have HZ2 := Lib.hid Z2; clear hw2 g0 g1 g2 g3 g4 z0 z1 z2 z3 z4 zf hq0 hq1 hq2; have g0 := V2.c 0 _ rfl; have g1 := V2.c 1 _ rfl; have g2 := V2.c 2 _ rfl; have g3 := V2.c 3 _ rfl; have g4 := V2.c 4 _ rfl; have z0 := Z2.c 0 _ rfl; have z1 := Z2.c 1 _ rfl; have z2 := Z2.c 2 _ rfl; have z3 := Z2.c 3 _ rfl; have z4 := Z2.c 4 _ rfl; have zf := Z2.f; have zl := Z2.lt; have vl := V2.lt; have F2 := HFB.out.past B12; have f0 := F2.c 0 _ rfl; have f1 := F2.c 1 _ rfl; have f2 := F2.c 2 _ rfl; have f3 := F2.c 3 _ rfl; have f4 := F2.c 4 _ rfl; have fl := F2.lt; clear V2 Z2 F2))
  refine calls_world (fun W hW => ?_)
  have B3 : Below w2.heap.size w2 W := by rw [hW]; (repeat (first | exact Below.refl _ _ | assumption | (refine Below.setCell ?_ (by first | (simp; done) | (simp; omega) | omega) _) | (refine Below.drew ?_) | (refine below_drewN ?_ _) | (refine Below.alloc ?_ (by first | (simp; done) | (simp; omega) | omega) _) | (refine Below.trans ?_ (Below.mono (by assumption) (by first | (simp; done) | (simp; omega) | omega)))))
  have BW2 := B2.trans (B3.mono B2.size)
  obtain ⟨hr, hl, hcap, hcb⟩ := HR.out
  have VB := HV2.out.past B3
  have ZB := HZ2.out.past B3
  have lv := VB.lt
  have HW := Lib.hid (And.intro VB ZB)
  clear hW g0 g1 g2 g3 g4 z0 z1 z2 z3 z4 zf VB ZB vl zl f0 f1 f2 f3 f4 fl
  rw [HAA.out]
  refine (mapped_any 91 #[.pointer (some ⟨w.heap.size + 1, 0, none⟩)] x y v h b off n cap fs (vgG x y v fs vx vy vi vo vd) W hr hl hcap hcb (fun i hi => (BW2.cell (p := ⟨b, off + i, none⟩) hbw).trans (HC.out.1 i hi)) (body_enters Tryz.func91 (by kernel_rfl) rfl) (fun k w' hk hb' => ?_)).mono ?_
  · refine (VigClosure vx vy vi vo vd (x + (k : Int) % v) (y + (k : Int) / v) (fun c => fs (4 * k + c)) (w.heap.size + 1) w' (fun c hc => HC.out.2 _ (by omega)) (HW.out.1.past hb')).mono ?_
    rintro e w'' ⟨⟨q, rfl, hq⟩, hb⟩
    exact ⟨⟨q, rfl, fun c _ => by rw [hq]; exact vgG_cn⟩, hb⟩
  · rintro e w3 ⟨g, rfl, hg, hgc, hb3⟩
    have Z3 := HW.out.2.past hb3
    have B4 := BW2.trans (hb3.mono BW2.size)
    have hgl : g < w3.heap.size := cell_lt (hgc 0 hn0)
    have HG := Lib.hid hgc
    have hwg : w.heap.size + 1 + 1 < W.heap.size := HW.out.2.lt
    clear hgc hb3 B1 B2 B3 BW2
    have z0 := Z3.c 0 _ rfl; have z1 := Z3.c 1 _ rfl; have z2 := Z3.c 2 _ rfl; have z3 := Z3.c 3 _ rfl; have z4 := Z3.c 4 _ rfl
    have zf := Z3.f
    clear Z3
    go_wp2_with fail
    refine bodyPost_ret (v := .tuple #[.agg #[.int .i64 x, .int .i64 y, .int .i64 v, .int .i64 h, .slice (some ⟨g, 0, none⟩) n n], .int .i64 0]) (by simp [results, Tryz.results61, go_sem, z0, z1, z2, z3, z4]) rfl ⟨⟨g, rfl, by omega, by simp; omega, fun i hi => ?_⟩, ?_⟩
    · rw [← HG.out i hi]
      simp [go_sem]
    · exact ((((B4.setCell (by first | (simp; done) | (simp; omega) | omega) _).setCell (by first | (simp; done) | (simp; omega) | omega) _).setCell (by first | (simp; done) | (simp; omega) | omega) _).setCell (by first | (simp; done) | (simp; omega) | omega) _).setCell (by first | (simp; done) | (simp; omega) | omega) _
end Go.Proofs.YtbaocallhnehfaaGreatDoor

namespace Go.Proofs.YtbaocallhnehfaaGreatDoor
open Go.RowKit
set_option maxRecDepth 100000 in
set_option maxHeartbeats 1600000 in
theorem Sharpen_fr (x y v h : Int) (a : Option Addr) (n cap : Nat) (amount least : Nat) (w : World) (he : fraErr x y v h n ≠ 0) :
    Calls Tryz.prog 64 #[.agg #[.int .i64 x, .int .i64 y, .int .i64 v, .int .i64 h, .slice a n cap], .float .f32 amount, .float .f32 least] w fun e w' =>
      e = .returned (.tuple #[.agg #[.int .i64 0, .int .i64 0, .int .i64 0, .int .i64 0, .slice none 0 0], .int .i64 (fraErr x y v h n)]) ∧ Below w.heap.size w w' := by
  have hc : (fraErr x y v h n != 0) = true := by simpa using he
  clear he
  go_enter Tryz.func64, Tryz.ntmps64
  go_wp2_with (first | (go_at_call 89; refine (FCheck_any _ _ _ _ _ _ _ _).mono ?_; rintro e w1 ⟨rfl, hb1⟩; obtain ⟨hc1, hf1, hs1⟩ := bcell hb1; simp at hs1; have hq0 : w.heap.size < w1.heap.size := (by omega); have hq1 : w.heap.size + 1 < w1.heap.size := (by omega); have hq2 : w.heap.size + 1 + 1 < w1.heap.size := (by omega); have hq3 : w.heap.size + 1 + 1 + 1 < w1.heap.size := (by omega); have B1 : Below w.heap.size w w1 := (by (repeat (first | exact Below.refl _ _ | assumption | (refine Below.setCell ?_ (by first | (simp; done) | (simp; omega) | omega) _) | (refine Below.drew ?_) | (refine below_drewN ?_ _) | (refine Below.alloc ?_ (by first | (simp; done) | (simp; omega) | omega) _) | (refine Below.trans ?_ (Below.mono (by assumption) (by first | (simp; done) | (simp; omega) | omega)))))); have ZF1 : FrameC w1 (w.heap.size + 1 + 1 + 1) 0 0 0 0 (.slice none 0 0) := FrameC.below (by exact ⟨by simp [go_sem], by simp [go_sem], by simp [go_sem], by simp [go_sem], by simp [go_sem], fun o => by simp [go_sem]⟩) hb1 (by simp); have g1 : w1.cell? ⟨w.heap.size + 1, 0, none⟩ = some (.float .f32 amount) := (by rw [hc1 _ _ (by first | (simp; done) | (simp; omega) | omega)]; simp [go_sem]); have g2 : w1.cell? ⟨w.heap.size + 1 + 1, 0, none⟩ = some (.float .f32 least) := (by rw [hc1 _ _ (by first | (simp; done) | (simp; omega) | omega)]; simp [go_sem]); clear hc1 hf1 hb1; obtain ⟨z0, z1, z2, z3, z4, zf⟩ := ZF1))
  refine bodyPost_ret (v := .tuple #[.agg #[.int .i64 0, .int .i64 0, .int .i64 0, .int .i64 0, .slice none 0 0], .int .i64 (fraErr x y v h n)]) (by simp [results, Tryz.results64, go_sem, z0, z1, z2, z3, z4]) rfl ⟨rfl, ?_⟩
  exact ((((B1.setCell (by first | (simp; done) | (simp; omega) | omega) _).setCell (by first | (simp; done) | (simp; omega) | omega) _).setCell (by first | (simp; done) | (simp; omega) | omega) _).setCell (by first | (simp; done) | (simp; omega) | omega) _).setCell (by first | (simp; done) | (simp; omega) | omega) _
set_option maxRecDepth 100000 in
set_option maxHeartbeats 1600000 in
theorem Sharpen_form (x y v h : Int) (a : Option Addr) (n cap : Nat) (amount least : Nat) (w : World) (he : fraErr x y v h n = 0) (hA : allNum [amount, least] = false) :
    Calls Tryz.prog 64 #[.agg #[.int .i64 x, .int .i64 y, .int .i64 v, .int .i64 h, .slice a n cap], .float .f32 amount, .float .f32 least] w fun e w' =>
      e = .returned (.tuple #[.agg #[.int .i64 0, .int .i64 0, .int .i64 0, .int .i64 0, .slice none 0 0], .int .i64 (2)]) ∧ Below w.heap.size w w' := by
  go_enter Tryz.func64, Tryz.ntmps64
  go_wp2_with (first | (go_at_call 89; refine (FCheck_any _ _ _ _ _ _ _ _).mono ?_; rintro e w1 ⟨rfl, hb1⟩; obtain ⟨hc1, hf1, hs1⟩ := bcell hb1; simp at hs1; have hq0 : w.heap.size < w1.heap.size := (by omega); have hq1 : w.heap.size + 1 < w1.heap.size := (by omega); have hq2 : w.heap.size + 1 + 1 < w1.heap.size := (by omega); have hq3 : w.heap.size + 1 + 1 + 1 < w1.heap.size := (by omega); have B1 : Below w.heap.size w w1 := (by (repeat (first | exact Below.refl _ _ | assumption | (refine Below.setCell ?_ (by first | (simp; done) | (simp; omega) | omega) _) | (refine Below.drew ?_) | (refine below_drewN ?_ _) | (refine Below.alloc ?_ (by first | (simp; done) | (simp; omega) | omega) _) | (refine Below.trans ?_ (Below.mono (by assumption) (by first | (simp; done) | (simp; omega) | omega)))))); have ZF1 : FrameC w1 (w.heap.size + 1 + 1 + 1) 0 0 0 0 (.slice none 0 0) := FrameC.below (by exact ⟨by simp [go_sem], by simp [go_sem], by simp [go_sem], by simp [go_sem], by simp [go_sem], fun o => by simp [go_sem]⟩) hb1 (by simp); have g1 : w1.cell? ⟨w.heap.size + 1, 0, none⟩ = some (.float .f32 amount) := (by rw [hc1 _ _ (by first | (simp; done) | (simp; omega) | omega)]; simp [go_sem]); have g2 : w1.cell? ⟨w.heap.size + 1 + 1, 0, none⟩ = some (.float .f32 least) := (by rw [hc1 _ _ (by first | (simp; done) | (simp; omega) | omega)]; simp [go_sem]); clear hc1 hf1 hb1; rw [he]) | (go_at_call 54; refine (All2_any _ _ _ amount least _ (by simp [go_sem]) (by simp [go_sem])).mono ?_; rintro e w2 ⟨rfl, hw⟩; have B3 : Below w1.heap.size w1 w2 := (by rw [← hw]; (repeat (first | exact Below.refl _ _ | assumption | (refine Below.setCell ?_ (by first | (simp; done) | (simp; omega) | omega) _) | (refine Below.drew ?_) | (refine below_drewN ?_ _) | (refine Below.alloc ?_ (by first | (simp; done) | (simp; omega) | omega) _) | (refine Below.trans ?_ (Below.mono (by assumption) (by first | (simp; done) | (simp; omega) | omega)))))); have ZF := ZF1.below B3 hq3; have h1 := (B3.cell (p := ⟨w.heap.size + 1, 0, none⟩) hq1).trans g1; have h2 := (B3.cell (p := ⟨w.heap.size + 1 + 1, 0, none⟩) hq2).trans g2; have B2 := B1.trans (B3.mono B1.size); clear hw ZF1 g1 g2 B3 B1; obtain ⟨z0, z1, z2, z3, z4, zf⟩ := ZF))
  refine bodyPost_ret (v := .tuple #[.agg #[.int .i64 0, .int .i64 0, .int .i64 0, .int .i64 0, .slice none 0 0], .int .i64 (2)]) (by simp [results, Tryz.results64, go_sem, z0, z1, z2, z3, z4]) rfl ⟨rfl, ?_⟩
  exact ((((B2.setCell (by first | (simp; done) | (simp; omega) | omega) _).setCell (by first | (simp; done) | (simp; omega) | omega) _).setCell (by first | (simp; done) | (simp; omega) | omega) _).setCell (by first | (simp; done) | (simp; omega) | omega) _).setCell (by first | (simp; done) | (simp; omega) | omega) _
set_option maxRecDepth 100000 in
set_option maxHeartbeats 1600000 in
theorem Sharpen_range_a (x y v h : Int) (a : Option Addr) (n cap : Nat) (amount least : Nat) (w : World) (he : fraErr x y v h n = 0) (hA : allNum [amount, least] = true) (k1 : (FloatKind.f32.format.order amount 0 == some .lt) = true) :
    Calls Tryz.prog 64 #[.agg #[.int .i64 x, .int .i64 y, .int .i64 v, .int .i64 h, .slice a n cap], .float .f32 amount, .float .f32 least] w fun e w' =>
      e = .returned (.tuple #[.agg #[.int .i64 0, .int .i64 0, .int .i64 0, .int .i64 0, .slice none 0 0], .int .i64 (3)]) ∧ Below w.heap.size w w' := by
  go_enter Tryz.func64, Tryz.ntmps64
  go_wp2_with (first | (go_at_call 89; refine (FCheck_any _ _ _ _ _ _ _ _).mono ?_; rintro e w1 ⟨rfl, hb1⟩; obtain ⟨hc1, hf1, hs1⟩ := bcell hb1; simp at hs1; have hq0 : w.heap.size < w1.heap.size := (by omega); have hq1 : w.heap.size + 1 < w1.heap.size := (by omega); have hq2 : w.heap.size + 1 + 1 < w1.heap.size := (by omega); have hq3 : w.heap.size + 1 + 1 + 1 < w1.heap.size := (by omega); have B1 : Below w.heap.size w w1 := (by (repeat (first | exact Below.refl _ _ | assumption | (refine Below.setCell ?_ (by first | (simp; done) | (simp; omega) | omega) _) | (refine Below.drew ?_) | (refine below_drewN ?_ _) | (refine Below.alloc ?_ (by first | (simp; done) | (simp; omega) | omega) _) | (refine Below.trans ?_ (Below.mono (by assumption) (by first | (simp; done) | (simp; omega) | omega)))))); have ZF1 : FrameC w1 (w.heap.size + 1 + 1 + 1) 0 0 0 0 (.slice none 0 0) := FrameC.below (by exact ⟨by simp [go_sem], by simp [go_sem], by simp [go_sem], by simp [go_sem], by simp [go_sem], fun o => by simp [go_sem]⟩) hb1 (by simp); have g1 : w1.cell? ⟨w.heap.size + 1, 0, none⟩ = some (.float .f32 amount) := (by rw [hc1 _ _ (by first | (simp; done) | (simp; omega) | omega)]; simp [go_sem]); have g2 : w1.cell? ⟨w.heap.size + 1 + 1, 0, none⟩ = some (.float .f32 least) := (by rw [hc1 _ _ (by first | (simp; done) | (simp; omega) | omega)]; simp [go_sem]); clear hc1 hf1 hb1; rw [he]) | (go_at_call 54; refine (All2_any _ _ _ amount least _ (by simp [go_sem]) (by simp [go_sem])).mono ?_; rintro e w2 ⟨rfl, hw⟩; have B3 : Below w1.heap.size w1 w2 := (by rw [← hw]; (repeat (first | exact Below.refl _ _ | assumption | (refine Below.setCell ?_ (by first | (simp; done) | (simp; omega) | omega) _) | (refine Below.drew ?_) | (refine below_drewN ?_ _) | (refine Below.alloc ?_ (by first | (simp; done) | (simp; omega) | omega) _) | (refine Below.trans ?_ (Below.mono (by assumption) (by first | (simp; done) | (simp; omega) | omega)))))); have ZF := ZF1.below B3 hq3; have h1 := (B3.cell (p := ⟨w.heap.size + 1, 0, none⟩) hq1).trans g1; have h2 := (B3.cell (p := ⟨w.heap.size + 1 + 1, 0, none⟩) hq2).trans g2; have B2 := B1.trans (B3.mono B1.size); clear hw ZF1 g1 g2 B3 B1; obtain ⟨z0, z1, z2, z3, z4, zf⟩ := ZF))
  refine bodyPost_ret (v := .tuple #[.agg #[.int .i64 0, .int .i64 0, .int .i64 0, .int .i64 0, .slice none 0 0], .int .i64 (3)]) (by simp [results, Tryz.results64, go_sem, z0, z1, z2, z3, z4]) rfl ⟨rfl, ?_⟩
  exact ((((B2.setCell (by first | (simp; done) | (simp; omega) | omega) _).setCell (by first | (simp; done) | (simp; omega) | omega) _).setCell (by first | (simp; done) | (simp; omega) | omega) _).setCell (by first | (simp; done) | (simp; omega) | omega) _).setCell (by first | (simp; done) | (simp; omega) | omega) _
set_option maxRecDepth 100000 in
set_option maxHeartbeats 1600000 in
theorem Sharpen_range_b (x y v h : Int) (a : Option Addr) (n cap : Nat) (amount least : Nat) (w : World) (he : fraErr x y v h n = 0) (hA : allNum [amount, least] = true) (k1 : (FloatKind.f32.format.order amount 0 == some .lt) = false) (k2 : (FloatKind.f32.format.order amount 1098907648 == some .gt) = true) :
    Calls Tryz.prog 64 #[.agg #[.int .i64 x, .int .i64 y, .int .i64 v, .int .i64 h, .slice a n cap], .float .f32 amount, .float .f32 least] w fun e w' =>
      e = .returned (.tuple #[.agg #[.int .i64 0, .int .i64 0, .int .i64 0, .int .i64 0, .slice none 0 0], .int .i64 (3)]) ∧ Below w.heap.size w w' := by
  go_enter Tryz.func64, Tryz.ntmps64
  go_wp2_with (first | (go_at_call 89; refine (FCheck_any _ _ _ _ _ _ _ _).mono ?_; rintro e w1 ⟨rfl, hb1⟩; obtain ⟨hc1, hf1, hs1⟩ := bcell hb1; simp at hs1; have hq0 : w.heap.size < w1.heap.size := (by omega); have hq1 : w.heap.size + 1 < w1.heap.size := (by omega); have hq2 : w.heap.size + 1 + 1 < w1.heap.size := (by omega); have hq3 : w.heap.size + 1 + 1 + 1 < w1.heap.size := (by omega); have B1 : Below w.heap.size w w1 := (by (repeat (first | exact Below.refl _ _ | assumption | (refine Below.setCell ?_ (by first | (simp; done) | (simp; omega) | omega) _) | (refine Below.drew ?_) | (refine below_drewN ?_ _) | (refine Below.alloc ?_ (by first | (simp; done) | (simp; omega) | omega) _) | (refine Below.trans ?_ (Below.mono (by assumption) (by first | (simp; done) | (simp; omega) | omega)))))); have ZF1 : FrameC w1 (w.heap.size + 1 + 1 + 1) 0 0 0 0 (.slice none 0 0) := FrameC.below (by exact ⟨by simp [go_sem], by simp [go_sem], by simp [go_sem], by simp [go_sem], by simp [go_sem], fun o => by simp [go_sem]⟩) hb1 (by simp); have g1 : w1.cell? ⟨w.heap.size + 1, 0, none⟩ = some (.float .f32 amount) := (by rw [hc1 _ _ (by first | (simp; done) | (simp; omega) | omega)]; simp [go_sem]); have g2 : w1.cell? ⟨w.heap.size + 1 + 1, 0, none⟩ = some (.float .f32 least) := (by rw [hc1 _ _ (by first | (simp; done) | (simp; omega) | omega)]; simp [go_sem]); clear hc1 hf1 hb1; rw [he]) | (go_at_call 54; refine (All2_any _ _ _ amount least _ (by simp [go_sem]) (by simp [go_sem])).mono ?_; rintro e w2 ⟨rfl, hw⟩; have B3 : Below w1.heap.size w1 w2 := (by rw [← hw]; (repeat (first | exact Below.refl _ _ | assumption | (refine Below.setCell ?_ (by first | (simp; done) | (simp; omega) | omega) _) | (refine Below.drew ?_) | (refine below_drewN ?_ _) | (refine Below.alloc ?_ (by first | (simp; done) | (simp; omega) | omega) _) | (refine Below.trans ?_ (Below.mono (by assumption) (by first | (simp; done) | (simp; omega) | omega)))))); have ZF := ZF1.below B3 hq3; have h1 := (B3.cell (p := ⟨w.heap.size + 1, 0, none⟩) hq1).trans g1; have h2 := (B3.cell (p := ⟨w.heap.size + 1 + 1, 0, none⟩) hq2).trans g2; have B2 := B1.trans (B3.mono B1.size); clear hw ZF1 g1 g2 B3 B1; obtain ⟨z0, z1, z2, z3, z4, zf⟩ := ZF))
  refine bodyPost_ret (v := .tuple #[.agg #[.int .i64 0, .int .i64 0, .int .i64 0, .int .i64 0, .slice none 0 0], .int .i64 (3)]) (by simp [results, Tryz.results64, go_sem, z0, z1, z2, z3, z4]) rfl ⟨rfl, ?_⟩
  exact ((((B2.setCell (by first | (simp; done) | (simp; omega) | omega) _).setCell (by first | (simp; done) | (simp; omega) | omega) _).setCell (by first | (simp; done) | (simp; omega) | omega) _).setCell (by first | (simp; done) | (simp; omega) | omega) _).setCell (by first | (simp; done) | (simp; omega) | omega) _
set_option maxRecDepth 100000 in
set_option maxHeartbeats 1600000 in
theorem Sharpen_range_c (x y v h : Int) (a : Option Addr) (n cap : Nat) (amount least : Nat) (w : World) (he : fraErr x y v h n = 0) (hA : allNum [amount, least] = true) (k1 : (FloatKind.f32.format.order amount 0 == some .lt) = false) (k2 : (FloatKind.f32.format.order amount 1098907648 == some .gt) = false) (k3 : (FloatKind.f32.format.order least 0 == some .lt) = true) :
    Calls Tryz.prog 64 #[.agg #[.int .i64 x, .int .i64 y, .int .i64 v, .int .i64 h, .slice a n cap], .float .f32 amount, .float .f32 least] w fun e w' =>
      e = .returned (.tuple #[.agg #[.int .i64 0, .int .i64 0, .int .i64 0, .int .i64 0, .slice none 0 0], .int .i64 (3)]) ∧ Below w.heap.size w w' := by
  go_enter Tryz.func64, Tryz.ntmps64
  go_wp2_with (first | (go_at_call 89; refine (FCheck_any _ _ _ _ _ _ _ _).mono ?_; rintro e w1 ⟨rfl, hb1⟩; obtain ⟨hc1, hf1, hs1⟩ := bcell hb1; simp at hs1; have hq0 : w.heap.size < w1.heap.size := (by omega); have hq1 : w.heap.size + 1 < w1.heap.size := (by omega); have hq2 : w.heap.size + 1 + 1 < w1.heap.size := (by omega); have hq3 : w.heap.size + 1 + 1 + 1 < w1.heap.size := (by omega); have B1 : Below w.heap.size w w1 := (by (repeat (first | exact Below.refl _ _ | assumption | (refine Below.setCell ?_ (by first | (simp; done) | (simp; omega) | omega) _) | (refine Below.drew ?_) | (refine below_drewN ?_ _) | (refine Below.alloc ?_ (by first | (simp; done) | (simp; omega) | omega) _) | (refine Below.trans ?_ (Below.mono (by assumption) (by first | (simp; done) | (simp; omega) | omega)))))); have ZF1 : FrameC w1 (w.heap.size + 1 + 1 + 1) 0 0 0 0 (.slice none 0 0) := FrameC.below (by exact ⟨by simp [go_sem], by simp [go_sem], by simp [go_sem], by simp [go_sem], by simp [go_sem], fun o => by simp [go_sem]⟩) hb1 (by simp); have g1 : w1.cell? ⟨w.heap.size + 1, 0, none⟩ = some (.float .f32 amount) := (by rw [hc1 _ _ (by first | (simp; done) | (simp; omega) | omega)]; simp [go_sem]); have g2 : w1.cell? ⟨w.heap.size + 1 + 1, 0, none⟩ = some (.float .f32 least) := (by rw [hc1 _ _ (by first | (simp; done) | (simp; omega) | omega)]; simp [go_sem]); clear hc1 hf1 hb1; rw [he]) | (go_at_call 54; refine (All2_any _ _ _ amount least _ (by simp [go_sem]) (by simp [go_sem])).mono ?_; rintro e w2 ⟨rfl, hw⟩; have B3 : Below w1.heap.size w1 w2 := (by rw [← hw]; (repeat (first | exact Below.refl _ _ | assumption | (refine Below.setCell ?_ (by first | (simp; done) | (simp; omega) | omega) _) | (refine Below.drew ?_) | (refine below_drewN ?_ _) | (refine Below.alloc ?_ (by first | (simp; done) | (simp; omega) | omega) _) | (refine Below.trans ?_ (Below.mono (by assumption) (by first | (simp; done) | (simp; omega) | omega)))))); have ZF := ZF1.below B3 hq3; have h1 := (B3.cell (p := ⟨w.heap.size + 1, 0, none⟩) hq1).trans g1; have h2 := (B3.cell (p := ⟨w.heap.size + 1 + 1, 0, none⟩) hq2).trans g2; have B2 := B1.trans (B3.mono B1.size); clear hw ZF1 g1 g2 B3 B1; obtain ⟨z0, z1, z2, z3, z4, zf⟩ := ZF))
  refine bodyPost_ret (v := .tuple #[.agg #[.int .i64 0, .int .i64 0, .int .i64 0, .int .i64 0, .slice none 0 0], .int .i64 (3)]) (by simp [results, Tryz.results64, go_sem, z0, z1, z2, z3, z4]) rfl ⟨rfl, ?_⟩
  exact ((((B2.setCell (by first | (simp; done) | (simp; omega) | omega) _).setCell (by first | (simp; done) | (simp; omega) | omega) _).setCell (by first | (simp; done) | (simp; omega) | omega) _).setCell (by first | (simp; done) | (simp; omega) | omega) _).setCell (by first | (simp; done) | (simp; omega) | omega) _
theorem Sharpen_no (x y v h : Int) (a : Option Addr) (n cap : Nat) (amount least : Nat) (w : World) (hE : firstE (fraErr x y v h n) (shE amount least) ≠ 0) :
    Calls Tryz.prog 64 #[.agg #[.int .i64 x, .int .i64 y, .int .i64 v, .int .i64 h, .slice a n cap], .float .f32 amount, .float .f32 least] w fun e w' =>
      e = .returned (.tuple #[.agg #[.int .i64 0, .int .i64 0, .int .i64 0, .int .i64 0, .slice none 0 0], .int .i64 (firstE (fraErr x y v h n) (shE amount least))]) ∧ Below w.heap.size w w' := by
  by_cases he : fraErr x y v h n = 0
  · have eW : firstE (fraErr x y v h n) (shE amount least) = shE amount least := by rw [he]; rfl
    rw [eW] at hE ⊢
    cases hA : allNum [amount, least]
    · have eX : shE amount least = 2 := by unfold shE; rw [hA]; rfl
      rw [eX]
      exact Sharpen_form x y v h a n cap amount least w he hA
    · have hB : shBad amount least = true := by
        unfold shE at hE; rw [hA, if_pos rfl] at hE
        cases h2 : shBad amount least
        · rw [h2] at hE; exact absurd rfl hE
        · rfl
      have eX : shE amount least = 3 := by unfold shE; rw [hA, if_pos rfl, hB]; rfl
      rw [eX]
      unfold shBad at hB
      cases k1 : (FloatKind.f32.format.order amount 0 == some .lt)
      · cases k2 : (FloatKind.f32.format.order amount 1098907648 == some .gt)
        · rw [k1, k2] at hB
          exact Sharpen_range_c x y v h a n cap amount least w he hA k1 k2 (by simpa using hB)
        · exact Sharpen_range_b x y v h a n cap amount least w he hA k1 k2
      · exact Sharpen_range_a x y v h a n cap amount least w he hA k1
  · rw [firstE_of _ he]
    exact Sharpen_fr x y v h a n cap amount least w he
end Go.Proofs.YtbaocallhnehfaaGreatDoor

namespace Go.Proofs.YtbaocallhnehfaaGreatDoor
open Go Go.RowKit
theorem reals_at {w : World} {a : Option Addr} {l : List Nat} (h : RealsAt 0 w a l) (hl : 0 < l.length) : ∃ b off, a = some ⟨b, off, none⟩ ∧ ∀ i v, l[i]? = some v → w.cell? ⟨b, off + i, none⟩ = some (.float .f32 v) := by
  rcases h with h | ⟨b, off, h, -, -, hc⟩
  · subst h; simp at hl
  · exact ⟨b, off, h, hc⟩
def dotV (g : Nat) : Value := .agg #[.int .i64 0, .int .i64 0, .int .i64 1, .int .i64 1, .slice (some ⟨g, 0, none⟩) 4 4]
def pix0 : Value := .agg #[.float .f32 0, .float .f32 0, .float .f32 0, .float .f32 0]
set_option maxRecDepth 100000 in
set_option maxHeartbeats 1600000 in
theorem dot_any (w : World) : Calls Tryz.prog 62 #[.int .i64 0, .int .i64 0, .agg #[.float .f32 0, .float .f32 0, .float .f32 0, .float .f32 0]] w fun e w' => e = .returned (.agg #[.int .i64 0, .int .i64 0, .int .i64 1, .int .i64 1, .slice (some ⟨w.heap.size, 0, none⟩) 4 4]) ∧ Blk w' w.heap.size [.float .f32 0, .float .f32 0, .float .f32 0, .float .f32 0] ∧ Below w.heap.size w w' := by
  go_enter Tryz.func62, Tryz.ntmps62
  go_upto_region 1 with fail
  refine wp_world (fun W hW => ?_)
  have HW : Hid (Below w.heap.size w W ∧ Blk W w.heap.size [.float .f32 0, .float .f32 0, .float .f32 0, .float .f32 0] ∧ Blk W (w.heap.size + 1) [.int .i64 0, .int .i64 0, .int .i64 0, .int .i64 0, .slice none 0 0]) := Lib.hid (by rw [hW]; exact ⟨by (repeat (first | exact Below.refl _ _ | assumption | (refine Below.setCell ?_ (by first | (simp; done) | (simp; omega) | omega) _) | (refine Below.drew ?_) | (refine below_drewN ?_ _) | (refine Below.alloc ?_ (by first | (simp; done) | (simp; omega) | omega) _) | (refine Below.trans ?_ (Below.mono (by assumption) (by first | (simp; done) | (simp; omega) | omega))))), (Blk.new _ _ _ _ rfl).alloc _, by simpa using Blk.new (w.alloc (.cells #[.float .f32 0, .float .f32 0, .float .f32 0, .float .f32 0] 109)) _ _ _ rfl⟩)
  have z0 := HW.out.2.2.c 0 _ rfl
  have z1 := HW.out.2.2.c 1 _ rfl
  have z2 := HW.out.2.2.c 2 _ rfl
  have z3 := HW.out.2.2.c 3 _ rfl
  have z4 := HW.out.2.2.c 4 _ rfl
  have zl := HW.out.2.2.lt; have zf := HW.out.2.2.f
  have y0 := HW.out.2.1.c 0 _ rfl
  have y1 := HW.out.2.1.c 1 _ rfl
  have y2 := HW.out.2.1.c 2 _ rfl
  have y3 := HW.out.2.1.c 3 _ rfl
  have yl := HW.out.2.1.lt; have yf := HW.out.2.1.f
  clear hW
  go_wp2_with fail
  refine bodyPost_retN (v := .agg #[.int .i64 0, .int .i64 0, .int .i64 1, .int .i64 1, .slice (some ⟨w.heap.size, 0, none⟩) 4 4]) (by simp [results, Tryz.results62, go_sem, z0, z1, z2, z3, z4]) rfl (fun WF hWF => ?_)
  have hT : Tch (fun b => b = w.heap.size + 1) W WF := by rw [hWF]; exact (((((Tch.refl (fun b => b = w.heap.size + 1) W).set ⟨w.heap.size + 1, 0, none⟩ _ rfl).set ⟨w.heap.size + 1, 1, none⟩ _ rfl).set ⟨w.heap.size + 1, 2, none⟩ _ rfl).set ⟨w.heap.size + 1, 3, none⟩ _ rfl).set ⟨w.heap.size + 1, 4, none⟩ _ rfl
  exact ⟨rfl, HW.out.2.1.tch hT (by omega), below_own HW.out.1 hT (Nat.le_succ _)⟩
theorem dot_fra : fraErr 0 0 1 1 4 = 0 := by decide +kernel
theorem dot_cells {w : World} {g : Nat} (h : Blk w g [.float .f32 0, .float .f32 0, .float .f32 0, .float .f32 0]) : ∀ i, i < 4 → w.cell? ⟨g, 0 + i, none⟩ = some (.float .f32 0) := fun i hi => by
  match i, hi with
  | 0, _ => exact h.c 0 _ rfl
  | 1, _ => exact h.c 1 _ rfl
  | 2, _ => exact h.c 2 _ rfl
  | 3, _ => exact h.c 3 _ rfl
theorem Vig_dot (g : Nat) (vx vy vi vo vd : Nat) (w : World) (h : Blk w g [.float .f32 0, .float .f32 0, .float .f32 0, .float .f32 0]) :
    Calls Tryz.prog 61 #[.agg #[.int .i64 0, .int .i64 0, .int .i64 1, .int .i64 1, .slice (some ⟨g, 0, none⟩) 4 4], .agg #[.float .f32 vx, .float .f32 vy, .float .f32 vi, .float .f32 vo, .float .f32 vd]] w fun e w' => (∃ F, e = .returned (.tuple #[F, .int .i64 (vigE vx vy vi vo vd)])) ∧ Below w.heap.size w w' := by
  by_cases hE : vigE vx vy vi vo vd = 0
  · refine (Vignette_yes 0 0 1 1 g 0 4 4 (fun _ => 0) vx vy vi vo vd w dot_fra hE (Nat.le_refl _) (by decide) (dot_cells h) (fun _ _ => by decide)).mono ?_
    rintro e w' ⟨⟨g', rfl, -, -, -⟩, hb⟩
    exact ⟨⟨_, by rw [hE]⟩, hb⟩
  · refine (Vignette_own 0 0 1 1 (some ⟨g, 0, none⟩) 4 4 vx vy vi vo vd w dot_fra _ rfl hE).mono ?_
    rintro e w' ⟨rfl, hb⟩
    exact ⟨⟨_, rfl⟩, hb⟩
theorem Sha_dot (g : Nat) (am le : Nat) (w : World) (h : Blk w g [.float .f32 0, .float .f32 0, .float .f32 0, .float .f32 0]) :
    Calls Tryz.prog 64 #[.agg #[.int .i64 0, .int .i64 0, .int .i64 1, .int .i64 1, .slice (some ⟨g, 0, none⟩) 4 4], .float .f32 am, .float .f32 le] w fun e w' => (∃ F, e = .returned (.tuple #[F, .int .i64 (shE am le)])) ∧ Below w.heap.size w w' := by
  by_cases hE : shE am le = 0
  · refine (Sharpen_yes 0 0 1 1 g 0 4 4 (fun _ => 0) am le w dot_fra hE (Nat.le_refl _) (by decide) (dot_cells h) (fun _ _ => by decide)).mono ?_
    rintro e w' ⟨⟨g', rfl, -, -, -⟩, hb⟩
    exact ⟨⟨_, by rw [hE]⟩, hb⟩
  · have h1 : firstE (fraErr 0 0 1 1 4) (shE am le) = shE am le := by rw [dot_fra]; rfl
    refine (Sharpen_no 0 0 1 1 (some ⟨g, 0, none⟩) 4 4 am le w (by rw [h1]; exact hE)).mono ?_
    rintro e w' ⟨rfl, hb⟩
    exact ⟨⟨_, by rw [h1]⟩, hb⟩
set_option maxRecDepth 100000 in
set_option maxHeartbeats 3200000 in
theorem par_tone (ai ar : Option Addr) (ci cr : Nat) (is : List Int) (rs : List Nat) (w : World) (hni : is.length = 1) (hnr : rs.length = 2) (hi : IntsAt 0 w ai is) (hr : RealsAt 0 w ar rs) : Calls Tryz.prog 30 #[.string ⟨#[116, 111, 110, 101]⟩, .slice ai 1 ci, .slice ar 2 cr] w fun e w' => e = .returned (.int .i64 (paE 7 is rs)) ∧ Below w.heap.size w w' := by
  obtain ⟨i0, his⟩ : ∃ i0, is = [i0] := by match is, hni with | [a0], _ => exact ⟨a0, rfl⟩
  subst his
  obtain ⟨r0, r1, hrs⟩ : ∃ r0 r1, rs = [r0, r1] := by match rs, hnr with | [a0, a1], _ => exact ⟨a0, a1, rfl⟩
  subst hrs
  have HN := Lib.hid (allN_at ar 2 cr [r0, r1] w hnr (by decide) hr)
  have HB := Lib.hid (bey_tone ai ci i0 w hi)
  obtain ⟨bi, oi, rfl, hic⟩ := ints_at hi (by simp)
  have HI := Lib.hid hic
  clear hic
  obtain ⟨br, ro, rfl, hrc⟩ := reals_at hr (by simp)
  have HR := Lib.hid hrc
  clear hrc
  clear hi hr hni hnr
  cases hA : allNum [r0, r1]
  case false =>
    rw [paE_form (by decide) hA]
    rw [hA] at HN
    go_enter Tryz.func30, Tryz.ntmps30
    go_wp2_with (first | (go_at_call 54; refine (HN.out).mono ?_; rintro e w1 ⟨rfl, rfl⟩))
    go_ret
    exact ⟨rfl, Below.refl _ _⟩
  case true =>
    rw [hA] at HN
    cases hB : rngK 7 [i0]
    case false =>
      have hE : paE 7 [i0] [r0, r1] = 3 := by rw [paE_rest (.inr hA), hB]; rfl
      rw [hE]; clear hE
      rw [hB] at HB
      go_enter Tryz.func30, Tryz.ntmps30
      go_wp2_with (first | (go_at_call 54; refine (HN.out).mono ?_; rintro e w1 ⟨rfl, rfl⟩) | (go_at_call 55; refine (HB.out).mono ?_; rintro e w1 ⟨rfl, hb⟩))
      go_ret
      exact ⟨rfl, hb⟩
    case true =>
      have hE : paE 7 [i0] [r0, r1] = toneE i0 r0 r1 := by rw [paE_rest (.inr hA), hB]; rfl
      rw [hE]; clear hE
      rw [hB] at HB
      clear hA hB
      go_enter Tryz.func30, Tryz.ntmps30
      go_wp2_with (first | (go_at_call 54; refine (HN.out).mono ?_; rintro e w1 ⟨rfl, rfl⟩) | (go_at_call 55; refine (HB.out).mono ?_; rintro e w1 ⟨rfl, hb⟩) | (go_at_call 57; refine (mk_tone bi oi i0 br ro r0 r1 ci cr 1 2 (by decide) (by decide) _ (((hb).cell (p := ⟨bi, oi, none⟩) (cell_lt (HI.out 0 _ rfl))).trans (HI.out 0 _ rfl)) (((hb).cell (p := ⟨br, ro, none⟩) (cell_lt (HR.out 0 _ rfl))).trans (HR.out 0 _ rfl)) (((hb).cell (p := ⟨br, ro + 1, none⟩) (cell_lt (HR.out 1 _ rfl))).trans (HR.out 1 _ rfl))).mono ?_; rintro e w2 ⟨rfl, hb2⟩) | (go_at_call 56; refine (CheckTone_any _ _ _ _).mono ?_; rintro e w3 ⟨rfl, hb3⟩))
      go_ret
      exact ⟨rfl, hb.trans ((hb2.trans (hb3.mono hb2.size)).mono hb.size)⟩
set_option maxRecDepth 100000 in
set_option maxHeartbeats 3200000 in
theorem par_compress (ai ar : Option Addr) (ci cr : Nat) (is : List Int) (rs : List Nat) (w : World) (hni : is.length = 0) (hnr : rs.length = 1) (hi : IntsAt 0 w ai is) (hr : RealsAt 0 w ar rs) : Calls Tryz.prog 30 #[.string ⟨#[99, 111, 109, 112, 114, 101, 115, 115]⟩, .slice ai 0 ci, .slice ar 1 cr] w fun e w' => e = .returned (.int .i64 (paE 9 is rs)) ∧ Below w.heap.size w w' := by
  obtain rfl : is = [] := List.eq_nil_of_length_eq_zero hni
  clear hi
  obtain ⟨r0, hrs⟩ : ∃ r0, rs = [r0] := by match rs, hnr with | [a0], _ => exact ⟨a0, rfl⟩
  subst hrs
  have HN := Lib.hid (allN_at ar 1 cr [r0] w hnr (by decide) hr)
  have HB := Lib.hid (bey_compress ai ci w)
  obtain ⟨br, ro, rfl, hrc⟩ := reals_at hr (by simp)
  have HR := Lib.hid hrc
  clear hrc
  clear hr hni hnr
  cases hA : allNum [r0]
  case false =>
    rw [paE_form (by decide) hA]
    rw [hA] at HN
    go_enter Tryz.func30, Tryz.ntmps30
    go_wp2_with (first | (go_at_call 54; refine (HN.out).mono ?_; rintro e w1 ⟨rfl, rfl⟩))
    go_ret
    exact ⟨rfl, Below.refl _ _⟩
  case true =>
    rw [hA] at HN
    cases hB : rngK 9 []
    case false =>
      exact absurd hB (by simp [rngK])
    case true =>
      have hE : paE 9 [] [r0] = cmpE r0 := by rw [paE_rest (.inr hA), hB]; rfl
      rw [hE]; clear hE
      rw [hB] at HB
      clear hA hB
      go_enter Tryz.func30, Tryz.ntmps30
      go_wp2_with (first | (go_at_call 54; refine (HN.out).mono ?_; rintro e w1 ⟨rfl, rfl⟩) | (go_at_call 55; refine (HB.out).mono ?_; rintro e w1 ⟨rfl, hb⟩; have d0 := (hb.cell (p := ⟨br, ro, none⟩) (cell_lt (HR.out 0 _ rfl))).trans (HR.out 0 _ rfl); have dl := cell_lt d0; simp only at dl) | (go_at_call 58; refine (Compress_any 0 0 0 0 r0 _ (by decide) (by decide) (by decide)).mono ?_; rintro e w3 ⟨q0, q1, q2, q3, rfl, -, -, hb3⟩))
      go_ret
      exact ⟨rfl, hb.trans (hb3.mono hb.size)⟩
set_option maxRecDepth 100000 in
set_option maxHeartbeats 3200000 in
theorem par_grain (ai ar : Option Addr) (ci cr : Nat) (is : List Int) (rs : List Nat) (w : World) (hni : is.length = 3) (hnr : rs.length = 2) (hi : IntsAt 0 w ai is) (hr : RealsAt 0 w ar rs) : Calls Tryz.prog 30 #[.string ⟨#[103, 114, 97, 105, 110]⟩, .slice ai 3 ci, .slice ar 2 cr] w fun e w' => e = .returned (.int .i64 (paE 10 is rs)) ∧ Below w.heap.size w w' := by
  obtain ⟨i0, i1, i2, his⟩ : ∃ i0 i1 i2, is = [i0, i1, i2] := by match is, hni with | [a0, a1, a2], _ => exact ⟨a0, a1, a2, rfl⟩
  subst his
  obtain ⟨r0, r1, hrs⟩ : ∃ r0 r1, rs = [r0, r1] := by match rs, hnr with | [a0, a1], _ => exact ⟨a0, a1, rfl⟩
  subst hrs
  have HN := Lib.hid (allN_at ar 2 cr [r0, r1] w hnr (by decide) hr)
  have HB := Lib.hid (bey_grain ai ci i0 i1 i2 w hi)
  obtain ⟨bi, oi, rfl, hic⟩ := ints_at hi (by simp)
  have HI := Lib.hid hic
  clear hic
  obtain ⟨br, ro, rfl, hrc⟩ := reals_at hr (by simp)
  have HR := Lib.hid hrc
  clear hrc
  clear hi hr hni hnr
  cases hA : allNum [r0, r1]
  case false =>
    rw [paE_form (by decide) hA]
    rw [hA] at HN
    go_enter Tryz.func30, Tryz.ntmps30
    go_wp2_with (first | (go_at_call 54; refine (HN.out).mono ?_; rintro e w1 ⟨rfl, rfl⟩))
    go_ret
    exact ⟨rfl, Below.refl _ _⟩
  case true =>
    rw [hA] at HN
    cases hB : rngK 10 [i0, i1, i2]
    case false =>
      have hE : paE 10 [i0, i1, i2] [r0, r1] = 3 := by rw [paE_rest (.inr hA), hB]; rfl
      rw [hE]; clear hE
      rw [hB] at HB
      go_enter Tryz.func30, Tryz.ntmps30
      go_wp2_with (first | (go_at_call 54; refine (HN.out).mono ?_; rintro e w1 ⟨rfl, rfl⟩) | (go_at_call 55; refine (HB.out).mono ?_; rintro e w1 ⟨rfl, hb⟩))
      go_ret
      exact ⟨rfl, hb⟩
    case true =>
      have hE : paE 10 [i0, i1, i2] [r0, r1] = graE i1 r0 r1 := by rw [paE_rest (.inr hA), hB]; rfl
      rw [hE]; clear hE
      rw [hB] at HB
      clear hA hB
      go_enter Tryz.func30, Tryz.ntmps30
      go_wp2_with (first | (go_at_call 54; refine (HN.out).mono ?_; rintro e w1 ⟨rfl, rfl⟩) | (go_at_call 55; refine (HB.out).mono ?_; rintro e w1 ⟨rfl, hb⟩) | (go_at_call 60; refine (mk_grain bi oi i0 i1 i2 br ro r0 r1 ci cr 3 2 (by decide) (by decide) _ (((hb).cell (p := ⟨bi, oi, none⟩) (cell_lt (HI.out 0 _ rfl))).trans (HI.out 0 _ rfl)) (((hb).cell (p := ⟨bi, oi + 1, none⟩) (cell_lt (HI.out 1 _ rfl))).trans (HI.out 1 _ rfl)) (((hb).cell (p := ⟨bi, oi + 2, none⟩) (cell_lt (HI.out 2 _ rfl))).trans (HI.out 2 _ rfl)) (((hb).cell (p := ⟨br, ro, none⟩) (cell_lt (HR.out 0 _ rfl))).trans (HR.out 0 _ rfl)) (((hb).cell (p := ⟨br, ro + 1, none⟩) (cell_lt (HR.out 1 _ rfl))).trans (HR.out 1 _ rfl))).mono ?_; rintro e w2 ⟨rfl, hb2⟩) | (go_at_call 59; refine (CheckGrain_any _ _ _ _ _ _).mono ?_; rintro e w3 ⟨rfl, hb3⟩))
      go_ret
      exact ⟨rfl, hb.trans ((hb2.trans (hb3.mono hb2.size)).mono hb.size)⟩
set_option maxRecDepth 100000 in
set_option maxHeartbeats 3200000 in
theorem par_vignette (ai ar : Option Addr) (ci cr : Nat) (is : List Int) (rs : List Nat) (w : World) (hni : is.length = 0) (hnr : rs.length = 5) (hi : IntsAt 0 w ai is) (hr : RealsAt 0 w ar rs) : Calls Tryz.prog 30 #[.string ⟨#[118, 105, 103, 110, 101, 116, 116, 101]⟩, .slice ai 0 ci, .slice ar 5 cr] w fun e w' => e = .returned (.int .i64 (paE 11 is rs)) ∧ Below w.heap.size w w' := by
  obtain rfl : is = [] := List.eq_nil_of_length_eq_zero hni
  clear hi
  obtain ⟨r0, r1, r2, r3, r4, hrs⟩ : ∃ r0 r1 r2 r3 r4, rs = [r0, r1, r2, r3, r4] := by match rs, hnr with | [a0, a1, a2, a3, a4], _ => exact ⟨a0, a1, a2, a3, a4, rfl⟩
  subst hrs
  have HN := Lib.hid (allN_at ar 5 cr [r0, r1, r2, r3, r4] w hnr (by decide) hr)
  have HB := Lib.hid (bey_vignette ai ci w)
  obtain ⟨br, ro, rfl, hrc⟩ := reals_at hr (by simp)
  have HR := Lib.hid hrc
  clear hrc
  clear hr hni hnr
  cases hA : allNum [r0, r1, r2, r3, r4]
  case false =>
    rw [paE_form (by decide) hA]
    rw [hA] at HN
    go_enter Tryz.func30, Tryz.ntmps30
    go_wp2_with (first | (go_at_call 54; refine (HN.out).mono ?_; rintro e w1 ⟨rfl, rfl⟩))
    go_ret
    exact ⟨rfl, Below.refl _ _⟩
  case true =>
    rw [hA] at HN
    cases hB : rngK 11 []
    case false =>
      exact absurd hB (by simp [rngK])
    case true =>
      have hE : paE 11 [] [r0, r1, r2, r3, r4] = vigE r0 r1 r2 r3 r4 := by rw [paE_rest (.inr hA), hB]; rfl
      rw [hE]; clear hE
      rw [hB] at HB
      clear hA hB
      go_enter Tryz.func30, Tryz.ntmps30
      go_wp2_with (first | (go_at_call 54; refine (HN.out).mono ?_; rintro e w1 ⟨rfl, rfl⟩) | (go_at_call 55; refine (HB.out).mono ?_; rintro e w1 ⟨rfl, hb⟩) | (go_at_call 62; refine (dot_any _).mono ?_; rintro e w2 ⟨rfl, hk2, hb2⟩; have HD := Lib.hid (And.intro hk2 (hb.trans (hb2.mono hb.size))); clear hk2 hb2) | (go_at_call 63; refine (mk_vignette br ro r0 r1 r2 r3 r4 cr 5 (by decide) _ (((HD.out.2).cell (p := ⟨br, ro, none⟩) (cell_lt (HR.out 0 _ rfl))).trans (HR.out 0 _ rfl)) (((HD.out.2).cell (p := ⟨br, ro + 1, none⟩) (cell_lt (HR.out 1 _ rfl))).trans (HR.out 1 _ rfl)) (((HD.out.2).cell (p := ⟨br, ro + 2, none⟩) (cell_lt (HR.out 2 _ rfl))).trans (HR.out 2 _ rfl)) (((HD.out.2).cell (p := ⟨br, ro + 3, none⟩) (cell_lt (HR.out 3 _ rfl))).trans (HR.out 3 _ rfl)) (((HD.out.2).cell (p := ⟨br, ro + 4, none⟩) (cell_lt (HR.out 4 _ rfl))).trans (HR.out 4 _ rfl))).mono ?_; rintro e w3 ⟨rfl, hb3⟩; replace HD := Lib.hid (And.intro (HD.out.1.past hb3) (HD.out.2.trans (hb3.mono HD.out.2.size))); clear hb3) | (go_at_call 61; refine (Vig_dot _ _ _ _ _ _ _ HD.out.1).mono ?_; rintro e w4 ⟨⟨FF, rfl⟩, hb4⟩))
      go_ret
      exact ⟨rfl, HD.out.2.trans (hb4.mono HD.out.2.size)⟩
set_option maxRecDepth 100000 in
set_option maxHeartbeats 3200000 in
theorem par_sharpen (ai ar : Option Addr) (ci cr : Nat) (is : List Int) (rs : List Nat) (w : World) (hni : is.length = 0) (hnr : rs.length = 2) (hi : IntsAt 0 w ai is) (hr : RealsAt 0 w ar rs) : Calls Tryz.prog 30 #[.string ⟨#[115, 104, 97, 114, 112, 101, 110]⟩, .slice ai 0 ci, .slice ar 2 cr] w fun e w' => e = .returned (.int .i64 (paE 12 is rs)) ∧ Below w.heap.size w w' := by
  obtain rfl : is = [] := List.eq_nil_of_length_eq_zero hni
  clear hi
  obtain ⟨r0, r1, hrs⟩ : ∃ r0 r1, rs = [r0, r1] := by match rs, hnr with | [a0, a1], _ => exact ⟨a0, a1, rfl⟩
  subst hrs
  have HN := Lib.hid (allN_at ar 2 cr [r0, r1] w hnr (by decide) hr)
  have HB := Lib.hid (bey_sharpen ai ci w)
  obtain ⟨br, ro, rfl, hrc⟩ := reals_at hr (by simp)
  have HR := Lib.hid hrc
  clear hrc
  clear hr hni hnr
  cases hA : allNum [r0, r1]
  case false =>
    rw [paE_form (by decide) hA]
    rw [hA] at HN
    go_enter Tryz.func30, Tryz.ntmps30
    go_wp2_with (first | (go_at_call 54; refine (HN.out).mono ?_; rintro e w1 ⟨rfl, rfl⟩))
    go_ret
    exact ⟨rfl, Below.refl _ _⟩
  case true =>
    rw [hA] at HN
    cases hB : rngK 12 []
    case false =>
      exact absurd hB (by simp [rngK])
    case true =>
      have hE : paE 12 [] [r0, r1] = shE r0 r1 := by rw [paE_rest (.inr hA), hB]; rfl
      rw [hE]; clear hE
      rw [hB] at HB
      clear hA hB
      go_enter Tryz.func30, Tryz.ntmps30
      go_upto_region 16 with (first | (go_at_call 54; refine (HN.out).mono ?_; rintro e w1 ⟨rfl, rfl⟩) | (go_at_call 55; refine (HB.out).mono ?_; rintro e w1 ⟨rfl, hb⟩))
      have d0 := (hb.cell (p := ⟨br, ro, none⟩) (cell_lt (HR.out 0 _ rfl))).trans (HR.out 0 _ rfl)
      have d1 := (hb.cell (p := ⟨br, ro + 1, none⟩) (cell_lt (HR.out 1 _ rfl))).trans (HR.out 1 _ rfl)
      have HCP : Hid (∀ w', Below w1.heap.size w1 w' → w'.cell? ⟨br, ro, none⟩ = some (.float .f32 r0) ∧ w'.cell? ⟨br, ro + 1, none⟩ = some (.float .f32 r1)) := Lib.hid (fun w' h' => ⟨(h'.cell (p := ⟨br, ro, none⟩) (cell_lt d0)).trans d0, (h'.cell (p := ⟨br, ro + 1, none⟩) (cell_lt d1)).trans d1⟩)
      refine wp_region_C (fun w' => w'.cell? ⟨br, ro, none⟩ = some (.float .f32 r0) ∧ w'.cell? ⟨br, ro + 1, none⟩ = some (.float .f32 r1)) 8 13 (by kernel_rfl) rfl ?_
      have hC := HCP.out w1.drew ((Below.refl _ _).drew)
      clear d0 d1
      refine wpAnyC_take (i := 0) (v := .agg #[.float .f32 0, .float .f32 0, .float .f32 0, .float .f32 0]) rfl (by kernel_rfl) (by kernel_rfl) (fun _ _ _ h => h) (.inl ⟨rfl, fun w' hw' => ?_⟩) hC ?_
      · obtain ⟨k0, k1⟩ := hw'
        go_simp
      refine wpAnyC_act (by rfl) ?_
      simp only [Act.put, List.setIfInBounds_toArray, List.set_cons_zero, List.set_cons_succ]
      refine wpAnyC_take (i := 2) (v := .slice (some ⟨br, ro, none⟩) 2 cr) rfl (by kernel_rfl) (by kernel_rfl) (fun _ _ _ h => h) (.inl ⟨rfl, fun w' hw' => ?_⟩) hC ?_
      · obtain ⟨k0, k1⟩ := hw'
        go_simp
      refine wpAnyC_act (by rfl) ?_
      simp only [Act.put, List.setIfInBounds_toArray, List.set_cons_zero, List.set_cons_succ]
      refine wpAnyC_take (i := 3) (v := .pointer (some ⟨br, ro, none⟩)) rfl (by kernel_rfl) (by kernel_rfl) (fun _ _ _ h => h) (.inl ⟨rfl, fun w' hw' => ?_⟩) hC ?_
      · obtain ⟨k0, k1⟩ := hw'
        go_simp
      refine wpAnyC_act (by rfl) ?_
      simp only [Act.put, List.setIfInBounds_toArray, List.set_cons_zero, List.set_cons_succ]
      refine wpAnyC_take (i := 4) (v := .float .f32 r0) rfl (by kernel_rfl) (by kernel_rfl) (fun _ _ _ h => h) (.inl ⟨rfl, fun w' hw' => ?_⟩) hC ?_
      · obtain ⟨k0, k1⟩ := hw'
        go_simp
      refine wpAnyC_act (by rfl) ?_
      simp only [Act.put, List.setIfInBounds_toArray, List.set_cons_zero, List.set_cons_succ]
      refine wpAnyC_take (i := 5) (v := .slice (some ⟨br, ro, none⟩) 2 cr) rfl (by kernel_rfl) (by kernel_rfl) (fun _ _ _ h => h) (.inl ⟨rfl, fun w' hw' => ?_⟩) hC ?_
      · obtain ⟨k0, k1⟩ := hw'
        go_simp
      refine wpAnyC_act (by rfl) ?_
      simp only [Act.put, List.setIfInBounds_toArray, List.set_cons_zero, List.set_cons_succ]
      refine wpAnyC_take (i := 6) (v := .pointer (some ⟨br, ro + 1, none⟩)) rfl (by kernel_rfl) (by kernel_rfl) (fun _ _ _ h => h) (.inl ⟨rfl, fun w' hw' => ?_⟩) hC ?_
      · obtain ⟨k0, k1⟩ := hw'
        go_simp
      refine wpAnyC_act (by rfl) ?_
      simp only [Act.put, List.setIfInBounds_toArray, List.set_cons_zero, List.set_cons_succ]
      refine wpAnyC_take (i := 7) (v := .float .f32 r1) rfl (by kernel_rfl) (by kernel_rfl) (fun _ _ _ h => h) (.inl ⟨rfl, fun w' hw' => ?_⟩) hC ?_
      · obtain ⟨k0, k1⟩ := hw'
        go_simp
      refine wpAnyC_act (by rfl) ?_
      simp only [Act.put, List.setIfInBounds_toArray, List.set_cons_zero, List.set_cons_succ]
      refine wpAnyC_one (i := 1) rfl (by kernel_rfl) (fun K hK => ?_)
      go_simp
      refine (dot_any _).mono ?_
      rintro e w2 ⟨rfl, hk2, hb2⟩
      have hbD : Below w1.heap.size w1 w2 := ((Below.refl _ _).drew).trans (hb2.mono (by simp))
      have HD := Lib.hid (And.intro hk2 (hb.trans (hbD.mono hb.size)))
      go_simp
      refine hK _ _ (fun _ => HCP.out _ hbD) ?_
      clear hK K hC hk2 hb2 hbD
      refine wpAnyC_one (i := 8) rfl (by kernel_rfl) (fun K hK => ?_)
      go_simp
      refine (Sha_dot _ _ _ _ HD.out.1).mono ?_
      rintro e w3 ⟨⟨FF, rfl⟩, hb3⟩
      go_simp
      refine hK _ _ (fun h => by rw [getD_setSelf] at h; cases h) ?_
      clear hK K
      refine wpAnyC_one (i := 9) rfl (by kernel_rfl) (fun K hK => ?_)
      go_simp
      refine hK _ _ (fun h => by rw [getD_setC (by decide)] at h; rw [getD_setSelf] at h; cases h) ?_
      clear hK K
      refine wpAnyC_takeU (i := 10) (v := FF) rfl (by kernel_rfl) (fun _ _ _ h => h) (.inl ⟨rfl, fun w' _ => ?_⟩) (fun h => by rw [getD_setC (by decide), getD_setSelf] at h; cases h) ?_
      · go_simp
      refine wpAnyC_act (by rfl) ?_
      simp only [Act.put, List.setIfInBounds_toArray, List.set_cons_zero, List.set_cons_succ]
      refine wpAnyC_one (i := 11) rfl (by kernel_rfl) (fun K hK => ?_)
      go_simp
      refine hK _ _ (fun h => by rw [getD_setC (by decide)] at h; rw [getD_setC (by decide)] at h; rw [getD_setC (by decide)] at h; rw [getD_setSelf] at h; cases h) ?_
      clear hK K
      refine wpAnyC_one (i := 12) rfl (by kernel_rfl) (fun K hK => ?_)
      go_simp
      refine hK _ _ (fun h => by rw [getD_setC (by decide)] at h; rw [getD_setC (by decide)] at h; rw [getD_setC (by decide)] at h; rw [getD_setC (by decide)] at h; rw [getD_setSelf] at h; cases h) ?_
      clear hK K
      refine wpAnyC_done (by kernel_rfl) ?_
      go_wp2_with fail
      go_ret
      exact ⟨rfl, HD.out.2.trans (hb3.mono HD.out.2.size)⟩
set_option maxRecDepth 100000 in
set_option maxHeartbeats 3200000 in
theorem par_luma (ai ar : Option Addr) (ci cr : Nat) (is : List Int) (rs : List Nat) (w : World) (hni : is.length = 0) (hnr : rs.length = 3) (hi : IntsAt 0 w ai is) (hr : RealsAt 0 w ar rs) : Calls Tryz.prog 30 #[.string ⟨#[108, 117, 109, 97]⟩, .slice ai 0 ci, .slice ar 3 cr] w fun e w' => e = .returned (.int .i64 (paE 19 is rs)) ∧ Below w.heap.size w w' := by
  obtain rfl : is = [] := List.eq_nil_of_length_eq_zero hni
  clear hi
  obtain ⟨r0, r1, r2, hrs⟩ : ∃ r0 r1 r2, rs = [r0, r1, r2] := by match rs, hnr with | [a0, a1, a2], _ => exact ⟨a0, a1, a2, rfl⟩
  subst hrs
  have HN := Lib.hid (allN_at ar 3 cr [r0, r1, r2] w hnr (by decide) hr)
  have HB := Lib.hid (bey_luma ai ci w)
  obtain ⟨br, ro, rfl, hrc⟩ := reals_at hr (by simp)
  have HR := Lib.hid hrc
  clear hrc
  clear hr hni hnr
  cases hA : allNum [r0, r1, r2]
  case false =>
    rw [paE_form (by decide) hA]
    rw [hA] at HN
    go_enter Tryz.func30, Tryz.ntmps30
    go_wp2_with (first | (go_at_call 54; refine (HN.out).mono ?_; rintro e w1 ⟨rfl, rfl⟩))
    go_ret
    exact ⟨rfl, Below.refl _ _⟩
  case true =>
    rw [hA] at HN
    cases hB : rngK 19 []
    case false =>
      exact absurd hB (by simp [rngK])
    case true =>
      have hE : paE 19 [] [r0, r1, r2] = rampE r0 r1 r2 := by rw [paE_rest (.inr hA), hB]; rfl
      rw [hE]; clear hE
      rw [hB] at HB
      clear hA hB
      go_enter Tryz.func30, Tryz.ntmps30
      go_wp2_with (first | (go_at_call 54; refine (HN.out).mono ?_; rintro e w1 ⟨rfl, rfl⟩) | (go_at_call 55; refine (HB.out).mono ?_; rintro e w1 ⟨rfl, hb⟩) | (go_at_call 65; refine (mk_ramp br ro r0 r1 r2 cr 3 (by decide) _ (((hb).cell (p := ⟨br, ro, none⟩) (cell_lt (HR.out 0 _ rfl))).trans (HR.out 0 _ rfl)) (((hb).cell (p := ⟨br, ro + 1, none⟩) (cell_lt (HR.out 1 _ rfl))).trans (HR.out 1 _ rfl)) (((hb).cell (p := ⟨br, ro + 2, none⟩) (cell_lt (HR.out 2 _ rfl))).trans (HR.out 2 _ rfl))).mono ?_; rintro e w2 ⟨rfl, hb2⟩) | (go_at_call 43; refine (CheckRamp_any _ _ _ _).mono ?_; rintro e w3 ⟨rfl, hb3⟩))
      go_ret
      exact ⟨rfl, hb.trans ((hb2.trans (hb3.mono hb2.size)).mono hb.size)⟩
end Go.Proofs.YtbaocallhnehfaaGreatDoor
