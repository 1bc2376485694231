/- Vignettes of a right frame: finish.Vignette, and what is wrong with a vignette: dyeref2.VignetteError. Conditions: the frame's singles are known. -/
import Derived.Test.YtalgepfammpmbaaVgE
namespace Go.Proofs.Ytalgepfammpmbaa
open Go.RowKit
set_option maxRecDepth 100000 in
set_option maxHeartbeats 1600000 in
theorem VignetteError_any (vx vy vi vo vd : Nat) (w : World) : Calls Try.prog 21 #[.agg #[.float .f32 vx, .float .f32 vy, .float .f32 vi, .float .f32 vo, .float .f32 vd]] w fun e w' => e = .returned (.int .i64 (vigE vx vy vi vo vd)) ∧ Below w.heap.size w w' := by
  go_enter Try.func21, Try.ntmps21
  go_wp2_with fail
  refine wp_world (fun W hW => ?_)
  have VB : Blk W w.heap.size (vigL vx vy vi vo vd) := by rw [hW]; exact (Blk.new _ _ _ _ rfl).alloc _
  have SB : Blk W (w.heap.size + 1) (vigL vx vy vi vo vd) := by rw [hW]; exact Blk.new _ _ _ _ (by simp)
  have BW : Below w.heap.size w W := by rw [hW]; (repeat (first | exact Below.refl _ _ | assumption | (refine Below.setCell ?_ (by first | (simp; done) | (simp; omega) | omega) _) | (refine Below.drew ?_) | (refine below_drewN ?_ _) | (refine Below.alloc ?_ (by first | (simp; done) | (simp; omega) | omega) _) | (refine Below.trans ?_ (Below.mono (by assumption) (by first | (simp; done) | (simp; omega) | omega)))))
  clear hW
  have hcell : ∀ k, k < 5 → W.cell? ⟨w.heap.size + 1, k, none⟩ = some (.float .f32 ([vx, vy, vi, vo, vd].getD k 0)) := fun k hk => SB.c k _ (by
    rcases (show k = 0 ∨ k = 1 ∨ k = 2 ∨ k = 3 ∨ k = 4 by omega) with rfl | rfl | rfl | rfl | rfl <;> rfl)
  have HC := Lib.hid hcell; have HV := Lib.hid VB; have HB := Lib.hid BW
  clear hcell VB SB BW
  go_loopw [17] (fun i wr => ∃ k : Nat, k ≤ 5 ∧ i = .int .i64 k ∧ (∃ m, wr = W.drewN m) ∧ allNum [vx, vy, vi, vo, vd] = allNum ([vx, vy, vi, vo, vd].drop k)) (fun i _ => 5 - (intOf i).toNat)
  case atStart => exact ⟨0, by omega, rfl, ⟨0, rfl⟩, rfl⟩
  case round =>
    obtain ⟨k, hk, rfl, ⟨m, rfl⟩, hall⟩ := hrel
    by_cases hk5 : k < 5
    · have hcx := HC.out k hk5
      obtain ⟨l, hl⟩ : ∃ l, [vx, vy, vi, vo, vd].drop k = [vx, vy, vi, vo, vd].getD k 0 :: l ∧ l = [vx, vy, vi, vo, vd].drop (k + 1) := ⟨[vx, vy, vi, vo, vd].drop (k + 1), by rw [List.drop_eq_getElem_cons (by simpa using hk5)]; simp [List.getElem?_eq_getElem (show k < [vx, vy, vi, vo, vd].length by simpa using hk5)], rfl⟩
      rw [hl.1] at hall
      have hl2 := Lib.hid hl.2
      clear hl
      generalize [vx, vy, vi, vo, vd].getD k 0 = z at *
      have hall' := Lib.hid hall; clear hall
      cases hz : isNum .f32 z
      · go_wp2_with (first | (go_at_call 44; refine (IsNumberR_any _ _).mono ?_; rintro e w' ⟨rfl, m2, rfl⟩))
        go_ret
        refine ⟨ret_i ?_, ?_⟩
        · have : allNum [vx, vy, vi, vo, vd] = false := by rw [hall'.out]; simp [allNum, hz]
          unfold vigE; rw [this]; rfl
        · exact below_drewN HB.out _
      · go_wp2_with (first | (go_at_call 44; refine (IsNumberR_any _ _).mono ?_; rintro e w' ⟨rfl, m2, rfl⟩))
        go_roundw
        case rel => exact ⟨k + 1, by omega, by first | rfl | simp, ⟨m + m2, by first | rfl | simp [World.drewN_drewN] | (rw [World.drewN_drewN])⟩, by rw [hall'.out, ← hl2.out]; simp [allNum, hz]⟩
        case measure => simp [intOf]; omega
    · have hk' : k = 5 := by omega
      subst hk'
      have hall' : allNum [vx, vy, vi, vo, vd] = true := by rw [hall]; rfl
      have hd : isNum .f32 vd = true := by simp [allNum] at hall'; exact hall'.2.2.2.2
      have e1 := Lib.hid (tri_lowV hd num_01.1); have e2 := Lib.hid (tri_highV hd num_01.2)
      have HA := Lib.hid hall'
      have g2 := HV.out.c 2 _ rfl; have g3 := HV.out.c 3 _ rfl; have g4 := HV.out.c 4 _ rfl
      clear hall hall' hd hk
      cases hO : (FloatKind.f32.format.order vo vi == some .gt) <;> cases hg : ((FloatKind.f32.format.order vd 0 == some .gt) || (FloatKind.f32.format.order vd 0 == some .eq)) <;> cases hl : ((FloatKind.f32.format.order vd 1065353216 == some .lt) || (FloatKind.f32.format.order vd 1065353216 == some .eq))
      all_goals
        have HO := Lib.hid hO; have HG := Lib.hid hg; have HL := Lib.hid hl
        go_wp2_with (first | (go_at_call 42; refine (When_any _ _ _).mono ?_; rintro e w' ⟨rfl, rfl⟩))
        go_ret
        refine ⟨ret_i ?_, below_drewN HB.out _⟩
        unfold vigE
        rw [HA.out, if_pos rfl, HO.out]
        first | rfl | (rw [if_pos rfl]; unfold vigBad; rw [e1.out, e2.out, ← Bool.not_or, ← Bool.not_or, HG.out, HL.out]; rfl)
set_option maxRecDepth 100000 in
set_option maxHeartbeats 3200000 in
theorem Vignette_yes (x y v h : Int) (b off n cap : Nat) (fs : Nat → Nat) (vx vy vi vo vd : Nat) (w : World) (he : fraErr x y v h n = 0) (hE : vigE vx vy vi vo vd = 0) (hcap : n ≤ cap) (hcb : cap ≤ 9223372036854775807)
    (hcell : ∀ i, i < n → w.cell? ⟨b, off + i, none⟩ = some (.float .f32 (fs i))) (hfs : ∀ i, i < n → fs i < 2 ^ FloatKind.f32.format.width) :
    Calls Try.prog 18 #[.agg #[.int .i64 x, .int .i64 y, .int .i64 v, .int .i64 h, .slice (some ⟨b, off, none⟩) n cap], .agg #[.float .f32 vx, .float .f32 vy, .float .f32 vi, .float .f32 vo, .float .f32 vd]] w fun e w' =>
      (∃ g, e = .returned (.tuple #[.agg #[.int .i64 x, .int .i64 y, .int .i64 v, .int .i64 h, .slice (some ⟨g, 0, none⟩) n n], .int .i64 0]) ∧ w.heap.size ≤ g ∧ g < w'.heap.size ∧ ∀ i, i < n → w'.cell? ⟨g, i, none⟩ = some (.float .f32 (vgG x y v fs vx vy vi vo vd (i / 4) (i % 4)))) ∧ Below w.heap.size w w' := by
  obtain ⟨hr, hl⟩ := fraErr_ok he
  obtain ⟨r1, r2, r3, r4, r5, r6, r7, r8, r9, r10⟩ := regErr_ok hr
  obtain ⟨hA, hO, hL, hG⟩ := vigE_ok hE
  have hn0 : 0 < n := by have : 4 ≤ 4 * v * h := by { rw [Int.mul_assoc]; omega }; omega
  have hbw : b < w.heap.size := cell_lt (hcell 0 hn0)
  obtain ⟨a, ha⟩ : ∃ a : Option Addr, a = some ⟨b, off, none⟩ := ⟨_, rfl⟩
  have HC := Lib.hid (And.intro hcell hfs)
  have HR := Lib.hid (And.intro hr (And.intro hl (And.intro hcap hcb)))
  have HAA := Lib.hid ha
  rw [← ha]
  clear hcell hfs hr hl hcap hcb hE ha r1 r2 r3 r4 r5 r6 r7 r8 r9 r10
  go_enter Try.func18, Try.ntmps18
  go_wp2_with (first | ((go_at_call 113; refine (FCheck_any _ _ _ _ _ _ _ _).mono ?_; rintro e w1 ⟨rfl, hb1⟩; have hs1 := hb1.size; simp at hs1; have hs1' : w.heap.size ≤ w1.heap.size := (by omega); have hq0 : w.heap.size < w1.heap.size := (by omega); have hq1 : w.heap.size + 1 < w1.heap.size := (by omega); have hq2 : w.heap.size + 1 + 1 < w1.heap.size := (by omega); have B1 : Below w.heap.size w w1 := (by (repeat (first | exact Below.refl _ _ | assumption | (refine Below.setCell ?_ (by first | (simp; done) | (simp; omega) | omega) _) | (refine Below.drew ?_) | (refine below_drewN ?_ _) | (refine Below.alloc ?_ (by first | (simp; done) | (simp; omega) | omega) _) | (refine Below.trans ?_ (Below.mono (by assumption) (by first | (simp; done) | (simp; omega) | omega)))))); have FB : Blk w1 w.heap.size [.int .i64 x, .int .i64 y, .int .i64 v, .int .i64 h, .slice a n cap] := (((Blk.new _ _ _ _ rfl).alloc _).alloc _).below hb1 (by first | (simp; done) | (simp; omega) | omega); have VB : Blk w1 (w.heap.size + 1) (vigL vx vy vi vo vd) := ((Blk.new _ _ _ _ (by first | (simp; done) | (simp; omega) | omega)).alloc _).below hb1 (by first | (simp; done) | (simp; omega) | omega); have ZB : Blk w1 (w.heap.size + 1 + 1) [.int .i64 0, .int .i64 0, .int .i64 0, .int .i64 0, .slice none 0 0] := (Blk.new _ _ _ _ (by first | (simp; done) | (simp; omega) | omega)).below hb1 (by first | (simp; done) | (simp; omega) | omega); clear hb1; have g0 := VB.c 0 _ rfl; have g1 := VB.c 1 _ rfl; have g2 := VB.c 2 _ rfl; have g3 := VB.c 3 _ rfl; have g4 := VB.c 4 _ rfl; have z0 := ZB.c 0 _ rfl; have z1 := ZB.c 1 _ rfl; have z2 := ZB.c 2 _ rfl; have z3 := ZB.c 3 _ rfl; have z4 := ZB.c 4 _ rfl; have zf := ZB.f; have HVB := Lib.hid VB; have HFB := Lib.hid FB; have HZB := Lib.hid ZB; clear VB FB ZB); rw [he]) | (go_at_call 114; refine (All5_any _ _ _ vx vy vi vo vd _ (by simp [go_sem]) (by simp [go_sem]) (by simp [go_sem]) (by simp [go_sem]) (by simp [go_sem])).mono ?_; rintro e w2 ⟨rfl, hw2⟩; have B12 : Below w1.heap.size w1 w2 := (by rw [← hw2]; (repeat (first | exact Below.refl _ _ | assumption | (refine Below.setCell ?_ (by first | (simp; done) | (simp; omega) | omega) _) | (refine Below.drew ?_) | (refine below_drewN ?_ _) | (refine Below.alloc ?_ (by first | (simp; done) | (simp; omega) | omega) _) | (refine Below.trans ?_ (Below.mono (by assumption) (by first | (simp; done) | (simp; omega) | omega)))))); have B2 : Below w.heap.size w w2 := B1.trans (B12.mono hs1'); have V2 := HVB.out.past B12; have Z2 := HZB.out.past B12; have HV2 := Lib.hid V2; have HZ2 := Lib.hid Z2; clear hw2 g0 g1 g2 g3 g4 z0 z1 z2 z3 z4 zf hq0 hq1 hq2; have g0 := V2.c 0 _ rfl; have g1 := V2.c 1 _ rfl; have g2 := V2.c 2 _ rfl; have g3 := V2.c 3 _ rfl; have g4 := V2.c 4 _ rfl; have z0 := Z2.c 0 _ rfl; have z1 := Z2.c 1 _ rfl; have z2 := Z2.c 2 _ rfl; have z3 := Z2.c 3 _ rfl; have z4 := Z2.c 4 _ rfl; have zf := Z2.f; have zl := Z2.lt; have vl := V2.lt; have F2 := HFB.out.past B12; have f0 := F2.c 0 _ rfl; have f1 := F2.c 1 _ rfl; have f2 := F2.c 2 _ rfl; have f3 := F2.c 3 _ rfl; have f4 := F2.c 4 _ rfl; have fl := F2.lt; clear V2 Z2 F2))
  refine calls_world (fun W hW => ?_)
  have B3 : Below w2.heap.size w2 W := by rw [hW]; (repeat (first | exact Below.refl _ _ | assumption | (refine Below.setCell ?_ (by first | (simp; done) | (simp; omega) | omega) _) | (refine Below.drew ?_) | (refine below_drewN ?_ _) | (refine Below.alloc ?_ (by first | (simp; done) | (simp; omega) | omega) _) | (refine Below.trans ?_ (Below.mono (by assumption) (by first | (simp; done) | (simp; omega) | omega)))))
  have BW2 := B2.trans (B3.mono B2.size)
  obtain ⟨hr, hl, hcap, hcb⟩ := HR.out
  have VB := HV2.out.past B3
  have ZB := HZ2.out.past B3
  have lv := VB.lt
  have HW := Lib.hid (And.intro VB ZB)
  clear hW g0 g1 g2 g3 g4 z0 z1 z2 z3 z4 zf VB ZB vl zl f0 f1 f2 f3 f4 fl
  rw [HAA.out]
  refine (mapped_any 116 #[.pointer (some ⟨w.heap.size + 1, 0, none⟩)] x y v h b off n cap fs (vgG x y v fs vx vy vi vo vd) W hr hl hcap hcb (fun i hi => (BW2.cell (p := ⟨b, off + i, none⟩) hbw).trans (HC.out.1 i hi)) (body_enters Try.func116 (by kernel_rfl) rfl) (fun k w' hk hb' => ?_)).mono ?_
  · refine (VigClosure vx vy vi vo vd (x + (k : Int) % v) (y + (k : Int) / v) (fun c => fs (4 * k + c)) (w.heap.size + 1) w' (fun c hc => HC.out.2 _ (by omega)) (HW.out.1.past hb')).mono ?_
    rintro e w'' ⟨⟨q, rfl, hq⟩, hb⟩
    exact ⟨⟨q, rfl, fun c _ => by rw [hq]; exact vgG_cn⟩, hb⟩
  · rintro e w3 ⟨g, rfl, hg, hgc, hb3⟩
    have Z3 := HW.out.2.past hb3
    have B4 := BW2.trans (hb3.mono BW2.size)
    have hgl : g < w3.heap.size := cell_lt (hgc 0 hn0)
    have HG := Lib.hid hgc
    have hwg : w.heap.size + 1 + 1 < W.heap.size := HW.out.2.lt
    clear hgc hb3 B1 B2 B3 BW2
    have z0 := Z3.c 0 _ rfl; have z1 := Z3.c 1 _ rfl; have z2 := Z3.c 2 _ rfl; have z3 := Z3.c 3 _ rfl; have z4 := Z3.c 4 _ rfl
    have zf := Z3.f
    clear Z3
    go_wp2_with fail
    refine bodyPost_ret (v := .tuple #[.agg #[.int .i64 x, .int .i64 y, .int .i64 v, .int .i64 h, .slice (some ⟨g, 0, none⟩) n n], .int .i64 0]) (by simp [results, Try.results18, go_sem, z0, z1, z2, z3, z4]) rfl ⟨⟨g, rfl, by omega, by simp; omega, fun i hi => ?_⟩, ?_⟩
    · rw [← HG.out i hi]
      simp [go_sem]
    · exact ((((B4.setCell (by first | (simp; done) | (simp; omega) | omega) _).setCell (by first | (simp; done) | (simp; omega) | omega) _).setCell (by first | (simp; done) | (simp; omega) | omega) _).setCell (by first | (simp; done) | (simp; omega) | omega) _).setCell (by first | (simp; done) | (simp; omega) | omega) _
end Go.Proofs.Ytalgepfammpmbaa
