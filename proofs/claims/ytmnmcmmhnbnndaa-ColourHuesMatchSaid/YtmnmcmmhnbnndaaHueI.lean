/- A pixel of a hue, in the document: dyeref2.PixelOf. No condition. -/
import Derived.Test.YtmnmcmmhnbnndaaHueH
namespace Go.Proofs.Ytmnmcmmhnbnndaa
open Go.RowKit
theorem y_exact {v r s : Nat} (hr : FR .f64 r (fcv .f32 .f64 (cn .f32 v))) (hs : FR .f64 s (fwhole .down (cn .f64 r))) (hn : isN .f64 (fwhole .down (fcv .f32 .f64 v)) = false) : s = fwhole .down (fcv .f32 .f64 v) := by
  rw [hr.eq, fcv_cn] at hs
  exact FR.exact hs hn
set_option maxRecDepth 100000 in
set_option maxHeartbeats 8000000 in
theorem PixelOf_num (h s v al : Nat) (w : World) (hw : h < 2 ^ FloatKind.f32.format.width) (hall : allNum [h, s, v] = true) : Calls Try.prog 90 #[.float .f32 h, .float .f32 s, .float .f32 v, .float .f32 al] w fun e w' =>
    e = .returned (.agg #[.float .f32 (tabF (jF h) (cn .f32 v) (htF h s v) (hpF s v) (hqF h s v)).1, .float .f32 (tabF (jF h) (cn .f32 v) (htF h s v) (hpF s v) (hqF h s v)).2.1, .float .f32 (tabF (jF h) (cn .f32 v) (htF h s v) (hpF s v) (hqF h s v)).2.2, .float .f32 (cn .f32 al)]) ∧ Below w.heap.size w w' := by
  have hh : isNum .f32 h = true := by
    unfold allNum at hall; revert hall; cases isNum .f32 h <;> simp
  have hs0 : isNum .f32 s = true := by
    unfold allNum allNum at hall; revert hall; cases isNum .f32 s <;> simp
  have hv0 : isNum .f32 v = true := by
    unfold allNum allNum allNum at hall; revert hall; cases isNum .f32 v <;> simp
  clear hall
  have hw2 := Lib.hid hw; clear hw
  obtain ⟨f1, f2, f3, f4, e1, e2, -, -, -, -, f5, -⟩ := hue_cases hh
  have ways := hue_ways hh
  have x0 := idx6_0; have x1 := idx6_1; have x2 := idx6_2; have x3 := idx6_3; have x4 := idx6_4; have x5 := idx6_5
  have hw3 : sixF h < 2 ^ FloatKind.f32.format.width := by rw [← e2]; exact fop_lt _ _ _ _
  have hw3' := Lib.hid hw3; clear hw3
  rcases ways with ⟨-, g1, hi, hj, -, cj⟩ | ⟨-, g1, hi, hj, -, cj⟩ | ⟨-, g1, hi, hj, -, cj⟩ | ⟨-, g1, hi, hj, -, cj⟩ | ⟨-, g1, hi, hj, -, cj⟩ | ⟨-, g1, hi, hj, -, cj⟩ | ⟨-, g1, hi, hj, -, cj⟩
  all_goals
    rw [hj]
    go_enter Try.func90, Try.ntmps90
    go_wp2_with (first | (go_at_call 52; refine (IsNumberR_any _ _).mono ?_; rintro e w' ⟨rfl, m, rfl⟩) | (go_at_call 152; refine (TheNaN_any _).mono ?_; rintro e w' ⟨rfl, rfl⟩) | ((with_reducible apply wpList_up); rfl; exact Try.underlying38; exact Try.underlying51; intro r n hr) | (go_at_call 176; refine (FloorD_any _ _ hr.lt).mono ?_; rintro e w' ⟨⟨y, rfl, hy⟩, m, rfl⟩; first | (obtain ⟨ho, hb⟩ := fl_back hw2.out hr hy) | (obtain rfl := y_exact hr hy f5)) | ((with_reducible apply wpList_down); rfl; exact Try.underlying51; exact Try.underlying38; exact ho; intro t n2 ht; obtain rfl := FR.exact (hb _ ht) f1) | ((with_reducible apply wpList_down); rfl; exact Try.underlying51; exact Try.underlying38; exact (fl_ovf hw3'.out); intro t n2 ht; obtain rfl : t = flF (sixF h) := FR.exact ht f2) | ((with_reducible apply wpList_down); rfl; exact Try.underlying51; exact Try.underlying38; exact (fun _ => by decide +kernel); intro t n2 ht; obtain rfl : t = 1084227584 := (FR.exact ht (by decide +kernel)).trans (by decide +kernel)) | ((with_reducible apply wpList_flit); rfl; rfl; rfl; assumption; assumption; intro _) | ((with_reducible apply wpList_farith); rfl; rfl; rfl; (intro r n hr; replace hr := hr.eq.symm)) | ((with_reducible apply wpList_f2i); rfl; exact Try.underlying51; exact Try.underlying3; intro m n hm; obtain rfl := hm _ cj))
    refine wp_region_loose 12 (fun _ args u => ∃ x, args = #[.float .f32 x] ∧ u = .float .f32 (cn .f32 x)) (by kernel_rfl) (by kernel_rfl) ?_
    simp only [List.take_succ_cons, List.take_zero, List.drop_succ_cons, List.drop_zero]
    iterate 2 (refine loose_wanted rfl (fun K hK => ?_); go_simp; refine hK _ ?_; clear hK K)
    refine loose_step rfl (fun K1 hK => ?_)
    go_simp
    refine ⟨fun p => (Fix_any _ p.w).mono ?_, ?_⟩
    · rintro e w' ⟨rfl, rfl⟩
      exact ⟨_, rfl, rfl, by simpa using p.h⟩
    refine hK _ ?_
    clear hK K1
    iterate 2 (refine loose_wanted rfl (fun K hK => ?_); go_simp; refine hK _ ?_; clear hK K)
    refine loose_step rfl (fun K1 hK => ?_)
    go_simp
    refine ⟨fun p => (Fix_any _ p.w).mono ?_, ?_⟩
    · rintro e w' ⟨rfl, rfl⟩
      exact ⟨_, rfl, rfl, by simpa using p.h⟩
    refine hK _ ?_
    clear hK K1
    iterate 2 (refine loose_wanted rfl (fun K hK => ?_); go_simp; refine hK _ ?_; clear hK K)
    refine loose_step rfl (fun K1 hK => ?_)
    go_simp
    refine ⟨fun p => (Fix_any _ p.w).mono ?_, ?_⟩
    · rintro e w' ⟨rfl, rfl⟩
      exact ⟨_, rfl, rfl, by simpa using p.h⟩
    refine hK _ ?_
    clear hK K1
    iterate 1 (refine loose_wanted rfl (fun K hK => ?_); go_simp; refine hK _ ?_; clear hK K)
    refine loose_step rfl (fun K1 hK => ?_)
    go_simp
    refine ⟨fun p => (Fix_any _ p.w).mono ?_, ?_⟩
    · rintro e w' ⟨rfl, rfl⟩
      exact ⟨_, rfl, rfl, by simpa using p.h⟩
    refine hK _ ?_
    clear hK K1
    iterate 1 (refine loose_wanted rfl (fun K hK => ?_); go_simp; refine hK _ ?_; clear hK K)
    refine loose_nil (fun w2 hb2 => ?_)
    have R2 : Pix4 w2 w.heap.size 0 0 0 0 := Pix4.below ⟨by simp [go_sem], by simp [go_sem], by simp [go_sem], by simp [go_sem], fun o => by simp [go_sem]⟩ hb2 (by first | (simp; done) | (simp; omega))
    have B2 : Below w.heap.size w w2 := by (repeat (first | exact Below.refl _ _ | assumption | (refine Below.setCell ?_ (by first | (simp; done) | (simp; omega) | omega) _) | (refine Below.drew ?_) | (refine below_drewN ?_ _) | (refine Below.alloc ?_ (by first | (simp; done) | (simp; omega) | omega) _) | (refine Below.trans ?_ (Below.mono (by assumption) (by first | (simp; done) | (simp; omega) | omega)))))
    have zz := hb2.size
    simp at zz
    have q2 : w.heap.size < w2.heap.size := by omega
    clear hb2 zz
    obtain ⟨d0, d1, d2, d3, df⟩ := R2
    go_wp2
    refine bodyPost_ret (v := .agg #[.float .f32 _, .float .f32 _, .float .f32 _, .float .f32 (cn .f32 al)]) (by simp [results, Try.results90, go_sem, d0, d1, d2, d3]; and_intros <;> rfl) rfl ⟨ret_px ?_ ?_ ?_, ?_⟩
    rotate_left 3
    · exact (((B2.setCell (by simp) _).setCell (by simp) _).setCell (by simp) _).setCell (by simp) _
    all_goals simp [tabF, htF, hpF, hqF, ffF, *]
end Go.Proofs.Ytmnmcmmhnbnndaa
