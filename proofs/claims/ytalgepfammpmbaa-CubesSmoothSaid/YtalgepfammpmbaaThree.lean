/- Compressing: the closures' contracts. No condition. -/
import Derived.Test.YtalgepfammpmbaaComp
namespace Go.Proofs.Ytalgepfammpmbaa
open Go.RowKit

theorem ord_FR {k : FloatKind} {r s : Nat} (h : FR k r s) (y : Nat) : k.format.order r y = k.format.order s y := by
  have := h.eq
  by_cases hn : isN k r = true
  · have h2 : isN k s = true := by rw [← this, isN_cn]; exact hn
    rw [ord_nan_l _ hn, ord_nan_l _ h2]
  · rw [cn_of_not (by simpa using hn)] at this; rw [this]
theorem isNum_FR {r s : Nat} (h : FR .f32 r s) : isNum .f32 r = isNum .f32 s := by
  have := h.eq
  by_cases hn : isN .f32 r = true
  · have h2 : isN .f32 s = true := by rw [← this, isN_cn]; exact hn
    cases h3 : isNum .f32 r with
    | true => rw [isNum_not_nan h3] at hn; cases hn
    | false =>
      cases h4 : isNum .f32 s with
      | true => rw [isNum_not_nan h4] at h2; cases h2
      | false => rfl
  · rw [cn_of_not (by simpa using hn)] at this; rw [this]
theorem dF_FR {a v r1 r2 : Nat} (h1 : FR .f32 r1 (fop .sub .f32 (cn .f32 a) (cn .f32 v))) (h2 : FR .f32 r2 (fop .quo .f32 (cn .f32 r1) (cn .f32 a))) : FR .f32 r2 (dF a v) := by
  rw [h1.eq, fop_cn_left, fop_cn_right, fop_cn_right] at h2; exact h2
theorem xF_FR {a f v d r1 r2 r3 : Nat} (hd : FR .f32 d (dF a v)) (h1 : FR .f32 r1 (fop .sub .f32 (cn .f32 d) (cn .f32 f))) (h2 : FR .f32 r2 (fop .sub .f32 (cn .f32 1065353216) (cn .f32 f))) (h3 : FR .f32 r3 (fop .quo .f32 (cn .f32 r1) (cn .f32 r2))) : FR .f32 r3 (xF a f v) := by
  rw [h1.eq, h2.eq, hd.eq, fop_cn_right, fop_cn_left, fop_cn_right] at h3; exact h3
theorem sF_FR {x y r1 r2 : Nat} (hx : FR .f32 x y) (h1 : FR .f32 r1 (fop .add .f32 (cn .f32 1065353216) (cn .f32 x))) (h2 : FR .f32 r2 (fop .quo .f32 (cn .f32 x) (cn .f32 r1))) : FR .f32 r2 (sF y) := by
  rw [h1.eq, hx.eq, fop_cn_left] at h2; exact h2
theorem outF_FR {a f y y' r1 r2 r3 r4 r5 : Nat} (hy : cn .f32 y = cn .f32 y') (h1 : FR .f32 r1 (fop .sub .f32 (cn .f32 1065353216) (cn .f32 f))) (h2 : FR .f32 r2 (fop .mul .f32 (cn .f32 r1) (cn .f32 y))) (h3 : FR .f32 r3 (fop .add .f32 (cn .f32 f) (cn .f32 r2)))
    (h4 : FR .f32 r4 (fop .mul .f32 (cn .f32 r3) (cn .f32 a))) (h5 : FR .f32 r5 (fop .sub .f32 (cn .f32 a) (cn .f32 r4))) : FR .f32 r5 (outF a f y') := by
  rw [h4.eq, h3.eq, h2.eq, h1.eq, hy] at h5
  simp only [fop_cn_left, fop_cn_right] at h5
  exact h5
theorem cn_of_fop {x : Nat} : sF x = cn .f32 (sF x) := (cn_fop _ _ _ _).symm
set_option maxRecDepth 100000 in
set_option maxHeartbeats 800000 in
theorem comp_code (a f v pa ps pf : Nat) (st : Bool) (c : Int) (w : World) (hv : v < 2 ^ FloatKind.f32.format.width) (ha : w.cell? ⟨pa, 0, none⟩ = some (.float .f32 a)) (hs : w.cell? ⟨ps, 0, none⟩ = some (.bool st)) (hf : w.cell? ⟨pf, 0, none⟩ = some (.float .f32 f)) :
    Calls Try.prog 134 #[.int .i64 c, .float .f32 v, .pointer (some ⟨pa, 0, none⟩), .pointer (some ⟨ps, 0, none⟩), .pointer (some ⟨pf, 0, none⟩)] w fun e w' => ∃ r m, e = .returned (.float .f32 r) ∧ FR .f32 r (compF a st f v) ∧ w' = w.drewN m := by
  have hv' := Lib.hid hv; clear hv
  go_enter Try.func134, Try.ntmps134
  cases st
  · go_wp2_with (first | ((with_reducible apply wpList_farith); rfl; rfl; rfl; intro _ _ _) | ((with_reducible apply wpList_up); rfl; exact Try.underlying27; exact Try.underlying151; intro _ _ _) | (go_at_call 132; refine (IsNumber_any _ _).mono ?_; rintro e w' ⟨rfl, rfl⟩))
    · rename_i _ _ a1 _ _ a2 _ _ h1
      have hd := dF_FR a1 a2
      rw [ord_FR hd] at h1
      go_ret
      refine ⟨_, _, rfl, ?_, rfl⟩
      unfold compF; rw [h1]; exact FR.refl hv'.out
    · rename_i _ _ a1 _ _ a2 h1 _ _ a3 _ _ a4 _ _ a5 h2 _ _ a6 _ _ a7 _ _ a8 _ _ a9 _ _ a10 _ _ a11 _ _ a12
      have hd := dF_FR a1 a2
      have hx := xF_FR hd a3 a4 a5
      have hy := sF_FR hx a6 a7
      rw [ord_FR hd] at h1
      rw [isNum_FR hx] at h2
      have ho := outF_FR (y' := sF (xF a f v)) (by rw [hy.eq]; exact cn_of_fop) a8 a9 a10 a11 a12
      go_ret
      refine ⟨_, _, rfl, ?_, rfl⟩
      unfold compF; rw [h1, h2]; exact ho
    · rename_i _ _ a1 _ _ a2 h1 _ _ a3 _ _ a4 _ _ a5 h2 _ _ a8 _ _ a9 _ _ a10 _ _ a11 _ _ a12
      have hd := dF_FR a1 a2
      have hx := xF_FR hd a3 a4 a5
      rw [ord_FR hd] at h1
      rw [isNum_FR hx] at h2
      have ho := outF_FR (y' := 1065353216) rfl a8 a9 a10 a11 a12
      go_ret
      refine ⟨_, _, rfl, ?_, rfl⟩
      unfold compF; rw [h1, h2]; exact ho
  · go_wp2_with (first | ((with_reducible apply wpList_farith); rfl; rfl; rfl; intro _ _ _) | ((with_reducible apply wpList_up); rfl; exact Try.underlying27; exact Try.underlying151; intro _ _ _) | (go_at_call 132; refine (IsNumber_any _ _).mono ?_; rintro e w' ⟨rfl, rfl⟩))
    go_ret
    exact ⟨_, _, rfl, FR.refl hv'.out, rfl⟩
set_option maxRecDepth 100000 in
set_option maxHeartbeats 800000 in
theorem comp_doc (a f v pa pf : Nat) (w : World) (hv : isNum .f32 v = true) (ha : w.cell? ⟨pa, 0, none⟩ = some (.float .f32 a)) (hf : w.cell? ⟨pf, 0, none⟩ = some (.float .f32 f)) :
    Calls Try.prog 135 #[.float .f32 v, .pointer (some ⟨pa, 0, none⟩), .pointer (some ⟨pf, 0, none⟩)] w fun e w' => ∃ m, e = .returned (.float .f32 (compG a f v)) ∧ w' = w.drewN m := by
  have hv' := Lib.hid (cn_of_not (isNum_not_nan hv)); clear hv
  go_enter Try.func135, Try.ntmps135
  go_wp2_with (first | ((with_reducible apply wpList_farith); rfl; rfl; rfl; intro _ _ _) | ((with_reducible apply wpList_up); rfl; exact Try.underlying27; exact Try.underlying151; intro _ _ _) | (go_at_call 48; refine (Fix_any _ _).mono ?_; rintro e w' ⟨rfl, rfl⟩))
  · rename_i _ _ a1 _ _ a2 _ _ h1
    have hd := dF_FR a1 a2
    rw [ord_FR hd] at h1
    go_ret
    refine ⟨_, ret_f ?_, rfl⟩
    unfold compG; rw [h1]; exact hv'.out.symm
  · rename_i _ _ a1 _ _ a2 h1 _ _ a3 _ _ a4 _ _ a5 _ _ a6 _ _ a7 h2 _ _ a8 _ _ a9 _ _ a10 _ _ a11 _ _ a12
    have hd := dF_FR a1 a2
    have hx := xF_FR hd a3 a4 a5
    rw [ord_FR hd] at h1
    rw [ord_FR hx] at h2
    have ho := outF_FR (y' := 1065353216) rfl a8 a9 a10 a11 a12
    go_ret
    refine ⟨_, ret_f ?_, rfl⟩
    unfold compG; rw [h1, h2]; exact ho.eq
  · rename_i _ _ a1 _ _ a2 h1 _ _ a3 _ _ a4 _ _ a5 _ _ a6 _ _ a7 h2 _ _ a8 _ _ a9 _ _ a10 _ _ a11 _ _ a12
    have hd := dF_FR a1 a2
    have hx := xF_FR hd a3 a4 a5
    have hy := sF_FR hx a6 a7
    rw [ord_FR hd] at h1
    rw [ord_FR hx] at h2
    have ho := outF_FR (y' := sF (xF a f v)) (by rw [hy.eq]; exact cn_of_fop) a8 a9 a10 a11 a12
    go_ret
    refine ⟨_, ret_f ?_, rfl⟩
    unfold compG; rw [h1, h2]; exact ho.eq
end Go.Proofs.Ytalgepfammpmbaa
