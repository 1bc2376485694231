/- grade.CheckWheels, CheckList. No condition. (with: LbF, LbR) -/
import Derived.Test.YthlomgbchmhjiaaGreatDoorLB
import Derived.Test.YthlomgbchmhjiaaGreatDoorLA
set_option linter.unusedSimpArgs false
set_option linter.unusedVariables false
namespace Go.Proofs.YthlomgbchmhjiaaGreatDoor
open Go Go.RowKit
theorem wpAnyC_world {P : Program} {md : Region.Mode} {ops : Array Oper} {Q : Exit → Act → World → Prop} {C : World → Prop} {A fuel : Nat} {listed : Array Bool} {a : Act} {w : World} (h : ∀ W, W = w → wpAnyC P md ops Q C A fuel listed a W) : wpAnyC P md ops Q C A fuel listed a w := h w rfl
theorem blk_part {W : World} {pl : Nat} {l : List Nat} (k : Blk W pl (l.map (Value.float .f32))) (o n : Nat) {p : List Nat} (hp : p = (l.drop o).take n) : ∀ j v, p[j]? = some v → W.cell? ⟨pl, o + j, none⟩ = some (.float .f32 v) := fun j v hj => by
  subst hp
  rw [List.getElem?_take] at hj
  split at hj
  · rw [List.getElem?_drop] at hj
    exact k.c _ _ (by rw [List.getElem?_map, hj]; rfl)
  · cases hj
def pcs (v0 v1 v2 v3 v4 v5 v6 v7 v8 v9 : Nat) : Nat → List Nat
  | 0 => [v0, v1, v2]
  | 1 => [v3, v4, v5]
  | 2 => [v6, v7, v8]
  | _ => [v9]
def whE (l : List Nat) : Int := if allNum l then (if pw3 (l.getD 3 0) (l.getD 4 0) (l.getD 5 0) then 0 else 3) else 2
set_option maxRecDepth 100000 in
set_option maxHeartbeats 3200000 in
theorem CheckWheels_any (v0 v1 v2 v3 v4 v5 v6 v7 v8 : Nat) (w : World) : Calls Tryz.prog 24 #[.agg #[.float .f32 v0, .float .f32 v1, .float .f32 v2, .float .f32 v3, .float .f32 v4, .float .f32 v5, .float .f32 v6, .float .f32 v7, .float .f32 v8]] w fun e w' => e = .returned (.int .i64 (whE [v0, v1, v2, v3, v4, v5, v6, v7, v8])) ∧ Below w.heap.size w w' := by
  have hE : whE [v0, v1, v2, v3, v4, v5, v6, v7, v8] = if allNum [v0, v1, v2, v3, v4, v5, v6, v7, v8] then (if pw3 v3 v4 v5 then 0 else 3) else 2 := rfl
  rw [hE]
  clear hE
  cases hA : allNum [v0, v1, v2, v3, v4, v5, v6, v7, v8]
  case false =>
    go_enter Tryz.func24, Tryz.ntmps24
    go_upto_region 1 with fail
    refine wp_world (fun W hW => ?_)
    have HWp : Blk W w.heap.size [.float .f32 v0, .float .f32 v1, .float .f32 v2, .float .f32 v3, .float .f32 v4, .float .f32 v5, .float .f32 v6, .float .f32 v7, .float .f32 v8] ∧ Below w.heap.size w W := by rw [hW]; exact ⟨Blk.new _ _ _ _ rfl, by (repeat (first | exact Below.refl _ _ | assumption | (refine Below.setCell ?_ (by first | (simp; done) | (simp; omega) | omega) _) | (refine Below.drew ?_) | (refine below_drewN ?_ _) | (refine Below.alloc ?_ (by first | (simp; done) | (simp; omega) | omega) _) | (refine Below.trans ?_ (Below.mono (by assumption) (by first | (simp; done) | (simp; omega) | omega)))))⟩
    obtain ⟨pl, hpl⟩ : ∃ pl, pl = w.heap.size := ⟨_, rfl⟩
    have HW : Hid (Blk W pl [.float .f32 v0, .float .f32 v1, .float .f32 v2, .float .f32 v3, .float .f32 v4, .float .f32 v5, .float .f32 v6, .float .f32 v7, .float .f32 v8] ∧ Below w.heap.size w W) := Lib.hid (by rw [hpl]; exact HWp)
    rw [← hpl]
    clear hW HWp hpl
    have hC : True := trivial
    refine wp_region_C (fun _ => True) 9 10 (by kernel_rfl) rfl ?_
    refine wpAnyC_take (i := 0) (v := .pointer (some ⟨pl, 0, none⟩)) rfl (by kernel_rfl) (by kernel_rfl) (fun _ _ _ h => h) (.inl ⟨rfl, fun w' _ => ?_⟩) hC ?_
    · go_simp
    refine wpAnyC_act (by rfl) ?_
    simp only [Act.put, List.setIfInBounds_toArray, List.set_cons_zero, List.set_cons_succ]
    refine wpAnyC_take (i := 1) (v := .slice (some ⟨pl, 0, none⟩) 3 3) rfl (by kernel_rfl) (by kernel_rfl) (fun _ _ _ h => h) (.inl ⟨rfl, fun w' _ => ?_⟩) hC ?_
    · go_simp
    refine wpAnyC_act (by rfl) ?_
    simp only [Act.put, List.setIfInBounds_toArray, List.set_cons_zero, List.set_cons_succ]
    refine wpAnyC_take (i := 2) (v := .pointer (some ⟨pl, 3, none⟩)) rfl (by kernel_rfl) (by kernel_rfl) (fun _ _ _ h => h) (.inl ⟨rfl, fun w' _ => ?_⟩) hC ?_
    · go_simp
    refine wpAnyC_act (by rfl) ?_
    simp only [Act.put, List.setIfInBounds_toArray, List.set_cons_zero, List.set_cons_succ]
    refine wpAnyC_take (i := 3) (v := .slice (some ⟨pl, 3, none⟩) 3 3) rfl (by kernel_rfl) (by kernel_rfl) (fun _ _ _ h => h) (.inl ⟨rfl, fun w' _ => ?_⟩) hC ?_
    · go_simp
    refine wpAnyC_act (by rfl) ?_
    simp only [Act.put, List.setIfInBounds_toArray, List.set_cons_zero, List.set_cons_succ]
    refine wpAnyC_take (i := 4) (v := .pointer (some ⟨pl, 6, none⟩)) rfl (by kernel_rfl) (by kernel_rfl) (fun _ _ _ h => h) (.inl ⟨rfl, fun w' _ => ?_⟩) hC ?_
    · go_simp
    refine wpAnyC_act (by rfl) ?_
    simp only [Act.put, List.setIfInBounds_toArray, List.set_cons_zero, List.set_cons_succ]
    refine wpAnyC_take (i := 5) (v := .slice (some ⟨pl, 6, none⟩) 3 3) rfl (by kernel_rfl) (by kernel_rfl) (fun _ _ _ h => h) (.inl ⟨rfl, fun w' _ => ?_⟩) hC ?_
    · go_simp
    refine wpAnyC_act (by rfl) ?_
    simp only [Act.put, List.setIfInBounds_toArray, List.set_cons_zero, List.set_cons_succ]
    refine wpAnyC_one (i := 6) rfl (by kernel_rfl) (fun K hK => ?_)
    go_simp
    refine hK _ _ (fun _ => trivial) ?_
    clear hK K
    refine wpAnyC_world (fun W2 hW2 => ?_)
    have HX : Hid (Blk W2 W.heap.size [.slice (some ⟨pl, 0, none⟩) 3 3, .slice (some ⟨pl, 3, none⟩) 3 3, .slice (some ⟨pl, 6, none⟩) 3 3] ∧ Blk W2 pl [.float .f32 v0, .float .f32 v1, .float .f32 v2, .float .f32 v3, .float .f32 v4, .float .f32 v5, .float .f32 v6, .float .f32 v7, .float .f32 v8] ∧ Below w.heap.size w W2) := Lib.hid (by
      rw [hW2]
      exact ⟨(Blk.new _ _ _ _ rfl).drew, (HW.out.1.alloc _).drew, (HW.out.2.alloc HW.out.2.size _).drew⟩)
    clear hW2
    have HCC : Hid (Calls Tryz.prog 43 #[.slice (some ⟨W.heap.size, 0, none⟩) 3 3] W2 fun e w' => ∃ B G, e = .returned (.slice (some ⟨B, 0, none⟩) 9 G) ∧ (∀ i, i < 9 → w'.cell? ⟨B, 0 + i, none⟩ = some (.float .f32 ([v0, v1, v2, v3, v4, v5, v6, v7, v8].getD i 0))) ∧ Below W2.heap.size W2 w') := Lib.hid (Concat_any (pcs v0 v1 v2 v3 v4 v5 v6 v7 v8 0) 3 W.heap.size 0 3 W2 (Nat.le_refl _) (by decide) (by show 0 < 9; decide) (by show 9 ≤ 1000; decide) (fun i hi => by
      rw [Nat.zero_add]
      match i, hi with
      | 0, _ => exact ⟨pl, 0, 3, HX.out.1.c 0 _ rfl, blk_part (l := [v0, v1, v2, v3, v4, v5, v6, v7, v8]) HX.out.2.1 0 3 rfl⟩
      | 1, _ => exact ⟨pl, 3, 3, HX.out.1.c 1 _ rfl, blk_part (l := [v0, v1, v2, v3, v4, v5, v6, v7, v8]) HX.out.2.1 3 3 rfl⟩
      | 2, _ => exact ⟨pl, 6, 3, HX.out.1.c 2 _ rfl, blk_part (l := [v0, v1, v2, v3, v4, v5, v6, v7, v8]) HX.out.2.1 6 3 rfl⟩))
    refine wpAnyC_one (i := 7) rfl (by kernel_rfl) (fun K hK => ?_)
    go_simp
    refine HCC.out.mono ?_
    rintro e w3 ⟨B, G, rfl, hc3, hb3⟩
    have HB3 := Lib.hid (HX.out.2.2.trans (hb3.mono HX.out.2.2.size))
    have HK3 := Lib.hid (HX.out.2.1.past hb3)
    clear HCC hb3
    go_simp
    refine hK _ _ (fun _ => trivial) ?_
    clear hK K
    refine wpAnyC_one (i := 8) rfl (by kernel_rfl) (fun K hK => ?_)
    go_simp
    refine (AllNumbers_any B 0 9 G [v0, v1, v2, v3, v4, v5, v6, v7, v8] w3 rfl (by decide) hc3).mono ?_
    rintro e w4 ⟨rfl, rfl⟩
    rw [hA]
    go_simp
    refine hK _ _ (fun _ => trivial) ?_
    clear hK K hc3
    refine wpAnyC_one (i := 9) rfl (by kernel_rfl) (fun K hK => ?_)
    go_simp
    refine hK _ _ (fun h => by rw [getD_setSelf] at h; cases h) ?_
    clear hK K
    refine wpAnyC_done (by kernel_rfl) ?_
    go_wp2_with fail
    go_ret
    exact ⟨rfl, HB3.out⟩
  case true =>
    cases hP : pw3 v3 v4 v5
    all_goals
      go_enter Tryz.func24, Tryz.ntmps24
      go_upto_region 1 with fail
      refine wp_world (fun W hW => ?_)
      have HWp : Blk W w.heap.size [.float .f32 v0, .float .f32 v1, .float .f32 v2, .float .f32 v3, .float .f32 v4, .float .f32 v5, .float .f32 v6, .float .f32 v7, .float .f32 v8] ∧ Below w.heap.size w W := by rw [hW]; exact ⟨Blk.new _ _ _ _ rfl, by (repeat (first | exact Below.refl _ _ | assumption | (refine Below.setCell ?_ (by first | (simp; done) | (simp; omega) | omega) _) | (refine Below.drew ?_) | (refine below_drewN ?_ _) | (refine Below.alloc ?_ (by first | (simp; done) | (simp; omega) | omega) _) | (refine Below.trans ?_ (Below.mono (by assumption) (by first | (simp; done) | (simp; omega) | omega)))))⟩
      obtain ⟨pl, hpl⟩ : ∃ pl, pl = w.heap.size := ⟨_, rfl⟩
      have HW : Hid (Blk W pl [.float .f32 v0, .float .f32 v1, .float .f32 v2, .float .f32 v3, .float .f32 v4, .float .f32 v5, .float .f32 v6, .float .f32 v7, .float .f32 v8] ∧ Below w.heap.size w W) := Lib.hid (by rw [hpl]; exact HWp)
      rw [← hpl]
      clear hW HWp hpl
      have hC : True := trivial
      refine wp_region_C (fun _ => True) 9 10 (by kernel_rfl) rfl ?_
      refine wpAnyC_take (i := 0) (v := .pointer (some ⟨pl, 0, none⟩)) rfl (by kernel_rfl) (by kernel_rfl) (fun _ _ _ h => h) (.inl ⟨rfl, fun w' _ => ?_⟩) hC ?_
      · go_simp
      refine wpAnyC_act (by rfl) ?_
      simp only [Act.put, List.setIfInBounds_toArray, List.set_cons_zero, List.set_cons_succ]
      refine wpAnyC_take (i := 1) (v := .slice (some ⟨pl, 0, none⟩) 3 3) rfl (by kernel_rfl) (by kernel_rfl) (fun _ _ _ h => h) (.inl ⟨rfl, fun w' _ => ?_⟩) hC ?_
      · go_simp
      refine wpAnyC_act (by rfl) ?_
      simp only [Act.put, List.setIfInBounds_toArray, List.set_cons_zero, List.set_cons_succ]
      refine wpAnyC_take (i := 2) (v := .pointer (some ⟨pl, 3, none⟩)) rfl (by kernel_rfl) (by kernel_rfl) (fun _ _ _ h => h) (.inl ⟨rfl, fun w' _ => ?_⟩) hC ?_
      · go_simp
      refine wpAnyC_act (by rfl) ?_
      simp only [Act.put, List.setIfInBounds_toArray, List.set_cons_zero, List.set_cons_succ]
      refine wpAnyC_take (i := 3) (v := .slice (some ⟨pl, 3, none⟩) 3 3) rfl (by kernel_rfl) (by kernel_rfl) (fun _ _ _ h => h) (.inl ⟨rfl, fun w' _ => ?_⟩) hC ?_
      · go_simp
      refine wpAnyC_act (by rfl) ?_
      simp only [Act.put, List.setIfInBounds_toArray, List.set_cons_zero, List.set_cons_succ]
      refine wpAnyC_take (i := 4) (v := .pointer (some ⟨pl, 6, none⟩)) rfl (by kernel_rfl) (by kernel_rfl) (fun _ _ _ h => h) (.inl ⟨rfl, fun w' _ => ?_⟩) hC ?_
      · go_simp
      refine wpAnyC_act (by rfl) ?_
      simp only [Act.put, List.setIfInBounds_toArray, List.set_cons_zero, List.set_cons_succ]
      refine wpAnyC_take (i := 5) (v := .slice (some ⟨pl, 6, none⟩) 3 3) rfl (by kernel_rfl) (by kernel_rfl) (fun _ _ _ h => h) (.inl ⟨rfl, fun w' _ => ?_⟩) hC ?_
      · go_simp
      refine wpAnyC_act (by rfl) ?_
      simp only [Act.put, List.setIfInBounds_toArray, List.set_cons_zero, List.set_cons_succ]
      refine wpAnyC_one (i := 6) rfl (by kernel_rfl) (fun K hK => ?_)
      go_simp
      refine hK _ _ (fun _ => trivial) ?_
      clear hK K
      refine wpAnyC_world (fun W2 hW2 => ?_)
      have HX : Hid (Blk W2 W.heap.size [.slice (some ⟨pl, 0, none⟩) 3 3, .slice (some ⟨pl, 3, none⟩) 3 3, .slice (some ⟨pl, 6, none⟩) 3 3] ∧ Blk W2 pl [.float .f32 v0, .float .f32 v1, .float .f32 v2, .float .f32 v3, .float .f32 v4, .float .f32 v5, .float .f32 v6, .float .f32 v7, .float .f32 v8] ∧ Below w.heap.size w W2) := Lib.hid (by
        rw [hW2]
        exact ⟨(Blk.new _ _ _ _ rfl).drew, (HW.out.1.alloc _).drew, (HW.out.2.alloc HW.out.2.size _).drew⟩)
      clear hW2
      have HCC : Hid (Calls Tryz.prog 43 #[.slice (some ⟨W.heap.size, 0, none⟩) 3 3] W2 fun e w' => ∃ B G, e = .returned (.slice (some ⟨B, 0, none⟩) 9 G) ∧ (∀ i, i < 9 → w'.cell? ⟨B, 0 + i, none⟩ = some (.float .f32 ([v0, v1, v2, v3, v4, v5, v6, v7, v8].getD i 0))) ∧ Below W2.heap.size W2 w') := Lib.hid (Concat_any (pcs v0 v1 v2 v3 v4 v5 v6 v7 v8 0) 3 W.heap.size 0 3 W2 (Nat.le_refl _) (by decide) (by show 0 < 9; decide) (by show 9 ≤ 1000; decide) (fun i hi => by
        rw [Nat.zero_add]
        match i, hi with
        | 0, _ => exact ⟨pl, 0, 3, HX.out.1.c 0 _ rfl, blk_part (l := [v0, v1, v2, v3, v4, v5, v6, v7, v8]) HX.out.2.1 0 3 rfl⟩
        | 1, _ => exact ⟨pl, 3, 3, HX.out.1.c 1 _ rfl, blk_part (l := [v0, v1, v2, v3, v4, v5, v6, v7, v8]) HX.out.2.1 3 3 rfl⟩
        | 2, _ => exact ⟨pl, 6, 3, HX.out.1.c 2 _ rfl, blk_part (l := [v0, v1, v2, v3, v4, v5, v6, v7, v8]) HX.out.2.1 6 3 rfl⟩))
      refine wpAnyC_one (i := 7) rfl (by kernel_rfl) (fun K hK => ?_)
      go_simp
      refine HCC.out.mono ?_
      rintro e w3 ⟨B, G, rfl, hc3, hb3⟩
      have HB3 := Lib.hid (HX.out.2.2.trans (hb3.mono HX.out.2.2.size))
      have HK3 := Lib.hid (HX.out.2.1.past hb3)
      clear HCC hb3
      go_simp
      refine hK _ _ (fun _ => trivial) ?_
      clear hK K
      refine wpAnyC_one (i := 8) rfl (by kernel_rfl) (fun K hK => ?_)
      go_simp
      refine (AllNumbers_any B 0 9 G [v0, v1, v2, v3, v4, v5, v6, v7, v8] w3 rfl (by decide) hc3).mono ?_
      rintro e w4 ⟨rfl, rfl⟩
      rw [hA]
      go_simp
      refine hK _ _ (fun _ => trivial) ?_
      clear hK K hc3
      refine wpAnyC_one (i := 9) rfl (by kernel_rfl) (fun K hK => ?_)
      go_simp
      refine hK _ _ (fun h => by rw [getD_setSelf] at h; cases h) ?_
      clear hK K
      refine wpAnyC_done (by kernel_rfl) ?_
      have m3 := HK3.out.c 3 _ rfl; have m4 := HK3.out.c 4 _ rfl; have m5 := HK3.out.c 5 _ rfl; have ml := HK3.out.lt
      go_wp2_with (go_at_call 44; refine (powered_any v3 v4 v5 _).mono ?_; rintro e w5 ⟨rfl, hb5⟩; rw [hP])
      go_ret
      exact ⟨rfl, HB3.out.trans (hb5.mono HB3.out.size)⟩
def ngB (v : Nat) : Bool := FloatKind.f32.format.order v 0 == some .lt
def sgB (v : Nat) : Bool := FloatKind.f32.format.order v 1090519040 == some .gt
def liE (l : List Nat) : Int := if allNum l then (if ngB (l.getD 0 0) then 3 else if ngB (l.getD 1 0) then 3 else if ngB (l.getD 2 0) then 3 else if pw3 (l.getD 6 0) (l.getD 7 0) (l.getD 8 0) then (if ngB (l.getD 9 0) then 3 else if sgB (l.getD 9 0) then 3 else 0) else 3) else 2
set_option maxRecDepth 100000 in
set_option maxHeartbeats 3200000 in
theorem CheckList_any (v0 v1 v2 v3 v4 v5 v6 v7 v8 v9 : Nat) (w : World) : Calls Tryz.prog 25 #[.agg #[.float .f32 v0, .float .f32 v1, .float .f32 v2, .float .f32 v3, .float .f32 v4, .float .f32 v5, .float .f32 v6, .float .f32 v7, .float .f32 v8, .float .f32 v9]] w fun e w' => e = .returned (.int .i64 (liE [v0, v1, v2, v3, v4, v5, v6, v7, v8, v9])) ∧ Below w.heap.size w w' := by
  have HE := Lib.hid (show liE [v0, v1, v2, v3, v4, v5, v6, v7, v8, v9] = if allNum [v0, v1, v2, v3, v4, v5, v6, v7, v8, v9] then (if ngB v0 then 3 else if ngB v1 then 3 else if ngB v2 then 3 else if pw3 v6 v7 v8 then (if ngB v9 then 3 else if sgB v9 then 3 else 0) else 3) else 2 from rfl)
  cases hA : allNum [v0, v1, v2, v3, v4, v5, v6, v7, v8, v9]
  case false =>
    go_enter Tryz.func25, Tryz.ntmps25
    go_upto_region 1 with fail
    refine wp_world (fun W hW => ?_)
    have HWp : Blk W w.heap.size [.float .f32 v0, .float .f32 v1, .float .f32 v2, .float .f32 v3, .float .f32 v4, .float .f32 v5, .float .f32 v6, .float .f32 v7, .float .f32 v8, .float .f32 v9] ∧ Below w.heap.size w W := by rw [hW]; exact ⟨Blk.new _ _ _ _ rfl, by (repeat (first | exact Below.refl _ _ | assumption | (refine Below.setCell ?_ (by first | (simp; done) | (simp; omega) | omega) _) | (refine Below.drew ?_) | (refine below_drewN ?_ _) | (refine Below.alloc ?_ (by first | (simp; done) | (simp; omega) | omega) _) | (refine Below.trans ?_ (Below.mono (by assumption) (by first | (simp; done) | (simp; omega) | omega)))))⟩
    obtain ⟨pl, hpl⟩ : ∃ pl, pl = w.heap.size := ⟨_, rfl⟩
    have HW : Hid (Blk W pl [.float .f32 v0, .float .f32 v1, .float .f32 v2, .float .f32 v3, .float .f32 v4, .float .f32 v5, .float .f32 v6, .float .f32 v7, .float .f32 v8, .float .f32 v9] ∧ Below w.heap.size w W) := Lib.hid (by rw [hpl]; exact HWp)
    rw [← hpl]
    clear hW HWp hpl
    have hC := (HW.out.1.drew).c 9 _ rfl
    refine wp_region_C (fun w' => w'.cell? ⟨pl, 9, none⟩ = some (.float .f32 v9)) 12 13 (by kernel_rfl) rfl ?_
    refine wpAnyC_take (i := 0) (v := .pointer (some ⟨pl, 0, none⟩)) rfl (by kernel_rfl) (by kernel_rfl) (fun _ _ _ h => h) (.inl ⟨rfl, fun w' k0 => ?_⟩) hC ?_
    · go_simp
    refine wpAnyC_act (by rfl) ?_
    simp only [Act.put, List.setIfInBounds_toArray, List.set_cons_zero, List.set_cons_succ]
    refine wpAnyC_take (i := 1) (v := .slice (some ⟨pl, 0, none⟩) 3 3) rfl (by kernel_rfl) (by kernel_rfl) (fun _ _ _ h => h) (.inl ⟨rfl, fun w' k0 => ?_⟩) hC ?_
    · go_simp
    refine wpAnyC_act (by rfl) ?_
    simp only [Act.put, List.setIfInBounds_toArray, List.set_cons_zero, List.set_cons_succ]
    refine wpAnyC_take (i := 2) (v := .pointer (some ⟨pl, 3, none⟩)) rfl (by kernel_rfl) (by kernel_rfl) (fun _ _ _ h => h) (.inl ⟨rfl, fun w' k0 => ?_⟩) hC ?_
    · go_simp
    refine wpAnyC_act (by rfl) ?_
    simp only [Act.put, List.setIfInBounds_toArray, List.set_cons_zero, List.set_cons_succ]
    refine wpAnyC_take (i := 3) (v := .slice (some ⟨pl, 3, none⟩) 3 3) rfl (by kernel_rfl) (by kernel_rfl) (fun _ _ _ h => h) (.inl ⟨rfl, fun w' k0 => ?_⟩) hC ?_
    · go_simp
    refine wpAnyC_act (by rfl) ?_
    simp only [Act.put, List.setIfInBounds_toArray, List.set_cons_zero, List.set_cons_succ]
    refine wpAnyC_take (i := 4) (v := .pointer (some ⟨pl, 6, none⟩)) rfl (by kernel_rfl) (by kernel_rfl) (fun _ _ _ h => h) (.inl ⟨rfl, fun w' k0 => ?_⟩) hC ?_
    · go_simp
    refine wpAnyC_act (by rfl) ?_
    simp only [Act.put, List.setIfInBounds_toArray, List.set_cons_zero, List.set_cons_succ]
    refine wpAnyC_take (i := 5) (v := .slice (some ⟨pl, 6, none⟩) 3 3) rfl (by kernel_rfl) (by kernel_rfl) (fun _ _ _ h => h) (.inl ⟨rfl, fun w' k0 => ?_⟩) hC ?_
    · go_simp
    refine wpAnyC_act (by rfl) ?_
    simp only [Act.put, List.setIfInBounds_toArray, List.set_cons_zero, List.set_cons_succ]
    refine wpAnyC_take (i := 6) (v := .pointer (some ⟨pl, 9, none⟩)) rfl (by kernel_rfl) (by kernel_rfl) (fun _ _ _ h => h) (.inl ⟨rfl, fun w' k0 => ?_⟩) hC ?_
    · go_simp
    refine wpAnyC_act (by rfl) ?_
    simp only [Act.put, List.setIfInBounds_toArray, List.set_cons_zero, List.set_cons_succ]
    refine wpAnyC_take (i := 7) (v := .float .f32 v9) rfl (by kernel_rfl) (by kernel_rfl) (fun _ _ _ h => h) (.inl ⟨rfl, fun w' k0 => ?_⟩) hC ?_
    · go_simp
    refine wpAnyC_act (by rfl) ?_
    simp only [Act.put, List.setIfInBounds_toArray, List.set_cons_zero, List.set_cons_succ]
    clear hC
    refine wpAnyC_one (i := 8) rfl (by kernel_rfl) (fun K hK => ?_)
    go_simp
    refine hK _ _ (fun _ => by first | exact ((HW.out.1.alloc _).drew).c 9 _ rfl | exact ((HW.out.1.drew).alloc _).c 9 _ rfl) ?_
    clear hK K
    refine wpAnyC_world (fun W1 hW1 => ?_)
    have HV : Hid (Blk W1 W.heap.size [.float .f32 v9] ∧ Blk W1 pl [.float .f32 v0, .float .f32 v1, .float .f32 v2, .float .f32 v3, .float .f32 v4, .float .f32 v5, .float .f32 v6, .float .f32 v7, .float .f32 v8, .float .f32 v9] ∧ Below w.heap.size w W1) := Lib.hid (by
      rw [hW1]
      exact ⟨by first | exact (Blk.new _ _ _ _ rfl).drew | exact Blk.new _ _ _ _ (by simp), by first | exact (HW.out.1.alloc _).drew | exact (HW.out.1.drew).alloc _, by have h := HW.out.2; have hs := h.size; (repeat (first | exact Below.refl _ _ | assumption | (refine Below.setCell ?_ (by first | (simp; done) | (simp; omega) | omega) _) | (refine Below.drew ?_) | (refine below_drewN ?_ _) | (refine Below.alloc ?_ (by first | (simp; done) | (simp; omega) | omega) _) | (refine Below.trans ?_ (Below.mono (by assumption) (by first | (simp; done) | (simp; omega) | omega)))))⟩)
    clear hW1
    obtain ⟨pv, hpv⟩ : ∃ pv, pv = W.heap.size := ⟨_, rfl⟩
    rw [← hpv] at HV
    rw [← hpv]
    clear hpv
    
    refine wpAnyC_one (i := 9) rfl (by kernel_rfl) (fun K hK => ?_)
    go_simp
    refine hK _ _ (fun _ => by first | exact ((HV.out.2.1.alloc _).drew).c 9 _ rfl | exact (HV.out.2.1.alloc _).c 9 _ rfl) ?_
    clear hK K
    refine wpAnyC_world (fun W2 hW2 => ?_)
    have HX : Hid (Blk W2 W1.heap.size [.slice (some ⟨pl, 0, none⟩) 3 3, .slice (some ⟨pl, 3, none⟩) 3 3, .slice (some ⟨pl, 6, none⟩) 3 3, .slice (some ⟨pv, 0, none⟩) 1 1] ∧ Blk W2 pl [.float .f32 v0, .float .f32 v1, .float .f32 v2, .float .f32 v3, .float .f32 v4, .float .f32 v5, .float .f32 v6, .float .f32 v7, .float .f32 v8, .float .f32 v9] ∧ Blk W2 pv [.float .f32 v9] ∧ Below w.heap.size w W2) := Lib.hid (by
      rw [hW2]
      exact ⟨by first | exact (Blk.new _ _ _ _ rfl).drew | exact Blk.new _ _ _ _ rfl, by first | exact (HV.out.2.1.alloc _).drew | exact HV.out.2.1.alloc _, by first | exact (HV.out.1.alloc _).drew | exact HV.out.1.alloc _, by first | exact (HV.out.2.2.alloc HV.out.2.2.size _).drew | exact HV.out.2.2.alloc HV.out.2.2.size _⟩)
    clear hW2
    have HCC : Hid (Calls Tryz.prog 43 #[.slice (some ⟨W1.heap.size, 0, none⟩) 4 4] W2 fun e w' => ∃ B G, e = .returned (.slice (some ⟨B, 0, none⟩) 10 G) ∧ (∀ i, i < 10 → w'.cell? ⟨B, 0 + i, none⟩ = some (.float .f32 ([v0, v1, v2, v3, v4, v5, v6, v7, v8, v9].getD i 0))) ∧ Below W2.heap.size W2 w') := Lib.hid (Concat_any (pcs v0 v1 v2 v3 v4 v5 v6 v7 v8 v9) 4 W1.heap.size 0 4 W2 (Nat.le_refl _) (by decide) (by show 0 < 10; decide) (by show 10 ≤ 1000; decide) (fun i hi => by
      rw [Nat.zero_add]
      match i, hi with
      | 0, _ => exact ⟨pl, 0, 3, HX.out.1.c 0 _ rfl, blk_part (l := [v0, v1, v2, v3, v4, v5, v6, v7, v8, v9]) HX.out.2.1 0 3 rfl⟩
      | 1, _ => exact ⟨pl, 3, 3, HX.out.1.c 1 _ rfl, blk_part (l := [v0, v1, v2, v3, v4, v5, v6, v7, v8, v9]) HX.out.2.1 3 3 rfl⟩
      | 2, _ => exact ⟨pl, 6, 3, HX.out.1.c 2 _ rfl, blk_part (l := [v0, v1, v2, v3, v4, v5, v6, v7, v8, v9]) HX.out.2.1 6 3 rfl⟩
      | 3, _ => exact ⟨pv, 0, 1, HX.out.1.c 3 _ rfl, blk_part (l := [v9]) HX.out.2.2.1 0 1 rfl⟩))
    refine wpAnyC_one (i := 10) rfl (by kernel_rfl) (fun K hK => ?_)
    go_simp
    refine HCC.out.mono ?_
    rintro e w3 ⟨B, G, rfl, hc3, hb3⟩
    have HB3 := Lib.hid (HX.out.2.2.2.trans (hb3.mono HX.out.2.2.2.size))
    have HK3 := Lib.hid (HX.out.2.1.past hb3)
    clear HCC hb3
    go_simp
    refine hK _ _ (fun _ => HK3.out.c 9 _ rfl) ?_
    clear hK K
    refine wpAnyC_one (i := 11) rfl (by kernel_rfl) (fun K hK => ?_)
    go_simp
    refine (AllNumbers_any B 0 10 G [v0, v1, v2, v3, v4, v5, v6, v7, v8, v9] w3 rfl (by decide) hc3).mono ?_
    rintro e w4 ⟨rfl, rfl⟩
    rw [hA]
    go_simp
    refine hK _ _ (fun _ => HK3.out.c 9 _ rfl) ?_
    clear hK K hc3
    refine wpAnyC_one (i := 12) rfl (by kernel_rfl) (fun K hK => ?_)
    go_simp
    refine hK _ _ (fun h => by rw [getD_setSelf] at h; cases h) ?_
    clear hK K
    refine wpAnyC_done (by kernel_rfl) ?_
    go_wp2_with fail
    go_ret
    rw [HE.out, hA]
    exact ⟨rfl, HB3.out⟩
  case true =>
    go_enter Tryz.func25, Tryz.ntmps25
    go_upto_region 1 with fail
    refine wp_world (fun W hW => ?_)
    have HWp : Blk W w.heap.size [.float .f32 v0, .float .f32 v1, .float .f32 v2, .float .f32 v3, .float .f32 v4, .float .f32 v5, .float .f32 v6, .float .f32 v7, .float .f32 v8, .float .f32 v9] ∧ Below w.heap.size w W := by rw [hW]; exact ⟨Blk.new _ _ _ _ rfl, by (repeat (first | exact Below.refl _ _ | assumption | (refine Below.setCell ?_ (by first | (simp; done) | (simp; omega) | omega) _) | (refine Below.drew ?_) | (refine below_drewN ?_ _) | (refine Below.alloc ?_ (by first | (simp; done) | (simp; omega) | omega) _) | (refine Below.trans ?_ (Below.mono (by assumption) (by first | (simp; done) | (simp; omega) | omega)))))⟩
    obtain ⟨pl, hpl⟩ : ∃ pl, pl = w.heap.size := ⟨_, rfl⟩
    have HW : Hid (Blk W pl [.float .f32 v0, .float .f32 v1, .float .f32 v2, .float .f32 v3, .float .f32 v4, .float .f32 v5, .float .f32 v6, .float .f32 v7, .float .f32 v8, .float .f32 v9] ∧ Below w.heap.size w W) := Lib.hid (by rw [hpl]; exact HWp)
    rw [← hpl]
    clear hW HWp hpl
    have hC := (HW.out.1.drew).c 9 _ rfl
    refine wp_region_C (fun w' => w'.cell? ⟨pl, 9, none⟩ = some (.float .f32 v9)) 12 13 (by kernel_rfl) rfl ?_
    refine wpAnyC_take (i := 0) (v := .pointer (some ⟨pl, 0, none⟩)) rfl (by kernel_rfl) (by kernel_rfl) (fun _ _ _ h => h) (.inl ⟨rfl, fun w' k0 => ?_⟩) hC ?_
    · go_simp
    refine wpAnyC_act (by rfl) ?_
    simp only [Act.put, List.setIfInBounds_toArray, List.set_cons_zero, List.set_cons_succ]
    refine wpAnyC_take (i := 1) (v := .slice (some ⟨pl, 0, none⟩) 3 3) rfl (by kernel_rfl) (by kernel_rfl) (fun _ _ _ h => h) (.inl ⟨rfl, fun w' k0 => ?_⟩) hC ?_
    · go_simp
    refine wpAnyC_act (by rfl) ?_
    simp only [Act.put, List.setIfInBounds_toArray, List.set_cons_zero, List.set_cons_succ]
    refine wpAnyC_take (i := 2) (v := .pointer (some ⟨pl, 3, none⟩)) rfl (by kernel_rfl) (by kernel_rfl) (fun _ _ _ h => h) (.inl ⟨rfl, fun w' k0 => ?_⟩) hC ?_
    · go_simp
    refine wpAnyC_act (by rfl) ?_
    simp only [Act.put, List.setIfInBounds_toArray, List.set_cons_zero, List.set_cons_succ]
    refine wpAnyC_take (i := 3) (v := .slice (some ⟨pl, 3, none⟩) 3 3) rfl (by kernel_rfl) (by kernel_rfl) (fun _ _ _ h => h) (.inl ⟨rfl, fun w' k0 => ?_⟩) hC ?_
    · go_simp
    refine wpAnyC_act (by rfl) ?_
    simp only [Act.put, List.setIfInBounds_toArray, List.set_cons_zero, List.set_cons_succ]
    refine wpAnyC_take (i := 4) (v := .pointer (some ⟨pl, 6, none⟩)) rfl (by kernel_rfl) (by kernel_rfl) (fun _ _ _ h => h) (.inl ⟨rfl, fun w' k0 => ?_⟩) hC ?_
    · go_simp
    refine wpAnyC_act (by rfl) ?_
    simp only [Act.put, List.setIfInBounds_toArray, List.set_cons_zero, List.set_cons_succ]
    refine wpAnyC_take (i := 5) (v := .slice (some ⟨pl, 6, none⟩) 3 3) rfl (by kernel_rfl) (by kernel_rfl) (fun _ _ _ h => h) (.inl ⟨rfl, fun w' k0 => ?_⟩) hC ?_
    · go_simp
    refine wpAnyC_act (by rfl) ?_
    simp only [Act.put, List.setIfInBounds_toArray, List.set_cons_zero, List.set_cons_succ]
    refine wpAnyC_take (i := 6) (v := .pointer (some ⟨pl, 9, none⟩)) rfl (by kernel_rfl) (by kernel_rfl) (fun _ _ _ h => h) (.inl ⟨rfl, fun w' k0 => ?_⟩) hC ?_
    · go_simp
    refine wpAnyC_act (by rfl) ?_
    simp only [Act.put, List.setIfInBounds_toArray, List.set_cons_zero, List.set_cons_succ]
    refine wpAnyC_take (i := 7) (v := .float .f32 v9) rfl (by kernel_rfl) (by kernel_rfl) (fun _ _ _ h => h) (.inl ⟨rfl, fun w' k0 => ?_⟩) hC ?_
    · go_simp
    refine wpAnyC_act (by rfl) ?_
    simp only [Act.put, List.setIfInBounds_toArray, List.set_cons_zero, List.set_cons_succ]
    clear hC
    refine wpAnyC_one (i := 8) rfl (by kernel_rfl) (fun K hK => ?_)
    go_simp
    refine hK _ _ (fun _ => by first | exact ((HW.out.1.alloc _).drew).c 9 _ rfl | exact ((HW.out.1.drew).alloc _).c 9 _ rfl) ?_
    clear hK K
    refine wpAnyC_world (fun W1 hW1 => ?_)
    have HV : Hid (Blk W1 W.heap.size [.float .f32 v9] ∧ Blk W1 pl [.float .f32 v0, .float .f32 v1, .float .f32 v2, .float .f32 v3, .float .f32 v4, .float .f32 v5, .float .f32 v6, .float .f32 v7, .float .f32 v8, .float .f32 v9] ∧ Below w.heap.size w W1) := Lib.hid (by
      rw [hW1]
      exact ⟨by first | exact (Blk.new _ _ _ _ rfl).drew | exact Blk.new _ _ _ _ (by simp), by first | exact (HW.out.1.alloc _).drew | exact (HW.out.1.drew).alloc _, by have h := HW.out.2; have hs := h.size; (repeat (first | exact Below.refl _ _ | assumption | (refine Below.setCell ?_ (by first | (simp; done) | (simp; omega) | omega) _) | (refine Below.drew ?_) | (refine below_drewN ?_ _) | (refine Below.alloc ?_ (by first | (simp; done) | (simp; omega) | omega) _) | (refine Below.trans ?_ (Below.mono (by assumption) (by first | (simp; done) | (simp; omega) | omega)))))⟩)
    clear hW1
    obtain ⟨pv, hpv⟩ : ∃ pv, pv = W.heap.size := ⟨_, rfl⟩
    rw [← hpv] at HV
    rw [← hpv]
    clear hpv
    
    refine wpAnyC_one (i := 9) rfl (by kernel_rfl) (fun K hK => ?_)
    go_simp
    refine hK _ _ (fun _ => by first | exact ((HV.out.2.1.alloc _).drew).c 9 _ rfl | exact (HV.out.2.1.alloc _).c 9 _ rfl) ?_
    clear hK K
    refine wpAnyC_world (fun W2 hW2 => ?_)
    have HX : Hid (Blk W2 W1.heap.size [.slice (some ⟨pl, 0, none⟩) 3 3, .slice (some ⟨pl, 3, none⟩) 3 3, .slice (some ⟨pl, 6, none⟩) 3 3, .slice (some ⟨pv, 0, none⟩) 1 1] ∧ Blk W2 pl [.float .f32 v0, .float .f32 v1, .float .f32 v2, .float .f32 v3, .float .f32 v4, .float .f32 v5, .float .f32 v6, .float .f32 v7, .float .f32 v8, .float .f32 v9] ∧ Blk W2 pv [.float .f32 v9] ∧ Below w.heap.size w W2) := Lib.hid (by
      rw [hW2]
      exact ⟨by first | exact (Blk.new _ _ _ _ rfl).drew | exact Blk.new _ _ _ _ rfl, by first | exact (HV.out.2.1.alloc _).drew | exact HV.out.2.1.alloc _, by first | exact (HV.out.1.alloc _).drew | exact HV.out.1.alloc _, by first | exact (HV.out.2.2.alloc HV.out.2.2.size _).drew | exact HV.out.2.2.alloc HV.out.2.2.size _⟩)
    clear hW2
    have HCC : Hid (Calls Tryz.prog 43 #[.slice (some ⟨W1.heap.size, 0, none⟩) 4 4] W2 fun e w' => ∃ B G, e = .returned (.slice (some ⟨B, 0, none⟩) 10 G) ∧ (∀ i, i < 10 → w'.cell? ⟨B, 0 + i, none⟩ = some (.float .f32 ([v0, v1, v2, v3, v4, v5, v6, v7, v8, v9].getD i 0))) ∧ Below W2.heap.size W2 w') := Lib.hid (Concat_any (pcs v0 v1 v2 v3 v4 v5 v6 v7 v8 v9) 4 W1.heap.size 0 4 W2 (Nat.le_refl _) (by decide) (by show 0 < 10; decide) (by show 10 ≤ 1000; decide) (fun i hi => by
      rw [Nat.zero_add]
      match i, hi with
      | 0, _ => exact ⟨pl, 0, 3, HX.out.1.c 0 _ rfl, blk_part (l := [v0, v1, v2, v3, v4, v5, v6, v7, v8, v9]) HX.out.2.1 0 3 rfl⟩
      | 1, _ => exact ⟨pl, 3, 3, HX.out.1.c 1 _ rfl, blk_part (l := [v0, v1, v2, v3, v4, v5, v6, v7, v8, v9]) HX.out.2.1 3 3 rfl⟩
      | 2, _ => exact ⟨pl, 6, 3, HX.out.1.c 2 _ rfl, blk_part (l := [v0, v1, v2, v3, v4, v5, v6, v7, v8, v9]) HX.out.2.1 6 3 rfl⟩
      | 3, _ => exact ⟨pv, 0, 1, HX.out.1.c 3 _ rfl, blk_part (l := [v9]) HX.out.2.2.1 0 1 rfl⟩))
    refine wpAnyC_one (i := 10) rfl (by kernel_rfl) (fun K hK => ?_)
    go_simp
    refine HCC.out.mono ?_
    rintro e w3 ⟨B, G, rfl, hc3, hb3⟩
    have HB3 := Lib.hid (HX.out.2.2.2.trans (hb3.mono HX.out.2.2.2.size))
    have HK3 := Lib.hid (HX.out.2.1.past hb3)
    clear HCC hb3
    go_simp
    refine hK _ _ (fun _ => HK3.out.c 9 _ rfl) ?_
    clear hK K
    refine wpAnyC_one (i := 11) rfl (by kernel_rfl) (fun K hK => ?_)
    go_simp
    refine (AllNumbers_any B 0 10 G [v0, v1, v2, v3, v4, v5, v6, v7, v8, v9] w3 rfl (by decide) hc3).mono ?_
    rintro e w4 ⟨rfl, rfl⟩
    rw [hA]
    go_simp
    refine hK _ _ (fun _ => HK3.out.c 9 _ rfl) ?_
    clear hK K hc3
    refine wpAnyC_one (i := 12) rfl (by kernel_rfl) (fun K hK => ?_)
    go_simp
    refine hK _ _ (fun h => by rw [getD_setSelf] at h; cases h) ?_
    clear hK K
    refine wpAnyC_done (by kernel_rfl) ?_
    have m0 := HK3.out.c 0 _ rfl; have m1 := HK3.out.c 1 _ rfl; have m2 := HK3.out.c 2 _ rfl; have m6 := HK3.out.c 6 _ rfl; have m7 := HK3.out.c 7 _ rfl; have m8 := HK3.out.c 8 _ rfl; have m9 := HK3.out.c 9 _ rfl; have ml := HK3.out.lt
    cases h0 : (FloatKind.f32.format.order v0 0 == some .lt)
    case true =>
      go_wp2_with fail
      go_ret
      rw [HE.out]
      unfold ngB sgB
      simp only [hA, h0, if_true, if_false, Bool.false_eq_true]
      exact ⟨rfl, HB3.out⟩
    case false =>
      cases h1 : (FloatKind.f32.format.order v1 0 == some .lt)
      case true =>
        go_wp2_with fail
        go_ret
        rw [HE.out]
        unfold ngB sgB
        simp only [hA, h0, h1, if_true, if_false, Bool.false_eq_true]
        exact ⟨rfl, HB3.out⟩
      case false =>
        cases h2 : (FloatKind.f32.format.order v2 0 == some .lt)
        case true =>
          go_wp2_with fail
          go_ret
          rw [HE.out]
          unfold ngB sgB
          simp only [hA, h0, h1, h2, if_true, if_false, Bool.false_eq_true]
          exact ⟨rfl, HB3.out⟩
        case false =>
          cases hP : pw3 v6 v7 v8
          case false =>
            clear m9
            go_wp2_with (go_at_call 44; refine (powered_any v6 v7 v8 _).mono ?_; rintro e w5 ⟨rfl, hb5⟩; rw [hP]; have m9 := (HK3.out.past hb5).c 9 _ rfl; have ml := (HK3.out.past hb5).lt)
            go_ret
            rw [HE.out]
            unfold ngB sgB
            simp only [hA, h0, h1, h2, hP, if_true, if_false, Bool.false_eq_true]
            exact ⟨rfl, HB3.out.trans (hb5.mono HB3.out.size)⟩
          case true =>
            cases h9 : (FloatKind.f32.format.order v9 0 == some .lt)
            case true =>
              clear m9
              go_wp2_with (go_at_call 44; refine (powered_any v6 v7 v8 _).mono ?_; rintro e w5 ⟨rfl, hb5⟩; rw [hP]; have m9 := (HK3.out.past hb5).c 9 _ rfl; have ml := (HK3.out.past hb5).lt)
              go_ret
              rw [HE.out]
              unfold ngB sgB
              simp only [hA, h0, h1, h2, hP, h9, if_true, if_false, Bool.false_eq_true]
              exact ⟨rfl, HB3.out.trans (hb5.mono HB3.out.size)⟩
            case false =>
              cases g9 : (FloatKind.f32.format.order v9 1090519040 == some .gt)
              case true =>
                clear m9
                go_wp2_with (go_at_call 44; refine (powered_any v6 v7 v8 _).mono ?_; rintro e w5 ⟨rfl, hb5⟩; rw [hP]; have m9 := (HK3.out.past hb5).c 9 _ rfl; have ml := (HK3.out.past hb5).lt)
                go_ret
                rw [HE.out]
                unfold ngB sgB
                simp only [hA, h0, h1, h2, hP, h9, g9, if_true, if_false, Bool.false_eq_true]
                exact ⟨rfl, HB3.out.trans (hb5.mono HB3.out.size)⟩
              case false =>
                clear m9
                go_wp2_with (go_at_call 44; refine (powered_any v6 v7 v8 _).mono ?_; rintro e w5 ⟨rfl, hb5⟩; rw [hP]; have m9 := (HK3.out.past hb5).c 9 _ rfl; have ml := (HK3.out.past hb5).lt)
                go_ret
                rw [HE.out]
                unfold ngB sgB
                simp only [hA, h0, h1, h2, hP, h9, g9, if_true, if_false, Bool.false_eq_true]
                exact ⟨rfl, HB3.out.trans (hb5.mono HB3.out.size)⟩
end Go.Proofs.YthlomgbchmhjiaaGreatDoor

set_option linter.unusedSimpArgs false
set_option linter.unusedVariables false
namespace Go.Proofs.YthlomgbchmhjiaaGreatDoor
open Go Go.RowKit
set_option maxRecDepth 100000 in
theorem alln_at (ar : Option Addr) (nr cr : Nat) (rs : List Nat) (w : World) (hl : rs.length = nr) (hb : nr ≤ 1000) (hr : RealsAt 0 w ar rs) : Calls Tryz.prog 9 #[.slice ar nr cr] w fun e w' => e = .returned (.bool (allNum rs)) ∧ w = w' := by
  rcases hr with h | ⟨b, off, rfl, -, -, hc⟩
  · subst h
    obtain rfl : nr = 0 := hl.symm
    go_enter Tryz.func9, Tryz.ntmps9
    go_wp2_with fail
    refine wp_loop_rounds 1 ?_
    rw [rounds_succ]
    go_wp2_with fail
    go_ret
    exact ⟨rfl, rfl⟩
  · exact AllNumbers_any b off nr cr rs w hl (by omega) (fun i hi => hc i _ (by rw [List.getD_eq_getElem?_getD, List.getElem?_eq_getElem (by omega)]; rfl))
theorem rl_at {w : World} {a : Option Addr} {l : List Nat} (h : RealsAt 0 w a l) (hl : 0 < l.length) : ∃ b off, a = some ⟨b, off, none⟩ ∧ ∀ i v, l[i]? = some v → w.cell? ⟨b, off + i, none⟩ = some (.float .f32 v) := by
  rcases h with h | ⟨b, off, h, -, -, hc⟩
  · subst h; simp at hl
  · exact ⟨b, off, h, hc⟩
def cvF (xs : List Nat) (i : Nat) : Int := if i = 0 then 0 else if FloatKind.f32.format.order (xs.getD i 0) (xs.getD (i - 1) 0) == some .gt then 0 else 8
def cvN (xs ys : List Nat) : Int := if xs.length = ys.length then (if xs.length < 2 then 2 else if 32 < xs.length then 2 else if allNum xs then (if allNum ys then fstN (cvF xs) xs.length else 2) else 2) else 2
def cvE (c : CurveD) : Int := if c.k = 1 ∨ c.k = 2 then cvN c.xs c.ys else 1
theorem cvF_at (xs : List Nat) (m : Nat) : cvF xs (m + 1) = if FloatKind.f32.format.order (xs.getD (m + 1) 0) (xs.getD m 0) == some .gt then 0 else 8 := by
  unfold cvF; rw [if_neg (by omega)]; rfl
set_option maxRecDepth 100000 in
set_option maxHeartbeats 3200000 in
theorem CheckCurve_any (c : CurveD) (w : World) (h : CurveAt w c) : Calls Tryz.prog 27 #[curveV c] w fun e w' => e = .returned (.int .i64 (cvE c)) ∧ Below w.heap.size w w' := by
  obtain ⟨k, xa, xc, xs, ya, yc, ys⟩ := c
  obtain ⟨hx, hy, hxb, hyb⟩ := h
  simp only at hx hy hxb hyb
  have HX := Lib.hid hx; have HY := Lib.hid hy
  clear hx hy
  have hxb2 : xs.length ≤ xc ∧ xc ≤ 9223372036854775807 := ⟨hxb.1, by have h1 := hxb.2; unfold maxLen at h1; omega⟩
  have hyb2 : ys.length ≤ yc ∧ yc ≤ 9223372036854775807 := ⟨hyb.1, by have h1 := hyb.2; unfold maxLen at h1; omega⟩
  obtain ⟨hxb3, hxb4⟩ := hxb2
  obtain ⟨hyb3, hyb4⟩ := hyb2
  clear hxb hyb
  have HCV := Lib.hid (show cvE ⟨k, xa, xc, xs, ya, yc, ys⟩ = if k = 1 ∨ k = 2 then cvN xs ys else 1 from rfl)
  have HCN := Lib.hid (show cvN xs ys = if xs.length = ys.length then (if xs.length < 2 then 2 else if 32 < xs.length then 2 else if allNum xs then (if allNum ys then fstN (cvF xs) xs.length else 2) else 2) else 2 from rfl)
  rw [show curveV ⟨k, xa, xc, xs, ya, yc, ys⟩ = .agg #[.int .i64 k, .slice xa xs.length xc, .slice ya ys.length yc] from rfl]
  by_cases hk : k = 1 ∨ k = 2
  · rw [HCV.out, if_pos hk]
    clear HCV
    have HAX : Hid (xs.length ≤ 1000 → ∀ w', Below w.heap.size w w' → Calls Tryz.prog 9 #[.slice xa xs.length xc] w' fun e w'' => e = .returned (.bool (allNum xs)) ∧ w' = w'') := Lib.hid (fun h1 w' hb => alln_at xa xs.length xc xs w' rfl h1 (HX.out.past hb))
    have HAY : Hid (ys.length ≤ 1000 → ∀ w', Below w.heap.size w w' → Calls Tryz.prog 9 #[.slice ya ys.length yc] w' fun e w'' => e = .returned (.bool (allNum ys)) ∧ w' = w'') := Lib.hid (fun h1 w' hb => alln_at ya ys.length yc ys w' rfl h1 (HY.out.past hb))
    obtain ⟨E, hE⟩ : ∃ E, E = cvN xs ys := ⟨_, rfl⟩
    rw [← hE]
    rw [← hE] at HCN
    clear hE
    obtain ⟨x, hx⟩ : ∃ x, x = xs.length := ⟨_, rfl⟩
    obtain ⟨y, hy⟩ : ∃ y, y = ys.length := ⟨_, rfl⟩
    have HXL := Lib.hid hx
    rw [← hx, ← hy] at HCN
    rw [← hx] at HAX hxb3
    rw [← hy] at HAY hyb3
    rw [← hx, ← hy]
    clear hx hy
    have hk3 : (k != 1) = false ∨ ((k != 1) = true ∧ (k != 2) = false) := by
      rcases hk with rfl | rfl
      · exact .inl rfl
      · exact .inr ⟨rfl, rfl⟩
    clear hk
    rcases hk3 with k1 | ⟨k1, k2⟩
    all_goals
      go_enter Tryz.func27, Tryz.ntmps27
      go_upto_region 1 with fail
      refine wp_world (fun W hW => ?_)
      have HWp : Blk W w.heap.size [.int .i64 k, .slice xa x xc, .slice ya y yc] ∧ Below w.heap.size w W := by rw [hW]; exact ⟨Blk.new _ _ _ _ rfl, by (repeat (first | exact Below.refl _ _ | assumption | (refine Below.setCell ?_ (by first | (simp; done) | (simp; omega) | omega) _) | (refine Below.drew ?_) | (refine below_drewN ?_ _) | (refine Below.alloc ?_ (by first | (simp; done) | (simp; omega) | omega) _) | (refine Below.trans ?_ (Below.mono (by assumption) (by first | (simp; done) | (simp; omega) | omega)))))⟩
      obtain ⟨pl, hpl⟩ : ∃ pl, pl = w.heap.size := ⟨_, rfl⟩
      have HW : Hid (Blk W pl [.int .i64 k, .slice xa x xc, .slice ya y yc] ∧ Below w.heap.size w W) := Lib.hid (by rw [hpl]; exact HWp)
      rw [← hpl]
      clear hW HWp hpl
      have m0 := HW.out.1.c 0 _ rfl; have m1 := HW.out.1.c 1 _ rfl; have m2 := HW.out.1.c 2 _ rfl; have ml := HW.out.1.lt
      by_cases q1 : x = y
      · subst q1
        rw [if_pos rfl] at HCN
        by_cases q2 : x < 2
        · rw [if_pos q2] at HCN
          have q2i : (x : Int) < 2 := by omega
          go_wp2_with fail
          go_ret
          rw [HCN.out]
          exact ⟨rfl, HW.out.2⟩
        · rw [if_neg q2] at HCN
          have q2i : ¬ (x : Int) < 2 := by omega
          by_cases q3 : 32 < x
          · rw [if_pos q3] at HCN
            have q3i : (32 : Int) < (x : Int) := by omega
            go_wp2_with fail
            go_ret
            rw [HCN.out]
            exact ⟨rfl, HW.out.2⟩
          · rw [if_neg q3] at HCN
            have q3i : ¬ (32 : Int) < (x : Int) := by omega
            cases hA : allNum xs
            case false =>
              rw [hA] at HCN HAX
              go_wp2_with (go_at_call 9; refine (HAX.out (by omega) _ HW.out.2).mono ?_; rintro e w3 ⟨rfl, rfl⟩)
              go_ret
              rw [HCN.out]
              exact ⟨rfl, HW.out.2⟩
            case true =>
              cases hB : allNum ys
              case false =>
                rw [hA, hB] at HCN
                rw [hA] at HAX
                rw [hB] at HAY
                go_wp2_with (first | (go_at_call 9; refine (HAX.out (by omega) _ HW.out.2).mono ?_; rintro e w3 ⟨rfl, rfl⟩; clear HAX) | (go_at_call 9; refine (HAY.out (by omega) _ HW.out.2).mono ?_; rintro e w3 ⟨rfl, rfl⟩))
                go_ret
                rw [HCN.out]
                exact ⟨rfl, HW.out.2⟩
              case true =>
                rw [hA, hB, if_pos rfl, if_pos rfl] at HCN
                rw [hA] at HAX
                rw [hB] at HAY
                obtain ⟨b, off, rfl, hrc⟩ := rl_at HX.out (by rw [← HXL.out]; omega)
                have HR := Lib.hid hrc
                clear hrc HX HY
                go_wp2_with (first | (go_at_call 9; refine (HAX.out (by omega) _ HW.out.2).mono ?_; rintro e w3 ⟨rfl, rfl⟩; clear HAX) | (go_at_call 9; refine (HAY.out (by omega) _ HW.out.2).mono ?_; rintro e w3 ⟨rfl, rfl⟩))
                clear m0 m1 m2 ml HAY
                go_loopw [3] (fun s3 wr => ∃ m : Nat, m + 1 ≤ x ∧ s3 = .int .i64 ((m : Int) + 1) ∧ fstN (cvF xs) (m + 1) = 0 ∧ Below W.heap.size W wr) (fun s3 _ => x - (intOf s3).toNat)
                case atStart => exact ⟨0, by omega, by first | rfl | go_num, by simp [fstN, cvF], Below.refl _ _⟩
                case round =>
                  obtain ⟨m, hm, rfl, hz, hq⟩ := hrel
                  have HZ := Lib.hid hz; have HQ := Lib.hid hq
                  have HQB := Lib.hid (HW.out.2.trans (hq.mono HW.out.2.size))
                  have HK := Lib.hid (HW.out.1.past hq)
                  clear hz hq
                  have m1 := HK.out.c 1 _ rfl; have ml := HK.out.lt
                  by_cases hmx : m + 1 < x
                  · have hmxi : (m : Int) + 1 < (x : Int) := by omega
                    have hl1 : m + 1 < xs.length := by rw [← HXL.out]; exact hmx
                    have d1 := HR.out (m + 1) (xs.getD (m + 1) 0) (by rw [List.getD_eq_getElem?_getD, List.getElem?_eq_getElem hl1]; rfl)
                    have d0 := HR.out m (xs.getD m 0) (by rw [List.getD_eq_getElem?_getD, List.getElem?_eq_getElem (show m < xs.length by omega)]; rfl)
                    have HF := Lib.hid (cvF_at xs m)
                    obtain ⟨u, hu⟩ : ∃ u, u = xs.getD (m + 1) 0 := ⟨_, rfl⟩
                    obtain ⟨v, hv⟩ : ∃ v, v = xs.getD m 0 := ⟨_, rfl⟩
                    rw [← hu] at d1; rw [← hv] at d0; rw [← hu, ← hv] at HF
                    have c1 := (HQB.out.cell (p := ⟨b, off + (m + 1), none⟩) (cell_lt d1)).trans d1
                    have c0 := (HQB.out.cell (p := ⟨b, off + m, none⟩) (cell_lt d0)).trans d0
                    have cl := cell_lt c0; simp only at cl
                    clear hu hv d0 d1 hl1
                    have e1 : wrap64 ((m : Int) + 1 - 1) = (m : Int) := by unfold wrap64; omega
                    have e2 : ((m : Int) + 1).toNat = m + 1 := by omega
                    have e3 : wrap64 ((m : Int) + 1 + 1) = (m : Int) + 1 + 1 := by unfold wrap64; omega
                    have e4 : (0 : Int) ≤ (m : Int) + 1 := by omega
                    have e5 : (m : Int) < (x : Int) := by omega
                    cases hG : (FloatKind.f32.format.order u v == some .gt)
                    case true =>
                      rw [hG, if_pos rfl] at HF
                      have HN := Lib.hid (fstN_succ HZ.out HF.out)
                      go_wp2_with fail
                      go_quiet (fail)
                      go_wp2_with fail
                      go_roundw
                      case rel => exact ⟨m + 1, by omega, by first | go_num | simp, HN.out, by have hh := HQ.out; have hs := hh.size; (repeat (first | exact Below.refl _ _ | assumption | (refine Below.setCell ?_ (by first | (simp; done) | (simp; omega) | omega) _) | (refine Below.drew ?_) | (refine below_drewN ?_ _) | (refine Below.alloc ?_ (by first | (simp; done) | (simp; omega) | omega) _) | (refine Below.trans ?_ (Below.mono (by assumption) (by first | (simp; done) | (simp; omega) | omega)))))⟩
                      case measure => simp [intOf] <;> omega
                    case false =>
                      rw [hG] at HF
                      have HN := Lib.hid (show E = 8 by rw [HCN.out, HXL.out, fstN_of HZ.out (by rw [HF.out]; decide) (by rw [← HXL.out]; exact hmx), HF.out]; rfl)
                      go_wp2_with fail
                      go_quiet (fail)
                      go_wp2_with fail
                      go_ret
                      rw [HN.out]
                      exact ⟨rfl, by have hh := HQB.out; have hs := hh.size; (repeat (first | exact Below.refl _ _ | assumption | (refine Below.setCell ?_ (by first | (simp; done) | (simp; omega) | omega) _) | (refine Below.drew ?_) | (refine below_drewN ?_ _) | (refine Below.alloc ?_ (by first | (simp; done) | (simp; omega) | omega) _) | (refine Below.trans ?_ (Below.mono (by assumption) (by first | (simp; done) | (simp; omega) | omega)))))⟩
                  · have hmxi : ¬ (m : Int) + 1 < (x : Int) := by omega
                    have hmE : m + 1 = x := by omega
                    have HN := Lib.hid (show E = 0 by rw [HCN.out, ← hmE]; exact HZ.out)
                    go_wp2_with fail
                    go_ret
                    rw [HN.out]
                    exact ⟨rfl, HQB.out⟩
      · rw [if_neg q1] at HCN
        have q1b : ((x : Int) != (y : Int)) = true := bne_iff_ne.2 (fun h => q1 (by omega))
        go_wp2_with fail
        go_ret
        rw [HCN.out]
        exact ⟨rfl, HW.out.2⟩
  · rw [HCV.out, if_neg hk]
    have k1 : (k != 1) = true := bne_iff_ne.2 (fun h => hk (.inl h))
    have k2 : (k != 2) = true := bne_iff_ne.2 (fun h => hk (.inr h))
    clear hk HCV HCN
    obtain ⟨x, hx⟩ : ∃ x, x = xs.length := ⟨_, rfl⟩
    obtain ⟨y, hy⟩ : ∃ y, y = ys.length := ⟨_, rfl⟩
    rw [← hx, ← hy]
    clear hx hy HX HY
    go_enter Tryz.func27, Tryz.ntmps27
    go_wp2_with fail
    go_ret
    exact ⟨rfl, by (repeat (first | exact Below.refl _ _ | assumption | (refine Below.setCell ?_ (by first | (simp; done) | (simp; omega) | omega) _) | (refine Below.drew ?_) | (refine below_drewN ?_ _) | (refine Below.alloc ?_ (by first | (simp; done) | (simp; omega) | omega) _) | (refine Below.trans ?_ (Below.mono (by assumption) (by first | (simp; done) | (simp; omega) | omega)))))⟩
end Go.Proofs.YthlomgbchmhjiaaGreatDoor

set_option linter.unusedSimpArgs false
set_option linter.unusedVariables false
namespace Go.Proofs.YthlomgbchmhjiaaGreatDoor
open Go Go.RowKit
/-- Whether p holds below n. -/
def anyW (p : Nat → Bool) : Nat → Bool
  | 0 => false
  | n + 1 => anyW p n || p n
theorem anyW_true {p : Nat → Bool} {k n : Nat} (hk : k < n) (h : p k = true) : anyW p n = true := by
  induction n with
  | zero => omega
  | succ n ih =>
    unfold anyW
    by_cases e : k = n
    · subst e; rw [h]; simp
    · rw [ih (by omega)]; rfl
def oB (v lo hi : Nat) : Bool := (FloatKind.f32.format.order v lo == some .lt) || (FloatKind.f32.format.order v hi == some .gt)
theorem outW_any (v lo hi : Nat) (w : World) : Calls Tryz.prog 45 #[.float .f32 v, .float .f32 lo, .float .f32 hi] w fun e w' => e = .returned (.bool (oB v lo hi)) ∧ w = w' := by
  have HO := Lib.hid (show oB v lo hi = ((FloatKind.f32.format.order v lo == some .lt) || (FloatKind.f32.format.order v hi == some .gt)) from rfl)
  cases h1 : (FloatKind.f32.format.order v lo == some .lt)
  case true =>
    go_enter Tryz.func45, Tryz.ntmps45
    go_wp2_with fail
    go_ret
    exact ⟨by rw [HO.out, h1]; rfl, rfl⟩
  case false =>
    go_enter Tryz.func45, Tryz.ntmps45
    go_wp2_with fail
    go_ret
    exact ⟨by rw [HO.out, h1]; rfl, rfl⟩
def plc (n : Int) : Bool := decide (-1048576 ≤ n) && decide (n ≤ 1048576)
theorem placed_any (n : Int) (w : World) : Calls Tryz.prog 48 #[.int .i64 n] w fun e w' => e = .returned (.bool (plc n)) ∧ w = w' := by
  have HP := Lib.hid (show plc n = (decide (-1048576 ≤ n) && decide (n ≤ 1048576)) from rfl)
  by_cases h1 : -1048576 ≤ n
  · go_enter Tryz.func48, Tryz.ntmps48
    go_wp2_with fail
    go_ret
    exact ⟨by rw [HP.out]; simp [h1] <;> omega, rfl⟩
  · go_enter Tryz.func48, Tryz.ntmps48
    go_wp2_with fail
    go_ret
    exact ⟨by rw [HP.out]; simp [h1] <;> omega, rfl⟩
theorem pointW_any (x y : Int) (w : World) : Calls Tryz.prog 47 #[.agg #[.int .i64 x, .int .i64 y]] w fun e w' => e = .returned (.bool (!(plc x) || !(plc y))) ∧ Below w.heap.size w w' := by
  have HX := Lib.hid (fun w => placed_any x w)
  have HY := Lib.hid (fun w => placed_any y w)
  generalize plc x = p at *
  generalize plc y = q at *
  cases p
  all_goals
    go_enter Tryz.func47, Tryz.ntmps47
    go_wp2_with (first | (go_at_call 48; refine (HX.out _).mono ?_; rintro e w3 ⟨rfl, rfl⟩; clear HX) | (go_at_call 48; refine (HY.out _).mono ?_; rintro e w3 ⟨rfl, rfl⟩))
    go_ret
    exact ⟨rfl, by (repeat (first | exact Below.refl _ _ | assumption | (refine Below.setCell ?_ (by first | (simp; done) | (simp; omega) | omega) _) | (refine Below.drew ?_) | (refine below_drewN ?_ _) | (refine Below.alloc ?_ (by first | (simp; done) | (simp; omega) | omega) _) | (refine Below.trans ?_ (Below.mono (by assumption) (by first | (simp; done) | (simp; omega) | omega)))))⟩
set_option maxRecDepth 100000 in
set_option maxHeartbeats 1600000 in
theorem IndexFP (K : Nat) (a : Option Addr) (n c : Nat) (px py : Nat → Int) (p : Nat → Bool) (w : World) (h : RowS w a n c 2 (fun j => [.int .i64 (px j), .int .i64 (py j)])) (hent : ∀ args w, (callFunc K args).run Tryz.prog w = .ok (.enter K args) w)
    (hk : ∀ j wr, j < n → Below w.heap.size w wr → Calls Tryz.prog K #[.agg #[.int .i64 (px j), .int .i64 (py j)]] wr fun e w' => e = .returned (.bool (p j)) ∧ Below wr.heap.size wr w') :
    Calls Tryz.prog 78 #[.slice a n c, .func (.func K) #[] #[]] w fun e w' => (∃ r : Int, e = .returned (.int .i64 r) ∧ (0 ≤ r ↔ anyW p n = true)) ∧ Below w.heap.size w w' := by
  have HH := Lib.hid h
  have HK := Lib.hid hk
  have hm63 : n ≤ 9223372036854775807 := by have h1 := h.lc; have h3 := h.lm; unfold maxLen at h3; omega
  clear h hk
  go_enter Tryz.func78, Tryz.ntmps78
  go_wp2_with fail
  go_loopw [8] (fun s8 wr => ∃ k : Nat, k ≤ n ∧ s8 = .int .i64 k ∧ anyW p k = false ∧ Below w.heap.size w wr) (fun s8 _ => n - (intOf s8).toNat)
  case atStart => exact ⟨0, Nat.zero_le _, rfl, rfl, Below.refl _ _⟩
  case round =>
    obtain ⟨k, hk, rfl, hz, hB⟩ := hrel
    have HZ := Lib.hid hz; have HB := Lib.hid hB
    clear hz
    by_cases hkm : k < n
    · have hkmi : (k : Int) < (n : Int) := by omega
      obtain ⟨b, off, rfl, hc⟩ := HH.out.get hkm
      have c1 := HH.out.lc
      have c2 : c ≤ 9223372036854775807 := by have := HH.out.lm; unfold maxLen at this; omega
      have d0 := hc 0 _ rfl
      have d1 := hc 1 _ rfl
      have c0 := (hB.cell (p := ⟨b, off + k * 2 + 0, none⟩) (cell_lt d0)).trans d0
      have c3 := (hB.cell (p := ⟨b, off + k * 2 + 1, none⟩) (cell_lt d1)).trans d1
      rw [Nat.add_zero] at c0
      have l0 := cell_lt c0; simp only at l0
      have HC := Lib.hid (HK.out k wr hkm hB)
      have HT := Lib.hid (fun h => anyW_true hkm h : p k = true → anyW p n = true)
      have HN := Lib.hid (show anyW p (k + 1) = (anyW p k || p k) from rfl)
      generalize px k = zf at *
      generalize py k = zt at *
      cases hr : p k
      · rw [hr] at HC
        have HS := Lib.hid (show anyW p (k + 1) = false by rw [HN.out, HZ.out, hr]; rfl)
        clear hc hB hr HN HT d0 d1
        go_wp2_with fail
        refine (HC.out).mono ?_
        rintro e w5 ⟨rfl, hb5⟩
        have HB5 := Lib.hid (HB.out.trans (hb5.mono HB.out.size))
        clear HC hb5 c0 c3 l0
        go_wp2_with fail
        go_roundw
        case rel => exact ⟨k + 1, by omega, by go_num, HS.out, HB5.out⟩
        case measure => simp [intOf]; omega
      · rw [hr] at HC
        have HS := Lib.hid (HT.out hr)
        clear hc hB hr HN HT d0 d1
        go_wp2_with fail
        refine (HC.out).mono ?_
        rintro e w5 ⟨rfl, hb5⟩
        have HB5 := Lib.hid (HB.out.trans (hb5.mono HB.out.size))
        clear HC hb5 c0 c3 l0
        go_wp2_with fail
        go_ret
        exact ⟨⟨_, rfl, by rw [HS.out]; simp⟩, HB5.out⟩
    · have hkmi : ¬ (k : Int) < (n : Int) := by omega
      have hkn : k = n := by omega
      have HE := Lib.hid (show anyW p n = false by rw [← hkn]; exact HZ.out)
      clear hB hkn
      go_wp2_with fail
      go_ret
      exact ⟨⟨_, rfl, by rw [HE.out]; simp⟩, HB.out⟩
set_option maxRecDepth 100000 in
set_option maxHeartbeats 1600000 in
theorem ContainsFP (K : Nat) (a : Option Addr) (n c : Nat) (px py : Nat → Int) (p : Nat → Bool) (w : World) (h : RowS w a n c 2 (fun j => [.int .i64 (px j), .int .i64 (py j)])) (hent : ∀ args w, (callFunc K args).run Tryz.prog w = .ok (.enter K args) w)
    (hk : ∀ j wr, j < n → Below w.heap.size w wr → Calls Tryz.prog K #[.agg #[.int .i64 (px j), .int .i64 (py j)]] wr fun e w' => e = .returned (.bool (p j)) ∧ Below wr.heap.size wr w') :
    Calls Tryz.prog 46 #[.slice a n c, .func (.func K) #[] #[]] w fun e w' => e = .returned (.bool (anyW p n)) ∧ Below w.heap.size w w' := by
  have HC := Lib.hid (IndexFP K a n c px py p w h hent hk)
  clear h hk hent
  go_enter Tryz.func46, Tryz.ntmps46
  go_wp2_with fail
  refine (HC.out).mono ?_
  rintro e w5 ⟨⟨r, rfl, hr⟩, hb⟩
  have HB := Lib.hid hb; have HR := Lib.hid hr
  clear hb hr
  have HD := Lib.hid (show decide ((0 : Int) ≤ r) = anyW p n by
    cases ha : anyW p n
    · exact decide_eq_false (fun h => by rw [HR.out, ha] at h; cases h)
    · exact decide_eq_true (HR.out.2 ha))
  go_wp2_with fail
  go_ret
  exact ⟨by rw [← HD.out]; rfl, HB.out⟩
def ptW (d : KeyD) : Bool := anyW (fun j => !(plc (d.px j)) || !(plc (d.py j))) d.pn
theorem points_any (d : KeyD) (w : World) (h : KeyAt w d) : Calls Tryz.prog 46 #[.slice d.pa d.pn d.pc, .func (.func 47) #[] #[]] w fun e w' => e = .returned (.bool (ptW d)) ∧ Below w.heap.size w w' :=
  ContainsFP 47 d.pa d.pn d.pc d.px d.py _ w h (body_enters Tryz.func47 (by kernel_rfl) rfl) (fun j wr _ _ => pointW_any _ _ wr)
def nz (v : Nat) : Bool := FloatKind.f32.format.order v 0 == some .eq
def nb (v : Nat) : Bool := FloatKind.f32.format.order v 0 != some .eq
def oW (d : KeyD) : Bool := oB d.x 3380609024 1233125376 || (oB d.y 3380609024 1233125376 || (oB d.w 0 1233125376 || (oB d.h 0 1233125376 || oB d.s 0 1166016512)))
def wiN (d : KeyD) (p : Bool) (c : Bool) : Int :=
  if allNum [d.x, d.y, d.w, d.h, d.s] then (if oW d then 3 else if p then 3 else if ptW d then 5 else if c then 12 else 0) else 2
def wiE (d : KeyD) : Int :=
  if d.k = 3 then wiN d (decide (d.pn < 3) || decide (32 < d.pn)) (nb d.x || (nb d.y || (nb d.w || (nb d.h || nb d.s))))
  else if d.k = 2 then wiN d (decide (0 < d.pn)) (nz d.w || nz d.h)
  else if d.k = 1 then wiN d (decide (0 < d.pn)) false
  else 1
def winV (d : KeyD) : Value := .agg #[.int .i64 d.k, .float .f32 d.x, .float .f32 d.y, .float .f32 d.w, .float .f32 d.h, .float .f32 d.s, .slice d.pa d.pn d.pc, .bool d.out]
end Go.Proofs.YthlomgbchmhjiaaGreatDoor
