/- slices.insertionSortCmpFunc over runs. Conditions: the row lies within the slice; the comparison answers by keys. -/
import Derived.Test.YtkadinjhfldokaaSrA
import Derived.BigQuiet
namespace Go.Proofs.Ytkadinjhfldokaa
open Go.RowKit
set_option maxRecDepth 100000 in
set_option maxHeartbeats 6400000 in
theorem insR_any (Pr : RunV → Prop) (C : RunV → RunV → Int) (K : RunV → Int) (w : World) (g n cap a b kc : Nat) (q : Nat → RunV) (wr : World) (hn : n ≤ 1073741824) (h1 : a ≤ b) (h2 : b ≤ n) (HC : Hid ((∀ args w, (callFunc kc args).run Try.prog w = .ok (.enter kc args) w) ∧ (∀ x y, Pr x → Pr y → (C x y < 0 ↔ K x < K y)) ∧ ∀ (x y : RunV) (wr : World), Pr x → Pr y → Calls Try.prog kc #[.agg #[.int .i64 x.wk, .int .i64 x.mc, .int .i64 x.fr, .int .i64 x.to, .bool x.fl], .agg #[.int .i64 y.wk, .int .i64 y.mc, .int .i64 y.fr, .int .i64 y.to, .bool y.fl]] wr fun e w' => e = .returned (.int .i64 (C x y)) ∧ Below wr.heap.size wr w')) (hw : SrW Pr w g n wr q) :
    Calls Try.prog 45 #[.slice (some ⟨g, 0, none⟩) n cap, .int .i64 a, .int .i64 b, .func (.func kc) #[] #[]] wr fun e w' => e = .returned (.tuple #[]) ∧ ∃ q', SrW Pr w g n w' q' ∧ PmR a b q q' ∧ SoR K a b q' := by
  have H0 := Lib.hid hw
  clear hw
  go_enter Try.func45, Try.ntmps45
  go_wp2_with fail
  go_loopw [8] (fun s8 wr => ∃ i : Nat, ∃ qq, s8 = .int .i64 i ∧ a < i ∧ (i ≤ b ∨ i = a + 1) ∧ SrW Pr w g n wr qq ∧ PmR a b q qq ∧ SoR K a i qq) (fun s8 _ => b + 1 - (intOf s8).toNat)
  case atStart => exact ⟨a + 1, q, by first | rfl | go_num, by omega, .inr rfl, H0.out, PmR.refl _ _ _, fun x y x1 x2 x3 => by
    obtain rfl : x = y := by omega
    exact Int.le_refl _⟩
  case round =>
    obtain ⟨i, qq, rfl, hi0, hi, hr, hp, hs⟩ := hrel
    have HR := Lib.hid (And.intro hr (And.intro hp hs))
    clear hr hp hs H0
    by_cases hib : i < b
    · have hib' : (i : Int) < (b : Int) := by omega
      go_wp2_with fail
      go_loopw [9] (fun s9 wr => ∃ j : Nat, ∃ qj, s9 = .int .i64 j ∧ a ≤ j ∧ j ≤ i ∧ SrW Pr w g n wr qj ∧ PmR a b q qj ∧ InsI K a i j qj) (fun s9 _ => (intOf s9).toNat)
      case atStart => exact ⟨i, qq, rfl, by omega, Nat.le_refl _, HR.out.1, HR.out.2.1, InsI.start HR.out.2.2⟩
      case round =>
        obtain ⟨j, qj, rfl, hj0, hj, hr, hp, hs⟩ := hrel
        have HJ := Lib.hid (And.intro hr (And.intro hp hs))
        clear hp hs HR
        by_cases hja : a < j
        · have hja' : (a : Int) < (j : Int) := by omega
          have hd : decide ((a : Int) < (j : Int)) = true := decide_eq_true hja'
          have hjn : j < n := by omega
          obtain ⟨J, hJ⟩ : ∃ J : Nat, J = j - 1 := ⟨_, rfl⟩
          have hJ1 : (j : Int) - 1 = (J : Int) := by omega
          have hJn : J < n := by omega
          have hJw : IntKind.i64.wrap (J : Int) = (J : Int) := by rw [IntKind.wrap_i64]; omega
          obtain ⟨x, hx⟩ : ∃ x, x = qj j := ⟨_, rfl⟩
          obtain ⟨y, hy⟩ : ∃ y, y = qj J := ⟨_, rfl⟩
          have x0 := hr.v.c0 j hjn; have x1 := hr.v.c1 j hjn; have x2 := hr.v.c2 j hjn; have x3 := hr.v.c3 j hjn; have x4 := hr.v.c4 j hjn
          have y0 := hr.v.c0 J hJn; have y1 := hr.v.c1 J hJn; have y2 := hr.v.c2 J hJn; have y3 := hr.v.c3 J hJn; have y4 := hr.v.c4 J hJn
          have cl := hr.v.lt
          have px : Pr x := by rw [hx]; exact hr.k _ (by omega)
          have py : Pr y := by rw [hy]; exact hr.k _ (by omega)
          rw [← hx] at x0 x1 x2 x3 x4
          rw [← hy] at y0 y1 y2 y3 y4
          have HX := Lib.hid (And.intro hx (And.intro hy hJ))
          clear hx hy hJ hr
          go_upto_region 4 with fail
          have hent := HC.out.1
          refine wp_region_loose 16 (fun _ _ u => u = .int .i64 (C x y)) (by kernel_rfl) (by kernel_rfl) ?_
          simp only [List.take_succ_cons, List.take_zero, List.drop_succ_cons, List.drop_zero]
          repeat (refine loose_wanted rfl (fun K hK => ?_); go_simp; refine hK _ ?_; clear hK K)
          refine loose_wanted rfl (fun K1 hK => ?_)
          go_simp
          refine ⟨fun p => (HC.out.2.2 x y _ px py).mono ?_, hK _ ?_⟩
          · rintro e w' ⟨rfl, hb⟩
            exact ⟨_, rfl, rfl, p.h.trans (hb.mono p.h.size)⟩
          clear hK K1 hent
          repeat (refine loose_wanted rfl (fun K hK => ?_); go_simp; refine hK _ ?_; clear hK K)
          refine loose_nil (fun W hB5 => ?_)
          have hJw2 := hJw
          have HW : Hid (SrW Pr w g n W qj) := Lib.hid (HJ.out.1.past hB5)
          clear hB5 x0 x1 x2 x3 x4 y0 y1 y2 y3 y4 cl
          by_cases hk : K x < K y
          · have hk1 : C x y < 0 := (HC.out.2.1 x y px py).2 hk
            have HK := Lib.hid hk
            clear hk
            have x0 := HW.out.v.c0 j hjn; have x1 := HW.out.v.c1 j hjn; have x2 := HW.out.v.c2 j hjn; have x3 := HW.out.v.c3 j hjn; have x4 := HW.out.v.c4 j hjn
            have y0 := HW.out.v.c0 J hJn; have y1 := HW.out.v.c1 J hJn; have y2 := HW.out.v.c2 J hJn; have y3 := HW.out.v.c3 J hJn; have y4 := HW.out.v.c4 J hJn
            rw [← HX.out.1] at x0 x1 x2 x3 x4
            rw [← HX.out.2.1] at y0 y1 y2 y3 y4
            have cl := HW.out.v.lt
            have cfr := HW.out.v.f
            go_upto_region 6 with fail
            refine wp_region_C (fun w' => w' = World.drew W) 15 18 (by kernel_rfl) rfl ?_
            refine wpAnyC_takeU (i := 0) (v := .slice (some ⟨g, 0, none⟩) n cap) rfl (by kernel_rfl) (fun _ _ _ h => h) (.inl ⟨rfl, fun w' _ => ?_⟩) (fun _ => rfl) ?_
            · go_simp
              all_goals (first | rfl | (rw [IntKind.wrap_i64]; omega))
            refine wpAnyC_act (by rfl) ?_
            simp only [Act.put, List.setIfInBounds_toArray, List.set_cons_zero, List.set_cons_succ]
            refine wpAnyC_takeU (i := 1) (v := .int .i64 j) rfl (by kernel_rfl) (fun _ _ _ h => h) (.inl ⟨rfl, fun w' _ => ?_⟩) (fun _ => rfl) ?_
            · go_simp
              all_goals (first | rfl | (rw [IntKind.wrap_i64]; omega))
            refine wpAnyC_act (by rfl) ?_
            simp only [Act.put, List.setIfInBounds_toArray, List.set_cons_zero, List.set_cons_succ]
            refine wpAnyC_takeU (i := 2) (v := .slice (some ⟨g, 0, none⟩) n cap) rfl (by kernel_rfl) (fun _ _ _ h => h) (.inl ⟨rfl, fun w' _ => ?_⟩) (fun _ => rfl) ?_
            · go_simp
              all_goals (first | rfl | (rw [IntKind.wrap_i64]; omega))
            refine wpAnyC_act (by rfl) ?_
            simp only [Act.put, List.setIfInBounds_toArray, List.set_cons_zero, List.set_cons_succ]
            refine wpAnyC_takeU (i := 3) (v := .int .i64 j) rfl (by kernel_rfl) (fun _ _ _ h => h) (.inl ⟨rfl, fun w' _ => ?_⟩) (fun _ => rfl) ?_
            · go_simp
              all_goals (first | rfl | (rw [IntKind.wrap_i64]; omega))
            refine wpAnyC_act (by rfl) ?_
            simp only [Act.put, List.setIfInBounds_toArray, List.set_cons_zero, List.set_cons_succ]
            refine wpAnyC_takeU (i := 4) (v := .int .i64 J) rfl (by kernel_rfl) (fun _ _ _ h => h) (.inl ⟨rfl, fun w' _ => ?_⟩) (fun _ => rfl) ?_
            · go_simp
              all_goals (first | rfl | (rw [IntKind.wrap_i64]; omega))
            refine wpAnyC_act (by rfl) ?_
            simp only [Act.put, List.setIfInBounds_toArray, List.set_cons_zero, List.set_cons_succ]
            refine wpAnyC_takeU (i := 5) (v := .slice (some ⟨g, 0, none⟩) n cap) rfl (by kernel_rfl) (fun _ _ _ h => h) (.inl ⟨rfl, fun w' _ => ?_⟩) (fun _ => rfl) ?_
            · go_simp
              all_goals (first | rfl | (rw [IntKind.wrap_i64]; omega))
            refine wpAnyC_act (by rfl) ?_
            simp only [Act.put, List.setIfInBounds_toArray, List.set_cons_zero, List.set_cons_succ]
            refine wpAnyC_takeU (i := 6) (v := .int .i64 j) rfl (by kernel_rfl) (fun _ _ _ h => h) (.inl ⟨rfl, fun w' _ => ?_⟩) (fun _ => rfl) ?_
            · go_simp
              all_goals (first | rfl | (rw [IntKind.wrap_i64]; omega))
            refine wpAnyC_act (by rfl) ?_
            simp only [Act.put, List.setIfInBounds_toArray, List.set_cons_zero, List.set_cons_succ]
            refine wpAnyC_takeU (i := 7) (v := .int .i64 J) rfl (by kernel_rfl) (fun _ _ _ h => h) (.inl ⟨rfl, fun w' _ => ?_⟩) (fun _ => rfl) ?_
            · go_simp
              all_goals (first | rfl | (rw [IntKind.wrap_i64]; omega))
            refine wpAnyC_act (by rfl) ?_
            simp only [Act.put, List.setIfInBounds_toArray, List.set_cons_zero, List.set_cons_succ]
            refine wpAnyC_takeU (i := 8) (v := .pointer (some ⟨g, J * 5, none⟩)) rfl (by kernel_rfl) (fun _ _ _ h => h) (.inl ⟨rfl, fun w' _ => ?_⟩) (fun _ => rfl) ?_
            · go_simp
              all_goals (first | rfl | (rw [IntKind.wrap_i64]; omega))
            refine wpAnyC_act (by rfl) ?_
            simp only [Act.put, List.setIfInBounds_toArray, List.set_cons_zero, List.set_cons_succ]
            refine wpAnyC_take (i := 9) (v := .agg #[.int .i64 y.wk, .int .i64 y.mc, .int .i64 y.fr, .int .i64 y.to, .bool y.fl]) rfl (by kernel_rfl) (by kernel_rfl) (fun _ _ _ h => h) (.inl ⟨rfl, fun w' hw' => ?_⟩) rfl ?_
            · subst hw'
              go_simp
              all_goals (first | rfl | (rw [IntKind.wrap_i64]; omega))
            refine wpAnyC_act (by rfl) ?_
            simp only [Act.put, List.setIfInBounds_toArray, List.set_cons_zero, List.set_cons_succ]
            refine wpAnyC_takeU (i := 10) (v := .slice (some ⟨g, 0, none⟩) n cap) rfl (by kernel_rfl) (fun _ _ _ h => h) (.inl ⟨rfl, fun w' _ => ?_⟩) (fun _ => rfl) ?_
            · go_simp
              all_goals (first | rfl | (rw [IntKind.wrap_i64]; omega))
            refine wpAnyC_act (by rfl) ?_
            simp only [Act.put, List.setIfInBounds_toArray, List.set_cons_zero, List.set_cons_succ]
            refine wpAnyC_takeU (i := 11) (v := .int .i64 j) rfl (by kernel_rfl) (fun _ _ _ h => h) (.inl ⟨rfl, fun w' _ => ?_⟩) (fun _ => rfl) ?_
            · go_simp
              all_goals (first | rfl | (rw [IntKind.wrap_i64]; omega))
            refine wpAnyC_act (by rfl) ?_
            simp only [Act.put, List.setIfInBounds_toArray, List.set_cons_zero, List.set_cons_succ]
            refine wpAnyC_takeU (i := 12) (v := .pointer (some ⟨g, j * 5, none⟩)) rfl (by kernel_rfl) (fun _ _ _ h => h) (.inl ⟨rfl, fun w' _ => ?_⟩) (fun _ => rfl) ?_
            · go_simp
              all_goals (first | rfl | (rw [IntKind.wrap_i64]; omega))
            refine wpAnyC_act (by rfl) ?_
            simp only [Act.put, List.setIfInBounds_toArray, List.set_cons_zero, List.set_cons_succ]
            refine wpAnyC_take (i := 13) (v := .agg #[.int .i64 x.wk, .int .i64 x.mc, .int .i64 x.fr, .int .i64 x.to, .bool x.fl]) rfl (by kernel_rfl) (by kernel_rfl) (fun _ _ _ h => h) (.inl ⟨rfl, fun w' hw' => ?_⟩) rfl ?_
            · subst hw'
              go_simp
              all_goals (first | rfl | (rw [IntKind.wrap_i64]; omega))
            refine wpAnyC_act (by rfl) ?_
            simp only [Act.put, List.setIfInBounds_toArray, List.set_cons_zero, List.set_cons_succ]
            refine wpAnyC_one (i := 14) rfl (by kernel_rfl) (fun K hK => ?_)
            go_simp
            refine hK _ _ (fun _ => rfl) ?_
            clear hK K
            refine wpAnyC_one (i := 15) rfl (by kernel_rfl) (fun K hK => ?_)
            go_simp
            refine hK _ _ (fun h => by rw [getD_setSelf] at h; cases h) ?_
            clear hK K
            refine wpAnyC_one (i := 16) rfl (by kernel_rfl) (fun K hK => ?_)
            go_simp
            refine hK _ _ (fun h => by rw [getD_setC (by decide), getD_setSelf] at h; cases h) ?_
            clear hK K
            refine wpAnyC_one (i := 17) rfl (by kernel_rfl) (fun K hK => ?_)
            go_simp
            refine hK _ _ (fun h => by rw [getD_setC (by decide), getD_setC (by decide), getD_setSelf] at h; cases h) ?_
            clear hK K
            refine wpAnyC_done (by kernel_rfl) ?_
            refine so_exit (fun W2 hW2 => ?_)
            have HJj : J < j := by have := HX.out.2.2; omega
            have H2 : Hid (SrW Pr w g n W2 (swp qj j J)) := by
              have h := HW.out.swap hjn hJn
              rw [← HX.out.1, ← HX.out.2.1] at h
              rw [hW2]
              exact h.drew
            clear hW2 x0 x1 x2 x3 x4 y0 y1 y2 y3 y4 cl cfr HW
            go_wp2_with fail
            go_roundw
            case rel =>
              have e1 : swp qj j J j = qj J := by unfold swp; rw [if_neg (by omega), if_pos rfl]
              have e2 : swp qj j J J = qj j := by unfold swp; rw [if_pos rfl]
              have e3 : ∀ x, x ≠ j → x ≠ J → swp qj j J x = qj x := fun x h1 h2 => by unfold swp; rw [if_neg h2, if_neg h1]
              have hk := HK.out
              rw [HX.out.1, HX.out.2.1] at hk
              have hst : InsI K a i J (swp qj j J) := by
                have eJ := HX.out.2.2
                subst eJ
                exact HJ.out.2.2.step hja hj hk e1 e2 e3
              exact ⟨J, _, by first | rfl | go_num, by omega, by omega, H2.out, HJ.out.2.1.trans (PmR.swap_lt qj (by omega) HJj (by omega)).2, hst⟩
            case measure => simp [intOf]; omega
          · have hk1 : ¬ C x y < 0 := fun h => hk ((HC.out.2.1 x y px py).1 h)
            have hdone : SoR K a (i + 1) qj := by
              have hk2 := hk
              rw [HX.out.1, HX.out.2.1, HX.out.2.2] at hk2
              exact HJ.out.2.2.done hj0 (.inr hk2)
            have HD := Lib.hid hdone
            clear hdone hk
            go_wp2_with fail
            go_roundw
            case rel => exact ⟨i + 1, qj, by first | rfl | go_num, by omega, .inl (by omega), HW.out, HJ.out.2.1, HD.out⟩
            case measure => simp [intOf]; omega
        · have hd : decide ((a : Int) < (j : Int)) = false := decide_eq_false (by omega)
          have hja2 : ¬ (a : Int) < (j : Int) := by omega
          have hdone : SoR K a (i + 1) qj := HJ.out.2.2.done hj0 (.inl (by omega))
          have HD := Lib.hid hdone
          clear hdone hr
          go_upto_region 4 with fail
          go_quiet (fail)
          refine so_exit (fun W hW => ?_)
          have HW : Hid (SrW Pr w g n W qj) := by rw [hW]; exact HJ.out.1.past (below_drewN (Below.refl _ _) _)
          clear hW
          go_wp2_with fail
          go_roundw
          case rel => exact ⟨i + 1, qj, by first | rfl | go_num, by omega, .inl (by omega), HW.out, HJ.out.2.1, HD.out⟩
          case measure => simp [intOf]; omega
    · have hib' : ¬ (i : Int) < (b : Int) := by omega
      go_wp2_with fail
      exact bodyPost_end (v := .tuple #[]) (by simp [results, Try.results45, go_sem]) rfl ⟨rfl, qq, HR.out.1, HR.out.2.1, fun x y k1 k2 k3 => HR.out.2.2 x y k1 k2 (by omega)⟩
end Go.Proofs.Ytkadinjhfldokaa
