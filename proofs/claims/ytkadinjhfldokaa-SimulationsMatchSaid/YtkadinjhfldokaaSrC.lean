/- slices.symMergeCmpFunc over runs where one half is a single element. Conditions: the row lies within the slice; the comparison answers by keys. -/
import Derived.Test.YtkadinjhfldokaaSrB
namespace Go.Proofs.Ytkadinjhfldokaa
open Go.RowKit
set_option maxRecDepth 100000 in
set_option maxHeartbeats 6400000 in
theorem smR_one (Pr : RunV → Prop) (C : RunV → RunV → Int) (K : RunV → Int) (w : World) (g n cap a m b kc : Nat) (q : Nat → RunV) (wr : World) (hn : n ≤ 1073741824) (hm : m = a + 1) (h2 : m < b) (h3 : b ≤ n) (HC : Hid ((∀ args w, (callFunc kc args).run Try.prog w = .ok (.enter kc args) w) ∧ (∀ x y, Pr x → Pr y → (C x y < 0 ↔ K x < K y)) ∧ ∀ (x y : RunV) (wr : World), Pr x → Pr y → Calls Try.prog kc #[.agg #[.int .i64 x.wk, .int .i64 x.mc, .int .i64 x.fr, .int .i64 x.to, .bool x.fl], .agg #[.int .i64 y.wk, .int .i64 y.mc, .int .i64 y.fr, .int .i64 y.to, .bool y.fl]] wr fun e w' => e = .returned (.int .i64 (C x y)) ∧ Below wr.heap.size wr w')) (hw : SrW Pr w g n wr q) (hs : SoR K m b q) :
    Calls Try.prog 46 #[.slice (some ⟨g, 0, none⟩) n cap, .int .i64 a, .int .i64 m, .int .i64 b, .func (.func kc) #[] #[]] wr fun e w' => e = .returned (.tuple #[]) ∧ ∃ q', SrW Pr w g n w' q' ∧ PmR a b q q' ∧ SoR K a b q' := by
  have H0 := Lib.hid hw
  have HS := Lib.hid (And.intro hs hm)
  have hma : (m : Int) - (a : Int) = 1 := by omega
  have ham : a < m := by omega
  clear hw hs hm
  go_enter Try.func46, Try.ntmps46
  go_wp2_with fail
  clear hma
  go_loopw [10, 11] (fun s10 s11 wr => ∃ i j : Nat, s10 = .int .i64 i ∧ s11 = .int .i64 j ∧ SrW Pr w g n wr q ∧ BsI (mg1 K q a) m b i j) (fun s10 s11 _ => (intOf s11).toNat - (intOf s10).toNat)
  case atStart => exact ⟨m, b, rfl, rfl, H0.out, BsI.start _ (by omega)⟩
  case round =>
    obtain ⟨i, j, rfl, rfl, hr, hb⟩ := hrel
    have HB := Lib.hid hb
    obtain ⟨b1, b2, b3⟩ := hb.h
    clear hb H0
    have bi : (i : Int) ≤ 1073741824 := by omega
    have bj : (j : Int) ≤ 1073741824 := by omega
    have HR := Lib.hid hr
    by_cases hij : i < j
    · have hij' : (i : Int) < (j : Int) := by omega
      obtain ⟨h, hh⟩ : ∃ h, h = (i + j) / 2 := ⟨_, rfl⟩
      have hH : ((i : Int) + (j : Int)) / 2 = (h : Int) := by omega
      have hb1 : i ≤ h ∧ h < j := by omega
      have hhn : h < n := by omega
      have han : a < n := by omega
      obtain ⟨x, hx⟩ : ∃ x, x = q h := ⟨_, rfl⟩
      obtain ⟨y, hy⟩ : ∃ y, y = q a := ⟨_, rfl⟩
      have x0 := hr.v.c0 h hhn; have x1 := hr.v.c1 h hhn; have x2 := hr.v.c2 h hhn; have x3 := hr.v.c3 h hhn; have x4 := hr.v.c4 h hhn
      have y0 := hr.v.c0 a han; have y1 := hr.v.c1 a han; have y2 := hr.v.c2 a han; have y3 := hr.v.c3 a han; have y4 := hr.v.c4 a han
      have cl := hr.v.lt
      have px : Pr x := by rw [hx]; exact hr.k _ (by omega)
      have py : Pr y := by rw [hy]; exact hr.k _ (by omega)
      rw [← hx] at x0 x1 x2 x3 x4
      rw [← hy] at y0 y1 y2 y3 y4
      have HX := Lib.hid (And.intro hx (And.intro hy (And.intro hh hb1)))
      clear hx hy hh hr hb1
      go_upto_region 5 with fail
      have hent := HC.out.1
      refine wp_region_loose 10 (fun _ _ u => u = .int .i64 (C x y)) (by kernel_rfl) (by kernel_rfl) ?_
      simp only [List.take_succ_cons, List.take_zero, List.drop_succ_cons, List.drop_zero]
      repeat (refine loose_wanted rfl (fun K hK => ?_); go_simp; refine hK _ ?_; clear hK K)
      refine loose_wanted rfl (fun K1 hK => ?_)
      go_simp
      refine ⟨fun p => (HC.out.2.2 x y _ px py).mono ?_, hK _ ?_⟩
      · rintro e w' ⟨rfl, hb⟩
        exact ⟨_, rfl, rfl, p.h.trans (hb.mono p.h.size)⟩
      clear hK K1 hent
      repeat (refine loose_wanted rfl (fun K hK => ?_); go_simp; refine hK _ ?_; clear hK K)
      refine loose_nil (fun W hB5 => ?_)
      have HW : Hid (SrW Pr w g n W q) := Lib.hid (HR.out.past hB5)
      clear hB5 x0 x1 x2 x3 x4 y0 y1 y2 y3 y4 cl
      by_cases hk : K x < K y
      · have hk1 : C x y < 0 := (HC.out.2.1 x y px py).2 hk
        have hB2 : BsI (mg1 K q a) m b (h + 1) j := by
          rw [HX.out.1, HX.out.2.1] at hk
          exact HB.out.up (mg1_mono HS.out.1) HX.out.2.2.2.1 HX.out.2.2.2.2 (by unfold mg1; omega)
        have HB2 := Lib.hid hB2
        clear hk hB2
        go_wp2_with fail
        go_roundw
        case rel => exact ⟨h + 1, j, by first | rfl | go_num, rfl, HW.out, HB2.out⟩
        case measure => have := HX.out.2.2.2; simp [intOf]; omega
      · have hk1 : ¬ C x y < 0 := fun h => hk ((HC.out.2.1 x y px py).1 h)
        have hB2 : BsI (mg1 K q a) m b i h := by
          rw [HX.out.1, HX.out.2.1] at hk
          exact HB.out.down (mg1_mono HS.out.1) HX.out.2.2.2.1 HX.out.2.2.2.2 hk
        have HB2 := Lib.hid hB2
        clear hk hB2
        go_wp2_with fail
        go_roundw
        case rel => exact ⟨i, h, rfl, rfl, HW.out, HB2.out⟩
        case measure => have := HX.out.2.2.2; simp [intOf]; omega
    · obtain rfl : i = j := by omega
      have hij' : ¬ (i : Int) < (i : Int) := by omega
      have hi0 : (0 : Int) < (i : Int) := by omega
      clear hr
      go_wp2_with fail
      go_loopw [13] (fun s13 wr => ∃ k : Nat, s13 = .int .i64 k ∧ a ≤ k ∧ k ≤ i - 1 ∧ SrW Pr w g n wr (shl q a k)) (fun s13 _ => i - (intOf s13).toNat)
      case atStart => exact ⟨a, rfl, Nat.le_refl _, by omega, HR.out.congr (shl_zero q a).symm⟩
      case round =>
        obtain ⟨k, rfl, k1, k2, hr⟩ := hrel
        have HK := Lib.hid hr
        clear HR
        by_cases hki : k < i - 1
        · have hki' : (k : Int) < (i : Int) - 1 := by omega
          obtain ⟨k', hk'⟩ : ∃ k', k' = k + 1 := ⟨_, rfl⟩
          have hk1 : (k : Int) + 1 = (k' : Int) := by omega
          have hkn : k < n := by omega
          have hkn' : k' < n := by omega
          have hkw : IntKind.i64.wrap (k' : Int) = (k' : Int) := by rw [IntKind.wrap_i64]; omega
          obtain ⟨x, hx⟩ : ∃ x, x = shl q a k k' := ⟨_, rfl⟩
          obtain ⟨y, hy⟩ : ∃ y, y = shl q a k k := ⟨_, rfl⟩
          have x0 := hr.v.c0 k' hkn'; have x1 := hr.v.c1 k' hkn'; have x2 := hr.v.c2 k' hkn'; have x3 := hr.v.c3 k' hkn'; have x4 := hr.v.c4 k' hkn'
          have y0 := hr.v.c0 k hkn; have y1 := hr.v.c1 k hkn; have y2 := hr.v.c2 k hkn; have y3 := hr.v.c3 k hkn; have y4 := hr.v.c4 k hkn
          have cl := hr.v.lt
          have cfr := hr.v.f
          rw [← hx] at x0 x1 x2 x3 x4
          rw [← hy] at y0 y1 y2 y3 y4
          have HX := Lib.hid (And.intro hx (And.intro hy hk'))
          clear hx hy hk' hr
          go_upto_region 11 with fail
          refine wp_region_C (fun w' => w' = World.drew wr) 15 18 (by kernel_rfl) rfl ?_
          refine wpAnyC_takeU (i := 0) (v := .slice (some ⟨g, 0, none⟩) n cap) rfl (by kernel_rfl) (fun _ _ _ h => h) (.inl ⟨rfl, fun w' _ => ?_⟩) (fun _ => rfl) ?_
          · go_simp
            all_goals (first | rfl | (rw [IntKind.wrap_i64]; omega))
          refine wpAnyC_act (by rfl) ?_
          simp only [Act.put, List.setIfInBounds_toArray, List.set_cons_zero, List.set_cons_succ]
          refine wpAnyC_takeU (i := 1) (v := .int .i64 k) rfl (by kernel_rfl) (fun _ _ _ h => h) (.inl ⟨rfl, fun w' _ => ?_⟩) (fun _ => rfl) ?_
          · go_simp
            all_goals (first | rfl | (rw [IntKind.wrap_i64]; omega))
          refine wpAnyC_act (by rfl) ?_
          simp only [Act.put, List.setIfInBounds_toArray, List.set_cons_zero, List.set_cons_succ]
          refine wpAnyC_takeU (i := 2) (v := .slice (some ⟨g, 0, none⟩) n cap) rfl (by kernel_rfl) (fun _ _ _ h => h) (.inl ⟨rfl, fun w' _ => ?_⟩) (fun _ => rfl) ?_
          · go_simp
            all_goals (first | rfl | (rw [IntKind.wrap_i64]; omega))
          refine wpAnyC_act (by rfl) ?_
          simp only [Act.put, List.setIfInBounds_toArray, List.set_cons_zero, List.set_cons_succ]
          refine wpAnyC_takeU (i := 3) (v := .int .i64 k) rfl (by kernel_rfl) (fun _ _ _ h => h) (.inl ⟨rfl, fun w' _ => ?_⟩) (fun _ => rfl) ?_
          · go_simp
            all_goals (first | rfl | (rw [IntKind.wrap_i64]; omega))
          refine wpAnyC_act (by rfl) ?_
          simp only [Act.put, List.setIfInBounds_toArray, List.set_cons_zero, List.set_cons_succ]
          refine wpAnyC_takeU (i := 4) (v := .int .i64 k') rfl (by kernel_rfl) (fun _ _ _ h => h) (.inl ⟨rfl, fun w' _ => ?_⟩) (fun _ => rfl) ?_
          · go_simp
            all_goals (first | rfl | (rw [IntKind.wrap_i64]; omega))
          refine wpAnyC_act (by rfl) ?_
          simp only [Act.put, List.setIfInBounds_toArray, List.set_cons_zero, List.set_cons_succ]
          refine wpAnyC_takeU (i := 5) (v := .slice (some ⟨g, 0, none⟩) n cap) rfl (by kernel_rfl) (fun _ _ _ h => h) (.inl ⟨rfl, fun w' _ => ?_⟩) (fun _ => rfl) ?_
          · go_simp
            all_goals (first | rfl | (rw [IntKind.wrap_i64]; omega))
          refine wpAnyC_act (by rfl) ?_
          simp only [Act.put, List.setIfInBounds_toArray, List.set_cons_zero, List.set_cons_succ]
          refine wpAnyC_takeU (i := 6) (v := .int .i64 k) rfl (by kernel_rfl) (fun _ _ _ h => h) (.inl ⟨rfl, fun w' _ => ?_⟩) (fun _ => rfl) ?_
          · go_simp
            all_goals (first | rfl | (rw [IntKind.wrap_i64]; omega))
          refine wpAnyC_act (by rfl) ?_
          simp only [Act.put, List.setIfInBounds_toArray, List.set_cons_zero, List.set_cons_succ]
          refine wpAnyC_takeU (i := 7) (v := .int .i64 k') rfl (by kernel_rfl) (fun _ _ _ h => h) (.inl ⟨rfl, fun w' _ => ?_⟩) (fun _ => rfl) ?_
          · go_simp
            all_goals (first | rfl | (rw [IntKind.wrap_i64]; omega))
          refine wpAnyC_act (by rfl) ?_
          simp only [Act.put, List.setIfInBounds_toArray, List.set_cons_zero, List.set_cons_succ]
          refine wpAnyC_takeU (i := 8) (v := .pointer (some ⟨g, k' * 5, none⟩)) rfl (by kernel_rfl) (fun _ _ _ h => h) (.inl ⟨rfl, fun w' _ => ?_⟩) (fun _ => rfl) ?_
          · go_simp
            all_goals (first | rfl | (rw [IntKind.wrap_i64]; omega))
          refine wpAnyC_act (by rfl) ?_
          simp only [Act.put, List.setIfInBounds_toArray, List.set_cons_zero, List.set_cons_succ]
          refine wpAnyC_take (i := 9) (v := .agg #[.int .i64 x.wk, .int .i64 x.mc, .int .i64 x.fr, .int .i64 x.to, .bool x.fl]) rfl (by kernel_rfl) (by kernel_rfl) (fun _ _ _ h => h) (.inl ⟨rfl, fun w' hw' => ?_⟩) rfl ?_
          · subst hw'
            go_simp
            all_goals (first | rfl | (rw [IntKind.wrap_i64]; omega))
          refine wpAnyC_act (by rfl) ?_
          simp only [Act.put, List.setIfInBounds_toArray, List.set_cons_zero, List.set_cons_succ]
          refine wpAnyC_takeU (i := 10) (v := .slice (some ⟨g, 0, none⟩) n cap) rfl (by kernel_rfl) (fun _ _ _ h => h) (.inl ⟨rfl, fun w' _ => ?_⟩) (fun _ => rfl) ?_
          · go_simp
            all_goals (first | rfl | (rw [IntKind.wrap_i64]; omega))
          refine wpAnyC_act (by rfl) ?_
          simp only [Act.put, List.setIfInBounds_toArray, List.set_cons_zero, List.set_cons_succ]
          refine wpAnyC_takeU (i := 11) (v := .int .i64 k) rfl (by kernel_rfl) (fun _ _ _ h => h) (.inl ⟨rfl, fun w' _ => ?_⟩) (fun _ => rfl) ?_
          · go_simp
            all_goals (first | rfl | (rw [IntKind.wrap_i64]; omega))
          refine wpAnyC_act (by rfl) ?_
          simp only [Act.put, List.setIfInBounds_toArray, List.set_cons_zero, List.set_cons_succ]
          refine wpAnyC_takeU (i := 12) (v := .pointer (some ⟨g, k * 5, none⟩)) rfl (by kernel_rfl) (fun _ _ _ h => h) (.inl ⟨rfl, fun w' _ => ?_⟩) (fun _ => rfl) ?_
          · go_simp
            all_goals (first | rfl | (rw [IntKind.wrap_i64]; omega))
          refine wpAnyC_act (by rfl) ?_
          simp only [Act.put, List.setIfInBounds_toArray, List.set_cons_zero, List.set_cons_succ]
          refine wpAnyC_take (i := 13) (v := .agg #[.int .i64 y.wk, .int .i64 y.mc, .int .i64 y.fr, .int .i64 y.to, .bool y.fl]) rfl (by kernel_rfl) (by kernel_rfl) (fun _ _ _ h => h) (.inl ⟨rfl, fun w' hw' => ?_⟩) rfl ?_
          · subst hw'
            go_simp
            all_goals (first | rfl | (rw [IntKind.wrap_i64]; omega))
          refine wpAnyC_act (by rfl) ?_
          simp only [Act.put, List.setIfInBounds_toArray, List.set_cons_zero, List.set_cons_succ]
          refine wpAnyC_one (i := 14) rfl (by kernel_rfl) (fun K hK => ?_)
          go_simp
          refine hK _ _ (fun _ => rfl) ?_
          clear hK K
          refine wpAnyC_one (i := 15) rfl (by kernel_rfl) (fun K hK => ?_)
          go_simp
          refine hK _ _ (fun h => by rw [getD_setSelf] at h; cases h) ?_
          clear hK K
          refine wpAnyC_one (i := 16) rfl (by kernel_rfl) (fun K hK => ?_)
          go_simp
          refine hK _ _ (fun h => by rw [getD_setC (by decide), getD_setSelf] at h; cases h) ?_
          clear hK K
          refine wpAnyC_one (i := 17) rfl (by kernel_rfl) (fun K hK => ?_)
          go_simp
          refine hK _ _ (fun h => by rw [getD_setC (by decide), getD_setC (by decide), getD_setSelf] at h; cases h) ?_
          clear hK K
          refine wpAnyC_done (by kernel_rfl) ?_
          refine so_exit (fun W2 hW2 => ?_)
          have H2 : Hid (SrW Pr w g n W2 (shl q a k')) := by
            have h := HK.out.swap hkn hkn'
            rw [← HX.out.1, ← HX.out.2.1] at h
            have e := (shl_next q k1).1
            rw [← HX.out.2.2] at e
            rw [e] at h
            rw [hW2]
            exact h.drew
          clear hW2 x0 x1 x2 x3 x4 y0 y1 y2 y3 y4 cl cfr HK
          go_wp2_with fail
          go_roundw
          case rel => exact ⟨k', by first | rfl | go_num, by have := HX.out.2.2; omega, by have := HX.out.2.2; omega, H2.out⟩
          case measure => have := HX.out.2.2; simp [intOf]; omega
        · obtain rfl : k = i - 1 := by omega
          have hki' : ¬ ((i - 1 : Nat) : Int) < (i : Int) - 1 := by omega
          clear hr
          go_wp2_with fail
          refine bodyPost_ret (v := .tuple #[]) (by simp [results, Try.results46, go_sem]) rfl ⟨rfl, _, HK.out, PmR.shl q k1 (by omega), ?_⟩
          have hs := HS.out.1
          have hmm := HS.out.2
          subst hmm
          exact hs.shl b1 b3 (fun x x1 x2 => by have := HB.out.no x x1 x2; unfold mg1 at this; omega) (fun x x1 x2 => HB.out.yes x x1 x2)
set_option maxRecDepth 100000 in
set_option maxHeartbeats 6400000 in
theorem smR_last (Pr : RunV → Prop) (C : RunV → RunV → Int) (K : RunV → Int) (w : World) (g n cap a m b kc : Nat) (q : Nat → RunV) (wr : World) (hn : n ≤ 1073741824) (ham : a + 1 < m) (hm : b = m + 1) (h3 : b ≤ n) (HC : Hid ((∀ args w, (callFunc kc args).run Try.prog w = .ok (.enter kc args) w) ∧ (∀ x y, Pr x → Pr y → (C x y < 0 ↔ K x < K y)) ∧ ∀ (x y : RunV) (wr : World), Pr x → Pr y → Calls Try.prog kc #[.agg #[.int .i64 x.wk, .int .i64 x.mc, .int .i64 x.fr, .int .i64 x.to, .bool x.fl], .agg #[.int .i64 y.wk, .int .i64 y.mc, .int .i64 y.fr, .int .i64 y.to, .bool y.fl]] wr fun e w' => e = .returned (.int .i64 (C x y)) ∧ Below wr.heap.size wr w')) (hw : SrW Pr w g n wr q) (hs : SoR K a m q) :
    Calls Try.prog 46 #[.slice (some ⟨g, 0, none⟩) n cap, .int .i64 a, .int .i64 m, .int .i64 b, .func (.func kc) #[] #[]] wr fun e w' => e = .returned (.tuple #[]) ∧ ∃ q', SrW Pr w g n w' q' ∧ PmR a b q q' ∧ SoR K a b q' := by
  have H0 := Lib.hid hw
  have HS := Lib.hid (And.intro hs hm)
  have hma : ((m : Int) - (a : Int) == 1) = false := by simp; omega
  have hbm : (b : Int) - (m : Int) = 1 := by omega
  have hmn : m < n := by omega
  clear hw hs hm
  go_enter Try.func46, Try.ntmps46
  go_wp2_with fail
  clear hma hbm
  go_loopw [14, 15] (fun s10 s11 wr => ∃ i j : Nat, s10 = .int .i64 i ∧ s11 = .int .i64 j ∧ SrW Pr w g n wr q ∧ BsI (mg2 K q m) a m i j) (fun s10 s11 _ => (intOf s11).toNat - (intOf s10).toNat)
  case atStart => exact ⟨a, m, rfl, rfl, H0.out, BsI.start _ (by omega)⟩
  case round =>
    obtain ⟨i, j, rfl, rfl, hr, hb⟩ := hrel
    have HB := Lib.hid hb
    obtain ⟨b1, b2, b3⟩ := hb.h
    clear hb H0
    have bi : (i : Int) ≤ 1073741824 := by omega
    have bj : (j : Int) ≤ 1073741824 := by omega
    have HR := Lib.hid hr
    by_cases hij : i < j
    · have hij' : (i : Int) < (j : Int) := by omega
      obtain ⟨h, hh⟩ : ∃ h, h = (i + j) / 2 := ⟨_, rfl⟩
      have hH : ((i : Int) + (j : Int)) / 2 = (h : Int) := by omega
      have hb1 : i ≤ h ∧ h < j := by omega
      have hhn : h < n := by omega
      obtain ⟨x, hx⟩ : ∃ x, x = q m := ⟨_, rfl⟩
      obtain ⟨y, hy⟩ : ∃ y, y = q h := ⟨_, rfl⟩
      have x0 := hr.v.c0 m hmn; have x1 := hr.v.c1 m hmn; have x2 := hr.v.c2 m hmn; have x3 := hr.v.c3 m hmn; have x4 := hr.v.c4 m hmn
      have y0 := hr.v.c0 h hhn; have y1 := hr.v.c1 h hhn; have y2 := hr.v.c2 h hhn; have y3 := hr.v.c3 h hhn; have y4 := hr.v.c4 h hhn
      have cl := hr.v.lt
      have px : Pr x := by rw [hx]; exact hr.k _ (by omega)
      have py : Pr y := by rw [hy]; exact hr.k _ (by omega)
      rw [← hx] at x0 x1 x2 x3 x4
      rw [← hy] at y0 y1 y2 y3 y4
      have HX := Lib.hid (And.intro hx (And.intro hy (And.intro hh hb1)))
      clear hx hy hh hr hb1
      go_upto_region 17 with fail
      have hent := HC.out.1
      refine wp_region_loose 11 (fun _ _ u => u = .int .i64 (C x y)) (by kernel_rfl) (by kernel_rfl) ?_
      simp only [List.take_succ_cons, List.take_zero, List.drop_succ_cons, List.drop_zero]
      repeat (refine loose_wanted rfl (fun K hK => ?_); go_simp; refine hK _ ?_; clear hK K)
      refine loose_wanted rfl (fun K1 hK => ?_)
      go_simp
      refine ⟨fun p => (HC.out.2.2 x y _ px py).mono ?_, hK _ ?_⟩
      · rintro e w' ⟨rfl, hb⟩
        exact ⟨_, rfl, rfl, p.h.trans (hb.mono p.h.size)⟩
      clear hK K1 hent
      repeat (refine loose_wanted rfl (fun K hK => ?_); go_simp; refine hK _ ?_; clear hK K)
      refine loose_nil (fun W hB5 => ?_)
      have HW : Hid (SrW Pr w g n W q) := Lib.hid (HR.out.past hB5)
      clear hB5 x0 x1 x2 x3 x4 y0 y1 y2 y3 y4 cl
      by_cases hk : K x < K y
      · have hk1 : C x y < 0 := (HC.out.2.1 x y px py).2 hk
        have hB2 : BsI (mg2 K q m) a m i h := by
          rw [HX.out.1, HX.out.2.1] at hk
          exact HB.out.down (mg2_mono HS.out.1) HX.out.2.2.2.1 HX.out.2.2.2.2 hk
        have HB2 := Lib.hid hB2
        clear hk hB2
        go_wp2_with fail
        go_roundw
        case rel => exact ⟨i, h, rfl, rfl, HW.out, HB2.out⟩
        case measure => have := HX.out.2.2.2; simp [intOf]; omega
      · have hk1 : ¬ C x y < 0 := fun h => hk ((HC.out.2.1 x y px py).1 h)
        have hB2 : BsI (mg2 K q m) a m (h + 1) j := by
          rw [HX.out.1, HX.out.2.1] at hk
          exact HB.out.up (mg2_mono HS.out.1) HX.out.2.2.2.1 HX.out.2.2.2.2 hk
        have HB2 := Lib.hid hB2
        clear hk hB2
        go_wp2_with fail
        go_roundw
        case rel => exact ⟨h + 1, j, by first | rfl | go_num, rfl, HW.out, HB2.out⟩
        case measure => have := HX.out.2.2.2; simp [intOf]; omega
    · obtain rfl : i = j := by omega
      have hij' : ¬ (i : Int) < (i : Int) := by omega
      clear hr
      go_wp2_with fail
      go_loopw [17] (fun s17 wr => ∃ k : Nat, s17 = .int .i64 k ∧ i ≤ k ∧ k ≤ m ∧ SrW Pr w g n wr (shr q m k)) (fun s17 _ => (intOf s17).toNat)
      case atStart => exact ⟨m, rfl, b3, Nat.le_refl _, HR.out.congr (shr_zero q m).symm⟩
      case round =>
        obtain ⟨k, rfl, k1, k2, hr⟩ := hrel
        have HK := Lib.hid hr
        clear HR
        by_cases hki : i < k
        · have hki' : (i : Int) < (k : Int) := by omega
          obtain ⟨k', hk'⟩ : ∃ k', k = k' + 1 := ⟨k - 1, by omega⟩
          have hk1 : (k : Int) - 1 = (k' : Int) := by omega
          have hkn : k < n := by omega
          have hkn' : k' < n := by omega
          have hkw : IntKind.i64.wrap (k' : Int) = (k' : Int) := by rw [IntKind.wrap_i64]; omega
          obtain ⟨x, hx⟩ : ∃ x, x = shr q m k k' := ⟨_, rfl⟩
          obtain ⟨y, hy⟩ : ∃ y, y = shr q m k k := ⟨_, rfl⟩
          have x0 := hr.v.c0 k' hkn'; have x1 := hr.v.c1 k' hkn'; have x2 := hr.v.c2 k' hkn'; have x3 := hr.v.c3 k' hkn'; have x4 := hr.v.c4 k' hkn'
          have y0 := hr.v.c0 k hkn; have y1 := hr.v.c1 k hkn; have y2 := hr.v.c2 k hkn; have y3 := hr.v.c3 k hkn; have y4 := hr.v.c4 k hkn
          have cl := hr.v.lt
          have cfr := hr.v.f
          rw [← hx] at x0 x1 x2 x3 x4
          rw [← hy] at y0 y1 y2 y3 y4
          have HX := Lib.hid (And.intro hx (And.intro hy hk'))
          clear hx hy hk' hr
          go_upto_region 23 with fail
          refine wp_region_C (fun w' => w' = World.drew wr) 15 18 (by kernel_rfl) rfl ?_
          refine wpAnyC_takeU (i := 0) (v := .slice (some ⟨g, 0, none⟩) n cap) rfl (by kernel_rfl) (fun _ _ _ h => h) (.inl ⟨rfl, fun w' _ => ?_⟩) (fun _ => rfl) ?_
          · go_simp
            all_goals (first | rfl | (rw [IntKind.wrap_i64]; omega))
          refine wpAnyC_act (by rfl) ?_
          simp only [Act.put, List.setIfInBounds_toArray, List.set_cons_zero, List.set_cons_succ]
          refine wpAnyC_takeU (i := 1) (v := .int .i64 k) rfl (by kernel_rfl) (fun _ _ _ h => h) (.inl ⟨rfl, fun w' _ => ?_⟩) (fun _ => rfl) ?_
          · go_simp
            all_goals (first | rfl | (rw [IntKind.wrap_i64]; omega))
          refine wpAnyC_act (by rfl) ?_
          simp only [Act.put, List.setIfInBounds_toArray, List.set_cons_zero, List.set_cons_succ]
          refine wpAnyC_takeU (i := 2) (v := .slice (some ⟨g, 0, none⟩) n cap) rfl (by kernel_rfl) (fun _ _ _ h => h) (.inl ⟨rfl, fun w' _ => ?_⟩) (fun _ => rfl) ?_
          · go_simp
            all_goals (first | rfl | (rw [IntKind.wrap_i64]; omega))
          refine wpAnyC_act (by rfl) ?_
          simp only [Act.put, List.setIfInBounds_toArray, List.set_cons_zero, List.set_cons_succ]
          refine wpAnyC_takeU (i := 3) (v := .int .i64 k) rfl (by kernel_rfl) (fun _ _ _ h => h) (.inl ⟨rfl, fun w' _ => ?_⟩) (fun _ => rfl) ?_
          · go_simp
            all_goals (first | rfl | (rw [IntKind.wrap_i64]; omega))
          refine wpAnyC_act (by rfl) ?_
          simp only [Act.put, List.setIfInBounds_toArray, List.set_cons_zero, List.set_cons_succ]
          refine wpAnyC_takeU (i := 4) (v := .int .i64 k') rfl (by kernel_rfl) (fun _ _ _ h => h) (.inl ⟨rfl, fun w' _ => ?_⟩) (fun _ => rfl) ?_
          · go_simp
            all_goals (first | rfl | (rw [IntKind.wrap_i64]; omega))
          refine wpAnyC_act (by rfl) ?_
          simp only [Act.put, List.setIfInBounds_toArray, List.set_cons_zero, List.set_cons_succ]
          refine wpAnyC_takeU (i := 5) (v := .slice (some ⟨g, 0, none⟩) n cap) rfl (by kernel_rfl) (fun _ _ _ h => h) (.inl ⟨rfl, fun w' _ => ?_⟩) (fun _ => rfl) ?_
          · go_simp
            all_goals (first | rfl | (rw [IntKind.wrap_i64]; omega))
          refine wpAnyC_act (by rfl) ?_
          simp only [Act.put, List.setIfInBounds_toArray, List.set_cons_zero, List.set_cons_succ]
          refine wpAnyC_takeU (i := 6) (v := .int .i64 k) rfl (by kernel_rfl) (fun _ _ _ h => h) (.inl ⟨rfl, fun w' _ => ?_⟩) (fun _ => rfl) ?_
          · go_simp
            all_goals (first | rfl | (rw [IntKind.wrap_i64]; omega))
          refine wpAnyC_act (by rfl) ?_
          simp only [Act.put, List.setIfInBounds_toArray, List.set_cons_zero, List.set_cons_succ]
          refine wpAnyC_takeU (i := 7) (v := .int .i64 k') rfl (by kernel_rfl) (fun _ _ _ h => h) (.inl ⟨rfl, fun w' _ => ?_⟩) (fun _ => rfl) ?_
          · go_simp
            all_goals (first | rfl | (rw [IntKind.wrap_i64]; omega))
          refine wpAnyC_act (by rfl) ?_
          simp only [Act.put, List.setIfInBounds_toArray, List.set_cons_zero, List.set_cons_succ]
          refine wpAnyC_takeU (i := 8) (v := .pointer (some ⟨g, k' * 5, none⟩)) rfl (by kernel_rfl) (fun _ _ _ h => h) (.inl ⟨rfl, fun w' _ => ?_⟩) (fun _ => rfl) ?_
          · go_simp
            all_goals (first | rfl | (rw [IntKind.wrap_i64]; omega))
          refine wpAnyC_act (by rfl) ?_
          simp only [Act.put, List.setIfInBounds_toArray, List.set_cons_zero, List.set_cons_succ]
          refine wpAnyC_take (i := 9) (v := .agg #[.int .i64 x.wk, .int .i64 x.mc, .int .i64 x.fr, .int .i64 x.to, .bool x.fl]) rfl (by kernel_rfl) (by kernel_rfl) (fun _ _ _ h => h) (.inl ⟨rfl, fun w' hw' => ?_⟩) rfl ?_
          · subst hw'
            go_simp
            all_goals (first | rfl | (rw [IntKind.wrap_i64]; omega))
          refine wpAnyC_act (by rfl) ?_
          simp only [Act.put, List.setIfInBounds_toArray, List.set_cons_zero, List.set_cons_succ]
          refine wpAnyC_takeU (i := 10) (v := .slice (some ⟨g, 0, none⟩) n cap) rfl (by kernel_rfl) (fun _ _ _ h => h) (.inl ⟨rfl, fun w' _ => ?_⟩) (fun _ => rfl) ?_
          · go_simp
            all_goals (first | rfl | (rw [IntKind.wrap_i64]; omega))
          refine wpAnyC_act (by rfl) ?_
          simp only [Act.put, List.setIfInBounds_toArray, List.set_cons_zero, List.set_cons_succ]
          refine wpAnyC_takeU (i := 11) (v := .int .i64 k) rfl (by kernel_rfl) (fun _ _ _ h => h) (.inl ⟨rfl, fun w' _ => ?_⟩) (fun _ => rfl) ?_
          · go_simp
            all_goals (first | rfl | (rw [IntKind.wrap_i64]; omega))
          refine wpAnyC_act (by rfl) ?_
          simp only [Act.put, List.setIfInBounds_toArray, List.set_cons_zero, List.set_cons_succ]
          refine wpAnyC_takeU (i := 12) (v := .pointer (some ⟨g, k * 5, none⟩)) rfl (by kernel_rfl) (fun _ _ _ h => h) (.inl ⟨rfl, fun w' _ => ?_⟩) (fun _ => rfl) ?_
          · go_simp
            all_goals (first | rfl | (rw [IntKind.wrap_i64]; omega))
          refine wpAnyC_act (by rfl) ?_
          simp only [Act.put, List.setIfInBounds_toArray, List.set_cons_zero, List.set_cons_succ]
          refine wpAnyC_take (i := 13) (v := .agg #[.int .i64 y.wk, .int .i64 y.mc, .int .i64 y.fr, .int .i64 y.to, .bool y.fl]) rfl (by kernel_rfl) (by kernel_rfl) (fun _ _ _ h => h) (.inl ⟨rfl, fun w' hw' => ?_⟩) rfl ?_
          · subst hw'
            go_simp
            all_goals (first | rfl | (rw [IntKind.wrap_i64]; omega))
          refine wpAnyC_act (by rfl) ?_
          simp only [Act.put, List.setIfInBounds_toArray, List.set_cons_zero, List.set_cons_succ]
          refine wpAnyC_one (i := 14) rfl (by kernel_rfl) (fun K hK => ?_)
          go_simp
          refine hK _ _ (fun _ => rfl) ?_
          clear hK K
          refine wpAnyC_one (i := 15) rfl (by kernel_rfl) (fun K hK => ?_)
          go_simp
          refine hK _ _ (fun h => by rw [getD_setSelf] at h; cases h) ?_
          clear hK K
          refine wpAnyC_one (i := 16) rfl (by kernel_rfl) (fun K hK => ?_)
          go_simp
          refine hK _ _ (fun h => by rw [getD_setC (by decide), getD_setSelf] at h; cases h) ?_
          clear hK K
          refine wpAnyC_one (i := 17) rfl (by kernel_rfl) (fun K hK => ?_)
          go_simp
          refine hK _ _ (fun h => by rw [getD_setC (by decide), getD_setC (by decide), getD_setSelf] at h; cases h) ?_
          clear hK K
          refine wpAnyC_done (by kernel_rfl) ?_
          refine so_exit (fun W2 hW2 => ?_)
          have H2 : Hid (SrW Pr w g n W2 (shr q m k')) := by
            have h := HK.out.swap hkn hkn'
            rw [← HX.out.1, ← HX.out.2.1] at h
            have e := (shr_next q (m := m) (k := k') (by have := HX.out.2.2; omega)).2
            rw [← HX.out.2.2] at e
            rw [e] at h
            rw [hW2]
            exact h.drew
          clear hW2 x0 x1 x2 x3 x4 y0 y1 y2 y3 y4 cl cfr HK
          go_wp2_with fail
          go_roundw
          case rel => exact ⟨k', by first | rfl | go_num, by have := HX.out.2.2; omega, by have := HX.out.2.2; omega, H2.out⟩
          case measure => have := HX.out.2.2; simp [intOf]; omega
        · obtain rfl : k = i := by omega
          have hki' : ¬ (k : Int) < (k : Int) := by omega
          clear hr
          go_wp2_with fail
          refine bodyPost_ret (v := .tuple #[]) (by simp [results, Try.results46, go_sem]) rfl ⟨rfl, _, HK.out, PmR.shr q b1 k2 (by have := HS.out.2; omega), ?_⟩
          have hs := HS.out.1
          have hmm := HS.out.2
          subst hmm
          exact hs.shr b1 b3 (fun x x1 x2 => HB.out.no x x1 x2) (fun x x1 x2 => HB.out.yes x x1 x2)
end Go.Proofs.Ytkadinjhfldokaa
