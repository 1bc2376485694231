/- slices.symMergeCmpFunc over singles where one half is a single element. Conditions: the row lies within the slice; the comparison answers by keys. -/
import Derived.Test.YtefjkelakecanaaSoB
namespace Go.Proofs.Ytefjkelakecanaa
open Go.RowKit
set_option maxRecDepth 100000 in
set_option maxHeartbeats 6400000 in
theorem sm_one (K : Nat → Int) (w : World) (g n cap a m b kc : Nat) (q : Nat → Nat) (wr : World) (hn : n ≤ 1073741824) (hm : m = a + 1) (h2 : m < b) (h3 : b ≤ n) (HC : Hid (∀ (x y : Nat) (wr : World), x < 4294967296 → y < 4294967296 → Below g w wr → Calls Try.prog 49 #[.float .f32 x, .float .f32 y, .pointer (some ⟨kc, 0, none⟩)] wr fun e w' => e = .returned (.int .i64 (K x - K y)) ∧ ∃ m, w' = wr.drewN m)) (hw : SoW w g n wr q) (hs : SoR K m b q) :
    Calls Try.prog 64 #[.slice (some ⟨g, 0, none⟩) n cap, .int .i64 a, .int .i64 m, .int .i64 b, .func (.func 49) #[] #[.pointer (some ⟨kc, 0, none⟩)]] wr fun e w' => e = .returned (.tuple #[]) ∧ ∃ q', SoW w g n w' q' ∧ PmR a b q q' ∧ SoR K a b q' := by
  have H0 := Lib.hid hw
  have HS := Lib.hid (And.intro hs hm)
  have hma : (m : Int) - (a : Int) = 1 := by omega
  have ham : a < m := by omega
  clear hw hs hm
  go_enter Try.func64, Try.ntmps64
  go_wp2_with fail
  clear hma
  go_loopw [10, 11] (fun s10 s11 wr => ∃ i j : Nat, s10 = .int .i64 i ∧ s11 = .int .i64 j ∧ SoW w g n wr q ∧ BsI (mg1 K q a) m b i j) (fun s10 s11 _ => (intOf s11).toNat - (intOf s10).toNat)
  case atStart => exact ⟨m, b, rfl, rfl, H0.out, BsI.start _ (by omega)⟩
  case round =>
    obtain ⟨i, j, rfl, rfl, hr, hb⟩ := hrel
    have HB := Lib.hid hb
    obtain ⟨b1, b2, b3⟩ := hb.h
    clear hb H0
    have bi : (i : Int) ≤ 1073741824 := by omega
    have bj : (j : Int) ≤ 1073741824 := by omega
    have HR := Lib.hid hr
    by_cases hij : i < j
    · have hij' : (i : Int) < (j : Int) := by omega
      obtain ⟨h, hh⟩ : ∃ h, h = (i + j) / 2 := ⟨_, rfl⟩
      have hH : ((i : Int) + (j : Int)) / 2 = (h : Int) := by omega
      have hb1 : i ≤ h ∧ h < j := by omega
      have hhn : h < n := by omega
      have han : a < n := by omega
      obtain ⟨x, hx⟩ : ∃ x, x = q h := ⟨_, rfl⟩
      obtain ⟨y, hy⟩ : ∃ y, y = q a := ⟨_, rfl⟩
      have cx := hr.v.c h hhn
      have cy := hr.v.c a han
      have cl := hr.v.lt
      have cb := hr.b
      have kx : x < 4294967296 := by rw [hx]; exact hr.k _ (by omega)
      have ky : y < 4294967296 := by rw [hy]; exact hr.k _ (by omega)
      rw [← hx] at cx
      rw [← hy] at cy
      have HX := Lib.hid (And.intro hx (And.intro hy (And.intro hh hb1)))
      clear hx hy hh hr hb1
      go_upto_region 5 with fail
      go_quiet ((go_at_call 49; refine Calls.quiet_of (v := .int .i64 (K x - K y)) (HC.out x y _ kx ky (cb.trans (below_drewN (Below.refl _ _) _)))))
      refine so_exit (fun W hW => ?_)
      have HW : Hid (SoW w g n W q) := by rw [hW]; exact HR.out.drewN _
      clear hW cx cy cl cb
      by_cases hk : K x < K y
      · have hk1 : K x - K y < 0 := by omega
        have hB2 : BsI (mg1 K q a) m b (h + 1) j := by
          rw [HX.out.1, HX.out.2.1] at hk
          exact HB.out.up (mg1_mono HS.out.1) HX.out.2.2.2.1 HX.out.2.2.2.2 (by unfold mg1; omega)
        have HB2 := Lib.hid hB2
        clear hk hB2
        go_wp2_with fail
        go_roundw
        case rel => exact ⟨h + 1, j, by first | rfl | go_num, rfl, HW.out, HB2.out⟩
        case measure => have := HX.out.2.2.2; simp [intOf]; omega
      · have hk1 : ¬ K x - K y < 0 := by omega
        have hB2 : BsI (mg1 K q a) m b i h := by
          rw [HX.out.1, HX.out.2.1] at hk
          exact HB.out.down (mg1_mono HS.out.1) HX.out.2.2.2.1 HX.out.2.2.2.2 hk
        have HB2 := Lib.hid hB2
        clear hk hB2
        go_wp2_with fail
        go_roundw
        case rel => exact ⟨i, h, rfl, rfl, HW.out, HB2.out⟩
        case measure => have := HX.out.2.2.2; simp [intOf]; omega
    · obtain rfl : i = j := by omega
      have hij' : ¬ (i : Int) < (i : Int) := by omega
      have hi0 : (0 : Int) < (i : Int) := by omega
      clear hr
      go_wp2_with fail
      go_loopw [13] (fun s13 wr => ∃ k : Nat, s13 = .int .i64 k ∧ a ≤ k ∧ k ≤ i - 1 ∧ SoW w g n wr (shl q a k)) (fun s13 _ => i - (intOf s13).toNat)
      case atStart => exact ⟨a, rfl, Nat.le_refl _, by omega, HR.out.congr (shl_zero q a).symm⟩
      case round =>
        obtain ⟨k, rfl, k1, k2, hr⟩ := hrel
        have HK := Lib.hid hr
        clear HR
        by_cases hki : k < i - 1
        · have hki' : (k : Int) < (i : Int) - 1 := by omega
          obtain ⟨k', hk'⟩ : ∃ k', k' = k + 1 := ⟨_, rfl⟩
          have hk1 : (k : Int) + 1 = (k' : Int) := by omega
          have hkn : k < n := by omega
          have hkn' : k' < n := by omega
          have hkw : IntKind.i64.wrap (k' : Int) = (k' : Int) := by rw [IntKind.wrap_i64]; omega
          obtain ⟨x, hx⟩ : ∃ x, x = shl q a k k' := ⟨_, rfl⟩
          obtain ⟨y, hy⟩ : ∃ y, y = shl q a k k := ⟨_, rfl⟩
          have cx := hr.v.c k' hkn'
          have cy := hr.v.c k hkn
          have cl := hr.v.lt
          have cfr := hr.v.f
          rw [← hx] at cx
          rw [← hy] at cy
          have HX := Lib.hid (And.intro hx (And.intro hy hk'))
          clear hx hy hk' hr
          go_upto_region 11 with fail
          go_region
          refine so_exit (fun W2 hW2 => ?_)
          have H2 : Hid (SoW w g n W2 (shl q a k')) := by
            have h := HK.out.swap hkn hkn'
            rw [← HX.out.1, ← HX.out.2.1] at h
            have e := (shl_next q k1).1
            rw [← HX.out.2.2] at e
            rw [e] at h
            rw [hW2]
            exact h.past (by (repeat (first | exact Below.refl _ _ | assumption | (refine Below.setCell ?_ (by first | (simp; done) | (simp; omega) | omega) _) | (refine Below.drew ?_) | (refine below_drewN ?_ _) | (refine Below.alloc ?_ (by first | (simp; done) | (simp; omega) | omega) _) | (refine Below.trans ?_ (Below.mono (by assumption) (by first | (simp; done) | (simp; omega) | omega))))))
          clear hW2 cx cy cl cfr HK
          go_wp2_with fail
          go_roundw
          case rel => exact ⟨k', by first | rfl | go_num, by have := HX.out.2.2; omega, by have := HX.out.2.2; omega, H2.out⟩
          case measure => have := HX.out.2.2; simp [intOf]; omega
        · obtain rfl : k = i - 1 := by omega
          have hki' : ¬ ((i - 1 : Nat) : Int) < (i : Int) - 1 := by omega
          clear hr
          go_wp2_with fail
          refine bodyPost_ret (v := .tuple #[]) (by simp [results, Try.results64, go_sem]) rfl ⟨rfl, _, HK.out, PmR.shl q k1 (by omega), ?_⟩
          have hs := HS.out.1
          have hmm := HS.out.2
          subst hmm
          exact hs.shl b1 b3 (fun x x1 x2 => by have := HB.out.no x x1 x2; unfold mg1 at this; omega) (fun x x1 x2 => HB.out.yes x x1 x2)
set_option maxRecDepth 100000 in
set_option maxHeartbeats 6400000 in
theorem sm_last (K : Nat → Int) (w : World) (g n cap a m b kc : Nat) (q : Nat → Nat) (wr : World) (hn : n ≤ 1073741824) (ham : a + 1 < m) (hm : b = m + 1) (h3 : b ≤ n) (HC : Hid (∀ (x y : Nat) (wr : World), x < 4294967296 → y < 4294967296 → Below g w wr → Calls Try.prog 49 #[.float .f32 x, .float .f32 y, .pointer (some ⟨kc, 0, none⟩)] wr fun e w' => e = .returned (.int .i64 (K x - K y)) ∧ ∃ m, w' = wr.drewN m)) (hw : SoW w g n wr q) (hs : SoR K a m q) :
    Calls Try.prog 64 #[.slice (some ⟨g, 0, none⟩) n cap, .int .i64 a, .int .i64 m, .int .i64 b, .func (.func 49) #[] #[.pointer (some ⟨kc, 0, none⟩)]] wr fun e w' => e = .returned (.tuple #[]) ∧ ∃ q', SoW w g n w' q' ∧ PmR a b q q' ∧ SoR K a b q' := by
  have H0 := Lib.hid hw
  have HS := Lib.hid (And.intro hs hm)
  have hma : ¬ (m : Int) - (a : Int) = 1 := by omega
  have hbm : (b : Int) - (m : Int) = 1 := by omega
  have hmn : m < n := by omega
  clear hw hs hm
  go_enter Try.func64, Try.ntmps64
  go_wp2_with fail
  clear hma hbm
  go_loopw [14, 15] (fun s10 s11 wr => ∃ i j : Nat, s10 = .int .i64 i ∧ s11 = .int .i64 j ∧ SoW w g n wr q ∧ BsI (mg2 K q m) a m i j) (fun s10 s11 _ => (intOf s11).toNat - (intOf s10).toNat)
  case atStart => exact ⟨a, m, rfl, rfl, H0.out, BsI.start _ (by omega)⟩
  case round =>
    obtain ⟨i, j, rfl, rfl, hr, hb⟩ := hrel
    have HB := Lib.hid hb
    obtain ⟨b1, b2, b3⟩ := hb.h
    clear hb H0
    have bi : (i : Int) ≤ 1073741824 := by omega
    have bj : (j : Int) ≤ 1073741824 := by omega
    have HR := Lib.hid hr
    by_cases hij : i < j
    · have hij' : (i : Int) < (j : Int) := by omega
      obtain ⟨h, hh⟩ : ∃ h, h = (i + j) / 2 := ⟨_, rfl⟩
      have hH : ((i : Int) + (j : Int)) / 2 = (h : Int) := by omega
      have hb1 : i ≤ h ∧ h < j := by omega
      have hhn : h < n := by omega
      obtain ⟨x, hx⟩ : ∃ x, x = q m := ⟨_, rfl⟩
      obtain ⟨y, hy⟩ : ∃ y, y = q h := ⟨_, rfl⟩
      have cx := hr.v.c m hmn
      have cy := hr.v.c h hhn
      have cl := hr.v.lt
      have cb := hr.b
      have kx : x < 4294967296 := by rw [hx]; exact hr.k _ (by omega)
      have ky : y < 4294967296 := by rw [hy]; exact hr.k _ (by omega)
      rw [← hx] at cx
      rw [← hy] at cy
      have HX := Lib.hid (And.intro hx (And.intro hy (And.intro hh hb1)))
      clear hx hy hh hr hb1
      go_upto_region 17 with fail
      go_quiet ((go_at_call 49; refine Calls.quiet_of (v := .int .i64 (K x - K y)) (HC.out x y _ kx ky (cb.trans (below_drewN (Below.refl _ _) _)))))
      refine so_exit (fun W hW => ?_)
      have HW : Hid (SoW w g n W q) := by rw [hW]; exact HR.out.drewN _
      clear hW cx cy cl cb
      by_cases hk : K x < K y
      · have hk1 : (!decide (K x - K y < 0)) = false := by rw [decide_eq_true (by omega)]; rfl
        rw [hk1]
        clear hk1
        have hB2 : BsI (mg2 K q m) a m i h := by
          rw [HX.out.1, HX.out.2.1] at hk
          exact HB.out.down (mg2_mono HS.out.1) HX.out.2.2.2.1 HX.out.2.2.2.2 hk
        have HB2 := Lib.hid hB2
        clear hk hB2
        go_wp2_with fail
        go_roundw
        case rel => exact ⟨i, h, rfl, rfl, HW.out, HB2.out⟩
        case measure => have := HX.out.2.2.2; simp [intOf]; omega
      · have hk1 : (!decide (K x - K y < 0)) = true := by rw [decide_eq_false (by omega)]; rfl
        rw [hk1]
        clear hk1
        have hB2 : BsI (mg2 K q m) a m (h + 1) j := by
          rw [HX.out.1, HX.out.2.1] at hk
          exact HB.out.up (mg2_mono HS.out.1) HX.out.2.2.2.1 HX.out.2.2.2.2 hk
        have HB2 := Lib.hid hB2
        clear hk hB2
        go_wp2_with fail
        go_roundw
        case rel => exact ⟨h + 1, j, by first | rfl | go_num, rfl, HW.out, HB2.out⟩
        case measure => have := HX.out.2.2.2; simp [intOf]; omega
    · obtain rfl : i = j := by omega
      have hij' : ¬ (i : Int) < (i : Int) := by omega
      clear hr
      go_wp2_with fail
      go_loopw [17] (fun s17 wr => ∃ k : Nat, s17 = .int .i64 k ∧ i ≤ k ∧ k ≤ m ∧ SoW w g n wr (shr q m k)) (fun s17 _ => (intOf s17).toNat)
      case atStart => exact ⟨m, rfl, b3, Nat.le_refl _, HR.out.congr (shr_zero q m).symm⟩
      case round =>
        obtain ⟨k, rfl, k1, k2, hr⟩ := hrel
        have HK := Lib.hid hr
        clear HR
        by_cases hki : i < k
        · have hki' : (i : Int) < (k : Int) := by omega
          obtain ⟨k', hk'⟩ : ∃ k', k = k' + 1 := ⟨k - 1, by omega⟩
          have hk1 : (k : Int) - 1 = (k' : Int) := by omega
          have hkn : k < n := by omega
          have hkn' : k' < n := by omega
          have hkw : IntKind.i64.wrap (k' : Int) = (k' : Int) := by rw [IntKind.wrap_i64]; omega
          obtain ⟨x, hx⟩ : ∃ x, x = shr q m k k' := ⟨_, rfl⟩
          obtain ⟨y, hy⟩ : ∃ y, y = shr q m k k := ⟨_, rfl⟩
          have cx := hr.v.c k' hkn'
          have cy := hr.v.c k hkn
          have cl := hr.v.lt
          have cfr := hr.v.f
          rw [← hx] at cx
          rw [← hy] at cy
          have HX := Lib.hid (And.intro hx (And.intro hy hk'))
          clear hx hy hk' hr
          go_upto_region 23 with fail
          go_region
          refine so_exit (fun W2 hW2 => ?_)
          have H2 : Hid (SoW w g n W2 (shr q m k')) := by
            have h := HK.out.swap hkn hkn'
            rw [← HX.out.1, ← HX.out.2.1] at h
            have e := (shr_next q (m := m) (k := k') (by have := HX.out.2.2; omega)).2
            rw [← HX.out.2.2] at e
            rw [e] at h
            rw [hW2]
            exact h.past (by (repeat (first | exact Below.refl _ _ | assumption | (refine Below.setCell ?_ (by first | (simp; done) | (simp; omega) | omega) _) | (refine Below.drew ?_) | (refine below_drewN ?_ _) | (refine Below.alloc ?_ (by first | (simp; done) | (simp; omega) | omega) _) | (refine Below.trans ?_ (Below.mono (by assumption) (by first | (simp; done) | (simp; omega) | omega))))))
          clear hW2 cx cy cl cfr HK
          go_wp2_with fail
          go_roundw
          case rel => exact ⟨k', by first | rfl | go_num, by have := HX.out.2.2; omega, by have := HX.out.2.2; omega, H2.out⟩
          case measure => have := HX.out.2.2; simp [intOf]; omega
        · obtain rfl : k = i := by omega
          have hki' : ¬ (k : Int) < (k : Int) := by omega
          clear hr
          go_wp2_with fail
          refine bodyPost_ret (v := .tuple #[]) (by simp [results, Try.results64, go_sem]) rfl ⟨rfl, _, HK.out, PmR.shr q b1 k2 (by have := HS.out.2; omega), ?_⟩
          have hs := HS.out.1
          have hmm := HS.out.2
          subst hmm
          exact hs.shr b1 b3 (fun x x1 x2 => HB.out.no x x1 x2) (fun x x1 x2 => HB.out.yes x x1 x2)
end Go.Proofs.Ytefjkelakecanaa
