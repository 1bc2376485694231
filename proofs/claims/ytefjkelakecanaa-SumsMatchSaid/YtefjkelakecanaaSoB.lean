/- slices.insertionSortCmpFunc over singles. Conditions: the row lies within the slice; the comparison answers by keys. -/
import Derived.Test.YtefjkelakecanaaSoA
import Derived.BigQuiet
namespace Go.Proofs.Ytefjkelakecanaa
open Go.RowKit
set_option maxRecDepth 100000 in
set_option maxHeartbeats 6400000 in
theorem ins_any (K : Nat → Int) (w : World) (g n cap a b kc : Nat) (q : Nat → Nat) (wr : World) (hn : n ≤ 1073741824) (h1 : a ≤ b) (h2 : b ≤ n) (HC : Hid (∀ (x y : Nat) (wr : World), x < 4294967296 → y < 4294967296 → Below g w wr → Calls Try.prog 49 #[.float .f32 x, .float .f32 y, .pointer (some ⟨kc, 0, none⟩)] wr fun e w' => e = .returned (.int .i64 (K x - K y)) ∧ ∃ m, w' = wr.drewN m)) (hw : SoW w g n wr q) :
    Calls Try.prog 63 #[.slice (some ⟨g, 0, none⟩) n cap, .int .i64 a, .int .i64 b, .func (.func 49) #[] #[.pointer (some ⟨kc, 0, none⟩)]] wr fun e w' => e = .returned (.tuple #[]) ∧ ∃ q', SoW w g n w' q' ∧ PmR a b q q' ∧ SoR K a b q' := by
  have H0 := Lib.hid hw
  clear hw
  go_enter Try.func63, Try.ntmps63
  go_wp2_with fail
  go_loopw [8] (fun s8 wr => ∃ i : Nat, ∃ qq, s8 = .int .i64 i ∧ a < i ∧ (i ≤ b ∨ i = a + 1) ∧ SoW w g n wr qq ∧ PmR a b q qq ∧ SoR K a i qq) (fun s8 _ => b + 1 - (intOf s8).toNat)
  case atStart => exact ⟨a + 1, q, by first | rfl | go_num, by omega, .inr rfl, H0.out, PmR.refl _ _ _, fun x y x1 x2 x3 => by
    obtain rfl : x = y := by omega
    exact Int.le_refl _⟩
  case round =>
    obtain ⟨i, qq, rfl, hi0, hi, hr, hp, hs⟩ := hrel
    have HR := Lib.hid (And.intro hr (And.intro hp hs))
    clear hr hp hs H0
    by_cases hib : i < b
    · have hib' : (i : Int) < (b : Int) := by omega
      go_wp2_with fail
      go_loopw [9] (fun s9 wr => ∃ j : Nat, ∃ qj, s9 = .int .i64 j ∧ a ≤ j ∧ j ≤ i ∧ SoW w g n wr qj ∧ PmR a b q qj ∧ InsI K a i j qj) (fun s9 _ => (intOf s9).toNat)
      case atStart => exact ⟨i, qq, rfl, by omega, Nat.le_refl _, HR.out.1, HR.out.2.1, InsI.start HR.out.2.2⟩
      case round =>
        obtain ⟨j, qj, rfl, hj0, hj, hr, hp, hs⟩ := hrel
        have HJ := Lib.hid (And.intro hr (And.intro hp hs))
        clear hp hs HR
        by_cases hja : a < j
        · have hja' : (a : Int) < (j : Int) := by omega
          have hd : decide ((a : Int) < (j : Int)) = true := decide_eq_true hja'
          have hjn : j < n := by omega
          obtain ⟨J, hJ⟩ : ∃ J : Nat, J = j - 1 := ⟨_, rfl⟩
          have hJ1 : (j : Int) - 1 = (J : Int) := by omega
          have hJn : J < n := by omega
          have hJw : IntKind.i64.wrap (J : Int) = (J : Int) := by rw [IntKind.wrap_i64]; omega
          obtain ⟨x, hx⟩ : ∃ x, x = qj j := ⟨_, rfl⟩
          obtain ⟨y, hy⟩ : ∃ y, y = qj J := ⟨_, rfl⟩
          have cx := hr.v.c j hjn
          have cy := hr.v.c J hJn
          have cl := hr.v.lt
          have cb := hr.b
          have kx : x < 4294967296 := by rw [hx]; exact hr.k _ (by omega)
          have ky : y < 4294967296 := by rw [hy]; exact hr.k _ (by omega)
          rw [← hx] at cx
          rw [← hy] at cy
          have HX := Lib.hid (And.intro hx (And.intro hy hJ))
          clear hx hy hJ hr
          go_upto_region 4 with fail
          go_quiet ((go_at_call 49; refine Calls.quiet_of (v := .int .i64 (K x - K y)) (HC.out x y _ kx ky (cb.trans (below_drewN (Below.refl _ _) _)))))
          refine so_exit (fun W hW => ?_)
          have hJw2 := hJw
          have HW : Hid (SoW w g n W qj) := by rw [hW]; exact HJ.out.1.drewN _
          clear hW cx cy cl cb
          by_cases hk : K x < K y
          · have hk1 : K x - K y < 0 := by omega
            have HK := Lib.hid hk
            clear hk
            have cx := HW.out.v.c j hjn
            have cy := HW.out.v.c J hJn
            rw [← HX.out.1] at cx
            rw [← HX.out.2.1] at cy
            have cl := HW.out.v.lt
            have cfr := HW.out.v.f
            go_upto_region 6 with fail
            go_region
            refine so_exit (fun W2 hW2 => ?_)
            have HJj : J < j := by have := HX.out.2.2; omega
            have H2 : Hid (SoW w g n W2 (swp qj j J)) := by
              have h := HW.out.swap hjn hJn
              rw [← HX.out.1, ← HX.out.2.1] at h
              rw [hW2]
              exact h.past (by (repeat (first | exact Below.refl _ _ | assumption | (refine Below.setCell ?_ (by first | (simp; done) | (simp; omega) | omega) _) | (refine Below.drew ?_) | (refine below_drewN ?_ _) | (refine Below.alloc ?_ (by first | (simp; done) | (simp; omega) | omega) _) | (refine Below.trans ?_ (Below.mono (by assumption) (by first | (simp; done) | (simp; omega) | omega))))))
            clear hW2 cx cy cl cfr HW
            go_wp2_with fail
            go_roundw
            case rel =>
              have e1 : swp qj j J j = qj J := by unfold swp; rw [if_neg (by omega), if_pos rfl]
              have e2 : swp qj j J J = qj j := by unfold swp; rw [if_pos rfl]
              have e3 : ∀ x, x ≠ j → x ≠ J → swp qj j J x = qj x := fun x h1 h2 => by unfold swp; rw [if_neg h2, if_neg h1]
              have hk := HK.out
              rw [HX.out.1, HX.out.2.1] at hk
              have hst : InsI K a i J (swp qj j J) := by
                have eJ := HX.out.2.2
                subst eJ
                exact HJ.out.2.2.step hja hj hk e1 e2 e3
              exact ⟨J, _, by first | rfl | go_num, by omega, by omega, H2.out, HJ.out.2.1.trans (PmR.swap_lt qj (by omega) HJj (by omega)).2, hst⟩
            case measure => simp [intOf]; omega
          · have hk1 : ¬ K x - K y < 0 := by omega
            have hdone : SoR K a (i + 1) qj := by
              have hk2 := hk
              rw [HX.out.1, HX.out.2.1, HX.out.2.2] at hk2
              exact HJ.out.2.2.done hj0 (.inr hk2)
            have HD := Lib.hid hdone
            clear hdone hk
            go_wp2_with fail
            go_roundw
            case rel => exact ⟨i + 1, qj, by first | rfl | go_num, by omega, .inl (by omega), HW.out, HJ.out.2.1, HD.out⟩
            case measure => simp [intOf]; omega
        · have hd : decide ((a : Int) < (j : Int)) = false := decide_eq_false (by omega)
          have hja2 : ¬ (a : Int) < (j : Int) := by omega
          have hdone : SoR K a (i + 1) qj := HJ.out.2.2.done hj0 (.inl (by omega))
          have HD := Lib.hid hdone
          clear hdone hr
          go_upto_region 4 with fail
          go_quiet (fail)
          refine so_exit (fun W hW => ?_)
          have HW : Hid (SoW w g n W qj) := by rw [hW]; exact HJ.out.1.drewN _
          clear hW
          go_wp2_with fail
          go_roundw
          case rel => exact ⟨i + 1, qj, by first | rfl | go_num, by omega, .inl (by omega), HW.out, HJ.out.2.1, HD.out⟩
          case measure => simp [intOf]; omega
    · have hib' : ¬ (i : Int) < (b : Int) := by omega
      go_wp2_with fail
      exact bodyPost_end (v := .tuple #[]) (by simp [results, Try.results63, go_sem]) rfl ⟨rfl, qq, HR.out.1, HR.out.2.1, fun x y k1 k2 k3 => HR.out.2.2 x y k1 k2 (by omega)⟩
end Go.Proofs.Ytefjkelakecanaa
