/- slices.symMergeCmpFunc over runs: two rows in order become one. Conditions: the row lies within the slice; the comparison answers by keys. -/
import Derived.Test.YtkadinjhfldokaaSrC
import Derived.Deep.DeepCutAuto
namespace Go.Proofs.Ytkadinjhfldokaa
open Go.RowKit
set_option maxRecDepth 100000 in
set_option maxHeartbeats 16000000 in
theorem smR_main (Pr : RunV → Prop) (C : RunV → RunV → Int) (K : RunV → Int) (w : World) (g n cap a m b kc : Nat) (q : Nat → RunV) (wr : World) (hn : n ≤ 1073741824) (h1 : a + 1 < m) (h2 : m + 1 < b) (h3 : b ≤ n) (HC : Hid ((∀ args w, (callFunc kc args).run Try.prog w = .ok (.enter kc args) w) ∧ (∀ x y, Pr x → Pr y → (C x y < 0 ↔ K x < K y)) ∧ ∀ (x y : RunV) (wr : World), Pr x → Pr y → Calls Try.prog kc #[.agg #[.int .i64 x.wk, .int .i64 x.mc, .int .i64 x.fr, .int .i64 x.to, .bool x.fl], .agg #[.int .i64 y.wk, .int .i64 y.mc, .int .i64 y.fr, .int .i64 y.to, .bool y.fl]] wr fun e w' => e = .returned (.int .i64 (C x y)) ∧ Below wr.heap.size wr w')) (hw : SrW Pr w g n wr q) (hs1 : SoR K a m q) (hs2 : SoR K m b q)
    (HI : Hid (∀ (a' m' b' : Nat) (q : Nat → RunV) (wr : World), a' < m' → m' < b' → b' ≤ n → b' - a' < b - a → SrW Pr w g n wr q → SoR K a' m' q → SoR K m' b' q → Calls Try.prog 46 #[.slice (some ⟨g, 0, none⟩) n cap, .int .i64 a', .int .i64 m', .int .i64 b', .func (.func kc) #[] #[]] wr fun e w' => e = .returned (.tuple #[]) ∧ ∃ q', SrW Pr w g n w' q' ∧ PmR a' b' q q' ∧ SoR K a' b' q')) :
    Calls Try.prog 46 #[.slice (some ⟨g, 0, none⟩) n cap, .int .i64 a, .int .i64 m, .int .i64 b, .func (.func kc) #[] #[]] wr fun e w' => e = .returned (.tuple #[]) ∧ ∃ q', SrW Pr w g n w' q' ∧ PmR a b q q' ∧ SoR K a b q' := by
  have H0 := Lib.hid hw
  have HS := Lib.hid (And.intro hs1 hs2)
  obtain ⟨b1, b2, b3, b4, b5, b6, b7⟩ := mg_bd (show a < m by omega) (show m < b by omega)
  have hma : ((m : Int) - (a : Int) == 1) = false := by simp; omega
  have hbm : ((b : Int) - (m : Int) == 1) = false := by simp; omega
  obtain ⟨d, hd⟩ : ∃ d, d = (a + b) / 2 := ⟨_, rfl⟩
  have hD : ((a : Int) + (b : Int)) / 2 = (d : Int) := by omega
  obtain ⟨L, hL⟩ : ∃ L, L = mgL a m b := ⟨_, rfl⟩
  obtain ⟨R, hR⟩ : ∃ R, R = mgR a m b := ⟨_, rfl⟩
  have hLd : (d < m → (d : Int) + (m : Int) - (b : Int) = (L : Int) ∧ R = d) ∧ (¬ d < m → L = a ∧ R = m) := by
    unfold mgL at hL; unfold mgR at hR
    rw [← hd] at hL hR
    constructor
    · intro h; rw [if_pos h] at hL hR; omega
    · intro h; rw [if_neg h] at hL hR; exact ⟨hL, hR⟩
  rw [← hL] at b1 b2 b5
  rw [← hR] at b2 b3 b4 b6 b7
  rw [← hd] at b4 b5 b6
  have hdb : a < d ∧ d < b := by omega
  obtain ⟨d1, d2⟩ := hdb
  have bn1 : (b : Int) ≤ 1073741824 := by omega
  have bn2 : (m : Int) < b := by omega
  have bn3 : (a : Int) < m := by omega
  have bn4 : (d : Int) < b := by omega
  have HD := Lib.hid (And.intro hd (And.intro hL hR))
  clear hw hs1 hs2 hd hL hR
  go_enter Try.func46, Try.ntmps46
  go_upto_if 140 with fail
  go_cut [20, 21] (fun s20 s21 wx => s20 = .int .i64 L ∧ s21 = .int .i64 R ∧ wx = wr)
  case first =>
    as_aux_lemma =>
      by_cases hdm : d < m
      · obtain ⟨e1, rfl⟩ := hLd.1 hdm
        have hdm' : (R : Int) < (m : Int) := by omega
        clear hLd
        go_wp2_with fail
        go_meet
        exact ⟨rfl, rfl, rfl⟩
      · obtain ⟨rfl, rfl⟩ := hLd.2 hdm
        have hdm' : ¬ (d : Int) < (R : Int) := by omega
        clear hLd
        go_wp2_with fail
        go_meet
        exact ⟨rfl, rfl, rfl⟩
  case rest =>
    obtain ⟨rfl, rfl, rfl⟩ := hcut
    clear hma hbm hD hLd
    obtain ⟨P, hP⟩ : ∃ P, P = d + m - 1 := ⟨_, rfl⟩
    have hp1 : (d : Int) + (m : Int) - 1 = (P : Int) := by omega
    have HMO := Lib.hid (mg3_mono (K := K) (q := q) (show a < m by omega) (show m < b by omega) HS.out.1 HS.out.2)
    have HPP : Hid ((a + b) / 2 + m - 1 = P) := Lib.hid (by rw [← HD.out.1]; exact hP.symm)
    have hPa : d + m ≤ P + 1 := by omega
    have hPb : P + 1 ≤ d + m := by omega
    clear hP
    go_wp2_with fail
    clear hp1
    go_loopw [20, 21] (fun s20 s21 wr => ∃ lo hi : Nat, s20 = .int .i64 lo ∧ s21 = .int .i64 hi ∧ SrW Pr w g n wr q ∧ BsI (mg3 K q P) L R lo hi) (fun s20 s21 _ => (intOf s21).toNat - (intOf s20).toNat)
    case atStart => exact ⟨L, R, rfl, rfl, H0.out, BsI.start _ b2⟩
    case round =>
      obtain ⟨lo, hi, rfl, rfl, hr, hb⟩ := hrel
      have HB := Lib.hid hb
      obtain ⟨c1, c2, c3⟩ := hb.h
      clear hb H0
      have HR := Lib.hid hr
      have bi : (lo : Int) ≤ 1073741824 := by omega
      have bj : (hi : Int) ≤ 1073741824 := by omega
      by_cases hij : lo < hi
      · have hij' : (lo : Int) < (hi : Int) := by omega
        obtain ⟨c, hc⟩ : ∃ c, c = (lo + hi) / 2 := ⟨_, rfl⟩
        have hH : ((lo : Int) + (hi : Int)) / 2 = (c : Int) := by omega
        have hc1 : lo ≤ c ∧ c < hi := by omega
        have hcn : c < n := by omega
        obtain ⟨z, hz⟩ : ∃ z, z = P - c := ⟨_, rfl⟩
        have hz1 : (P : Int) - (c : Int) = (z : Int) := by omega
        have hzn : z < n := by omega
        have hzw : IntKind.i64.wrap (z : Int) = (z : Int) := by rw [IntKind.wrap_i64]; omega
        obtain ⟨x, hx⟩ : ∃ x, x = q z := ⟨_, rfl⟩
        obtain ⟨y, hy⟩ : ∃ y, y = q c := ⟨_, rfl⟩
        have x0 := hr.v.c0 z hzn; have x1 := hr.v.c1 z hzn; have x2 := hr.v.c2 z hzn; have x3 := hr.v.c3 z hzn; have x4 := hr.v.c4 z hzn
        have y0 := hr.v.c0 c hcn; have y1 := hr.v.c1 c hcn; have y2 := hr.v.c2 c hcn; have y3 := hr.v.c3 c hcn; have y4 := hr.v.c4 c hcn
        have cl := hr.v.lt
        have px : Pr x := by rw [hx]; exact hr.k _ (by omega)
        have py : Pr y := by rw [hy]; exact hr.k _ (by omega)
        rw [← hx] at x0 x1 x2 x3 x4
        rw [← hy] at y0 y1 y2 y3 y4
        have HX := Lib.hid (And.intro hx (And.intro hy (And.intro hz hc1)))
        clear hx hy hz hr hc1 hc
        go_upto_region 35 with fail
        have hent := HC.out.1
        refine wp_region_loose 13 (fun _ _ u => u = .int .i64 (C x y)) (by kernel_rfl) (by kernel_rfl) ?_
        simp only [List.take_succ_cons, List.take_zero, List.drop_succ_cons, List.drop_zero]
        repeat (refine loose_wanted rfl (fun K hK => ?_); go_simp; refine hK _ ?_; clear hK K)
        refine loose_wanted rfl (fun K1 hK => ?_)
        go_simp
        refine ⟨fun p => (HC.out.2.2 x y _ px py).mono ?_, hK _ ?_⟩
        · rintro e w' ⟨rfl, hb⟩
          exact ⟨_, rfl, rfl, p.h.trans (hb.mono p.h.size)⟩
        clear hK K1 hent
        repeat (refine loose_wanted rfl (fun K hK => ?_); go_simp; refine hK _ ?_; clear hK K)
        refine loose_nil (fun W hB5 => ?_)
        have HW : Hid (SrW Pr w g n W q) := Lib.hid (HR.out.past hB5)
        clear hB5 x0 x1 x2 x3 x4 y0 y1 y2 y3 y4 cl
        have mono : ∀ x y, L ≤ x → x ≤ y → y < R → mg3 K q P x → mg3 K q P y := by
          have h := HMO.out
          rw [← HD.out.2.1, ← HD.out.2.2, HPP.out] at h
          exact h
        by_cases hk : K x < K y
        · have hk1 : C x y < 0 := (HC.out.2.1 x y px py).2 hk
          have hB2 : BsI (mg3 K q P) L R lo c := by
            rw [HX.out.1, HX.out.2.1, HX.out.2.2.1] at hk
            exact HB.out.down mono HX.out.2.2.2.1 HX.out.2.2.2.2 hk
          have HB2 := Lib.hid hB2
          clear hk hB2 mono
          go_wp2_with fail
          go_roundw
          case rel => exact ⟨lo, c, rfl, rfl, HW.out, HB2.out⟩
          case measure => have := HX.out.2.2.2; simp [intOf]; omega
        · have hk1 : ¬ C x y < 0 := fun h => hk ((HC.out.2.1 x y px py).1 h)
          have hB2 : BsI (mg3 K q P) L R (c + 1) hi := by
            rw [HX.out.1, HX.out.2.1, HX.out.2.2.1] at hk
            exact HB.out.up mono HX.out.2.2.2.1 HX.out.2.2.2.2 hk
          have HB2 := Lib.hid hB2
          clear hk hB2 mono
          go_wp2_with fail
          go_roundw
          case rel => exact ⟨c + 1, hi, by first | rfl | go_num, rfl, HW.out, HB2.out⟩
          case measure => have := HX.out.2.2.2; simp [intOf]; omega
      · obtain rfl : lo = hi := by omega
        obtain ⟨e, he⟩ : ∃ e, e = d + m - lo := ⟨_, rfl⟩
        have he1 : (d : Int) + (m : Int) - (lo : Int) = (e : Int) := by omega
        have hsp := mg_split (K := K) (q := q) (e := e) (show a < m by omega) (show m < b by omega) HS.out.1 HS.out.2 (s := lo) (by rw [HPP.out, ← HD.out.2.1, ← HD.out.2.2]; exact HB.out) (by rw [← HD.out.1]; exact he)
        rw [← HD.out.1] at hsp
        obtain ⟨⟨f1, f2, f3, f4, f5, f6⟩, g1, g2, g3, g4, g5⟩ := hsp
        have HG := Lib.hid (And.intro g1 (And.intro g2 (And.intro g3 (And.intro g4 g5))))
        obtain ⟨q1, hq1⟩ : ∃ q1, q1 = rot q lo m e := ⟨_, rfl⟩
        rw [← hq1] at HG
        have HQ1 := Lib.hid hq1
        clear g1 g2 g3 g4 g5 hr hq1 hij he bi bj c1 c2 c3 HB HMO HPP
        go_upto_region 39 with fail
        go_cut [185] (fun sc wx => sc = .bool (decide (lo < m ∧ m < e)) ∧ SrW Pr w g n wx q)
        case first =>
          as_aux_lemma =>
            by_cases hA : lo < m
            · have hA1 : (lo : Int) < (m : Int) := by omega
              by_cases hB : m < e
              · have hB1 : (m : Int) < (e : Int) := by omega
                have hZ : decide (lo < m ∧ m < e) = true := decide_eq_true ⟨hA, hB⟩
                have HZ := Lib.hid hZ
                clear hA hB hZ
                go_wp2_with fail
                go_meet
                exact ⟨by rw [HZ.out], HR.out⟩
              · have hB1 : ¬ (m : Int) < (e : Int) := by omega
                have hZ : decide (lo < m ∧ m < e) = false := decide_eq_false (fun h => hB h.2)
                have HZ := Lib.hid hZ
                clear hA hB hZ
                go_wp2_with fail
                go_meet
                exact ⟨by rw [HZ.out], HR.out⟩
            · have hA1 : ¬ (lo : Int) < (m : Int) := by omega
              have hZ : decide (lo < m ∧ m < e) = false := decide_eq_false (fun h => hA h.1)
              have HZ := Lib.hid hZ
              clear hA hZ
              go_wp2_with fail
              go_meet
              exact ⟨by rw [HZ.out], HR.out⟩
        case rest =>
          obtain ⟨rfl, hf⟩ := hcut
          have HR9 := Lib.hid hf
          clear hf HR
          go_upto_if 185 with fail
          go_cut [20] (fun s20 wx => s20 = .int .i64 lo ∧ SrW Pr w g n wx q1)
          case first =>
            as_aux_lemma =>
              by_cases hA : lo < m ∧ m < e
              · have hZ : decide (lo < m ∧ m < e) = true := decide_eq_true hA
                rw [hZ]
                have HA := Lib.hid hA
                clear hA hZ
                go_wp2_with fail
                refine (rotR_any w g n cap lo m e _ q _ hn HA.out.1 HA.out.2 (by omega) HR9.out).mono ?_
                rintro e' w' ⟨rfl, h⟩
                have HW := Lib.hid (h.congr HQ1.out.symm)
                clear h
                go_wp2_with fail
                go_meet
                exact ⟨rfl, HW.out⟩
              · have HW : Hid (SrW Pr w g n _ q1) := Lib.hid (HR9.out.congr (by rw [HQ1.out, rot_none q (by omega)]))
                have hZ : decide (lo < m ∧ m < e) = false := decide_eq_false hA
                rw [hZ]
                clear hA hZ
                go_wp2_with fail
                go_meet
                exact ⟨rfl, HW.out⟩
          case rest =>
            obtain ⟨rfl, hw1⟩ := hcut
            have H1 := Lib.hid hw1
            clear hw1 HR9
            go_upto_region 41 with fail
            go_cut [199] (fun sc wx => sc = .bool (decide (a < lo ∧ lo < d)) ∧ SrW Pr w g n wx q1)
            case first =>
              as_aux_lemma =>
                by_cases hA : a < lo
                · have hA1 : (a : Int) < (lo : Int) := by omega
                  by_cases hB : lo < d
                  · have hB1 : (lo : Int) < (d : Int) := by omega
                    have hZ : decide (a < lo ∧ lo < d) = true := decide_eq_true ⟨hA, hB⟩
                    have HZ := Lib.hid hZ
                    clear hA hB hZ
                    go_wp2_with fail
                    go_meet
                    exact ⟨by rw [HZ.out], H1.out⟩
                  · have hB1 : ¬ (lo : Int) < (d : Int) := by omega
                    have hZ : decide (a < lo ∧ lo < d) = false := decide_eq_false (fun h => hB h.2)
                    have HZ := Lib.hid hZ
                    clear hA hB hZ
                    go_wp2_with fail
                    go_meet
                    exact ⟨by rw [HZ.out], H1.out⟩
                · have hA1 : ¬ (a : Int) < (lo : Int) := by omega
                  have hZ : decide (a < lo ∧ lo < d) = false := decide_eq_false (fun h => hA h.1)
                  have HZ := Lib.hid hZ
                  clear hA hZ
                  go_wp2_with fail
                  go_meet
                  exact ⟨by rw [HZ.out], H1.out⟩
            case rest =>
              obtain ⟨rfl, hf⟩ := hcut
              have H19 := Lib.hid hf
              clear hf H1
              go_upto_if 199 with fail
              go_cut [20] (fun s20 wx => s20 = .int .i64 lo ∧ ∃ q2, SrW Pr w g n wx q2 ∧ PmR a d q1 q2 ∧ SoR K a d q2)
              case first =>
                as_aux_lemma =>
                  by_cases hA : a < lo ∧ lo < d
                  · have hZ : decide (a < lo ∧ lo < d) = true := decide_eq_true hA
                    rw [hZ]
                    have HA := Lib.hid hA
                    clear hA hZ
                    go_wp2_with fail
                    refine (HI.out a lo d q1 _ HA.out.1 HA.out.2 (by omega) (by omega) H19.out HG.out.1 HG.out.2.1).mono ?_
                    rintro e' w' ⟨rfl, q2, k1, k2, k3⟩
                    have HW := Lib.hid (And.intro k1 (And.intro k2 k3))
                    clear k1 k2 k3
                    go_wp2_with fail
                    go_meet
                    exact ⟨rfl, q2, HW.out.1, HW.out.2.1, HW.out.2.2⟩
                  · have hso : SoR K a d q1 := by
                      rcases (show lo = a ∨ lo = d by omega) with h | h
                      · have h9 := HG.out.2.1
                        rw [h] at h9; exact h9
                      · have h9 := HG.out.1
                        rw [h] at h9; exact h9
                    have HSO := Lib.hid hso
                    have hZ : decide (a < lo ∧ lo < d) = false := decide_eq_false hA
                    rw [hZ]
                    clear hso hA hZ
                    go_wp2_with fail
                    go_meet
                    exact ⟨rfl, q1, H19.out, PmR.refl _ _ _, HSO.out⟩
              case rest =>
                obtain ⟨rfl, q2, k1, k2, k3⟩ := hcut
                have H2 := Lib.hid (And.intro k1 (And.intro k2 k3))
                have hs3 : SoR K d e q2 ∧ SoR K e b q2 := by
                  have o : ∀ x, d ≤ x → q2 x = q1 x := fun x hx => k2.out x (by omega)
                  constructor
                  · intro x y x1 x2 x3; rw [o x x1, o y (by omega)]; exact HG.out.2.2.1 x y x1 x2 x3
                  · intro x y x1 x2 x3; rw [o x (by omega), o y (by omega)]; exact HG.out.2.2.2.1 x y x1 x2 x3
                have H3 := Lib.hid hs3
                have fin : Hid (∀ q3, PmR d b q2 q3 → SoR K d b q3 → PmR a b q q3 ∧ SoR K a b q3) := Lib.hid (fun q3 p3 s3 => by
                  refine ⟨?_, mg_join HG.out.2.2.2.2 H2.out.2.1 p3 H2.out.2.2 s3⟩
                  have t1 : PmR a b q q1 := by rw [HQ1.out]; exact (PmR.rot q f2 f4).wide f1 (by omega) f5
                  exact (t1.trans (H2.out.2.1.wide (Nat.le_refl _) (by omega) (by omega))).trans (p3.wide (by omega) (by omega) (Nat.le_refl _)))
                clear k1 k2 k3 H19 hs3
                go_upto_region 43 with fail
                go_cut [213] (fun sc wx => sc = .bool (decide (d < e ∧ e < b)) ∧ SrW Pr w g n wx q2)
                case first =>
                  as_aux_lemma =>
                    by_cases hA : d < e
                    · have hA1 : (d : Int) < (e : Int) := by omega
                      by_cases hB : e < b
                      · have hB1 : (e : Int) < (b : Int) := by omega
                        have hZ : decide (d < e ∧ e < b) = true := decide_eq_true ⟨hA, hB⟩
                        have HZ := Lib.hid hZ
                        clear hA hB hZ
                        go_wp2_with fail
                        go_meet
                        exact ⟨by rw [HZ.out], H2.out.1⟩
                      · have hB1 : ¬ (e : Int) < (b : Int) := by omega
                        have hZ : decide (d < e ∧ e < b) = false := decide_eq_false (fun h => hB h.2)
                        have HZ := Lib.hid hZ
                        clear hA hB hZ
                        go_wp2_with fail
                        go_meet
                        exact ⟨by rw [HZ.out], H2.out.1⟩
                    · have hA1 : ¬ (d : Int) < (e : Int) := by omega
                      have hZ : decide (d < e ∧ e < b) = false := decide_eq_false (fun h => hA h.1)
                      have HZ := Lib.hid hZ
                      clear hA hZ
                      go_wp2_with fail
                      go_meet
                      exact ⟨by rw [HZ.out], H2.out.1⟩
                case rest =>
                  obtain ⟨rfl, hf⟩ := hcut
                  have H29 := Lib.hid hf
                  clear hf
                  go_upto_if 213 with fail
                  by_cases hA : d < e ∧ e < b
                  · have hZ : decide (d < e ∧ e < b) = true := decide_eq_true hA
                    rw [hZ]
                    have HA := Lib.hid hA
                    clear hA hZ
                    go_wp2_with fail
                    refine (HI.out d e b q2 _ HA.out.1 HA.out.2 h3 (by omega) H29.out H3.out.1 H3.out.2).mono ?_
                    rintro e' w' ⟨rfl, q3, k1, k2, k3⟩
                    have HW := Lib.hid (And.intro k1 (And.intro k2 k3))
                    clear k1 k2 k3
                    go_wp2_with fail
                    obtain ⟨r1, r2⟩ := fin.out q3 HW.out.2.1 HW.out.2.2
                    exact bodyPost_end (v := .tuple #[]) (by simp [results, Try.results46, go_sem]) rfl ⟨rfl, q3, HW.out.1, r1, r2⟩
                  · have hso : SoR K d b q2 := by
                      rcases (show e = d ∨ e = b by omega) with h | h
                      · have h9 := H3.out.2
                        rw [h] at h9; exact h9
                      · have h9 := H3.out.1
                        rw [h] at h9; exact h9
                    obtain ⟨r1, r2⟩ := fin.out q2 (PmR.refl _ _ _) hso
                    have HF := Lib.hid (And.intro r1 r2)
                    have hZ : decide (d < e ∧ e < b) = false := decide_eq_false hA
                    rw [hZ]
                    clear hso r1 r2 hA hZ
                    go_wp2_with fail
                    exact bodyPost_end (v := .tuple #[]) (by simp [results, Try.results46, go_sem]) rfl ⟨rfl, q2, H29.out, HF.out.1, HF.out.2⟩
/-- Two rows in order become one. -/
theorem smR_any (Pr : RunV → Prop) (C : RunV → RunV → Int) (K : RunV → Int) (w : World) (g n cap kc : Nat) (hn : n ≤ 1073741824) (HC : Hid ((∀ args w, (callFunc kc args).run Try.prog w = .ok (.enter kc args) w) ∧ (∀ x y, Pr x → Pr y → (C x y < 0 ↔ K x < K y)) ∧ ∀ (x y : RunV) (wr : World), Pr x → Pr y → Calls Try.prog kc #[.agg #[.int .i64 x.wk, .int .i64 x.mc, .int .i64 x.fr, .int .i64 x.to, .bool x.fl], .agg #[.int .i64 y.wk, .int .i64 y.mc, .int .i64 y.fr, .int .i64 y.to, .bool y.fl]] wr fun e w' => e = .returned (.int .i64 (C x y)) ∧ Below wr.heap.size wr w')) :
    ∀ N a m b : Nat, ∀ (q : Nat → RunV) (wr : World), b - a < N → a < m → m < b → b ≤ n → SrW Pr w g n wr q → SoR K a m q → SoR K m b q →
    Calls Try.prog 46 #[.slice (some ⟨g, 0, none⟩) n cap, .int .i64 a, .int .i64 m, .int .i64 b, .func (.func kc) #[] #[]] wr fun e w' => e = .returned (.tuple #[]) ∧ ∃ q', SrW Pr w g n w' q' ∧ PmR a b q q' ∧ SoR K a b q'
  | 0, a, m, b, q, wr, h, _, _, _, _, _, _ => by omega
  | N + 1, a, m, b, q, wr, h, h1, h2, h3, hw, s1, s2 => by
    by_cases c1 : m = a + 1
    · exact smR_one Pr C K w g n cap a m b kc q wr hn c1 h2 h3 HC hw s2
    · by_cases c2 : b = m + 1
      · exact smR_last Pr C K w g n cap a m b kc q wr hn (by omega) c2 h3 HC hw s1
      · exact smR_main Pr C K w g n cap a m b kc q wr hn (by omega) (by omega) h3 HC hw s1 s2 (Lib.hid (fun a' m' b' q' wr' h1' h2' h3' h4' hw' s1' s2' => smR_any Pr C K w g n cap kc hn HC N a' m' b' q' wr' (by omega) h1' h2' h3' hw' s1' s2'))
end Go.Proofs.Ytkadinjhfldokaa
