/- TopLevels: the walk of the statement, whole. No condition. -/
import Derived.Test.YtmckkgbdlgldbaaLawTl
import Derived.Test.YtmckkgbdlgldbaaLvE
namespace Go.Proofs.Ytmckkgbdlgldbaa
open Go Go.RowKit
theorem tlanded_any (w : World) : Calls Try.prog 103 #[] w fun e w' => e = .returned (.bool true) ∧ w = w' := by
  go_enter Try.func103, Try.ntmps103
  go_wp2_with (first | (go_at_call 140; refine (Bits_any _ _).mono ?_; rintro e w2 ⟨rfl, rfl⟩))
  all_goals (go_ret; refine ⟨ret_b ?_, rfl⟩; decide +kernel)
set_option maxHeartbeats 1600000 in
theorem tl_err (x y v h how s d : Int) (a : Option Addr) (n cap : Nat) (w : World) (hE : levE how d (fraErr x y v h n) ≠ 0) :
    Calls Try.prog 16 #[.agg #[.int .i64 x, .int .i64 y, .int .i64 v, .int .i64 h, .slice a n cap], .int .i64 how, .int .u32 s, .int .i64 d] w fun e w' => e = .returned (.bool true) ∧ Below w.heap.size w w' := by
  have hL := Lib.hid (fun w' => Levels_no x y v h how s d a n cap w' hE : ∀ w', _)
  generalize levE how d (fraErr x y v h n) = E at *
  have hb : (E != 0) = true := by simpa using hE
  clear hE
  go_enter Try.func16, Try.ntmps16
  go_wp2_with (first | (go_at_call 103; refine (tlanded_any _).mono ?_; rintro e w2 ⟨rfl, rfl⟩) | (go_at_call 78; refine (hL.out _).mono ?_; rintro e w2 ⟨rfl, hb2⟩; have hs2 := hb2.size))
  go_ret
  refine ⟨rfl, ?_⟩
  (repeat (first | exact Below.refl _ _ | assumption | (refine Below.setCell ?_ (by first | (simp; done) | (simp; omega) | omega) _) | (refine Below.drew ?_) | (refine below_drewN ?_ _) | (refine Below.alloc ?_ (by first | (simp; done) | (simp; omega) | omega) _) | (refine Below.trans ?_ (Below.mono (by assumption) (by first | (simp; done) | (simp; omega) | omega)))))
theorem lv_zero {a b : Int} (h : firstE a b = 0) : a = 0 ∧ b = 0 := by
  unfold firstE at h
  split at h
  · rename_i h0; exact ⟨h0, h⟩
  · rename_i h0; exact absurd h h0
theorem tl_valnum {how s x y : Int} {V : Nat} {fs : Nat → Nat} {d : Int} (hd : 1 ≤ d ∧ d ≤ 16) {k v : Nat} (hv : v = fs k) (ok1 : okV v = true) (ok2 : okW v = true) : isNum .f32 (valueF (lvZ how s x y V fs d k) d) = true := by
  obtain ⟨nv, v0, v1⟩ := tl_num ok1 ok2
  have ho : isNum .f32 (offZ how s x y V k) = true ∧ -(1 / 2) ≤ val .f32 (offZ how s x y V k) ∧ val .f32 (offZ how s x y V k) ≤ 1 / 2 := by
    unfold offZ
    split
    · exact off_bd _ _ _ _ _
    · exact ⟨by decide +kernel, by decide +kernel, by decide +kernel⟩
  unfold lvZ
  rw [← hv]
  exact (val_near hd nv v0 v1 ho.1 ho.2.1 ho.2.2).1
theorem tl_ld22 (w : World) : Calls Try.prog 82 #[.float .f64 4607182418800017408, .int .i64 (-22)] w fun e w' => e = .returned (.float .f64 4508103226997866496) ∧ ∃ m, w' = w.drewN m := by
  have h := Ldexp_plain 1023 0 (-22) w (by decide) (by decide) (by decide) (by decide) (by decide)
  exact h
/-- What stands of the statement's variables. -/
structure TlR (w W : World) (La : List Value) (g n : Nat) (Z : Nat → Int) : Prop where
  a : Blk W w.heap.size La
  fz : ∀ i, i < n → W.cell? ⟨g, 0 + i, none⟩ = some (.int .i64 (Z i))
  gl : g < W.heap.size
  w : Below w.heap.size w W
theorem TlR.past {w W V : World} {La : List Value} {g n : Nat} {Z : Nat → Int} (k : TlR w W La g n Z) (h : Below W.heap.size W V) : TlR w V La g n Z :=
  ⟨k.a.past h, fun i hi => (h.cell (p := ⟨g, 0 + i, none⟩) k.gl).trans (k.fz i hi), Nat.lt_of_lt_of_le k.gl h.size, k.w.trans (h.mono k.w.size)⟩
structure TmR (w W : World) (La : List Value) (g n : Nat) (Z : Nat → Int) (d : Int) (nf : Nat) (Lf : List Value) (g2 : Nat) : Prop where
  t : TlR w W La g n Z
  fb : Blk W nf Lf
  fv : ∀ i, i < n → W.cell? ⟨g2, i, none⟩ = some (.float .f32 (valueF (Z i) d))
  fl : g2 < W.heap.size
theorem TmR.past {w W V : World} {La : List Value} {g n : Nat} {Z : Nat → Int} {d : Int} {nf : Nat} {Lf : List Value} {g2 : Nat} (k : TmR w W La g n Z d nf Lf g2) (h : Below W.heap.size W V) : TmR w V La g n Z d nf Lf g2 :=
  ⟨k.t.past h, k.fb.past h, fun i hi => (h.cell (p := ⟨g2, i, none⟩) k.fl).trans (k.fv i hi), Nat.lt_of_lt_of_le k.fl h.size⟩
set_option maxRecDepth 100000 in
set_option maxHeartbeats 6400000 in
theorem tl_yes (x y h how s d : Int) (V b off n cap : Nat) (fs : Nat → Nat) (w : World) (he : fraErr x y (V : Int) h n = 0) (hh : 0 ≤ how ∧ how ≤ 2) (hd : 1 ≤ d ∧ d ≤ 16) (hc : Row w b off n fs) :
    Calls Try.prog 16 #[.agg #[.int .i64 x, .int .i64 y, .int .i64 V, .int .i64 h, .slice (some ⟨b, off, none⟩) n cap], .int .i64 how, .int .u32 s, .int .i64 d] w fun e w' => e = .returned (.bool true) ∧ Below w.heap.size w w' := by
  obtain ⟨hr, hl⟩ := fraErr_ok he
  have hn0 : 0 < n := by
    obtain ⟨r1, r2, r3, r4, r5, r6, -⟩ := regErr_ok hr
    have hlt1 : 4 ≤ 4 * (V : Int) * h := by rw [Int.mul_assoc]; omega
    omega
  have hbw : b < w.heap.size := hc.lt hn0
  obtain ⟨Z, hZ⟩ : ∃ Z : Nat → Int, Z = lvZ how s x y V fs d := ⟨_, rfl⟩
  have hzz : ∀ i, 0 ≤ Z i ∧ Z i ≤ 2 ^ d.toNat - 1 := fun i => by rw [hZ]; exact lvZ_in how s x y V fs hd i
  have HLY : Hid (∀ w', Below w.heap.size w w' → Calls Try.prog 78 #[.agg #[.int .i64 x, .int .i64 y, .int .i64 V, .int .i64 h, .slice (some ⟨b, off, none⟩) n cap], .int .i64 how, .int .u32 s, .int .i64 d] w' fun e w'' =>
      ∃ g, e = .returned (.tuple #[.slice (some ⟨g, 0, none⟩) n n, .int .i64 0]) ∧ w'.heap.size ≤ g ∧ (∀ i, i < n → w''.cell? ⟨g, i, none⟩ = some (.int .i64 (Z i))) ∧ Below w'.heap.size w' w'') := fun w' hb => by rw [hZ]; exact Levels_yes x y h how s d V b off n cap fs w' he hh hd (hc.below hb hbw)
  have HD := Lib.hid hd; have HZ := Lib.hid hZ; have HZZ := Lib.hid hzz; have HE := Lib.hid (And.intro he (And.intro hr hl))
  have HC := Lib.hid (fun (w' : World) (hb : Below w.heap.size w w') => hc.below hb hbw : ∀ w', Below w.heap.size w w' → _)
  clear hZ hzz he hr hl hc hbw
  go_enter Try.func16, Try.ntmps16
  go_upto_region 1 with fail
  refine wp_world (fun W hW => ?_)
  have A0 : Blk W w.heap.size [.int .i64 x, .int .i64 y, .int .i64 V, .int .i64 h, .slice (some ⟨b, off, none⟩) n cap] := by rw [hW]; exact Blk.new _ _ _ _ rfl
  have BW : Below w.heap.size w W := by rw [hW]; (repeat (first | exact Below.refl _ _ | assumption | (refine Below.setCell ?_ (by first | (simp; done) | (simp; omega) | omega) _) | (refine Below.drew ?_) | (refine below_drewN ?_ _) | (refine Below.alloc ?_ (by first | (simp; done) | (simp; omega) | omega) _) | (refine Below.trans ?_ (Below.mono (by assumption) (by first | (simp; done) | (simp; omega) | omega)))))
  have H0 := Lib.hid (And.intro A0 BW)
  have a0 := A0.c 0 _ rfl; have a1 := A0.c 1 _ rfl; have a2 := A0.c 2 _ rfl; have a3 := A0.c 3 _ rfl; have a4 := A0.c 4 _ rfl; have al := A0.lt
  clear hW A0 BW
  go_wp2_with (first | (go_at_call 103; refine (tlanded_any _).mono ?_; rintro e w2 ⟨rfl, rfl⟩))
  refine (HLY.out _ H0.out.2).mono ?_
  rintro e w2 ⟨g, rfl, hg1, hgc, hb2⟩
  have HR2 := Lib.hid (show TlR w w2 [.int .i64 x, .int .i64 y, .int .i64 V, .int .i64 h, .slice (some ⟨b, off, none⟩) n cap] g n Z from ⟨H0.out.1.past hb2, fun i hi => by rw [Nat.zero_add]; exact hgc i hi, cell_lt (hgc 0 hn0), H0.out.2.trans (hb2.mono H0.out.2.size)⟩)
  clear hg1 hgc hb2 a0 a1 a2 a3 a4 al H0 HLY
  by_cases hbig : 2000 < n
  · have hbig' : (2000 : Int) < (n : Int) := by omega
    go_wp2_with fail
    go_ret
    exact ⟨rfl, HR2.out.w⟩
  · have hbig' : ¬ (2000 : Int) < (n : Int) := by omega
    obtain ⟨str, E, HP, HU⟩ := pack_any d n Z (by omega) (fun i _ => HZZ.out i)
    have HPP := Lib.hid HP; have HUU := Lib.hid HU
    clear HP HU
    go_wp2_with fail
    refine (HPP.out g 0 n (some ⟨g, 0, none⟩) w2 (fun _ => rfl) HR2.out.fz).mono ?_
    rintro e w3 ⟨rfl, hb3⟩
    have HR3 := Lib.hid (HR2.out.past hb3)
    clear hb3 HR2 HPP
    go_upto_if 43 with fail
    go_cut [9] (fun s9 wx => s9 = .slice (some ⟨g, 0, none⟩) n n ∧ Below w3.heap.size w3 wx)
    case first =>
      by_cases hE0 : E = 0
      · have HUN := Lib.hid (HUU.out hE0)
        subst hE0
        clear HUU
        go_wp2_with fail
        refine (HUN.out _).mono ?_
        rintro e w4 ⟨u, f, rfl, hU, hf⟩
        obtain ⟨g2, ua, uc, rfl, hga, hgc⟩ := un_cells hU
        have HEQ := Lib.hid (EqI_yes g 0 g2 0 n n uc (some ⟨g, 0, none⟩) ua Z w4 (fun _ => rfl) (HR3.out.past hU.bel).fz hga (fun i hi => by rw [hgc i hi, hf i hi]) (by omega))
        have HB4 := Lib.hid hU.bel
        clear hga hgc hU hf
        go_wp2_with fail
        refine (HEQ.out).mono ?_
        rintro e w5 ⟨rfl, hb5⟩
        have HB5 := Lib.hid (HB4.out.trans (hb5.mono HB4.out.size))
        clear hb5 HEQ HB4
        go_wp2_with fail
        go_meet
        exact ⟨rfl, HB5.out⟩
      · have hEb : (E == 0) = false := by simpa using hE0
        clear hE0 HUU
        go_wp2_with fail
        go_meet
        exact ⟨rfl, Below.refl _ _⟩
    case rest =>
      obtain ⟨rfl, hb6⟩ := hcut
      have HR6 := Lib.hid (HR3.out.past hb6)
      clear hb6 HR3 HUU
      have hgd : ∀ i, i < n → ((List.range n).map Z).getD i 0 = Z i := fun i hi => by simp [hi]
      have HFR := Lib.hid (Frame_upto x y (V : Int) h d g 0 n n n ((List.range n).map Z) wc HE.out.2.1 HD.out HE.out.2.2 (Nat.le_refl _) (fun h => absurd h (Nat.lt_irrefl _)) (fun i hi => by rw [hgd i hi]; exact HR6.out.fz i hi) (fun i hi => by rw [hgd i hi]; exact HZZ.out i))
      have a0 := HR6.out.a.c 0 _ rfl; have a1 := HR6.out.a.c 1 _ rfl; have a2 := HR6.out.a.c 2 _ rfl; have a3 := HR6.out.a.c 3 _ rfl; have al := HR6.out.a.lt
      go_wp2_with fail
      refine (HFR.out).mono ?_
      rintro e w7 (⟨-, g2, rfl, hg2, hcells, hb7⟩ | ⟨hlt, -⟩)
      rotate_left
      · exact absurd hlt (Nat.lt_irrefl _)
      have HG2 := Lib.hid (show ∀ i, i < n → w7.cell? ⟨g2, i, none⟩ = some (.float .f32 (valueF (Z i) d)) from fun i hi => by rw [hcells i hi, hgd i hi])
      have HR7 := Lib.hid (HR6.out.past hb7)
      clear hg2 hcells hb7 hgd HFR HR6 a0 a1 a2 a3 al
      go_upto_region 12 with fail
      refine wp_world (fun W8 hW8 => ?_)
      have B8 : Below w7.heap.size w7 W8 := by rw [hW8]; (repeat (first | exact Below.refl _ _ | assumption | (refine Below.setCell ?_ (by first | (simp; done) | (simp; omega) | omega) _) | (refine Below.drew ?_) | (refine below_drewN ?_ _) | (refine Below.alloc ?_ (by first | (simp; done) | (simp; omega) | omega) _) | (refine Below.trans ?_ (Below.mono (by assumption) (by first | (simp; done) | (simp; omega) | omega)))))
      have HT8 := Lib.hid (TmR.mk (w := w) (W := W8) (La := [.int .i64 x, .int .i64 y, .int .i64 V, .int .i64 h, .slice (some ⟨b, off, none⟩) n cap]) (g := g) (n := n) (Z := Z) (d := d) (nf := w7.heap.size) (Lf := [.int .i64 x, .int .i64 y, .int .i64 V, .int .i64 h, .slice (some ⟨g2, 0, none⟩) n n]) (g2 := g2)
        (HR7.out.past B8) (by rw [hW8]; exact Blk.new _ _ _ _ rfl) (fun i hi => (B8.cell (p := ⟨g2, i, none⟩) (cell_lt (HG2.out i hi))).trans (HG2.out i hi)) (Nat.lt_of_lt_of_le (cell_lt (HG2.out 0 hn0)) B8.size))
      clear hW8 B8 HR7 HG2
      generalize w7.heap.size = nf at *
      obtain ⟨hd1, hd2⟩ := HD.out
      obtain ⟨p1, p2⟩ := pow_bd HD.out
      obtain ⟨S1, hS1⟩ : ∃ S, S = fop .quo .f64 4607182418800017408 (floatOfInt .f64 (2 ^ d.toNat - 1)) := ⟨_, rfl⟩
      obtain ⟨t1, t2⟩ := st_num HD.out
      rw [← hS1] at t1 t2
      go_upto_region 15 with (first | ((with_reducible apply wpList_farith); rfl; rfl; rfl; intro r1 m1 hr1))
      rw [fop_cn_left, fop_cn_right, ← hS1] at hr1
      obtain rfl := FR.exact hr1 t1
      clear hr1
      have HS1 := Lib.hid hS1
      clear hS1
      refine wp_world (fun W9 hW9 => ?_)
      have HT9 := Lib.hid (HT8.out.past (show Below W8.heap.size W8 W9 by rw [hW9]; (repeat (first | exact Below.refl _ _ | assumption | (refine Below.setCell ?_ (by first | (simp; done) | (simp; omega) | omega) _) | (refine Below.drew ?_) | (refine below_drewN ?_ _) | (refine Below.alloc ?_ (by first | (simp; done) | (simp; omega) | omega) _) | (refine Below.trans ?_ (Below.mono (by assumption) (by first | (simp; done) | (simp; omega) | omega)))))))
      clear hW9 HT8
      go_upto_if 76 with fail
      go_cut [15] (fun s15 wx => s15 = .float .f64 (stF how d) ∧ Below W9.heap.size W9 wx)
      case first =>
        by_cases hw0 : how = 0
        · have hst : stF how d = fop .quo .f64 r1 4611686018427387904 := by unfold stF; rw [if_pos hw0, HS1.out]
          have HST := Lib.hid hst
          have hwb : (how == 0) = true := by simpa using hw0
          clear hst hw0
          go_wp2_with (first | ((with_reducible apply wpList_farith); rfl; rfl; rfl; intro r2 m2 hr2))
          rw [fop_cn_left, fop_cn_right] at hr2
          obtain rfl := FR.exact hr2 t2
          go_meet
          exact ⟨by rw [HST.out], by (repeat (first | exact Below.refl _ _ | assumption | (refine Below.setCell ?_ (by first | (simp; done) | (simp; omega) | omega) _) | (refine Below.drew ?_) | (refine below_drewN ?_ _) | (refine Below.alloc ?_ (by first | (simp; done) | (simp; omega) | omega) _) | (refine Below.trans ?_ (Below.mono (by assumption) (by first | (simp; done) | (simp; omega) | omega)))))⟩
        · have hst : stF how d = r1 := by unfold stF; rw [if_neg hw0, HS1.out]
          have HST := Lib.hid hst
          have hwb : (how == 0) = false := by simpa using hw0
          clear hst hw0
          go_wp2_with fail
          go_meet
          exact ⟨by rw [HST.out], Below.refl _ _⟩
      case rest =>
        obtain ⟨rfl, hb10⟩ := hcut
        have HT10 := Lib.hid (HT9.out.past hb10)
        clear hb10 HT9 HS1 t1 t2
        have a4 := HT10.out.t.a.c 4 _ rfl; have al := HT10.out.t.a.lt
        go_wp2_with fail
        clear a4 al
        go_loopw [82] (fun s82 wr => ∃ k : Nat, k ≤ n ∧ s82 = .int .i64 k ∧ TmR w wr [.int .i64 x, .int .i64 y, .int .i64 V, .int .i64 h, .slice (some ⟨b, off, none⟩) n cap] g n Z d nf [.int .i64 x, .int .i64 y, .int .i64 V, .int .i64 h, .slice (some ⟨g2, 0, none⟩) n n] g2) (fun s82 _ => n - (intOf s82).toNat)
        case atStart => exact ⟨0, Nat.zero_le _, rfl, HT10.out⟩
        case round =>
          obtain ⟨k, hk, rfl, hT⟩ := hrel
          have HT := Lib.hid hT
          clear hT HT10
          by_cases hkn : k < n
          · have hkn' : (k : Int) < (n : Int) := by omega
            have c0 := HC.out _ HT.out.t.w k hkn
            obtain ⟨v, hv⟩ : ∃ v, v = fs k := ⟨_, rfl⟩
            rw [← hv] at c0
            have f4 := HT.out.fb.c 4 _ rfl; have fl := HT.out.fb.lt
            have g0 := HT.out.fv k hkn; have gl := HT.out.fl
            have l0 := cell_lt c0; simp only at l0
            have HV := Lib.hid hv
            clear hv
            cases h1 : okV v
            · have h1' : ((FloatKind.f32.format.order v 0 == some .gt) || (FloatKind.f32.format.order v 0 == some .eq)) = false := h1
              clear h1
              go_wp2_with fail
              go_roundw
              case rel => exact ⟨k + 1, by omega, by go_num, HT.out⟩
              case measure => simp [intOf]; omega
            · cases h2 : okW v
              · have h1' : ((FloatKind.f32.format.order v 0 == some .gt) || (FloatKind.f32.format.order v 0 == some .eq)) = true := h1
                have h2' : ((FloatKind.f32.format.order v 1065353216 == some .lt) || (FloatKind.f32.format.order v 1065353216 == some .eq)) = false := h2
                clear h1 h2
                go_wp2_with fail
                go_roundw
                case rel => exact ⟨k + 1, by omega, by go_num, HT.out⟩
                case measure => simp [intOf]; omega
              · obtain ⟨-, -, e3, e4, e5⟩ := tl_dbl (how := how) (s := s) (x := x) (y := y) (V := V) (fs := fs) HD.out HV.out h1 h2
                rw [← HZ.out] at e3 e5
                have nG : isNum .f32 (valueF (Z k) d) = true := by rw [HZ.out]; exact tl_valnum HD.out HV.out h1 h2
                obtain ⟨nv, -, -⟩ := tl_num h1 h2
                have h1' : ((FloatKind.f32.format.order v 0 == some .gt) || (FloatKind.f32.format.order v 0 == some .eq)) = true := h1
                have h2' : ((FloatKind.f32.format.order v 1065353216 == some .lt) || (FloatKind.f32.format.order v 1065353216 == some .eq)) = true := h2
                obtain ⟨G, hG⟩ : ∃ G, G = valueF (Z k) d := ⟨_, rfl⟩
                obtain ⟨ST, hST⟩ : ∃ S, S = stF how d := ⟨_, rfl⟩
                rw [← hG] at e3 e5 nG g0
                rw [← hST] at e4 e5 ⊢
                have HST := Lib.hid hST
                clear hST hG h1 h2
                have q1 := fun w => lv_up (P := Try.prog) (s := 38) (d := 113) Try.underlying38 Try.underlying113 nG w
                have q2 := fun w => lv_up (P := Try.prog) (s := 38) (d := 113) Try.underlying38 Try.underlying113 nv w
                have q3 := fun w => lv_farith (P := Try.prog) (op := .sub) rfl 113 .f64 _ _ e3 w
                have q4 := fun w => lv_farith (P := Try.prog) (op := .add) rfl 113 .f64 _ _ e4 w
                generalize fop .add .f64 ST 4508103226997866496 = R at *
                generalize fop .sub .f64 (fcv .f32 .f64 G) (fcv .f32 .f64 v) = D at *
                generalize fcv .f32 .f64 G = GG at *
                generalize fcv .f32 .f64 v = VV at *
                clear e3 e4 nG nv
                go_wp2_with (first | (go_at_call 86; refine (Abs_any _ _).mono ?_; rintro e w' ⟨rfl, rfl⟩) | (go_at_call 82; refine (tl_ld22 _).mono ?_; rintro e w2 ⟨rfl, m, rfl⟩))
                go_roundw
                case rel => exact ⟨k + 1, by omega, by go_num, HT.out.past (below_drewN (Below.refl _ _) _)⟩
                case measure => simp [intOf]; omega
          · have hkk : ¬ (k : Int) < (n : Int) := by omega
            have HL2 := Lib.hid (Levels_yes x y h 0 s d V g2 0 n n (fun i => valueF (Z i) d) wr HE.out.1 (by decide) HD.out (fun i hi => by rw [Nat.zero_add]; exact HT.out.fv i hi))
            have f0 := HT.out.fb.c 0 _ rfl; have f1 := HT.out.fb.c 1 _ rfl; have f2 := HT.out.fb.c 2 _ rfl; have f3 := HT.out.fb.c 3 _ rfl; have f4 := HT.out.fb.c 4 _ rfl; have fl := HT.out.fb.lt
            go_wp2_with fail
            refine (HL2.out).mono ?_
            rintro e w11 ⟨g3, rfl, -, hg3c, hb11⟩
            have HR11 := Lib.hid (HT.out.t.past hb11)
            have HEQ := Lib.hid (EqI_yes g 0 g3 0 n n n (some ⟨g, 0, none⟩) (some ⟨g3, 0, none⟩) Z w11 (fun _ => rfl) HR11.out.fz (fun _ => rfl) (fun i hi => by rw [Nat.zero_add, hg3c i hi, tl_back s x y V Z HD.out HZZ.out i]) (by omega))
            clear hg3c hb11 f0 f1 f2 f3 f4 fl HL2 HT
            go_wp2_with fail
            refine (HEQ.out).mono ?_
            rintro e w12 ⟨rfl, hb12⟩
            have HB12 := Lib.hid (HR11.out.w.trans (hb12.mono HR11.out.w.size))
            clear hb12 HEQ HR11
            go_wp2_with fail
            go_ret
            exact ⟨by simp, HB12.out⟩
theorem tl_walk (x y v h : Int) (a : Option Addr) (n cap : Nat) (fs : Nat → Nat) (how s d : Int) (w : World)
    (_ : IntKind.i64.min ≤ x ∧ x ≤ IntKind.i64.max) (_ : IntKind.i64.min ≤ y ∧ y ≤ IntKind.i64.max) (_ : IntKind.i64.min ≤ v ∧ v ≤ IntKind.i64.max) (_ : IntKind.i64.min ≤ h ∧ h ≤ IntKind.i64.max) (hf : IsFloats w a n cap fs)
    (_ : IntKind.i64.min ≤ how ∧ how ≤ IntKind.i64.max) (_ : IntKind.u32.min ≤ s ∧ s ≤ IntKind.u32.max) (_ : IntKind.i64.min ≤ d ∧ d ≤ IntKind.i64.max) :
    Calls Try.prog 16 #[.agg #[.int .i64 x, .int .i64 y, .int .i64 v, .int .i64 h, .slice a n cap], .int .i64 how, .int .u32 s, .int .i64 d] w fun e w' => e = .returned (.bool true) ∧ Below w.heap.size w w' := by
  by_cases hE : levE how d (fraErr x y v h n) = 0
  · unfold levE at hE
    obtain ⟨e1, e2⟩ := lv_zero hE
    obtain ⟨e3, e4⟩ := lv_zero e2
    have hh : 0 ≤ how ∧ how ≤ 2 := by
      cases hi : inB how 0 2
      · rw [hi] at e3; cases e3
      · exact inB_iff.1 hi
    have hd : 1 ≤ d ∧ d ≤ 16 := by
      cases hi : inB d 1 16
      · rw [hi] at e4; cases e4
      · exact inB_iff.1 hi
    obtain ⟨hr, hl⟩ := fraErr_ok e1
    obtain ⟨r1, r2, r3, r4, r5, r6, -⟩ := regErr_ok hr
    have hlt1 : 4 ≤ 4 * v * h := by rw [Int.mul_assoc]; omega
    obtain ⟨V, rfl⟩ : ∃ V : Nat, v = V := ⟨v.toNat, by omega⟩
    rcases hf with ⟨hz, -⟩ | ⟨b, off, rfl, -, hcap, hm, hcell⟩
    · omega
    · exact tl_yes x y h how s d V b off n cap fs w e1 hh hd (fun i hi => (hcell i (by omega)).1)
  · exact tl_err x y v h how s d a n cap w hE
end Go.Proofs.Ytmckkgbdlgldbaa
