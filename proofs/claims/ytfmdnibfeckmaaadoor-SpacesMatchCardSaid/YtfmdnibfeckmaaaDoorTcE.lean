/- colour.Inverse of any matrix. No condition. -/
import Derived.Test.YtfmdnibfeckmaaaDoorTcD
namespace Go.Proofs.YtfmdnibfeckmaaaDoor
open Go Go.RowKit
/-- The cofactors, in their order. -/
def cofN (R : Nat → Nat) : Nat → Nat
  | 0 => minF (R 4) (R 8) (R 5) (R 7)
  | 1 => minF (R 2) (R 7) (R 1) (R 8)
  | 2 => minF (R 1) (R 5) (R 2) (R 4)
  | 3 => minF (R 5) (R 6) (R 3) (R 8)
  | 4 => minF (R 0) (R 8) (R 2) (R 6)
  | 5 => minF (R 2) (R 3) (R 0) (R 5)
  | 6 => minF (R 3) (R 7) (R 4) (R 6)
  | 7 => minF (R 1) (R 6) (R 0) (R 7)
  | _ => minF (R 0) (R 4) (R 1) (R 3)
def detF (R : Nat → Nat) : Nat := dotF (R 0) (R 1) (R 2) (cofN R 0) (cofN R 3) (cofN R 6)
def zeroD (d : Nat) : Bool := FloatKind.f64.format.order d 0 == some .eq
def badD (d : Nat) : Bool := zeroD d || !okD d
theorem zeroD_cn (d : Nat) : zeroD (cn .f64 d) = zeroD d := by
  have h := ford_cn_left .f64 d 0
  unfold ford at h
  unfold zeroD; rw [h]
theorem badD_cn (d : Nat) : badD (cn .f64 d) = badD d := by unfold badD; rw [zeroD_cn, okD_cn]
def invF (R : Nat → Nat) (i : Nat) : Nat := fop .quo .f64 (cofN R i) (detF R)
def invE (R : Nat → Nat) : Int := if finB R then (if badD (detF R) then 3 else if finB (invF R) then 0 else 3) else 2
/-- A matrix and an error: the error is E; where it is none the matrix is F, one NaN for all. -/
def MatE (E : Int) (F : Nat → Nat) (B : Nat) (w : World) (e : Ending) (w' : World) : Prop := (∃ q : Nat → Nat, e = .returned (.tuple #[m9 q, .int .i64 E]) ∧ (E = 0 → ∀ i, i < 9 → cn .f64 (q i) = F i)) ∧ Below B w w'
theorem minor_I {b : Nat} {i j k l : Nat} {I J K L : Int} {r : Nat → Nat} {w : World} (h : VecD w b 9 r) (hi : i < 9) (hj : j < 9) (hk : k < 9) (hl : l < 9) (ei : I = i) (ej : J = j) (ek : K = k) (el : L = l) :
    Calls Tryd.prog 48 #[.int .i64 I, .int .i64 J, .int .i64 K, .int .i64 L, .pointer (some ⟨b, 0, none⟩)] w fun e w' =>
    (∃ v, e = .returned (.float .f64 v) ∧ cn .f64 v = minF (cn .f64 (r i)) (cn .f64 (r j)) (cn .f64 (r k)) (cn .f64 (r l))) ∧ Below w.heap.size w w' := by
  subst ei; subst ej; subst ek; subst el
  exact minor_any b i j k l r w h hi hj hk hl
/-- Nine numbers by place. -/
def pk9 (a b c d e f g h i : Nat) : Nat → Nat
  | 0 => a
  | 1 => b
  | 2 => c
  | 3 => d
  | 4 => e
  | 5 => f
  | 6 => g
  | 7 => h
  | _ => i
/-- What stands through the walk: the argument's block, the result's (zeros). -/
structure InR (w wr : World) (r z : Nat → Nat) : Prop where
  r : VecD wr w.heap.size 9 r
  z : VecD wr (w.heap.size + 1) 9 z
  b : Below w.heap.size w wr
theorem InR.past {w wr wy : World} {r z : Nat → Nat} (k : InR w wr r z) (h : Below wr.heap.size wr wy) : InR w wy r z := ⟨k.r.past h, k.z.past h, k.b.trans (h.mono k.b.size)⟩
/-- What stands through the loop of divisions. -/
structure InL (w wr : World) (r : Nat → Nat) (nb : Nat) (g : Nat → Nat) : Prop where
  i : InR w wr r (fun _ => 0)
  g : VecD wr nb 9 g
  l : w.heap.size + 1 < nb
theorem InL.past {w wr wy : World} {r : Nat → Nat} {nb : Nat} {g : Nat → Nat} (k : InL w wr r nb g) (h : Below wr.heap.size wr wy) : InL w wy r nb g := ⟨k.i.past h, k.g.past h, k.l⟩
theorem InL.set {w wr : World} {r : Nat → Nat} {nb : Nat} {g : Nat → Nat} (k : InL w wr r nb g) (m : Nat) (hm : m < 9) (x : Nat) : InL w (wr.setCell ⟨nb, m, none⟩ (.float .f64 x)) r nb (fun j => if j = m then x else g j) :=
  ⟨⟨k.i.r.far _ _ (by have := k.l; simp; omega), k.i.z.far _ _ (by have := k.l; simp; omega), k.i.b.setCell (by have := k.l; simp; omega) _⟩, k.g.set m x hm, k.l⟩
/-- The first m of nine are divided by the determinant, the rest stand. -/
def DivR (R pk g : Nat → Nat) (m : Nat) : Prop := ∀ j, j < 9 → (j < m → cn .f64 (g j) = invF R j) ∧ (m ≤ j → g j = pk j)
theorem DivR.start {R pk : Nat → Nat} : DivR R pk pk 0 := fun j _ => ⟨fun h => by omega, fun _ => rfl⟩
theorem DivR.at {R pk g : Nat → Nat} {m : Nat} (k : DivR R pk g m) (hm : m < 9) : g m = pk m := (k m hm).2 (Nat.le_refl _)
theorem DivR.next {R pk g : Nat → Nat} {m : Nat} {x : Nat} (k : DivR R pk g m) (_ : m < 9) (hx : cn .f64 x = invF R m) : DivR R pk (fun j => if j = m then x else g j) (m + 1) := fun j hj => by
  by_cases e : j = m
  · subst e; simp only [if_true]; exact ⟨fun _ => hx, fun h => by omega⟩
  · simp only [if_neg e]; exact ⟨fun h => (k j hj).1 (by omega), fun h => (k j hj).2 (by omega)⟩
theorem pk9_cof {R : Nat → Nat} {a b c d e f g h i : Nat} (ha : cn .f64 a = minF (R 4) (R 8) (R 5) (R 7)) (hb : cn .f64 b = minF (R 2) (R 7) (R 1) (R 8)) (hc : cn .f64 c = minF (R 1) (R 5) (R 2) (R 4)) (hd : cn .f64 d = minF (R 5) (R 6) (R 3) (R 8)) (he : cn .f64 e = minF (R 0) (R 8) (R 2) (R 6)) (hf : cn .f64 f = minF (R 2) (R 3) (R 0) (R 5)) (hg : cn .f64 g = minF (R 3) (R 7) (R 4) (R 6)) (hh : cn .f64 h = minF (R 1) (R 6) (R 0) (R 7)) (hi : cn .f64 i = minF (R 0) (R 4) (R 1) (R 3)) :
    ∀ j, j < 9 → cn .f64 (pk9 a b c d e f g h i j) = cofN R j := fun j hj => by
  rcases (show j = 0 ∨ j = 1 ∨ j = 2 ∨ j = 3 ∨ j = 4 ∨ j = 5 ∨ j = 6 ∨ j = 7 ∨ j = 8 by omega) with rfl | rfl | rfl | rfl | rfl | rfl | rfl | rfl | rfl <;> assumption
set_option maxRecDepth 100000 in
set_option maxHeartbeats 6400000 in
theorem Inverse_any (r : Nat → Nat) (w : World) : Calls Tryd.prog 32 #[m9 r] w (MatE (invE fun i => cn .f64 (r i)) (invF fun i => cn .f64 (r i)) w.heap.size w) := by
  have fc := finB_cn r
  go_enter Tryd.func32, Tryd.ntmps32
  go_upto_region 1 with fail
  refine wp_world (fun W hW => ?_)
  have V0 : InR w W r (fun _ => 0) := by
    rw [hW]
    exact ⟨VecD.of9 ((Blk.new _ _ _ _ rfl).alloc _), VecD.of9 (Blk.new _ _ _ _ (by simp)), by (repeat (first | exact Below.refl _ _ | assumption | (refine Below.setCell ?_ (by first | (simp; done) | (simp; omega) | omega) _) | (refine Below.drew ?_) | (refine below_drewN ?_ _) | (refine Below.alloc ?_ (by first | (simp; done) | (simp; omega) | omega) _) | (refine Below.trans ?_ (Below.mono (by assumption) (by first | (simp; done) | (simp; omega) | omega)))))⟩
  have HV := Lib.hid V0
  clear hW V0
  cases hF : finB r
  · have HF := Lib.hid hF
    rw [hF] at fc
    have HE : Hid ((invE fun i => cn .f64 (r i)) = 2) := Lib.hid (by unfold invE; rw [fc]; rfl)
    clear fc hF
    go_wp2_with (first | ((with_reducible apply wpList_ld9 (HV.out.r)); rfl; rfl; rfl) | (go_at_call 47; refine (finite_any r _).mono ?_; rintro e w1 ⟨rfl, hb1⟩; rw [HF.out]) | ((with_reducible apply wpList_st9 (r := fun _ => 0) (HV.out.z.past hb1)); rfl; rfl; rfl; rfl; intro w9 hk9 hs9 hh9 hb9))
    refine bodyPost_ret (v := .tuple #[m9 (fun _ => 0), .int .i64 (invE fun i => cn .f64 (r i))]) (by rw [HE.out]; exact results_m9e Tryd.results32 _ hk9 rfl rfl) rfl ⟨⟨_, rfl, fun h => by rw [HE.out] at h; cases h⟩, ?_⟩
    exact hb9 _ _ (HV.out.past hb1).b (by omega)
  · have HF := Lib.hid hF
    rw [hF] at fc
    have HFC := Lib.hid fc
    clear fc hF
    go_wp2_with (first | ((with_reducible apply wpList_ld9 (HV.out.r)); rfl; rfl; rfl) | (go_at_call 47; refine (finite_any r _).mono ?_; rintro e w1 ⟨rfl, hb1⟩; rw [HF.out]))
    have H1 := Lib.hid (HV.out.past hb1)
    clear hb1 HV
    refine (minor_I (i := 4) (j := 8) (k := 5) (l := 7) H1.out.r (by omega) (by omega) (by omega) (by omega) rfl rfl rfl rfl).mono ?_
    rintro e w2 ⟨⟨A, rfl, hA⟩, hb2⟩
    have H2 := Lib.hid (H1.out.past hb2); have HA := Lib.hid hA
    clear hb2 H1 hA
    go_wp2_with fail
    refine (minor_I (i := 5) (j := 6) (k := 3) (l := 8) H2.out.r (by omega) (by omega) (by omega) (by omega) rfl rfl rfl rfl).mono ?_
    rintro e w3 ⟨⟨B, rfl, hB⟩, hb3⟩
    have H3 := Lib.hid (H2.out.past hb3); have HB := Lib.hid hB
    clear hb3 H2 hB
    go_wp2_with fail
    refine (minor_I (i := 3) (j := 7) (k := 4) (l := 6) H3.out.r (by omega) (by omega) (by omega) (by omega) rfl rfl rfl rfl).mono ?_
    rintro e w4 ⟨⟨C, rfl, hC⟩, hb4⟩
    have H4 := Lib.hid (H3.out.past hb4); have HC := Lib.hid hC
    clear hb4 H3 hC
    have r0 := H4.out.r.c 0 (by omega); have r1 := H4.out.r.c 1 (by omega); have r2 := H4.out.r.c 2 (by omega); have rl := H4.out.r.lt
    go_wp2_with fail
    refine (dot_any _ _ _ _ _ _ _).mono ?_
    rintro e w5 ⟨⟨d, rfl, hd⟩, m, rfl⟩
    rw [HA.out, HB.out, HC.out] at hd
    have HD : Hid (cn .f64 d = detF (fun i => cn .f64 (r i))) := Lib.hid hd
    have H5 := Lib.hid (H4.out.past (below_drewN (Below.refl _ _) m))
    clear hd r0 r1 r2 rl H4
    have KB : badD d = true → Hid ((invE fun i => cn .f64 (r i)) = 3) := fun h => Lib.hid (by unfold invE; rw [HFC.out, ← HD.out, badD_cn, h]; rfl)
    have HKB := Lib.hid KB
    clear KB
    have HI := Lib.hid (fun w' => IsInfT_any d w' : ∀ w', _)
    have oe := ord_self_ne (k := .f64) (x := d)
    cases hz : zeroD d
    · have hz' : (FloatKind.f64.format.order d 0 == some .eq) = false := hz
      have HZ := Lib.hid hz
      clear hz
      cases hN : isN .f64 d
      · rw [hN] at oe
        obtain ⟨b, hb⟩ : ∃ b, b = infD d := ⟨_, rfl⟩
        rw [← hb] at HI
        have HNN := Lib.hid (And.intro hN hb)
        clear hN hb
        cases b
        · have hBd : badD d = false := by unfold badD okD; rw [HNN.out.1, ← HNN.out.2, HZ.out]; rfl
          have HBd := Lib.hid hBd
          clear hBd HKB
          go_wp2_with (go_at_call 50; refine (HI.out _).mono ?_; rintro e w' ⟨rfl, rfl⟩)
          refine (minor_I (i := 2) (j := 7) (k := 1) (l := 8) H5.out.r (by omega) (by omega) (by omega) (by omega) rfl rfl rfl rfl).mono ?_
          rintro e w20 ⟨⟨p1, rfl, hp1⟩, hb⟩
          have H6 := Lib.hid (H5.out.past hb); have Kp1 := Lib.hid hp1
          clear hb H5 hp1
          go_wp2_with fail
          refine (minor_I (i := 1) (j := 5) (k := 2) (l := 4) H6.out.r (by omega) (by omega) (by omega) (by omega) rfl rfl rfl rfl).mono ?_
          rintro e w21 ⟨⟨p2, rfl, hp2⟩, hb⟩
          have H7 := Lib.hid (H6.out.past hb); have Kp2 := Lib.hid hp2
          clear hb H6 hp2
          go_wp2_with fail
          refine (minor_I (i := 0) (j := 8) (k := 2) (l := 6) H7.out.r (by omega) (by omega) (by omega) (by omega) rfl rfl rfl rfl).mono ?_
          rintro e w22 ⟨⟨p4, rfl, hp4⟩, hb⟩
          have H8 := Lib.hid (H7.out.past hb); have Kp4 := Lib.hid hp4
          clear hb H7 hp4
          go_wp2_with fail
          refine (minor_I (i := 2) (j := 3) (k := 0) (l := 5) H8.out.r (by omega) (by omega) (by omega) (by omega) rfl rfl rfl rfl).mono ?_
          rintro e w23 ⟨⟨p5, rfl, hp5⟩, hb⟩
          have H9 := Lib.hid (H8.out.past hb); have Kp5 := Lib.hid hp5
          clear hb H8 hp5
          go_wp2_with fail
          refine (minor_I (i := 1) (j := 6) (k := 0) (l := 7) H9.out.r (by omega) (by omega) (by omega) (by omega) rfl rfl rfl rfl).mono ?_
          rintro e w24 ⟨⟨p7, rfl, hp7⟩, hb⟩
          have H10 := Lib.hid (H9.out.past hb); have Kp7 := Lib.hid hp7
          clear hb H9 hp7
          go_wp2_with fail
          refine (minor_I (i := 0) (j := 4) (k := 1) (l := 3) H10.out.r (by omega) (by omega) (by omega) (by omega) rfl rfl rfl rfl).mono ?_
          rintro e w25 ⟨⟨p8, rfl, hp8⟩, hb⟩
          have H11 := Lib.hid (H10.out.past hb); have Kp8 := Lib.hid hp8
          clear hb H10 hp8
          go_wp2_with ((with_reducible apply wpList_st9 (r := pk9 A p1 p2 B p4 p5 C p7 p8) (VecD.of9 (f := fun _ => 0) (Blk.new _ _ _ _ rfl))); rfl; rfl; rfl; rfl; intro w9 hk9 hs9 hh9 hb9)
          have hbz := hb9 _ _ ((Below.refl w25.heap.size w25).alloc (Nat.le_refl _) _) (Nat.le_refl _)
          have hlt := H11.out.z.lt
          have HL : Hid (InL w w9 r w25.heap.size (pk9 A p1 p2 B p4 p5 C p7 p8)) := Lib.hid ⟨H11.out.past hbz, hk9, hlt⟩
          have HP : Hid (∀ j, j < 9 → cn .f64 (pk9 A p1 p2 B p4 p5 C p7 p8 j) = cofN (fun i => cn .f64 (r i)) j) := Lib.hid (pk9_cof HA.out Kp1.out Kp2.out HB.out Kp4.out Kp5.out HC.out Kp7.out Kp8.out)
          generalize w25.heap.size = nb at *
          generalize pk9 A p1 p2 B p4 p5 C p7 p8 = pk at *
          clear hbz hlt hk9 hs9 hh9 hb9 H11 HA HB HC Kp1 Kp2 Kp4 Kp5 Kp7 Kp8
          go_loopw [60] (fun s60 wr => ∃ m : Nat, m ≤ 9 ∧ s60 = .int .i64 m ∧ ∃ g, InL w wr r nb g ∧ DivR (fun i => cn .f64 (r i)) pk g m) (fun s60 _ => 9 - (intOf s60).toNat)
          case atStart => exact ⟨0, by omega, rfl, _, HL.out, DivR.start⟩
          case round =>
            obtain ⟨m, hm, rfl, g, hR, hD⟩ := hrel
            have HR := Lib.hid hR; have HDV := Lib.hid hD
            clear hR hD HL
            by_cases hm9 : m < 9
            · have hm9' : (m : Int) < 9 := by omega
              have g0 := HR.out.g.c m hm9; have gf := HR.out.g.f; have gl := HR.out.g.lt
              obtain ⟨x, hx⟩ : ∃ x, x = g m := ⟨_, rfl⟩
              rw [← hx] at g0
              have HX := Lib.hid hx
              clear hx
              go_wp2_with (first | ((with_reducible apply wpList_farith); rfl; rfl; rfl; intro _ _ _) | ((with_reducible apply wpList_up); rfl; exact Tryd.underlying22; exact Tryd.underlying47; intro _ _ _))
              rename_i q n hq
              go_roundw
              case rel => exact ⟨m + 1, by omega, by go_num, _, (HR.out.past (below_drewN (Below.refl _ _) _)).set m hm9 q, HDV.out.next hm9 (by rw [hq.eq, HX.out, HDV.out.at hm9, HP.out m hm9, HD.out]; rfl)⟩
              case measure => simp [intOf]; omega
            · have hm9' : ¬ (m : Int) < 9 := by omega
              obtain rfl : m = 9 := by omega
              have hcn : ∀ j, j < 9 → cn .f64 (g j) = invF (fun i => cn .f64 (r i)) j := fun j hj => (HDV.out j hj).1 hj
              have hfb : finB g = finB (invF fun i => cn .f64 (r i)) := finB_congr fun j hj => by rw [hcn j hj]; exact (cn_fop _ _ _ _).symm
              have hcl : (((9 : Nat) : Int)) = 9 := rfl
              have hbe : badD (detF fun i => cn .f64 (r i)) = false := by rw [← HD.out, badD_cn]; exact HBd.out
              have HCN := Lib.hid hcn
              clear hcn
              cases hG : finB g
              · have HE : Hid ((invE fun i => cn .f64 (r i)) = 3) := Lib.hid (by unfold invE; rw [HFC.out, hbe, ← hfb, hG]; rfl)
                have HG := Lib.hid hG
                clear hG hfb hbe
                go_wp2_with (first | ((with_reducible apply wpList_ld9 (HR.out.g)); rfl; rfl; rfl) | (go_at_call 47; refine (finite_any g _).mono ?_; rintro e w1 ⟨rfl, hb1⟩; rw [HG.out]) | ((with_reducible apply wpList_st9 (r := fun _ => 0) (HR.out.i.z.past hb1)); rfl; rfl; rfl; rfl; intro w9 hk9 hs9 hh9 hb9))
                refine bodyPost_ret (v := .tuple #[m9 (fun _ => 0), .int .i64 (invE fun i => cn .f64 (r i))]) (by rw [HE.out]; exact results_m9e Tryd.results32 _ hk9 rfl rfl) rfl ⟨⟨_, rfl, fun h => by rw [HE.out] at h; cases h⟩, ?_⟩
                exact hb9 _ _ (HR.out.past hb1).i.b (by omega)
              · have HE : Hid ((invE fun i => cn .f64 (r i)) = 0) := Lib.hid (by unfold invE; rw [HFC.out, hbe, ← hfb, hG]; rfl)
                have HG := Lib.hid hG
                clear hG hfb hbe
                go_wp2_with (first | ((with_reducible apply wpList_ld9 (HR.out.g)); rfl; rfl; rfl) | (go_at_call 47; refine (finite_any g _).mono ?_; rintro e w1 ⟨rfl, hb1⟩; rw [HG.out]) | ((with_reducible apply wpList_ld9 (HR.out.g.past hb1)); rfl; rfl; rfl) | ((with_reducible apply wpList_st9 (r := g) (HR.out.i.z.past hb1)); rfl; rfl; rfl; rfl; intro w9 hk9 hs9 hh9 hb9))
                refine bodyPost_ret (v := .tuple #[m9 g, .int .i64 (invE fun i => cn .f64 (r i))]) (by rw [HE.out]; exact results_m9e Tryd.results32 _ hk9 rfl rfl) rfl ⟨⟨_, rfl, fun _ => HCN.out⟩, ?_⟩
                exact hb9 _ _ (HR.out.past hb1).i.b (by omega)
        · have HE := HKB.out (by unfold badD okD; rw [HNN.out.1, ← HNN.out.2, HZ.out]; rfl)
          go_wp2_with (first | (go_at_call 50; refine (HI.out _).mono ?_; rintro e w' ⟨rfl, rfl⟩) | ((with_reducible apply wpList_st9 (r := fun _ => 0) (H5.out.z)); rfl; rfl; rfl; rfl; intro w9 hk9 hs9 hh9 hb9))
          refine bodyPost_ret (v := .tuple #[m9 (fun _ => 0), .int .i64 (invE fun i => cn .f64 (r i))]) (by rw [HE.out]; exact results_m9e Tryd.results32 _ hk9 rfl rfl) rfl ⟨⟨_, rfl, fun h => by rw [HE.out] at h; cases h⟩, ?_⟩
          exact hb9 _ _ H5.out.b (by omega)
      · rw [hN] at oe
        have HE := HKB.out (by unfold badD okD; rw [hN, HZ.out]; rfl)
        clear hN
        go_wp2_with ((with_reducible apply wpList_st9 (r := fun _ => 0) (H5.out.z)); rfl; rfl; rfl; rfl; intro w9 hk9 hs9 hh9 hb9)
        refine bodyPost_ret (v := .tuple #[m9 (fun _ => 0), .int .i64 (invE fun i => cn .f64 (r i))]) (by rw [HE.out]; exact results_m9e Tryd.results32 _ hk9 rfl rfl) rfl ⟨⟨_, rfl, fun h => by rw [HE.out] at h; cases h⟩, ?_⟩
        exact hb9 _ _ H5.out.b (by omega)
    · have hz' : (FloatKind.f64.format.order d 0 == some .eq) = true := hz
      have HE := HKB.out (by unfold badD; rw [hz]; rfl)
      clear hz oe
      go_wp2_with ((with_reducible apply wpList_st9 (r := fun _ => 0) (H5.out.z)); rfl; rfl; rfl; rfl; intro w9 hk9 hs9 hh9 hb9)
      refine bodyPost_ret (v := .tuple #[m9 (fun _ => 0), .int .i64 (invE fun i => cn .f64 (r i))]) (by rw [HE.out]; exact results_m9e Tryd.results32 _ hk9 rfl rfl) rfl ⟨⟨_, rfl, fun h => by rw [HE.out] at h; cases h⟩, ?_⟩
      exact hb9 _ _ H5.out.b (by omega)
end Go.Proofs.YtfmdnibfeckmaaaDoor
