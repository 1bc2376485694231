/- colour.ToXYZ of any primaries. No condition. -/
import Derived.Test.YtfmdnibfeckmaaaDoorTcG
import Derived.Test.YtfmdnibfeckmaaaDoorTcC
namespace Go.Proofs.YtfmdnibfeckmaaaDoor
open Go Go.RowKit
def oneD : Nat := 4607182418800017408
/-- The columns: the spots of red, green and blue as XYZ. -/
def colM (p : Nat → Nat) (i : Nat) : Nat := match i / 3 with
  | 0 => spX (p (2 * (i % 3))) (p (2 * (i % 3) + 1))
  | 1 => oneD
  | _ => spZ (p (2 * (i % 3))) (p (2 * (i % 3) + 1))
def whiV (p : Nat → Nat) : Nat → Nat
  | 0 => spX (p 6) (p 7)
  | 1 => oneD
  | _ => spZ (p 6) (p 7)
def xyE (p : Nat → Nat) : Int := if prE p = 0 then invE (colM p) else prE p
def xyF (p : Nat → Nat) (i : Nat) : Nat := fop .mul .f64 (colM p i) (tmF (invF (colM p)) (whiV p) (i % 3))
theorem cn_dot (a b c x y z : Nat) : cn .f64 (dotF a b c x y z) = dotF a b c x y z := by unfold dotF; exact cn_fop _ _ _ _
theorem cn_spX (x y : Nat) : cn .f64 (spX x y) = spX x y := by unfold spX; exact cn_fop _ _ _ _
theorem cn_spZ (x y : Nat) : cn .f64 (spZ x y) = spZ x y := by unfold spZ; exact cn_fop _ _ _ _
theorem cn_colM (p : Nat → Nat) (i : Nat) : cn .f64 (colM p i) = colM p i := by
  unfold colM; split
  · exact cn_spX _ _
  · exact one_cn
  · exact cn_spZ _ _
/-- Columns below k stand. -/
def ColR (p g : Nat → Nat) (k : Nat) : Prop := ∀ j, j < 9 → j % 3 < k → cn .f64 (g j) = colM p j
theorem ColR.start (p g : Nat → Nat) : ColR p g 0 := fun j _ h => by omega
theorem ColR.next {p g : Nat → Nat} {k r s : Nat} (h : ColR p g k) (hk : k < 3) (hr : cn .f64 r = spX (p (2 * k)) (p (2 * k + 1))) (hs : cn .f64 s = spZ (p (2 * k)) (p (2 * k + 1))) :
    ColR p (fun j => if j = k + 6 then s else if j = k + 3 then oneD else if j = k then r else g j) (k + 1) := fun j hj hm => by
  by_cases e6 : j = k + 6
  · subst e6
    have e1 : (k + 6) / 3 = 2 := by omega
    have e2 : (k + 6) % 3 = k := by omega
    simp only [if_true]; unfold colM; rw [e1, e2]; exact hs
  · by_cases e3 : j = k + 3
    · subst e3
      have e1 : (k + 3) / 3 = 1 := by omega
      have e2 : (k + 3) % 3 = k := by omega
      simp only [if_neg e6, if_true]; unfold colM; rw [e1]; exact one_cn
    · by_cases e0 : j = k
      · subst e0
        have e1 : j / 3 = 0 := by omega
        have e2 : j % 3 = j := by omega
        simp only [if_neg e6, if_neg e3, if_true]; unfold colM; rw [e1, e2]; exact hr
      · simp only [if_neg e6, if_neg e3, if_neg e0]; exact h j hj (by omega)
theorem cof_congr {R S : Nat → Nat} (h : ∀ i, i < 9 → R i = S i) : cofN R = cofN S := by
  have h0 := h 0 (by omega); have h1 := h 1 (by omega); have h2 := h 2 (by omega); have h3 := h 3 (by omega); have h4 := h 4 (by omega); have h5 := h 5 (by omega); have h6 := h 6 (by omega); have h7 := h 7 (by omega); have h8 := h 8 (by omega)
  funext i
  unfold cofN
  split <;> simp only [h0, h1, h2, h3, h4, h5, h6, h7, h8]
theorem det_congr {R S : Nat → Nat} (h : ∀ i, i < 9 → R i = S i) : detF R = detF S := by
  unfold detF; rw [cof_congr h, h 0 (by omega), h 1 (by omega), h 2 (by omega)]
theorem invF_congr {R S : Nat → Nat} (h : ∀ i, i < 9 → R i = S i) : invF R = invF S := by
  funext i; unfold invF; rw [cof_congr h, det_congr h]
theorem invE_congr {R S : Nat → Nat} (h : ∀ i, i < 9 → R i = S i) : invE R = invE S := by
  have hf : finB R = finB S := finB_congr fun i hi => by rw [h i hi]
  unfold invE; rw [hf, invF_congr h, det_congr h]
theorem tm_congr {R S V U : Nat → Nat} (h : ∀ i, i < 9 → R i = S i) (hv : ∀ i, i < 3 → V i = U i) {i : Nat} (hi : i < 3) : tmF R V i = tmF S U i := by
  unfold tmF; rw [h _ (by omega), h _ (by omega), h _ (by omega), hv 0 (by omega), hv 1 (by omega), hv 2 (by omega)]
def pk3 (a b c : Nat) : Nat → Nat
  | 0 => a
  | 1 => b
  | _ => c
/-- The first m of nine are scaled. -/
def ScaR (p T g : Nat → Nat) (m : Nat) : Prop := ∀ j, j < 9 → (j < m → cn .f64 (g j) = fop .mul .f64 (colM p j) (T (j % 3))) ∧ (m ≤ j → cn .f64 (g j) = colM p j)
theorem ScaR.next {p T g : Nat → Nat} {m z : Nat} (k : ScaR p T g m) (hz : cn .f64 z = fop .mul .f64 (colM p m) (T (m % 3))) : ScaR p T (fun j => if j = m then z else g j) (m + 1) := fun j hj => by
  by_cases e : j = m
  · subst e; simp only [if_true]; exact ⟨fun _ => hz, fun h => by omega⟩
  · simp only [if_neg e]; exact ⟨fun h => (k j hj).1 (by omega), fun h => (k j hj).2 (by omega)⟩
/-- What the calls in one statement hand over. -/
def XyPsi (X Z : Nat) (T : Nat → Nat) (f : FuncId) (_ : Array Value) (u : Value) : Prop := (f = 31 ∧ ∃ r s, u = .agg #[.float .f64 r, .float .f64 4607182418800017408, .float .f64 s] ∧ cn .f64 r = X ∧ cn .f64 s = Z) ∨ (f = 33 ∧ ∃ q, u = m3 q ∧ ∀ i, i < 3 → cn .f64 (q i) = T i)
theorem xy_psi1 {X Z : Nat} {T : Nat → Nat} {args : Array Value} {u : Value} : XyPsi X Z T 31 args u ↔ ∃ r s, u = .agg #[.float .f64 r, .float .f64 4607182418800017408, .float .f64 s] ∧ cn .f64 r = X ∧ cn .f64 s = Z := by
  have h : (31 : FuncId) ≠ 33 := by decide
  unfold XyPsi; simp [h]
theorem xy_psi2 {X Z : Nat} {T : Nat → Nat} {args : Array Value} {u : Value} : XyPsi X Z T 33 args u ↔ ∃ q, u = m3 q ∧ ∀ i, i < 3 → cn .f64 (q i) = T i := by
  have h : (33 : FuncId) ≠ 31 := by decide
  unfold XyPsi; simp [h]
theorem idxS3 (p : Nat → Nat) (k : Nat) (hk : k < 3) (w : World) : (Instr.index 64 (.agg #[.float .f32 (p 0), .float .f32 (p 1), .float .f32 (p 2), .float .f32 (p 3), .float .f32 (p 4), .float .f32 (p 5)]) (.int .i64 (k : Int))).run Tryd.prog w = .ok (spV (p (2 * k)) (p (2 * k + 1))) w := by
  rcases (show k = 0 ∨ k = 1 ∨ k = 2 by omega) with rfl | rfl | rfl <;> kernel_rfl
/-- What stands: the primaries, the result's zeros, the matrix. -/
structure XyR (w wr : World) (p : Nat → Nat) (nm : Nat) (g : Nat → Nat) : Prop where
  p : Blk wr w.heap.size [.float .f32 (p 0), .float .f32 (p 1), .float .f32 (p 2), .float .f32 (p 3), .float .f32 (p 4), .float .f32 (p 5), .float .f32 (p 6), .float .f32 (p 7)]
  z : VecD wr (w.heap.size + 1) 9 (fun _ => 0)
  g : VecD wr nm 9 g
  l : w.heap.size + 1 < nm
  b : Below w.heap.size w wr
theorem XyR.past {w wr wy : World} {p g : Nat → Nat} {nm : Nat} (k : XyR w wr p nm g) (h : Below wr.heap.size wr wy) : XyR w wy p nm g := ⟨k.p.past h, k.z.past h, k.g.past h, k.l, k.b.trans (h.mono k.b.size)⟩
theorem XyR.set {w wr : World} {p g : Nat → Nat} {nm : Nat} (k : XyR w wr p nm g) (m : Nat) (hm : m < 9) (x : Nat) : XyR w (wr.setCell ⟨nm, m, none⟩ (.float .f64 x)) p nm (fun j => if j = m then x else g j) :=
  ⟨k.p.far _ _ (by have := k.l; simp; omega), k.z.far _ _ (by have := k.l; simp; omega), k.g.set m x hm, k.l, k.b.setCell (by have := k.l; simp; omega) _⟩
set_option maxRecDepth 100000 in
set_option maxHeartbeats 6400000 in
theorem ToXYZ_any (p : Nat → Nat) (w : World) : Calls Tryd.prog 16 #[prV p] w (MatE (xyE p) (xyF p) w.heap.size w) := by
  go_enter Tryd.func16, Tryd.ntmps16
  go_upto_region 1 with fail
  refine wp_world (fun W hW => ?_)
  have P0 : Blk W w.heap.size [.float .f32 (p 0), .float .f32 (p 1), .float .f32 (p 2), .float .f32 (p 3), .float .f32 (p 4), .float .f32 (p 5), .float .f32 (p 6), .float .f32 (p 7)] := by rw [hW]; exact (Blk.new _ _ _ _ rfl).alloc _
  have Z0 : VecD W (w.heap.size + 1) 9 (fun _ => 0) := by rw [hW]; exact VecD.of9 (Blk.new _ _ _ _ (by simp))
  have B0 : Below w.heap.size w W := by rw [hW]; (repeat (first | exact Below.refl _ _ | assumption | (refine Below.setCell ?_ (by first | (simp; done) | (simp; omega) | omega) _) | (refine Below.drew ?_) | (refine below_drewN ?_ _) | (refine Below.alloc ?_ (by first | (simp; done) | (simp; omega) | omega) _) | (refine Below.trans ?_ (Below.mono (by assumption) (by first | (simp; done) | (simp; omega) | omega)))))
  have HP := Lib.hid P0; have HZ := Lib.hid Z0; have HB := Lib.hid B0
  have c0 := P0.c 0 _ rfl; have c1 := P0.c 1 _ rfl; have c2 := P0.c 2 _ rfl; have c3 := P0.c 3 _ rfl; have c4 := P0.c 4 _ rfl; have c5 := P0.c 5 _ rfl; have c6 := P0.c 6 _ rfl; have c7 := P0.c 7 _ rfl; have pl := P0.lt
  clear hW P0 Z0 B0
  by_cases h0 : prE p = 0
  · have HE0 := Lib.hid h0
    clear h0
    go_upto_region 5 with (go_at_call 14; refine (CheckPrimaries_any p _).mono ?_; rintro e w1 ⟨rfl, hb1⟩; rw [HE0.out])
    refine wp_world (fun V hV => ?_)
    have X0 : XyR w V p w1.heap.size (fun _ => 0) := by
      rw [hV]
      have hbz : ∀ o, Below W.heap.size W (w1.alloc o) := fun o => hb1.alloc hb1.size o
      exact ⟨HP.out.past (hbz _), HZ.out.past (hbz _), VecD.of9 (Blk.new _ _ _ _ rfl), Nat.lt_of_lt_of_le HZ.out.lt hb1.size, HB.out.trans ((hbz _).mono HB.out.size)⟩
    have HX0 := Lib.hid X0
    clear hV c0 c1 c2 c3 c4 c5 c6 c7 pl hb1 HP HZ HB
    have c0 := X0.p.c 0 _ rfl; have c1 := X0.p.c 1 _ rfl; have c2 := X0.p.c 2 _ rfl; have c3 := X0.p.c 3 _ rfl; have c4 := X0.p.c 4 _ rfl; have c5 := X0.p.c 5 _ rfl; have c6 := X0.p.c 6 _ rfl; have c7 := X0.p.c 7 _ rfl; have pl := X0.p.lt
    clear X0
    generalize w1.heap.size = nm at *
    go_wp2_with fail
    clear c0 c1 c2 c3 c4 c5 c6 c7 pl
    go_loopw [26] (fun s26 wr => ∃ k : Nat, k ≤ 3 ∧ s26 = .int .i64 k ∧ ∃ g, XyR w wr p nm g ∧ ColR p g k) (fun s26 _ => 3 - (intOf s26).toNat)
    case atStart => exact ⟨0, by omega, rfl, _, HX0.out, ColR.start _ _⟩
    case round =>
      obtain ⟨k, hk, rfl, g, hR, hC⟩ := hrel
      have HR := Lib.hid hR; have HC := Lib.hid hC
      clear hR hC HX0
      by_cases hk3 : k < 3
      · have hk3' : (k : Int) < 3 := by omega
        have ix := idxS3 p k hk3
        have HXZ := Lib.hid (fun w' => xyz_any (p (2 * k)) (p (2 * k + 1)) w' : ∀ w', _)
        have HN := Lib.hid (fun r s (hr : cn .f64 r = spX (p (2 * k)) (p (2 * k + 1))) (hs : cn .f64 s = spZ (p (2 * k)) (p (2 * k + 1))) => HC.out.next hk3 hr hs)
        generalize p (2 * k) = x at *
        generalize p (2 * k + 1) = y at *
        clear HC
        go_upto_region 9 with (go_at_call 31; refine (HXZ.out _).mono ?_; rintro e w2 ⟨⟨r, s, rfl, hr, hs⟩, hb2⟩)
        refine wp_world (fun U hU => ?_)
        have hbz : ∀ o, Below wr.heap.size wr ((w2.alloc o)) := fun o => (Below.trans (by (repeat (first | exact Below.refl _ _ | assumption | (refine Below.setCell ?_ (by first | (simp; done) | (simp; omega) | omega) _) | (refine Below.drew ?_) | (refine below_drewN ?_ _) | (refine Below.alloc ?_ (by first | (simp; done) | (simp; omega) | omega) _) | (refine Below.trans ?_ (Below.mono (by assumption) (by first | (simp; done) | (simp; omega) | omega)))))) (hb2.mono (by simp))).alloc (by have := hb2.size; simp at this; omega) o
        have XU : XyR w U p nm g := by rw [hU]; exact HR.out.past (hbz _)
        have VU : Blk U w2.heap.size [.float .f64 r, .float .f64 4607182418800017408, .float .f64 s] := by rw [hU]; exact Blk.new _ _ _ _ rfl
        have hne : nm < w2.heap.size := by have := hb2.size; simp at this; have := HR.out.g.lt; omega
        have HX := Lib.hid XU; have HV := Lib.hid VU; have HRS := Lib.hid (And.intro hr hs)
        clear hU XU VU hbz hb2 hr hs HR HXZ ix
        have hne' : ¬ w2.heap.size = nm := by omega
        have hne'' : ¬ nm = w2.heap.size := by omega
        generalize w2.heap.size = nv at *
        have v0 := HV.out.c 0 _ rfl; have v1 := HV.out.c 1 _ rfl; have v2 := HV.out.c 2 _ rfl; have vl := HV.out.lt
        have g0 := HX.out.g.c k (by omega); have g3 := HX.out.g.c (k + 3) (by omega); have g6 := HX.out.g.c (k + 6) (by omega); have gf := HX.out.g.f; have gl := HX.out.g.lt
        have k0 : (0 : Int) ≤ (k : Int) := by omega
        have k1 : (k : Int) < 9 := by omega
        have k2 : (0 : Int) ≤ (k : Int) + 3 := by omega
        have k3 : (k : Int) + 3 < 9 := by omega
        have k4 : (0 : Int) ≤ (k : Int) + 6 := by omega
        have k5 : (k : Int) + 6 < 9 := by omega
        have k6 : ((k : Int) + 3).toNat = k + 3 := by omega
        have k7 : ((k : Int) + 6).toNat = k + 6 := by omega
        have k8 : IntKind.i64.wrap ((k : Int) + 3) = (k : Int) + 3 := IntWalk.i64_in _ (by omega)
        have k9 : IntKind.i64.wrap ((k : Int) + 6) = (k : Int) + 6 := IntWalk.i64_in _ (by omega)
        go_region_held3 (fun w' => w'.cell? ⟨nv, 0, none⟩ = some (.float .f64 r) ∧ w'.cell? ⟨nv, 1, none⟩ = some (.float .f64 4607182418800017408) ∧ w'.cell? ⟨nv, 2, none⟩ = some (.float .f64 s)) (go_keep) (fail)
        clear k0 k1 k2 k3 k4 k5 k6 k7 k8 k9 v0 v1 v2 vl g0 g3 g6 gf gl hne hne' hne''
        go_wp2_with fail
        go_roundw
        case rel => exact ⟨k + 1, by omega, by go_num, _, (((HX.out.set k (by omega) r).set (k + 3) (by omega) oneD).set (k + 6) (by omega) s).past (Below.refl _ _).drew, HN.out r s HRS.out.1 HRS.out.2⟩
        case measure => simp [intOf]; omega
      · have hk3' : ¬ (k : Int) < 3 := by omega
        obtain rfl : k = 3 := by omega
        have hcn : ∀ j, j < 9 → cn .f64 (g j) = colM p j := fun j hj => HC.out j hj (by omega)
        have hI := Inverse_any g
        rw [invE_congr hcn, invF_congr hcn] at hI
        have HI := Lib.hid hI
        have HCN := Lib.hid hcn
        have HXE : Hid (xyE p = invE (colM p)) := Lib.hid (by unfold xyE; rw [if_pos HE0.out])
        clear hI hcn HC
        generalize hEE : invE (colM p) = E at *
        have HEE := Lib.hid hEE
        clear hEE
        by_cases h0 : E = 0
        · have n2 : (E != 0) = false := by simpa using h0
          have H0 := Lib.hid h0
          clear h0
          go_upto_region 12 with (first | ((with_reducible apply wpList_ld9 (HR.out.g)); rfl; rfl; rfl) | (go_at_call 32; refine (HI.out _).mono ?_; rintro e w1 ⟨⟨q, rfl, hq⟩, hb1⟩) | ((with_reducible apply wpList_st9 (r := q) (VecD.of9 (f := fun _ => 0) (Blk.new _ _ _ _ rfl))); rfl; rfl; rfl; rfl; intro w9 hk9 hs9 hh9 hb9))
          have hbz := hb9 _ _ (hb1.alloc hb1.size _) hb1.size
          have hlt : nm < w1.heap.size := by have := hb1.size; have := HR.out.g.lt; omega
          have H9 := Lib.hid (And.intro (HR.out.past hbz) (And.intro hk9 (hq H0.out)))
          clear hbz hk9 hs9 hh9 hb9 hb1 hq HR HI
          generalize w1.heap.size = nq at *
          go_upto_region 14 with fail
          have p6 := H9.out.1.p.c 6 _ rfl; have p7 := H9.out.1.p.c 7 _ rfl; have pl := H9.out.1.p.lt
          refine wp_region_looseM 6 (XyPsi (spX (p 6) (p 7)) (spZ (p 6) (p 7)) (tmF (invF (colM p)) (whiV p))) [(5, 11, .cells #[.float .f64 0, .float .f64 0, .float .f64 0] 65)] (by kernel_rfl) (by kernel_rfl) (by kernel_rfl) (by intro m hm; cases hm with | head => exact ⟨_, rfl, ⟨rfl, rfl, fun ev w => by kernel_rfl⟩⟩ | tail _ h => cases h) (by intro m hm; cases hm with | head => exact of_decide_eq_true (by kernel_rfl) | tail _ h => cases h) ?_
          simp only [List.take_succ_cons, List.take_zero, List.drop_succ_cons, List.drop_zero]
          ((with_reducible apply looseM_ld9 (H9.out.2.1)); rfl; rfl)
          (refine looseM_wanted rfl (fun K hK => ?_); go_simp; refine hK _ ?_; clear hK K)
          (refine looseM_wanted rfl (fun K hK => ?_); go_simp; refine hK _ ?_; clear hK K)
          refine looseM_wanted rfl (fun K hK => ?_)
          go_simp
          refine ⟨fun z => (xyz_any _ _ z.w).mono ?_, ?_⟩
          · rintro e w' ⟨⟨r, s, rfl, hr, hs⟩, hb⟩
            exact ⟨_, rfl, xy_psi1.2 ⟨r, s, rfl, hr, hs⟩, hb⟩
          intro u hu
          obtain ⟨r, s, rfl, hr, hs⟩ := xy_psi1.1 hu
          refine hK _ ?_
          clear hK K hu
          refine looseM_wanted rfl (fun K hK => ?_)
          go_simp
          refine ⟨fun z => (times_any q (pk3 r 4607182418800017408 s) z.w).mono ?_, ?_⟩
          · rintro e w' ⟨⟨t, rfl, ht⟩, hb⟩
            refine ⟨_, rfl, xy_psi2.2 ⟨t, rfl, fun i hi => ?_⟩, hb⟩
            rw [ht i hi]
            refine tm_congr (H9.out.2.2) (fun j hj => ?_) hi
            rcases (show j = 0 ∨ j = 1 ∨ j = 2 by omega) with rfl | rfl | rfl
            · exact hr
            · exact one_cn
            · exact hs
          intro u hu
          obtain ⟨t, rfl, ht⟩ := xy_psi2.1 hu
          refine hK _ ?_
          clear hK K hu
          refine looseM_lays (d := 11) (blk := .cells #[.float .f64 0, .float .f64 0, .float .f64 0] 65) ⟨rfl, rfl, fun ev w => by kernel_rfl⟩ (fun pg hpg => ?_)
          refine looseM_nil (fun w5 hb5 hg5 _ => ?_)
          obtain ⟨pg', hpg1, hpg2⟩ := hg5 _ (List.Mem.head _)
          obtain rfl : pg = pg' := by cases hpg1; rfl
          have HT3 := Lib.hid (VecD.fresh3 hpg2)
          have HX5 := Lib.hid (H9.out.1.past hb5)
          have hpn : nm < pg := by have := H9.out.1.g.lt; omega
          have HTT := Lib.hid (And.intro ht hpn)
          clear hpg1 hg5 hpg2 hb5 p6 p7 pl hr hs ht hpg hpn H9
          have t0 := HT3.out.c 0 (by omega); have t1 := HT3.out.c 1 (by omega); have t2 := HT3.out.c 2 (by omega); have tf := HT3.out.f; have tl := HT3.out.lt
          go_upto_region 15 with fail
          refine wp_world (fun U hU => ?_)
          have HU : Hid (XyR w U p nm g ∧ VecD U pg 3 t) := Lib.hid (by
            rw [hU]
            have hn := HTT.out.2
            have hx := HX5.out
            exact ⟨⟨((hx.p.far _ _ (by have := hx.l; simp; omega)).far _ _ (by have := hx.l; simp; omega)).far _ _ (by have := hx.l; simp; omega), ((hx.z.far _ _ (by have := hx.l; simp; omega)).far _ _ (by have := hx.l; simp; omega)).far _ _ (by have := hx.l; simp; omega), ((hx.g.far _ _ (by simp; omega)).far _ _ (by simp; omega)).far _ _ (by simp; omega), hx.l, ((hx.b.setCell (by have := hx.l; simp; omega) _).setCell (by have := hx.l; simp; omega) _).setCell (by have := hx.l; simp; omega) _⟩, HT3.out.put3 t⟩)
          clear hU t0 t1 t2 tf tl HT3 HX5
          go_wp2_with fail
          have HF : Hid (∀ j, xyF p j = fop .mul .f64 (colM p j) (tmF (invF (colM p)) (whiV p) (j % 3))) := Lib.hid (fun j => rfl)
          generalize tmF (invF (colM p)) (whiV p) = T at *
          go_loopw [61] (fun s61 wr => ∃ m : Nat, m ≤ 9 ∧ s61 = .int .i64 m ∧ ∃ g, (XyR w wr p nm g ∧ VecD wr pg 3 t) ∧ ScaR p T g m) (fun s61 _ => 9 - (intOf s61).toNat)
          case atStart => exact ⟨0, by omega, rfl, _, HU.out, fun j hj => ⟨fun h => by omega, fun _ => HCN.out j hj⟩⟩
          case round =>
            obtain ⟨m, hm, rfl, g, hR, hS⟩ := hrel
            have HR := Lib.hid hR; have HS := Lib.hid hS
            clear hR hS HU
            by_cases hm9 : m < 9
            · have hm9' : (m : Int) < 9 := by omega
              have hm0 : (0 : Int) ≤ (m : Int) := by omega
              obtain ⟨c, hc⟩ : ∃ c, c = m % 3 := ⟨_, rfl⟩
              have hc3 : c < 3 := by omega
              have hcI : (c : Int) < 3 := by omega
              have hc0 : (0 : Int) ≤ (c : Int) := by omega
              have tm : (m : Int).tmod 3 = (c : Int) := by rw [hc]; rfl
              have g0 := HR.out.1.g.c m hm9; have gf := HR.out.1.g.f; have gl := HR.out.1.g.lt
              have t0 := HR.out.2.c c hc3; have tl := HR.out.2.lt
              have HMC := Lib.hid hc
              clear hc
              obtain ⟨x, hx⟩ : ∃ x, x = g m := ⟨_, rfl⟩
              rw [← hx] at g0
              have HX := Lib.hid hx
              clear hx
              obtain ⟨y, hy⟩ : ∃ y, y = t c := ⟨_, rfl⟩
              rw [← hy] at t0
              have HY := Lib.hid hy
              clear hy
              go_upto_region 18 with fail
              refine wp_region_loose 10 (fun _ _ _ => False) (by kernel_rfl) (by kernel_rfl) ?_
              simp only [List.take_succ_cons, List.take_zero, List.drop_succ_cons, List.drop_zero]
              iterate 8 (refine loose_wanted rfl (fun K hK => ?_); go_simp; refine hK _ ?_; clear hK K)
              (first | ((with_reducible apply loose_farith); rfl; rfl; rfl; rfl; intro _ _) | ((with_reducible apply loose_up); rfl; rfl; exact Tryd.underlying22; exact Tryd.underlying47; intro _ _))
              (refine loose_wanted rfl (fun K hK => ?_); go_simp; refine hK _ ?_; clear hK K)
              rename_i z hz
              refine loose_nil (fun w6 hb6 => ?_)
              have H6 := Lib.hid (And.intro (HR.out.1.past hb6) (HR.out.2.past hb6))
              clear hb6 g0 gf gl t0 tl HR
              have g0 := H6.out.1.g.c m hm9; have gf := H6.out.1.g.f; have gl := H6.out.1.g.lt
              go_wp2_with fail
              go_roundw
              case rel => exact ⟨m + 1, by omega, by go_num, _, ⟨H6.out.1.set m hm9 z, H6.out.2.far _ _ (by have := HTT.out.2; simp; omega)⟩, HS.out.next (by rw [hz.eq, HX.out, (HS.out m hm9).2 (Nat.le_refl _), HY.out, HTT.out.1 c hc3, HMC.out])⟩
              case measure => simp [intOf]; omega
            · have hm9' : ¬ (m : Int) < 9 := by omega
              obtain rfl : m = 9 := by omega
              go_wp2_with (first | ((with_reducible apply wpList_ld9 (HR.out.1.g)); rfl; rfl; rfl) | ((with_reducible apply wpList_st9 (r := g) (HR.out.1.z)); rfl; rfl; rfl; rfl; intro w9 hk9 hs9 hh9 hb9))
              refine bodyPost_ret (v := .tuple #[m9 g, .int .i64 (xyE p)]) (by rw [HXE.out, H0.out]; exact results_m9e Tryd.results16 _ hk9 rfl rfl) rfl ⟨⟨_, rfl, fun _ j hj => by rw [HF.out j]; exact (HS.out j hj).1 hj⟩, ?_⟩
              exact hb9 _ _ HR.out.1.b (by omega)
        · have n2 : (E != 0) = true := by simpa using h0
          have H0 := Lib.hid h0
          clear h0
          go_upto_region 12 with (first | ((with_reducible apply wpList_ld9 (HR.out.g)); rfl; rfl; rfl) | (go_at_call 32; refine (HI.out _).mono ?_; rintro e w1 ⟨⟨q, rfl, hq⟩, hb1⟩) | ((with_reducible apply wpList_st9 (r := q) (VecD.of9 (f := fun _ => 0) (Blk.new _ _ _ _ rfl))); rfl; rfl; rfl; rfl; intro w9 hk9 hs9 hh9 hb9))
          have hbz := hb9 _ _ (hb1.alloc hb1.size _) hb1.size
          have H9 := Lib.hid (HR.out.past hbz)
          clear hbz hk9 hs9 hh9 hb9 hb1 hq HR HI HCN
          go_wp2_with ((with_reducible apply wpList_st9 (r := fun _ => 0) (H9.out.z)); rfl; rfl; rfl; rfl; intro w9 hk9 hs9 hh9 hb9)
          refine bodyPost_ret (v := .tuple #[m9 (fun _ => 0), .int .i64 (xyE p)]) (by rw [HXE.out]; exact results_m9e Tryd.results16 _ hk9 rfl rfl) rfl ⟨⟨_, rfl, fun h => by rw [HXE.out] at h; exact absurd h H0.out⟩, ?_⟩
          exact hb9 _ _ H9.out.b (by omega)
  · have n2 : (prE p != 0) = true := by simpa using h0
    have HE : Hid (xyE p = prE p) := Lib.hid (by unfold xyE; rw [if_neg h0])
    have HN := Lib.hid h0
    clear h0
    go_wp2_with (first | (go_at_call 14; refine (CheckPrimaries_any p _).mono ?_; rintro e w1 ⟨rfl, hb1⟩) | ((with_reducible apply wpList_st9 (r := fun _ => 0) (HZ.out.past hb1)); rfl; rfl; rfl; rfl; intro w9 hk9 hs9 hh9 hb9))
    refine bodyPost_ret (v := .tuple #[m9 (fun _ => 0), .int .i64 (xyE p)]) (by rw [HE.out]; exact results_m9e Tryd.results16 _ hk9 rfl rfl) rfl ⟨⟨_, rfl, fun h => by rw [HE.out] at h; exact absurd h HN.out⟩, ?_⟩
    exact hb9 _ _ (HB.out.trans (hb1.mono HB.out.size)) (by omega)
end Go.Proofs.YtfmdnibfeckmaaaDoor
