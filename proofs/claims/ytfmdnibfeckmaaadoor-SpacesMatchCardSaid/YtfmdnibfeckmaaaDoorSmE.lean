/- The document's matrix of primaries. No condition. -/
import Derived.Test.YtfmdnibfeckmaaaDoorSmD
namespace Go.Proofs.YtfmdnibfeckmaaaDoor
open Go Go.RowKit
/-- Columns below c stand, and of column c the rows below i. -/
def ColP (p g : Nat → Nat) (c i : Nat) : Prop := ∀ j, j < 9 → (j % 3 < c ∨ (j % 3 = c ∧ j / 3 < i)) → cn .f64 (g j) = colM p j
theorem ColP.start {p g : Nat → Nat} {c : Nat} (h : ColR p g c) : ColP p g c 0 := fun j hj hh => h j hj (by omega)
theorem ColP.end {p g : Nat → Nat} {c : Nat} (h : ColP p g c 3) : ColR p g (c + 1) := fun j hj hh => h j hj (by omega)
theorem ColP.next {p g : Nat → Nat} {c i v : Nat} (h : ColP p g c i) (hv : cn .f64 v = colM p (3 * i + c)) : ColP p (fun j => if j = 3 * i + c then v else g j) c (i + 1) := fun j hj hh => by
  by_cases e : j = 3 * i + c
  · subst e; simp only [if_true]; exact hv
  · simp only [if_neg e]; exact h j hj (by omega)
theorem idxV3 (v : Nat → Nat) (k : Nat) (hk : k < 3) (w : World) : (Instr.index 65 (m3 v) (.int .i64 (k : Int))).run Tryd.prog w = .ok (.float .f64 (v k)) w := by
  rcases (show k = 0 ∨ k = 1 ∨ k = 2 by omega) with rfl | rfl | rfl <;> kernel_rfl
theorem colM_lt (p : Nat → Nat) (i : Nat) : colM p i < 2 ^ FloatKind.f64.format.width := by
  unfold colM; split
  · unfold spX; exact fop_lt _ _ _ _
  · show 4607182418800017408 < _; decide
  · unfold spZ; exact fop_lt _ _ _ _
/-- What the calls in one statement hand over. -/
def XyPsiR (X Z : Nat) (T : Nat → Nat) (f : FuncId) (_ : Array Value) (u : Value) : Prop := (f = 39 ∧ ∃ r s, u = .agg #[.float .f64 r, .float .f64 4607182418800017408, .float .f64 s] ∧ cn .f64 r = X ∧ cn .f64 s = Z) ∨ (f = 41 ∧ ∃ q, u = m3 q ∧ ∀ i, i < 3 → cn .f64 (q i) = T i)
theorem xyr_psi1 {X Z : Nat} {T : Nat → Nat} {args : Array Value} {u : Value} : XyPsiR X Z T 39 args u ↔ ∃ r s, u = .agg #[.float .f64 r, .float .f64 4607182418800017408, .float .f64 s] ∧ cn .f64 r = X ∧ cn .f64 s = Z := by
  have h : (39 : FuncId) ≠ 41 := by decide
  unfold XyPsiR; simp [h]
theorem xyr_psi2 {X Z : Nat} {T : Nat → Nat} {args : Array Value} {u : Value} : XyPsiR X Z T 41 args u ↔ ∃ q, u = m3 q ∧ ∀ i, i < 3 → cn .f64 (q i) = T i := by
  have h : (41 : FuncId) ≠ 39 := by decide
  unfold XyPsiR; simp [h]
set_option maxRecDepth 100000 in
set_option maxHeartbeats 6400000 in
theorem ToXYZOf_any (p : Nat → Nat) (w : World) : Calls Tryd.prog 20 #[prV p] w (MatE (xyE p) (xyF p) w.heap.size w) := by
  go_enter Tryd.func20, Tryd.ntmps20
  go_upto_region 1 with fail
  refine wp_world (fun W hW => ?_)
  have P0 : Blk W w.heap.size [.float .f32 (p 0), .float .f32 (p 1), .float .f32 (p 2), .float .f32 (p 3), .float .f32 (p 4), .float .f32 (p 5), .float .f32 (p 6), .float .f32 (p 7)] := by rw [hW]; exact (Blk.new _ _ _ _ rfl).alloc _
  have Z0 : VecD W (w.heap.size + 1) 9 (fun _ => 0) := by rw [hW]; exact VecD.of9 (Blk.new _ _ _ _ (by simp))
  have B0 : Below w.heap.size w W := by rw [hW]; (repeat (first | exact Below.refl _ _ | assumption | (refine Below.setCell ?_ (by first | (simp; done) | (simp; omega) | omega) _) | (refine Below.drew ?_) | (refine below_drewN ?_ _) | (refine Below.alloc ?_ (by first | (simp; done) | (simp; omega) | omega) _) | (refine Below.trans ?_ (Below.mono (by assumption) (by first | (simp; done) | (simp; omega) | omega)))))
  have HP := Lib.hid P0; have HZ := Lib.hid Z0; have HB := Lib.hid B0
  have c0 := P0.c 0 _ rfl; have c1 := P0.c 1 _ rfl; have c2 := P0.c 2 _ rfl; have c3 := P0.c 3 _ rfl; have c4 := P0.c 4 _ rfl; have c5 := P0.c 5 _ rfl; have c6 := P0.c 6 _ rfl; have c7 := P0.c 7 _ rfl; have pl := P0.lt
  clear hW P0 Z0 B0
  by_cases h0 : prE p = 0
  · have HE0 := Lib.hid h0
    clear h0
    go_upto_region 5 with (go_at_call 18; refine (PrimariesError_any p _).mono ?_; rintro e w1 ⟨rfl, hb1⟩; rw [HE0.out])
    refine wp_world (fun V hV => ?_)
    have X0 : XyR w V p w1.heap.size (fun _ => 0) := by
      rw [hV]
      have hbz : ∀ o, Below W.heap.size W (w1.alloc o) := fun o => hb1.alloc hb1.size o
      exact ⟨HP.out.past (hbz _), HZ.out.past (hbz _), VecD.of9 (Blk.new _ _ _ _ rfl), Nat.lt_of_lt_of_le HZ.out.lt hb1.size, HB.out.trans ((hbz _).mono HB.out.size)⟩
    have HX0 := Lib.hid X0
    clear hV c0 c1 c2 c3 c4 c5 c6 c7 pl hb1 HP HZ HB
    have c0 := X0.p.c 0 _ rfl; have c1 := X0.p.c 1 _ rfl; have c2 := X0.p.c 2 _ rfl; have c3 := X0.p.c 3 _ rfl; have c4 := X0.p.c 4 _ rfl; have c5 := X0.p.c 5 _ rfl; have c6 := X0.p.c 6 _ rfl; have c7 := X0.p.c 7 _ rfl; have pl := X0.p.lt
    clear X0
    generalize w1.heap.size = nm at *
    have HX1 : Hid (nm < V.heap.size) := Lib.hid HX0.out.g.lt
    go_upto_region 6 with fail
    refine wp_world (fun U hU => ?_)
    have HU : Hid (XyR w U p nm (fun _ => 0) ∧ Blk U V.heap.size [.float .f32 (p 0), .float .f32 (p 1), .float .f32 (p 2), .float .f32 (p 3), .float .f32 (p 4), .float .f32 (p 5)]) := Lib.hid (by
      rw [hU]; exact ⟨HX0.out.past ((Below.refl _ _).alloc (Nat.le_refl _) _), Blk.new _ _ _ _ rfl⟩)
    clear hU c0 c1 c2 c3 c4 c5 c6 c7 pl HX0
    have HNL : Hid (nm < V.heap.size) := Lib.hid HX1.out
    generalize V.heap.size = nl at *
    go_loopw [28] (fun s28 wr => ∃ k : Nat, k ≤ 3 ∧ s28 = .int .i64 k ∧ ∃ g, (XyR w wr p nm g ∧ Blk wr nl [.float .f32 (p 0), .float .f32 (p 1), .float .f32 (p 2), .float .f32 (p 3), .float .f32 (p 4), .float .f32 (p 5)]) ∧ ColR p g k) (fun s28 _ => 3 - (intOf s28).toNat)
    case atStart => exact ⟨0, by omega, rfl, _, HU.out, ColR.start _ _⟩
    case round =>
      obtain ⟨k, hk, rfl, g, hR, hC⟩ := hrel
      have HR := Lib.hid hR; have HC := Lib.hid hC
      clear hR hC HU
      by_cases hk3 : k < 3
      · have hk3' : (k : Int) < 3 := by omega
        have hk0 : (0 : Int) ≤ (k : Int) := by omega
        have c0 : wr.cell? ⟨nl, k * 2, none⟩ = some (.float .f32 (p (2 * k))) := by
          rcases (show k = 0 ∨ k = 1 ∨ k = 2 by omega) with rfl | rfl | rfl
          · exact HR.out.2.c 0 _ rfl
          · exact HR.out.2.c 2 _ rfl
          · exact HR.out.2.c 4 _ rfl
        have c1 : wr.cell? ⟨nl, k * 2 + 1, none⟩ = some (.float .f32 (p (2 * k + 1))) := by
          rcases (show k = 0 ∨ k = 1 ∨ k = 2 by omega) with rfl | rfl | rfl
          · exact HR.out.2.c 1 _ rfl
          · exact HR.out.2.c 3 _ rfl
          · exact HR.out.2.c 5 _ rfl
        have cl := HR.out.2.lt
        have HXZ := Lib.hid (fun w' => xyzR_any (p (2 * k)) (p (2 * k + 1)) w' : ∀ w', _)
        have HCOL : Hid (∀ i, i < 3 → ∀ r s, cn .f64 r = spX (p (2 * k)) (p (2 * k + 1)) → cn .f64 s = spZ (p (2 * k)) (p (2 * k + 1)) → cn .f64 (pk3 r 4607182418800017408 s i) = colM p (3 * i + k)) := Lib.hid (fun i hi r s hr hs => by
          have e1 : (3 * i + k) / 3 = i := by omega
          have e2 : (3 * i + k) % 3 = k := by omega
          rcases (show i = 0 ∨ i = 1 ∨ i = 2 by omega) with rfl | rfl | rfl
          · unfold colM; rw [e1, e2]; exact hr
          · unfold colM; rw [e1]; exact one_cn
          · unfold colM; rw [e1, e2]; exact hs)
        generalize p (2 * k) = x at *
        generalize p (2 * k + 1) = y at *
        go_upto_region 8 with fail
        go_upto_region 9 with (go_at_call 39; refine (HXZ.out _).mono ?_; rintro e w2 ⟨⟨r, s, rfl, hr, hs⟩, hb2⟩)
        have hbz : Below wr.heap.size wr w2 := Below.trans (by (repeat (first | exact Below.refl _ _ | assumption | (refine Below.setCell ?_ (by first | (simp; done) | (simp; omega) | omega) _) | (refine Below.drew ?_) | (refine below_drewN ?_ _) | (refine Below.alloc ?_ (by first | (simp; done) | (simp; omega) | omega) _) | (refine Below.trans ?_ (Below.mono (by assumption) (by first | (simp; done) | (simp; omega) | omega)))))) (hb2.mono (by simp))
        have H2 : Hid ((XyR w w2 p nm g ∧ Blk w2 nl [.float .f32 (p 0), .float .f32 (p 1), .float .f32 (p 2), .float .f32 (p 3), .float .f32 (p 4), .float .f32 (p 5)]) ∧ nm < nl) := Lib.hid ⟨⟨HR.out.1.past hbz, HR.out.2.past hbz⟩, HNL.out⟩
        have HCV := Lib.hid (fun i hi => HCOL.out i hi r s hr hs)
        have HCP := Lib.hid (ColP.start HC.out)
        clear hbz hb2 hr hs HR HXZ HCOL HC c0 c1 cl
        have HIX : Hid (∀ m : Nat, m < 3 → ∀ w' : World, (Instr.index 65 (.agg #[.float .f64 r, .float .f64 4607182418800017408, .float .f64 s]) (.int .i64 (m : Int))).run Tryd.prog w' = .ok (.float .f64 (pk3 r 4607182418800017408 s m)) w') := Lib.hid (fun m hm w' => idxV3 (pk3 r 4607182418800017408 s) m hm w')
        generalize pk3 r 4607182418800017408 s = v at *
        go_loopw [35] (fun s35 wr => ∃ m : Nat, m ≤ 3 ∧ s35 = .int .i64 m ∧ ∃ g, (XyR w wr p nm g ∧ Blk wr nl [.float .f32 (p 0), .float .f32 (p 1), .float .f32 (p 2), .float .f32 (p 3), .float .f32 (p 4), .float .f32 (p 5)]) ∧ ColP p g k m) (fun s35 _ => 3 - (intOf s35).toNat)
        case atStart => exact ⟨0, by omega, rfl, _, H2.out.1, HCP.out⟩
        case round =>
          obtain ⟨m, hm, rfl, g2, hR2, hC2⟩ := hrel
          have HR2 := Lib.hid hR2; have HC2 := Lib.hid hC2
          clear hR2 hC2 HCP
          by_cases hm3 : m < 3
          · have hm3' : (m : Int) < 3 := by omega
            have hm0 : (0 : Int) ≤ (m : Int) := by omega
            have ix := HIX.out m hm3
            have hcv := HCV.out m hm3
            obtain ⟨z, hz⟩ : ∃ z, z = v m := ⟨_, rfl⟩
            rw [← hz] at ix hcv
            have HCZ := Lib.hid hcv
            clear hz hcv
            have g0 := HR2.out.1.g.c (3 * m + k) (by omega); have gf := HR2.out.1.g.f; have gl := HR2.out.1.g.lt
            have k1 : (0 : Int) ≤ 3 * (m : Int) + (k : Int) := by omega
            have k2 : 3 * (m : Int) + (k : Int) < 9 := by omega
            have k3 : (3 * (m : Int) + (k : Int)).toNat = 3 * m + k := by omega
            go_wp2_with fail
            clear k1 k2 k3
            go_roundw
            case rel => exact ⟨m + 1, by omega, by go_num, _, ⟨HR2.out.1.set (3 * m + k) (by omega) z, HR2.out.2.far _ _ (by have := H2.out.2; simp; omega)⟩, HC2.out.next HCZ.out⟩
            case measure => simp [intOf]; omega
          · have hm3' : ¬ (m : Int) < 3 := by omega
            obtain rfl : m = 3 := by omega
            go_wp2_with fail
            go_roundw
            case rel => exact ⟨k + 1, by omega, by go_num, _, HR2.out, HC2.out.end⟩
            case measure => simp [intOf]; omega
      · have hk3' : ¬ (k : Int) < 3 := by omega
        obtain rfl : k = 3 := by omega
        have hcn : ∀ j, j < 9 → cn .f64 (g j) = colM p j := fun j hj => HC.out j hj (by omega)
        have hI := fun w' : World => InverseOf_any g (colM p) w' (fun i hi => ⟨hcn i hi, colM_lt p i⟩)
        rw [invE_congr hcn, invF_congr hcn] at hI
        have HI := Lib.hid hI
        have HCN := Lib.hid hcn
        have HXE : Hid (xyE p = invE (colM p)) := Lib.hid (by unfold xyE; rw [if_pos HE0.out])
        clear hI hcn HC
        generalize hEE : invE (colM p) = E at *
        have HEE := Lib.hid hEE
        clear hEE
        by_cases h0 : E = 0
        · have n2 : (E != 0) = false := by simpa using h0
          have H0 := Lib.hid h0
          clear h0
          go_upto_region 15 with (first | ((with_reducible apply wpList_ld9 (HR.out.1.g)); rfl; rfl; rfl) | (go_at_call 40; refine (HI.out _).mono ?_; rintro e w1 ⟨⟨q, rfl, hq⟩, hb1⟩) | ((with_reducible apply wpList_st9 (r := q) (VecD.of9 (f := fun _ => 0) (Blk.new _ _ _ _ rfl))); rfl; rfl; rfl; rfl; intro w9 hk9 hs9 hh9 hb9))
          have hbz := hb9 _ _ (hb1.alloc hb1.size _) hb1.size
          have hlt : nm < w1.heap.size := by have := hb1.size; have := HR.out.1.g.lt; omega
          have H9 := Lib.hid (And.intro (HR.out.1.past hbz) (And.intro hk9 (hq H0.out)))
          clear hbz hk9 hs9 hh9 hb9 hb1 hq HR HI
          generalize w1.heap.size = nq at *
          go_upto_region 17 with fail
          have p6 := H9.out.1.p.c 6 _ rfl; have p7 := H9.out.1.p.c 7 _ rfl; have pl := H9.out.1.p.lt
          refine wp_region_looseM 6 (XyPsiR (spX (p 6) (p 7)) (spZ (p 6) (p 7)) (tmF (invF (colM p)) (whiV p))) [(5, 12, .cells #[.float .f64 0, .float .f64 0, .float .f64 0] 65)] (by kernel_rfl) (by kernel_rfl) (by kernel_rfl) (by intro m hm; cases hm with | head => exact ⟨_, rfl, ⟨rfl, rfl, fun ev w => by kernel_rfl⟩⟩ | tail _ h => cases h) (by intro m hm; cases hm with | head => exact of_decide_eq_true (by kernel_rfl) | tail _ h => cases h) ?_
          simp only [List.take_succ_cons, List.take_zero, List.drop_succ_cons, List.drop_zero]
          ((with_reducible apply looseM_ld9 (H9.out.2.1)); rfl; rfl)
          (refine looseM_wanted rfl (fun K hK => ?_); go_simp; refine hK _ ?_; clear hK K)
          (refine looseM_wanted rfl (fun K hK => ?_); go_simp; refine hK _ ?_; clear hK K)
          refine looseM_wanted rfl (fun K hK => ?_)
          go_simp
          refine ⟨fun z => (xyzR_any _ _ z.w).mono ?_, ?_⟩
          · rintro e w' ⟨⟨r, s, rfl, hr, hs⟩, hb⟩
            exact ⟨_, rfl, xyr_psi1.2 ⟨r, s, rfl, hr, hs⟩, hb⟩
          intro u hu
          obtain ⟨r, s, rfl, hr, hs⟩ := xyr_psi1.1 hu
          refine hK _ ?_
          clear hK K hu
          refine looseM_wanted rfl (fun K hK => ?_)
          go_simp
          refine ⟨fun z => (timesR_any q (pk3 r 4607182418800017408 s) z.w).mono ?_, ?_⟩
          · rintro e w' ⟨⟨t, rfl, ht⟩, hb⟩
            refine ⟨_, rfl, xyr_psi2.2 ⟨t, rfl, fun i hi => ?_⟩, hb⟩
            rw [ht i hi]
            refine tm_congr (H9.out.2.2) (fun j hj => ?_) hi
            rcases (show j = 0 ∨ j = 1 ∨ j = 2 by omega) with rfl | rfl | rfl
            · exact hr
            · exact one_cn
            · exact hs
          intro u hu
          obtain ⟨t, rfl, ht⟩ := xyr_psi2.1 hu
          refine hK _ ?_
          clear hK K hu
          refine looseM_lays (d := 12) (blk := .cells #[.float .f64 0, .float .f64 0, .float .f64 0] 65) ⟨rfl, rfl, fun ev w => by kernel_rfl⟩ (fun pg hpg => ?_)
          refine looseM_nil (fun w5 hb5 hg5 _ => ?_)
          obtain ⟨pg', hpg1, hpg2⟩ := hg5 _ (List.Mem.head _)
          obtain rfl : pg = pg' := by cases hpg1; rfl
          have HT3 := Lib.hid (VecD.fresh3 hpg2)
          have HX5 := Lib.hid (H9.out.1.past hb5)
          have hpn : nm < pg := by have := H9.out.1.g.lt; omega
          have HTT := Lib.hid (And.intro ht hpn)
          clear hpg1 hg5 hpg2 hb5 p6 p7 pl hr hs ht hpg hpn H9
          have t0 := HT3.out.c 0 (by omega); have t1 := HT3.out.c 1 (by omega); have t2 := HT3.out.c 2 (by omega); have tf := HT3.out.f; have tl := HT3.out.lt
          go_upto_region 18 with fail
          refine wp_world (fun U hU => ?_)
          have HU : Hid (XyR w U p nm g ∧ VecD U pg 3 t) := Lib.hid (by
            rw [hU]
            have hn := HTT.out.2
            have hx := HX5.out
            exact ⟨⟨((hx.p.far _ _ (by have := hx.l; simp; omega)).far _ _ (by have := hx.l; simp; omega)).far _ _ (by have := hx.l; simp; omega), ((hx.z.far _ _ (by have := hx.l; simp; omega)).far _ _ (by have := hx.l; simp; omega)).far _ _ (by have := hx.l; simp; omega), ((hx.g.far _ _ (by simp; omega)).far _ _ (by simp; omega)).far _ _ (by simp; omega), hx.l, ((hx.b.setCell (by have := hx.l; simp; omega) _).setCell (by have := hx.l; simp; omega) _).setCell (by have := hx.l; simp; omega) _⟩, HT3.out.put3 t⟩)
          clear hU t0 t1 t2 tf tl HT3 HX5
          go_wp2_with fail
          have HF : Hid (∀ j, xyF p j = fop .mul .f64 (colM p j) (tmF (invF (colM p)) (whiV p) (j % 3))) := Lib.hid (fun j => rfl)
          generalize tmF (invF (colM p)) (whiV p) = T at *
          go_loopw [61] (fun s61 wr => ∃ m : Nat, m ≤ 9 ∧ s61 = .int .i64 m ∧ ∃ g, (XyR w wr p nm g ∧ VecD wr pg 3 t) ∧ ScaR p T g m) (fun s61 _ => 9 - (intOf s61).toNat)
          case atStart => exact ⟨0, by omega, rfl, _, HU.out, fun j hj => ⟨fun h => by omega, fun _ => HCN.out j hj⟩⟩
          case round =>
            obtain ⟨m, hm, rfl, g, hR, hS⟩ := hrel
            have HR := Lib.hid hR; have HS := Lib.hid hS
            clear hR hS HU
            by_cases hm9 : m < 9
            · have hm9' : (m : Int) < 9 := by omega
              have hm0 : (0 : Int) ≤ (m : Int) := by omega
              obtain ⟨c, hc⟩ : ∃ c, c = m % 3 := ⟨_, rfl⟩
              have hc3 : c < 3 := by omega
              have hcI : (c : Int) < 3 := by omega
              have hc0 : (0 : Int) ≤ (c : Int) := by omega
              have tm : (m : Int).tmod 3 = (c : Int) := by rw [hc]; rfl
              have g0 := HR.out.1.g.c m hm9; have gf := HR.out.1.g.f; have gl := HR.out.1.g.lt
              have t0 := HR.out.2.c c hc3; have tl := HR.out.2.lt
              have HMC := Lib.hid hc
              clear hc
              obtain ⟨x, hx⟩ : ∃ x, x = g m := ⟨_, rfl⟩
              rw [← hx] at g0
              have HX := Lib.hid hx
              clear hx
              obtain ⟨y, hy⟩ : ∃ y, y = t c := ⟨_, rfl⟩
              rw [← hy] at t0
              have HY := Lib.hid hy
              clear hy
              go_upto_region 21 with fail
              refine wp_region_loose 9 (fun _ _ _ => False) (by kernel_rfl) (by kernel_rfl) ?_
              simp only [List.take_succ_cons, List.take_zero, List.drop_succ_cons, List.drop_zero]
              iterate 7 (refine loose_wanted rfl (fun K hK => ?_); go_simp; refine hK _ ?_; clear hK K)
              (first | ((with_reducible apply loose_farith); rfl; rfl; rfl; rfl; intro _ _) | ((with_reducible apply loose_up); rfl; rfl; exact Tryd.underlying22; exact Tryd.underlying47; intro _ _))
              (refine loose_wanted rfl (fun K hK => ?_); go_simp; refine hK _ ?_; clear hK K)
              rename_i z hz
              refine loose_nil (fun w6 hb6 => ?_)
              have H6 := Lib.hid (And.intro (HR.out.1.past hb6) (HR.out.2.past hb6))
              clear hb6 g0 gf gl t0 tl HR
              have g0 := H6.out.1.g.c m hm9; have gf := H6.out.1.g.f; have gl := H6.out.1.g.lt
              go_wp2_with fail
              go_roundw
              case rel => exact ⟨m + 1, by omega, by go_num, _, ⟨H6.out.1.set m hm9 z, H6.out.2.far _ _ (by have := HTT.out.2; simp; omega)⟩, HS.out.next (by rw [hz.eq, HX.out, (HS.out m hm9).2 (Nat.le_refl _), HY.out, HTT.out.1 c hc3, HMC.out])⟩
              case measure => simp [intOf]; omega
            · have hm9' : ¬ (m : Int) < 9 := by omega
              obtain rfl : m = 9 := by omega
              go_wp2_with (first | ((with_reducible apply wpList_ld9 (HR.out.1.g)); rfl; rfl; rfl) | ((with_reducible apply wpList_st9 (r := g) (HR.out.1.z)); rfl; rfl; rfl; rfl; intro w9 hk9 hs9 hh9 hb9))
              refine bodyPost_ret (v := .tuple #[m9 g, .int .i64 (xyE p)]) (by rw [HXE.out, H0.out]; exact results_m9e Tryd.results20 _ hk9 rfl rfl) rfl ⟨⟨_, rfl, fun _ j hj => by rw [HF.out j]; exact (HS.out j hj).1 hj⟩, ?_⟩
              exact hb9 _ _ HR.out.1.b (by omega)
        · have n2 : (E != 0) = true := by simpa using h0
          have H0 := Lib.hid h0
          clear h0
          go_upto_region 15 with (first | ((with_reducible apply wpList_ld9 (HR.out.1.g)); rfl; rfl; rfl) | (go_at_call 40; refine (HI.out _).mono ?_; rintro e w1 ⟨⟨q, rfl, hq⟩, hb1⟩) | ((with_reducible apply wpList_st9 (r := q) (VecD.of9 (f := fun _ => 0) (Blk.new _ _ _ _ rfl))); rfl; rfl; rfl; rfl; intro w9 hk9 hs9 hh9 hb9))
          have hbz := hb9 _ _ (hb1.alloc hb1.size _) hb1.size
          have H9 := Lib.hid (HR.out.1.past hbz)
          clear hbz hk9 hs9 hh9 hb9 hb1 hq HR HI HCN
          go_wp2_with ((with_reducible apply wpList_st9 (r := fun _ => 0) (H9.out.z)); rfl; rfl; rfl; rfl; intro w9 hk9 hs9 hh9 hb9)
          refine bodyPost_ret (v := .tuple #[m9 (fun _ => 0), .int .i64 (xyE p)]) (by rw [HXE.out]; exact results_m9e Tryd.results20 _ hk9 rfl rfl) rfl ⟨⟨_, rfl, fun h => by rw [HXE.out] at h; exact absurd h H0.out⟩, ?_⟩
          exact hb9 _ _ H9.out.b (by omega)
  · have n2 : (prE p != 0) = true := by simpa using h0
    have HE : Hid (xyE p = prE p) := Lib.hid (by unfold xyE; rw [if_neg h0])
    have HN := Lib.hid h0
    clear h0
    go_wp2_with (first | (go_at_call 18; refine (PrimariesError_any p _).mono ?_; rintro e w1 ⟨rfl, hb1⟩) | ((with_reducible apply wpList_st9 (r := fun _ => 0) (HZ.out.past hb1)); rfl; rfl; rfl; rfl; intro w9 hk9 hs9 hh9 hb9))
    refine bodyPost_ret (v := .tuple #[m9 (fun _ => 0), .int .i64 (xyE p)]) (by rw [HE.out]; exact results_m9e Tryd.results20 _ hk9 rfl rfl) rfl ⟨⟨_, rfl, fun h => by rw [HE.out] at h; exact absurd h HN.out⟩, ?_⟩
    exact hb9 _ _ (HB.out.trans (hb1.mono HB.out.size)) (by omega)
end Go.Proofs.YtfmdnibfeckmaaaDoor
