/- Spreading of errors, in the document: dyeref2.DiffusedOf. Conditions: what each theorem names. -/
import Derived.Test.YthphcnchbogheaaDfD
namespace Go.Proofs.Ythphcnchbogheaa
open Go Go.RowKit
/-- What stands between the steps. -/
structure DeR (w wr : World) (La : List Value) (ge gl n : Nat) (t : Nat → Nat) (out : Nat → Int) : Prop where
  fa : Blk wr w.heap.size La
  er : FRow wr ge n t
  lv : wr.rowIs gl 3 n (fun j => .int .i64 (out j))
  bel : Below w.heap.size w wr
theorem DeR.past {w wr wy : World} {La : List Value} {ge gl n : Nat} {t : Nat → Nat} {out : Nat → Int} (k : DeR w wr La ge gl n t out) (h : Below wr.heap.size wr wy) : DeR w wy La ge gl n t out :=
  ⟨k.fa.past h, k.er.past h, k.lv.of_block (h.block gl k.lv.lt), k.bel.trans (h.mono k.bel.size)⟩
theorem DeR.set {w wr : World} {La : List Value} {ge gl n : Nat} {t : Nat → Nat} {out out' : Nat → Int} (k : DeR w wr La ge gl n t out) (h1 : w.heap.size < gl) (h3 : ge ≠ gl) (q : Nat) (l : Int) (ho : ∀ j, j < n → out' j = if j = q then l else out j) : DeR w (wr.setCell ⟨gl, q, none⟩ (.int .i64 l)) La ge gl n t out' := by
  have o : OneB gl wr (wr.setCell ⟨gl, q, none⟩ (.int .i64 l)) := (OneB.refl _ _).setCell
  refine ⟨k.fa.one o (by omega), k.er.one o h3, ?_, k.bel.setCell (by simp; omega) _⟩
  refine World.rowIs.congr (World.rowIs.set k.lv q _) (fun j hj => ?_)
  rw [ho j hj]
  by_cases e : j = q <;> simp [e]
theorem DeR.give {w wr wy : World} {La : List Value} {ge gl n : Nat} {t t' : Nat → Nat} {out : Nat → Int} (k : DeR w wr La ge gl n t out) (o : OneB ge wr wy) (h1 : w.heap.size < ge) (h3 : gl ≠ ge) (hf : FRow wy ge n t') : DeR w wy La ge gl n t' out :=
  ⟨k.fa.one o (by omega), hf, k.lv.of_block (o.block gl k.lv.lt h3), k.bel.trans (o.below (by omega) k.bel.size)⟩
theorem FRow.set {w : World} {g n : Nat} {t : Nat → Nat} (h : FRow w g n t) (k v : Nat) (t' : Nat → Nat) (hv : FR .f32 v (t' k)) (ht : ∀ j, j ≠ k → t' j = t j) : FRow (w.setCell ⟨g, k, none⟩ (.float .f32 v)) g n t' := by
  obtain ⟨es, h1, h2⟩ := h
  refine ⟨fun j => if j = k then v else es j, World.rowIs.congr (World.rowIs.set h1 k _) (fun j hj => ?_), fun j => ?_⟩
  · by_cases e : j = k <;> simp [e]
  · by_cases e : j = k
    · simp only [e, if_true]; exact hv
    · simp only [if_neg e]; rw [ht j e]; exact h2 j
/-- The steps within a step. -/
def tt1 (V e x j : Nat) (t : Nat → Nat) : Nat → Nat := toF (decide (x + 1 < V)) t (j + 4) e 1088421888
def tt2 (V h e x y j : Nat) (t : Nat → Nat) : Nat → Nat := toF (decide (0 < x) && decide (y + 1 < h)) (tt1 V e x j t) (j + 4 * V - 4) e 1077936128
def tt3 (V h e x y j : Nat) (t : Nat → Nat) : Nat → Nat := toF (decide (y + 1 < h)) (tt2 V h e x y j t) (j + 4 * V) e 1084227584
def tt4 (V h e x y j : Nat) (t : Nat → Nat) : Nat → Nat := toF (decide (x + 1 < V) && decide (y + 1 < h)) (tt3 V h e x y j t) (j + 4 * V + 4) e 1065353216
theorem tt_step (V h : Nat) (d : Int) (fs : Nat → Nat) (x y c : Nat) (t : Nat → Nat) : stepF V h d fs x y c t = tt4 V h (errF (sumF fs t (4 * (y * V + x) + c)) d) x y (4 * (y * V + x) + c) t := rfl
set_option maxRecDepth 100000 in
set_option maxHeartbeats 3200000 in
theorem DiffusedOf_yes (x y d : Int) (V H b off n cap : Nat) (fs : Nat → Nat) (w : World) (he : fraErr x y (V : Int) (H : Int) n = 0) (hd : 1 ≤ d ∧ d ≤ 16) (hc : Row w b off n fs) :
    Calls Try.prog 13 #[.agg #[.int .i64 x, .int .i64 y, .int .i64 V, .int .i64 H, .slice (some ⟨b, off, none⟩) n cap], .int .i64 d] w fun e w' =>
      ∃ g, e = .returned (.slice (some ⟨g, 0, none⟩) n n) ∧ w.heap.size ≤ g ∧ (∀ i, i < n → w'.cell? ⟨g, i, none⟩ = some (.int .i64 (dfZ V H d fs i))) ∧ Below w.heap.size w w' := by
  obtain ⟨hr, hl⟩ := fraErr_ok he
  obtain ⟨r1, r2, r3, r4, r5, r6, r7, r8, r9, r10⟩ := regErr_ok hr
  have hlt : 4 * (V : Int) * H ≤ 65536 := by rw [Int.mul_assoc]; omega
  have hlt1 : 4 ≤ 4 * (V : Int) * H := by rw [Int.mul_assoc]; omega
  have hn6 : n ≤ 65536 := by omega
  have hn0 : 0 < n := by omega
  have hV : 0 < V ∧ V ≤ 256 := by omega
  have hbw : b < w.heap.size := hc.lt hn0
  have hnV : n = 4 * (H * V) := by
    have : (n : Int) = 4 * ((H : Int) * V) := by rw [hl, Int.mul_assoc, Int.mul_comm (V : Int)]
    exact_mod_cast this
  obtain ⟨Z, hZ⟩ : ∃ Z, Z = dfZ V H d fs := ⟨_, rfl⟩
  obtain ⟨T, hT⟩ : ∃ T, T = stT V H d fs := ⟨_, rfl⟩
  have hT0 : (fun _ => 0) = T 0 := by rw [hT]; rfl
  rw [← hZ]
  have HZ := Lib.hid hZ; have HT := Lib.hid hT; have HT0 := Lib.hid hT0
  have HN := Lib.hid hnV
  have HC := Lib.hid (fun (w' : World) (hb : Below w.heap.size w w') => hc.below hb hbw : ∀ w', Below w.heap.size w w' → _)
  have hmk := run_make_row' (P := Try.prog) 28 3 (.int .i64 0) 8 Try.underlying28 (by kernel_rfl) rfl .i64 .i64 n (by omega) (by omega)
  have hmk2 := run_make_row' (P := Try.prog) 24 46 (.float .f32 0) 4 Try.underlying24 (by kernel_rfl) rfl .i64 .i64 n (by omega) (by omega)
  have hd' := Lib.hid hd
  clear he hl hlt hlt1 hr r5 r6 hc hd hnV hZ hT hT0
  go_enter Try.func13, Try.ntmps13
  go_upto_region 3 with fail
  refine wp_world (fun W2 hW2 => ?_)
  have R2 : DeR w W2 [.int .i64 x, .int .i64 y, .int .i64 V, .int .i64 H, .slice (some ⟨b, off, none⟩) n cap] (w.heap.size + 1) (w.heap.size + 1 + 1) n (T 0) (dfO Z 0 false 0) := by
    rw [hW2]
    rw [← HT0.out]
    have h1 := World.rowIs_made (w.alloc (.cells #[.int .i64 x, .int .i64 y, .int .i64 V, .int .i64 H, .slice (some ⟨b, off, none⟩) n cap] 26)) (.float .f32 0) n 46
    have h2 := World.rowIs_made ((w.alloc (.cells #[.int .i64 x, .int .i64 y, .int .i64 V, .int .i64 H, .slice (some ⟨b, off, none⟩) n cap] 26)).alloc (.cells (madeCells #[.float .f32 0] n) 46)) (.int .i64 0) n 3
    rw [show (w.alloc (.cells #[.int .i64 x, .int .i64 y, .int .i64 V, .int .i64 H, .slice (some ⟨b, off, none⟩) n cap] 26)).heap.size = w.heap.size + 1 by simp] at h1
    rw [show ((w.alloc (.cells #[.int .i64 x, .int .i64 y, .int .i64 V, .int .i64 H, .slice (some ⟨b, off, none⟩) n cap] 26)).alloc (.cells (madeCells #[.float .f32 0] n) 46)).heap.size = w.heap.size + 1 + 1 by simp] at h2
    refine ⟨((Blk.new _ _ _ _ rfl).alloc _).alloc _, ⟨fun _ => 0, h1.of_block (Below.heap_alloc _ _ _ (by simp)), fun j => FR.refl (k := .f32) (r := 0) (by decide)⟩, h2.congr (fun j _ => by simp [dfO]), by (repeat (first | exact Below.refl _ _ | assumption | (refine Below.setCell ?_ (by first | (simp; done) | (simp; omega) | omega) _) | (refine Below.drew ?_) | (refine below_drewN ?_ _) | (refine Below.alloc ?_ (by first | (simp; done) | (simp; omega) | omega) _) | (refine Below.trans ?_ (Below.mono (by assumption) (by first | (simp; done) | (simp; omega) | omega)))))⟩
  have H2 := Lib.hid R2
  clear hmk hmk2 R2 hW2 HT0
  obtain ⟨ge, hge⟩ : ∃ ge, ge = w.heap.size + 1 := ⟨_, rfl⟩
  obtain ⟨gl, hgl⟩ : ∃ gl, gl = ge + 1 := ⟨_, rfl⟩
  rw [← hge] at H2 ⊢
  rw [← hgl] at H2 ⊢
  have HG := Lib.hid (show w.heap.size < ge ∧ ge < gl by omega)
  clear hge hgl
  have a3 := H2.out.fa.c 3 _ rfl; have al := H2.out.fa.lt
  go_wp2_with fail
  clear a3 al
  go_loopw [26] (fun s26 wr => ∃ Y : Nat, Y ≤ H ∧ s26 = .int .i64 Y ∧ DeR w wr [.int .i64 x, .int .i64 y, .int .i64 V, .int .i64 H, .slice (some ⟨b, off, none⟩) n cap] ge gl n (T (3 * (Y * V))) (dfO Z (4 * (Y * V)) false 0)) (fun s26 _ => H - (intOf s26).toNat)
  case atStart => exact ⟨0, Nat.zero_le _, rfl, by simpa using H2.out⟩
  case round =>
    obtain ⟨Y, hY, rfl, hM⟩ := hrel
    have HM := Lib.hid hM
    clear hM H2
    by_cases hYH : Y < H
    · have hYi : (Y : Int) < (H : Int) := by omega
      have a2 := HM.out.fa.c 2 _ rfl; have al := HM.out.fa.lt
      go_wp2_with fail
      clear a2 al
      go_loopw [32] (fun s32 wr => ∃ X : Nat, X ≤ V ∧ s32 = .int .i64 X ∧ DeR w wr [.int .i64 x, .int .i64 y, .int .i64 V, .int .i64 H, .slice (some ⟨b, off, none⟩) n cap] ge gl n (T (3 * (Y * V + X))) (dfO Z (4 * (Y * V + X)) false 0)) (fun s32 _ => V - (intOf s32).toNat)
      case atStart => exact ⟨0, Nat.zero_le _, rfl, by simpa using HM.out⟩
      case round =>
        obtain ⟨X, hX, rfl, hM⟩ := hrel
        have HM2 := Lib.hid hM
        clear hM HM
        by_cases hXV : X < V
        · have hXi : (X : Int) < (V : Int) := by omega
          obtain ⟨P, hP⟩ : ∃ P, P = Y * V := ⟨_, rfl⟩
          have hXY : X < 256 ∧ Y < 65536 ∧ V ≤ 256 ∧ P ≤ 65536 ∧ (Y + 1 < H → 4 * (P + V + V) ≤ n) ∧ 4 * (P + V) ≤ n := by
            have h1 : (Y + 1) * V ≤ H * V := Nat.mul_le_mul_right _ (by omega)
            have h2 : H * 1 ≤ H * V := Nat.mul_le_mul_left _ (by omega)
            have h3 := HN.out
            rw [Nat.add_mul] at h1
            refine ⟨by omega, by omega, by omega, by omega, fun h => ?_, by omega⟩
            have h4 : (Y + 1 + 1) * V ≤ H * V := Nat.mul_le_mul_right _ (by omega)
            rw [Nat.add_mul, Nat.add_mul] at h4
            omega
          have wP : IntKind.i64.wrap ((Y : Int) * (V : Int)) = (P : Int) := by rw [← Int.natCast_mul, ← hP, IntKind.wrap_i64]; omega
          have wP1 : IntKind.i64.wrap (((Y : Int) + 1) * (V : Int)) = ((P + V : Nat) : Int) := by rw [Int.add_mul, ← Int.natCast_mul, ← hP, IntKind.wrap_i64]; omega
          rw [← hP] at HM2
          have HP := Lib.hid hP
          have HXY := Lib.hid hXY
          clear hP hXY
          go_wp2_with fail
          go_loopw [35] (fun s35 wr => ∃ c : Nat, c ≤ 4 ∧ s35 = .int .i64 c ∧ DeR w wr [.int .i64 x, .int .i64 y, .int .i64 V, .int .i64 H, .slice (some ⟨b, off, none⟩) n cap] ge gl n (T (3 * (P + X) + min c 3)) (dfO Z (4 * (P + X) + c) false 0)) (fun s35 _ => 4 - (intOf s35).toNat)
          case atStart => exact ⟨0, Nat.zero_le _, rfl, by simpa using HM2.out⟩
          case round =>
            obtain ⟨c, hc4, rfl, hM⟩ := hrel
            have HM := Lib.hid hM
            clear hM HM2
            by_cases hc : c < 4
            · have hci : (c : Int) < 4 := by omega
              obtain ⟨Q, hQ⟩ : ∃ Q, Q = P + X := ⟨_, rfl⟩
              obtain ⟨A, hA⟩ : ∃ A, A = 4 * (P + X) := ⟨_, rfl⟩
              obtain ⟨k, hk⟩ : ∃ k, k = A + c := ⟨_, rfl⟩
              have hkn : k < n := by have := HXY.out; omega
              have hki : (k : Int) < (n : Int) := by omega
              have w1 : IntKind.i64.wrap ((P : Int) + (X : Int)) = (Q : Int) := by rw [IntKind.wrap_i64]; have := HXY.out; omega
              have w2 : IntKind.i64.wrap (4 * (Q : Int)) = (A : Int) := by rw [IntKind.wrap_i64]; have := HXY.out; omega
              have w3 : IntKind.i64.wrap ((A : Int) + (c : Int)) = (k : Int) := by rw [IntKind.wrap_i64]; have := HXY.out; omega
              have HK := Lib.hid (And.intro hA hk)
              have HQQ := Lib.hid hQ
              clear hA hk hQ
              have a2 := HM.out.fa.c 2 _ rfl; have a4 := HM.out.fa.c 4 _ rfl; have al := HM.out.fa.lt
              have c0 := HC.out _ HM.out.bel k hkn
              obtain ⟨v, hv⟩ : ∃ v, v = fs k := ⟨_, rfl⟩
              rw [← hv] at c0
              have l0 := cell_lt c0; simp only at l0
              have HV := Lib.hid hv
              clear hv
              by_cases hc3 : c = 3
              · have hc3i : (c : Int) = 3 := by omega
                have w4 : IntKind.i64.wrap ((A : Int) + 3) = (k : Int) := by rw [← hc3i]; exact w3
                have HZk := Lib.hid (show Z k = levelOf v 0 d by obtain ⟨e1, e2⟩ := HK.out; rw [HZ.out, HV.out, e2, e1, hc3]; exact dfZ_3 V H d fs (P + X))
                go_wp2_with (first | (go_at_call 25; refine (LevelOf_any _ _ _ _ hd'.out).mono ?_; rintro e w5 ⟨m, rfl, hw5⟩; have H5 := Lib.hid (HM.out.past (show Below wr.heap.size wr w5 by rw [hw5]; exact below_drewN (Below.refl _ _) m)); have x5 : w5.cell? ⟨gl, k, none⟩ = some (.int .i64 (dfO Z (4 * (P + X) + c) false 0 k)) := H5.out.lv.cell hkn; have y5 : w5.frozen? ⟨gl, k, none⟩ = false := H5.out.lv.frozen _; clear hw5 c0 l0 a2 a4 al HM))
                go_roundw
                case rel =>
                  refine ⟨c + 1, by omega, by go_num, ?_⟩
                  have K := H5.out.set (by have := HG.out; omega) (by have := HG.out; omega) (out' := dfO Z (4 * (P + X) + (c + 1)) false 0) k (levelOf v 0 d) (fun j hj => by
                    obtain ⟨e1, e2⟩ := HK.out
                    unfold dfO
                    by_cases e : j = k
                    · rw [if_pos e, if_pos (Or.inl (by omega)), e]; exact HZk.out
                    · rw [if_neg e]
                      by_cases h : j < 4 * (P + X) + c ∨ (false = true ∧ j = 0)
                      · rw [if_pos h, if_pos (by rcases h with h | h; exact Or.inl (by omega); exact Or.inr h)]
                      · rw [if_neg h, if_neg (by intro h'; rcases h' with h' | h'; exact h (Or.inl (by omega)); exact h (Or.inr h'))])
                  rw [show min (c + 1) 3 = min c 3 by omega]
                  exact K
                case measure => simp [intOf]; omega
              · have hc3i : ¬ (c : Int) = 3 := by omega
                have hcl : c < 3 := by omega
                rw [show min c 3 = c by omega] at HM
                obtain ⟨es, G1, G2⟩ := HM.out.er
                have q0 := G1.cell hkn
                have G2k := Lib.hid (G2 k)
                obtain ⟨q, hq⟩ : ∃ q, q = es k := ⟨_, rfl⟩
                rw [← hq] at q0 G2k
                clear hq G1 G2
                have q1 := cell_lt q0; simp only at q1
                go_upto_region 15 with fail
                refine wp_region_loose 10 (fun _ _ _ => False) (by kernel_rfl) (by kernel_rfl) ?_
                simp only [List.take_succ_cons, List.take_zero, List.drop_succ_cons, List.drop_zero]
                iterate 9 (refine loose_wanted rfl (fun K hK => ?_); go_simp; refine hK _ ?_; clear hK K)
                (first | ((with_reducible apply loose_farith); rfl; rfl; rfl; rfl; intro _ _) | ((with_reducible apply loose_up); rfl; rfl; exact Try.underlying46; exact Try.underlying69; intro _ _))
                rename_i r hr
                refine loose_nil (fun w8 hb8 => ?_)
                obtain ⟨S, hS⟩ : ∃ S, S = sumF fs (T (3 * (P + X) + c)) k := ⟨_, rfl⟩
                have hr' : FR .f32 r S := by rw [G2k.out.eq, fop_cn_left] at hr; rw [hS]; unfold sumF; rw [← HV.out]; exact hr
                have HZk := Lib.hid (show Z k = levelOf r 0 d by obtain ⟨e1, e2⟩ := HK.out; rw [levelOf_fr hr'.eq, hS, HZ.out, HT.out, e2, e1]; exact dfZ_c V H d fs (P + X) c hcl)
                have HS := Lib.hid hS; have HR := Lib.hid hr'
                have H8 := Lib.hid (HM.out.past hb8)
                clear hS hr hr' hb8 c0 q0 l0 q1 a2 a4 al G2k HM
                obtain ⟨l, hl⟩ : ∃ l, l = levelOf r 0 d := ⟨_, rfl⟩
                have hln : l.natAbs ≤ 2 ^ 24 := by rw [hl]; exact levelOf_in r 0 hd'.out
                have HLN := Lib.hid (And.intro hl hln)
                clear hl hln
                go_upto_region 17 with (first | (go_at_call 25; refine (LevelOf_any _ _ _ _ hd'.out).mono ?_; rintro e w9 ⟨m, rfl, hw9⟩; rw [← HLN.out.1]; have H9 := Lib.hid (H8.out.past (show Below w8.heap.size w8 w9 by rw [hw9]; exact below_drewN (Below.refl _ _) m)); have x5 : w9.cell? ⟨gl, k, none⟩ = some (.int .i64 (dfO Z (4 * (P + X) + c) false 0 k)) := H9.out.lv.cell hkn; have y5 : w9.frozen? ⟨gl, k, none⟩ = false := H9.out.lv.frozen _; clear hw9 H8))
                refine wp_world (fun WA hWA => ?_)
                have RA : DeR w WA [.int .i64 x, .int .i64 y, .int .i64 V, .int .i64 H, .slice (some ⟨b, off, none⟩) n cap] ge gl n (T (3 * (P + X) + c)) (dfO Z (4 * (P + X) + (c + 1)) false 0) := by
                  rw [hWA]
                  refine H9.out.set (by have := HG.out; omega) (by have := HG.out; omega) k l (fun j hj => ?_)
                  obtain ⟨e1, e2⟩ := HK.out
                  unfold dfO
                  by_cases e : j = k
                  · rw [if_pos e, if_pos (Or.inl (by omega)), e, HZk.out, HLN.out.1]
                  · rw [if_neg e]
                    by_cases h : j < 4 * (P + X) + c ∨ (false = true ∧ j = 0)
                    · rw [if_pos h, if_pos (by rcases h with h | h; exact Or.inl (by omega); exact Or.inr h)]
                    · rw [if_neg h, if_neg (by intro h'; rcases h' with h' | h'; exact h (Or.inl (by omega)); exact h (Or.inr h'))]
                have HA := Lib.hid RA
                have xA : WA.cell? ⟨gl, k, none⟩ = some (.int .i64 l) := by
                  have h := RA.lv.cell hkn
                  have e : dfO Z (4 * (P + X) + (c + 1)) false 0 k = l := by
                    obtain ⟨e1, e2⟩ := HK.out
                    unfold dfO
                    rw [if_pos (Or.inl (by omega)), HZk.out, HLN.out.1]
                  rw [e] at h
                  exact h
                have lA := cell_lt xA; simp only at lA
                clear RA hWA x5 y5 H9
                go_upto_region 18 with (first | (go_at_call 26; refine (ValueOf_any _ _ _ hd'.out HLN.out.2).mono ?_; rintro e w' ⟨m, rfl, rfl⟩) | ((with_reducible apply wpList_farithW); rfl; rfl; rfl; intro r4 W4 hr4 hb4))
                have HB := Lib.hid (HA.out.past (Below.trans (show Below WA.heap.size WA (WA.drewN m) from below_drewN (Below.refl _ _) m) (by simpa using hb4)))
                obtain ⟨q, hq⟩ : ∃ q, q = if isNum .f32 r4 = true then r4 else 0 := ⟨_, rfl⟩
                have HQ := Lib.hid (show q = errF S d by
                  rw [hq]
                  refine (errF_of ?_).symm
                  have e1 := HR.out.eq
                  have e2 : valueF l d = valueF (levelOf S 0 d) d := by rw [HLN.out.1, levelOf_fr e1]
                  rw [e1, fop_cn_right, e2] at hr4
                  exact hr4)
                have HQ2 := Lib.hid hq
                clear hq hr4 hb4 HA xA lA
                go_upto_if 86 with (first | (go_at_call 27; refine (IsNumberR_any _ _).mono ?_; rintro e w' ⟨rfl, m', hw'⟩; have HC1 := Lib.hid (HB.out.past (show Below W4.heap.size W4 w' by rw [hw']; exact below_drewN (Below.refl _ _) m')); clear hw' HB))
                go_cut [12] (fun s12 wx => s12 = .float .f32 q ∧ DeR w wx [.int .i64 x, .int .i64 y, .int .i64 V, .int .i64 H, .slice (some ⟨b, off, none⟩) n cap] ge gl n (T (3 * (P + X) + c)) (dfO Z (4 * (P + X) + (c + 1)) false 0))
                case first =>
                  by_cases hI : isNum .f32 r4 = true
                  · have hqe : q = r4 := by rw [HQ2.out, if_pos hI]
                    rw [hI]
                    go_wp2_with fail
                    go_meet
                    exact ⟨by rw [hqe], HC1.out⟩
                  · have hqe : q = 0 := by rw [HQ2.out, if_neg hI]
                    have hI' : isNum .f32 r4 = false := by simpa using hI
                    rw [hI']
                    go_wp2_with fail
                    go_meet
                    exact ⟨by rw [hqe], HC1.out⟩
                case rest =>
                  obtain ⟨rfl, hB⟩ := hcut
                  have HB := Lib.hid hB
                  clear hB HC1 HQ2
                  go_wp2_with fail
                  --4<
                  refine wp_world (fun W3 hW3 => ?_)
                  have B3 : Below wc.heap.size wc W3 := by rw [hW3]; (repeat (first | exact Below.refl _ _ | assumption | (refine Below.setCell ?_ (by first | (simp; done) | (simp; omega) | omega) _) | (refine Below.drew ?_) | (refine below_drewN ?_ _) | (refine Below.alloc ?_ (by first | (simp; done) | (simp; omega) | omega) _) | (refine Below.trans ?_ (Below.mono (by assumption) (by first | (simp; done) | (simp; omega) | omega)))))
                  have T3 : Blk W3 wc.heap.size [.int .i64 1, .int .i64 0, .int .i64 7, .int .i64 (-1), .int .i64 1, .int .i64 3, .int .i64 0, .int .i64 1, .int .i64 5, .int .i64 1, .int .i64 1, .int .i64 1] := by rw [hW3]; exact Blk.new _ _ _ _ rfl
                  have hgz : ge < wc.heap.size := HB.out.er.lt
                  have H3 := Lib.hid (And.intro (HB.out.past B3) T3)
                  clear hW3 B3 T3 HB
                  obtain ⟨gt, hgt⟩ : ∃ gt, gt = wc.heap.size := ⟨_, rfl⟩
                  rw [← hgt] at H3 hgz ⊢
                  have HGT := Lib.hid hgz
                  clear hgt hgz
                  go_loopw [93] (fun s93 wr => ∃ (i : Int) (t : Nat → Nat), s93 = .int .i64 i ∧ (i = 0 ∧ t = (T (3 * (P + X) + c)) ∨ i = 1 ∧ t = (tt1 V q X k (T (3 * (P + X) + c))) ∨ i = 2 ∧ t = (tt2 V H q X Y k (T (3 * (P + X) + c))) ∨ i = 3 ∧ t = (tt3 V H q X Y k (T (3 * (P + X) + c))) ∨ i = 4 ∧ t = (tt4 V H q X Y k (T (3 * (P + X) + c)))) ∧ DeR w wr [.int .i64 x, .int .i64 y, .int .i64 V, .int .i64 H, .slice (some ⟨b, off, none⟩) n cap] ge gl n t (dfO Z (4 * (P + X) + (c + 1)) false 0) ∧ Blk wr gt [.int .i64 1, .int .i64 0, .int .i64 7, .int .i64 (-1), .int .i64 1, .int .i64 3, .int .i64 0, .int .i64 1, .int .i64 5, .int .i64 1, .int .i64 1, .int .i64 1]) (fun s93 _ => 4 - (intOf s93).toNat)
                  case atStart => exact ⟨0, _, rfl, Or.inl ⟨rfl, rfl⟩, H3.out.1, H3.out.2⟩
                  case round =>
                    obtain ⟨i, t, rfl, hi, hD, hB⟩ := hrel
                    have HR := Lib.hid (And.intro hD hB)
                    clear hD hB H3
                    rcases hi with ⟨rfl, rfl⟩ | ⟨rfl, rfl⟩ | ⟨rfl, rfl⟩ | ⟨rfl, rfl⟩ | ⟨rfl, rfl⟩
                    · have b0 := HR.out.2.c 0 _ rfl; have b1 := HR.out.2.c 1 _ rfl; have b2 := HR.out.2.c 2 _ rfl; have bl := HR.out.2.lt
                      go_upto_region 23 with fail
                      refine wp_world (fun W1 hW1 => ?_)
                      have B1 : Below wr.heap.size wr W1 := by rw [hW1]; (repeat (first | exact Below.refl _ _ | assumption | (refine Below.setCell ?_ (by first | (simp; done) | (simp; omega) | omega) _) | (refine Below.drew ?_) | (refine below_drewN ?_ _) | (refine Below.alloc ?_ (by first | (simp; done) | (simp; omega) | omega) _) | (refine Below.trans ?_ (Below.mono (by assumption) (by first | (simp; done) | (simp; omega) | omega)))))
                      have T1 : Blk W1 wr.heap.size [.int .i64 1, .int .i64 0, .int .i64 7] := by rw [hW1]; exact Blk.new _ _ _ _ rfl
                      have H1 := Lib.hid (And.intro (HR.out.1.past B1) (And.intro (HR.out.2.past B1) T1))
                      clear hW1 B1 T1 b0 b1 b2 bl HR
                      generalize wr.heap.size = gb at *
                      have d0 := H1.out.2.2.c 0 _ rfl; have d1 := H1.out.2.2.c 1 _ rfl; have d2 := H1.out.2.2.c 2 _ rfl; have dl := H1.out.2.2.lt
                      have a2 := H1.out.1.fa.c 2 _ rfl; have a3 := H1.out.1.fa.c 3 _ rfl; have al := H1.out.1.fa.lt
                      by_cases hcb : (decide (X + 1 < V)) = true
                      · obtain ⟨kk, hkk⟩ : ∃ kk, kk = k + 4 := ⟨_, rfl⟩
                        have hcb2 := hcb
                        simp only [decide_eq_true_eq] at hcb2
                        have hkn : kk < n := by have := HXY.out; have := HK.out; omega
                        have hki : (kk : Int) < (n : Int) := by omega
                        have hyi : (Y : Int) + 0 < (H : Int) := by omega
                        obtain ⟨Q1, hQ1⟩ : ∃ Q1, Q1 = Q := ⟨_, rfl⟩
                        have hQ1' : Q1 = P + X := by rw [hQ1]; exact HQQ.out
                        have wy : IntKind.i64.wrap (Y : Int) = (Y : Int) := by rw [IntKind.wrap_i64]; have := HXY.out; omega
                        rw [← hQ1] at w1
                        obtain ⟨Q2, hQ2⟩ : ∃ Q2, Q2 = Q1 + 1 := ⟨_, rfl⟩
                        have wz : IntKind.i64.wrap ((Q1 : Int) + 1) = (Q2 : Int) := by rw [IntKind.wrap_i64]; have := HXY.out; omega
                        obtain ⟨Q4, hQ4⟩ : ∃ Q4, Q4 = 4 * Q2 := ⟨_, rfl⟩
                        have w5 : IntKind.i64.wrap (4 * (Q2 : Int)) = (Q4 : Int) := by rw [IntKind.wrap_i64]; have := HXY.out; omega
                        have w6 : IntKind.i64.wrap ((Q4 : Int) + (c : Int)) = (kk : Int) := by rw [IntKind.wrap_i64, hkk]; have := HXY.out; have := HK.out; omega
                        have HKK := Lib.hid (show (tt1 V q X k (T (3 * (P + X) + c))) = giveF (T (3 * (P + X) + c)) kk q 1088421888 by show toF (decide (X + 1 < V)) (T (3 * (P + X) + c)) (k + 4) q 1088421888 = _; rw [hcb, hkk]; rfl)
                        clear hQ1' hQ4 hQ1 hQ2 hkk hcb
                        have a4 := H1.out.1.fa.c 4 _ rfl
                        obtain ⟨es, G1, G2⟩ := H1.out.1.er
                        have q0 := G1.cell hkn
                        have G2k := Lib.hid (G2 kk)
                        obtain ⟨ee, hee⟩ : ∃ ee, ee = es kk := ⟨_, rfl⟩
                        rw [← hee] at q0 G2k
                        clear hee G1 G2
                        have q1 := cell_lt q0; simp only at q1
                        go_upto_region 24 with (first | (go_at_call 7; refine (In_any _ _ _ _).mono ?_; rintro e w' ⟨rfl, rfl⟩; rw [inB_t]; rotate_left; (constructor <;> omega)))
                        refine wp_region_loose 26 (fun _ _ _ => False) (by kernel_rfl) (by kernel_rfl) ?_
                        simp only [List.take_succ_cons, List.take_zero, List.drop_succ_cons, List.drop_zero]
                        iterate 22 (refine loose_wanted rfl (fun K hK => ?_); go_simp; refine hK _ ?_; clear hK K)
                        iterate 1 (refine loose_wanted rfl (fun K hK => ?_); go_simp; refine hK _ ?_; clear hK K)
                        (first | ((with_reducible apply loose_farith); rfl; rfl; rfl; rfl; intro _ _) | ((with_reducible apply loose_up); rfl; rfl; exact Try.underlying46; exact Try.underlying69; intro _ _))
                        rename_i r1 hr1
                        (first | ((with_reducible apply loose_farith); rfl; rfl; rfl; rfl; intro _ _) | ((with_reducible apply loose_up); rfl; rfl; exact Try.underlying46; exact Try.underlying69; intro _ _))
                        rename_i r2 hr2
                        (first | ((with_reducible apply loose_farith); rfl; rfl; rfl; rfl; intro _ _) | ((with_reducible apply loose_up); rfl; rfl; exact Try.underlying46; exact Try.underlying69; intro _ _))
                        rename_i r3 hr3
                        have hR3 : FR .f32 r3 (fop .add .f32 ((T (3 * (P + X) + c)) kk) (fop .quo .f32 (fop .mul .f32 q 1088421888) 1098907648)) := by
                          rw [show floatOfInt .f32 7 = 1088421888 by decide +kernel] at hr1
                          rw [hr1.eq, fop_cn_left, fop_cn_right, fop_cn_right] at hr2
                          rw [hr2.eq, G2k.out.eq] at hr3
                          exact hr3
                        have HR3 := Lib.hid hR3
                        clear hr1 hr2 hr3 hR3
                        refine loose_nil (fun w7 hb7 => ?_)
                        have H7 := Lib.hid (And.intro (H1.out.1.past hb7) (H1.out.2.1.past hb7))
                        have hgt7 : gt < w7.heap.size := H7.out.2.lt
                        have x7 : w7.cell? ⟨ge, kk, none⟩ = some (.float .f32 ee) := (hb7.cell (p := ⟨ge, kk, none⟩) q1).trans q0
                        have y7 : w7.frozen? ⟨ge, kk, none⟩ = false := by obtain ⟨es7, G7, -⟩ := H7.out.1.er; exact G7.frozen _
                        clear hb7 d0 d1 d2 dl a2 a3 a4 al q0 q1 H1
                        go_wp2_with fail
                        go_roundw
                        case rel =>
                          refine ⟨1, _, rfl, Or.inr (Or.inl ⟨rfl, rfl⟩), ?_, H7.out.2.far _ _ (by have := HGT.out; simp; omega)⟩
                          rw [HKK.out]
                          refine H7.out.1.give ((OneB.refl _ _).setCell) (by have := HG.out; omega) (by have := HG.out; omega) (H7.out.1.er.set kk r3 _ ?_ ?_)
                          · unfold giveF; rw [if_pos rfl]; exact HR3.out
                          · intro j hj; unfold giveF; rw [if_neg hj]
                        case measure => simp [intOf]
                      · have HKK := Lib.hid (show (tt1 V q X k (T (3 * (P + X) + c))) = (T (3 * (P + X) + c)) by show toF (decide (X + 1 < V)) (T (3 * (P + X) + c)) (k + 4) q 1088421888 = _; rw [show (decide (X + 1 < V)) = false by simpa using hcb]; rfl)
                        simp only [decide_eq_true_eq] at hcb
                        by_cases hx : 0 ≤ (X : Int) + 1 ∧ (X : Int) + 1 ≤ (V : Int) - 1
                        · exfalso; omega
                        · clear hcb
                          go_wp2_with (first | (go_at_call 7; refine (In_any _ _ _ _).mono ?_; rintro e w' ⟨rfl, rfl⟩; rw [inB_f]; rotate_left; omega))
                          go_roundw
                          case rel => exact ⟨1, _, rfl, Or.inr (Or.inl ⟨rfl, rfl⟩), by rw [HKK.out]; exact H1.out.1, H1.out.2.1⟩
                          case measure => simp [intOf]
                    · have b0 := HR.out.2.c 3 _ rfl; have b1 := HR.out.2.c 4 _ rfl; have b2 := HR.out.2.c 5 _ rfl; have bl := HR.out.2.lt
                      go_upto_region 23 with fail
                      refine wp_world (fun W1 hW1 => ?_)
                      have B1 : Below wr.heap.size wr W1 := by rw [hW1]; (repeat (first | exact Below.refl _ _ | assumption | (refine Below.setCell ?_ (by first | (simp; done) | (simp; omega) | omega) _) | (refine Below.drew ?_) | (refine below_drewN ?_ _) | (refine Below.alloc ?_ (by first | (simp; done) | (simp; omega) | omega) _) | (refine Below.trans ?_ (Below.mono (by assumption) (by first | (simp; done) | (simp; omega) | omega)))))
                      have T1 : Blk W1 wr.heap.size [.int .i64 (-1), .int .i64 1, .int .i64 3] := by rw [hW1]; exact Blk.new _ _ _ _ rfl
                      have H1 := Lib.hid (And.intro (HR.out.1.past B1) (And.intro (HR.out.2.past B1) T1))
                      clear hW1 B1 T1 b0 b1 b2 bl HR
                      generalize wr.heap.size = gb at *
                      have d0 := H1.out.2.2.c 0 _ rfl; have d1 := H1.out.2.2.c 1 _ rfl; have d2 := H1.out.2.2.c 2 _ rfl; have dl := H1.out.2.2.lt
                      have a2 := H1.out.1.fa.c 2 _ rfl; have a3 := H1.out.1.fa.c 3 _ rfl; have al := H1.out.1.fa.lt
                      by_cases hcb : (decide (0 < X) && decide (Y + 1 < H)) = true
                      · obtain ⟨kk, hkk⟩ : ∃ kk, kk = k + 4 * V - 4 := ⟨_, rfl⟩
                        have hcb2 := hcb
                        simp only [Bool.and_eq_true, decide_eq_true_eq] at hcb2
                        have hkn : kk < n := by have := HXY.out; have := HK.out; omega
                        have hki : (kk : Int) < (n : Int) := by omega
                        have hyi : (Y : Int) + 1 < (H : Int) := by omega
                        obtain ⟨Y1, hY1⟩ : ∃ Y1, Y1 = Y + 1 := ⟨_, rfl⟩
                        obtain ⟨P1, hP1⟩ : ∃ P1, P1 = P + V := ⟨_, rfl⟩
                        obtain ⟨Q1, hQ1'⟩ : ∃ Q1, Q1 = P1 + X := ⟨_, rfl⟩
                        have wy : IntKind.i64.wrap ((Y : Int) + 1) = (Y1 : Int) := by rw [IntKind.wrap_i64]; have := HXY.out; omega
                        have hyi1 : (Y1 : Int) < (H : Int) := by omega
                        have wp : IntKind.i64.wrap ((Y1 : Int) * (V : Int)) = (P1 : Int) := by rw [hY1, hP1]; exact_mod_cast wP1
                        have wq : IntKind.i64.wrap ((P1 : Int) + (X : Int)) = (Q1 : Int) := by rw [IntKind.wrap_i64]; have := HXY.out; omega
                        obtain ⟨Q2, hQ2⟩ : ∃ Q2, Q2 = Q1 - 1 := ⟨_, rfl⟩
                        have hQ3 : Q2 + 1 = Q1 := by omega
                        have wz : IntKind.i64.wrap ((Q1 : Int) + -1) = (Q2 : Int) := by rw [IntKind.wrap_i64]; have := HXY.out; omega
                        have wz' : IntKind.i64.wrap ((Q1 : Int) - 1) = (Q2 : Int) := by rw [IntKind.wrap_i64]; have := HXY.out; omega
                        obtain ⟨Q4, hQ4⟩ : ∃ Q4, Q4 = 4 * Q2 := ⟨_, rfl⟩
                        have w5 : IntKind.i64.wrap (4 * (Q2 : Int)) = (Q4 : Int) := by rw [IntKind.wrap_i64]; have := HXY.out; omega
                        have w6 : IntKind.i64.wrap ((Q4 : Int) + (c : Int)) = (kk : Int) := by rw [IntKind.wrap_i64, hkk]; have := HXY.out; have := HK.out; omega
                        have HKK := Lib.hid (show (tt2 V H q X Y k (T (3 * (P + X) + c))) = giveF (tt1 V q X k (T (3 * (P + X) + c))) kk q 1077936128 by show toF (decide (0 < X) && decide (Y + 1 < H)) (tt1 V q X k (T (3 * (P + X) + c))) (k + 4 * V - 4) q 1077936128 = _; rw [hcb, hkk]; rfl)
                        clear hQ1' hQ4 hY1 hP1 hQ2 hQ3 hkk hcb
                        have a4 := H1.out.1.fa.c 4 _ rfl
                        obtain ⟨es, G1, G2⟩ := H1.out.1.er
                        have q0 := G1.cell hkn
                        have G2k := Lib.hid (G2 kk)
                        obtain ⟨ee, hee⟩ : ∃ ee, ee = es kk := ⟨_, rfl⟩
                        rw [← hee] at q0 G2k
                        clear hee G1 G2
                        have q1 := cell_lt q0; simp only at q1
                        go_upto_region 24 with (first | (go_at_call 7; refine (In_any _ _ _ _).mono ?_; rintro e w' ⟨rfl, rfl⟩; rw [inB_t]; rotate_left; (constructor <;> omega)))
                        refine wp_region_loose 26 (fun _ _ _ => False) (by kernel_rfl) (by kernel_rfl) ?_
                        simp only [List.take_succ_cons, List.take_zero, List.drop_succ_cons, List.drop_zero]
                        iterate 22 (refine loose_wanted rfl (fun K hK => ?_); go_simp; refine hK _ ?_; clear hK K)
                        iterate 1 (refine loose_wanted rfl (fun K hK => ?_); go_simp; refine hK _ ?_; clear hK K)
                        (first | ((with_reducible apply loose_farith); rfl; rfl; rfl; rfl; intro _ _) | ((with_reducible apply loose_up); rfl; rfl; exact Try.underlying46; exact Try.underlying69; intro _ _))
                        rename_i r1 hr1
                        (first | ((with_reducible apply loose_farith); rfl; rfl; rfl; rfl; intro _ _) | ((with_reducible apply loose_up); rfl; rfl; exact Try.underlying46; exact Try.underlying69; intro _ _))
                        rename_i r2 hr2
                        (first | ((with_reducible apply loose_farith); rfl; rfl; rfl; rfl; intro _ _) | ((with_reducible apply loose_up); rfl; rfl; exact Try.underlying46; exact Try.underlying69; intro _ _))
                        rename_i r3 hr3
                        have hR3 : FR .f32 r3 (fop .add .f32 ((tt1 V q X k (T (3 * (P + X) + c))) kk) (fop .quo .f32 (fop .mul .f32 q 1077936128) 1098907648)) := by
                          rw [show floatOfInt .f32 3 = 1077936128 by decide +kernel] at hr1
                          rw [hr1.eq, fop_cn_left, fop_cn_right, fop_cn_right] at hr2
                          rw [hr2.eq, G2k.out.eq] at hr3
                          exact hr3
                        have HR3 := Lib.hid hR3
                        clear hr1 hr2 hr3 hR3
                        refine loose_nil (fun w7 hb7 => ?_)
                        have H7 := Lib.hid (And.intro (H1.out.1.past hb7) (H1.out.2.1.past hb7))
                        have hgt7 : gt < w7.heap.size := H7.out.2.lt
                        have x7 : w7.cell? ⟨ge, kk, none⟩ = some (.float .f32 ee) := (hb7.cell (p := ⟨ge, kk, none⟩) q1).trans q0
                        have y7 : w7.frozen? ⟨ge, kk, none⟩ = false := by obtain ⟨es7, G7, -⟩ := H7.out.1.er; exact G7.frozen _
                        clear hb7 d0 d1 d2 dl a2 a3 a4 al q0 q1 H1
                        go_wp2_with fail
                        go_roundw
                        case rel =>
                          refine ⟨2, _, rfl, Or.inr (Or.inr (Or.inl ⟨rfl, rfl⟩)), ?_, H7.out.2.far _ _ (by have := HGT.out; simp; omega)⟩
                          rw [HKK.out]
                          refine H7.out.1.give ((OneB.refl _ _).setCell) (by have := HG.out; omega) (by have := HG.out; omega) (H7.out.1.er.set kk r3 _ ?_ ?_)
                          · unfold giveF; rw [if_pos rfl]; exact HR3.out
                          · intro j hj; unfold giveF; rw [if_neg hj]
                        case measure => simp [intOf]
                      · have HKK := Lib.hid (show (tt2 V H q X Y k (T (3 * (P + X) + c))) = (tt1 V q X k (T (3 * (P + X) + c))) by show toF (decide (0 < X) && decide (Y + 1 < H)) (tt1 V q X k (T (3 * (P + X) + c))) (k + 4 * V - 4) q 1077936128 = _; rw [show (decide (0 < X) && decide (Y + 1 < H)) = false by simpa using hcb]; rfl)
                        simp only [Bool.and_eq_true, decide_eq_true_eq] at hcb
                        by_cases hx : 0 ≤ (X : Int) + (-1) ∧ (X : Int) + (-1) ≤ (V : Int) - 1
                        · have hyi : ¬ (Y : Int) + 1 < (H : Int) := by omega
                          clear hcb
                          go_wp2_with (first | (go_at_call 7; refine (In_any _ _ _ _).mono ?_; rintro e w' ⟨rfl, rfl⟩; rw [inB_t]; rotate_left; (constructor <;> omega)))
                          go_roundw
                          case rel => exact ⟨2, _, rfl, Or.inr (Or.inr (Or.inl ⟨rfl, rfl⟩)), by rw [HKK.out]; exact H1.out.1, H1.out.2.1⟩
                          case measure => simp [intOf]
                        · clear hcb
                          go_wp2_with (first | (go_at_call 7; refine (In_any _ _ _ _).mono ?_; rintro e w' ⟨rfl, rfl⟩; rw [inB_f]; rotate_left; omega))
                          go_roundw
                          case rel => exact ⟨2, _, rfl, Or.inr (Or.inr (Or.inl ⟨rfl, rfl⟩)), by rw [HKK.out]; exact H1.out.1, H1.out.2.1⟩
                          case measure => simp [intOf]
                    · have b0 := HR.out.2.c 6 _ rfl; have b1 := HR.out.2.c 7 _ rfl; have b2 := HR.out.2.c 8 _ rfl; have bl := HR.out.2.lt
                      go_upto_region 23 with fail
                      refine wp_world (fun W1 hW1 => ?_)
                      have B1 : Below wr.heap.size wr W1 := by rw [hW1]; (repeat (first | exact Below.refl _ _ | assumption | (refine Below.setCell ?_ (by first | (simp; done) | (simp; omega) | omega) _) | (refine Below.drew ?_) | (refine below_drewN ?_ _) | (refine Below.alloc ?_ (by first | (simp; done) | (simp; omega) | omega) _) | (refine Below.trans ?_ (Below.mono (by assumption) (by first | (simp; done) | (simp; omega) | omega)))))
                      have T1 : Blk W1 wr.heap.size [.int .i64 0, .int .i64 1, .int .i64 5] := by rw [hW1]; exact Blk.new _ _ _ _ rfl
                      have H1 := Lib.hid (And.intro (HR.out.1.past B1) (And.intro (HR.out.2.past B1) T1))
                      clear hW1 B1 T1 b0 b1 b2 bl HR
                      generalize wr.heap.size = gb at *
                      have d0 := H1.out.2.2.c 0 _ rfl; have d1 := H1.out.2.2.c 1 _ rfl; have d2 := H1.out.2.2.c 2 _ rfl; have dl := H1.out.2.2.lt
                      have a2 := H1.out.1.fa.c 2 _ rfl; have a3 := H1.out.1.fa.c 3 _ rfl; have al := H1.out.1.fa.lt
                      by_cases hcb : (decide (Y + 1 < H)) = true
                      · obtain ⟨kk, hkk⟩ : ∃ kk, kk = k + 4 * V := ⟨_, rfl⟩
                        have hcb2 := hcb
                        simp only [decide_eq_true_eq] at hcb2
                        have hkn : kk < n := by have := HXY.out; have := HK.out; omega
                        have hki : (kk : Int) < (n : Int) := by omega
                        have hyi : (Y : Int) + 1 < (H : Int) := by omega
                        obtain ⟨Y1, hY1⟩ : ∃ Y1, Y1 = Y + 1 := ⟨_, rfl⟩
                        obtain ⟨P1, hP1⟩ : ∃ P1, P1 = P + V := ⟨_, rfl⟩
                        obtain ⟨Q1, hQ1'⟩ : ∃ Q1, Q1 = P1 + X := ⟨_, rfl⟩
                        have wy : IntKind.i64.wrap ((Y : Int) + 1) = (Y1 : Int) := by rw [IntKind.wrap_i64]; have := HXY.out; omega
                        have hyi1 : (Y1 : Int) < (H : Int) := by omega
                        have wp : IntKind.i64.wrap ((Y1 : Int) * (V : Int)) = (P1 : Int) := by rw [hY1, hP1]; exact_mod_cast wP1
                        have wq : IntKind.i64.wrap ((P1 : Int) + (X : Int)) = (Q1 : Int) := by rw [IntKind.wrap_i64]; have := HXY.out; omega
                        have wz : IntKind.i64.wrap (Q1 : Int) = (Q1 : Int) := by rw [IntKind.wrap_i64]; have := HXY.out; omega
                        obtain ⟨Q4, hQ4⟩ : ∃ Q4, Q4 = 4 * Q1 := ⟨_, rfl⟩
                        have w5 : IntKind.i64.wrap (4 * (Q1 : Int)) = (Q4 : Int) := by rw [IntKind.wrap_i64]; have := HXY.out; omega
                        have w6 : IntKind.i64.wrap ((Q4 : Int) + (c : Int)) = (kk : Int) := by rw [IntKind.wrap_i64, hkk]; have := HXY.out; have := HK.out; omega
                        have HKK := Lib.hid (show (tt3 V H q X Y k (T (3 * (P + X) + c))) = giveF (tt2 V H q X Y k (T (3 * (P + X) + c))) kk q 1084227584 by show toF (decide (Y + 1 < H)) (tt2 V H q X Y k (T (3 * (P + X) + c))) (k + 4 * V) q 1084227584 = _; rw [hcb, hkk]; rfl)
                        clear hQ1' hQ4 hY1 hP1 hkk hcb
                        have a4 := H1.out.1.fa.c 4 _ rfl
                        obtain ⟨es, G1, G2⟩ := H1.out.1.er
                        have q0 := G1.cell hkn
                        have G2k := Lib.hid (G2 kk)
                        obtain ⟨ee, hee⟩ : ∃ ee, ee = es kk := ⟨_, rfl⟩
                        rw [← hee] at q0 G2k
                        clear hee G1 G2
                        have q1 := cell_lt q0; simp only at q1
                        go_upto_region 24 with (first | (go_at_call 7; refine (In_any _ _ _ _).mono ?_; rintro e w' ⟨rfl, rfl⟩; rw [inB_t]; rotate_left; (constructor <;> omega)))
                        refine wp_region_loose 26 (fun _ _ _ => False) (by kernel_rfl) (by kernel_rfl) ?_
                        simp only [List.take_succ_cons, List.take_zero, List.drop_succ_cons, List.drop_zero]
                        iterate 22 (refine loose_wanted rfl (fun K hK => ?_); go_simp; refine hK _ ?_; clear hK K)
                        iterate 1 (refine loose_wanted rfl (fun K hK => ?_); go_simp; refine hK _ ?_; clear hK K)
                        (first | ((with_reducible apply loose_farith); rfl; rfl; rfl; rfl; intro _ _) | ((with_reducible apply loose_up); rfl; rfl; exact Try.underlying46; exact Try.underlying69; intro _ _))
                        rename_i r1 hr1
                        (first | ((with_reducible apply loose_farith); rfl; rfl; rfl; rfl; intro _ _) | ((with_reducible apply loose_up); rfl; rfl; exact Try.underlying46; exact Try.underlying69; intro _ _))
                        rename_i r2 hr2
                        (first | ((with_reducible apply loose_farith); rfl; rfl; rfl; rfl; intro _ _) | ((with_reducible apply loose_up); rfl; rfl; exact Try.underlying46; exact Try.underlying69; intro _ _))
                        rename_i r3 hr3
                        have hR3 : FR .f32 r3 (fop .add .f32 ((tt2 V H q X Y k (T (3 * (P + X) + c))) kk) (fop .quo .f32 (fop .mul .f32 q 1084227584) 1098907648)) := by
                          rw [show floatOfInt .f32 5 = 1084227584 by decide +kernel] at hr1
                          rw [hr1.eq, fop_cn_left, fop_cn_right, fop_cn_right] at hr2
                          rw [hr2.eq, G2k.out.eq] at hr3
                          exact hr3
                        have HR3 := Lib.hid hR3
                        clear hr1 hr2 hr3 hR3
                        refine loose_nil (fun w7 hb7 => ?_)
                        have H7 := Lib.hid (And.intro (H1.out.1.past hb7) (H1.out.2.1.past hb7))
                        have hgt7 : gt < w7.heap.size := H7.out.2.lt
                        have x7 : w7.cell? ⟨ge, kk, none⟩ = some (.float .f32 ee) := (hb7.cell (p := ⟨ge, kk, none⟩) q1).trans q0
                        have y7 : w7.frozen? ⟨ge, kk, none⟩ = false := by obtain ⟨es7, G7, -⟩ := H7.out.1.er; exact G7.frozen _
                        clear hb7 d0 d1 d2 dl a2 a3 a4 al q0 q1 H1
                        go_wp2_with fail
                        go_roundw
                        case rel =>
                          refine ⟨3, _, rfl, Or.inr (Or.inr (Or.inr (Or.inl ⟨rfl, rfl⟩))), ?_, H7.out.2.far _ _ (by have := HGT.out; simp; omega)⟩
                          rw [HKK.out]
                          refine H7.out.1.give ((OneB.refl _ _).setCell) (by have := HG.out; omega) (by have := HG.out; omega) (H7.out.1.er.set kk r3 _ ?_ ?_)
                          · unfold giveF; rw [if_pos rfl]; exact HR3.out
                          · intro j hj; unfold giveF; rw [if_neg hj]
                        case measure => simp [intOf]
                      · have HKK := Lib.hid (show (tt3 V H q X Y k (T (3 * (P + X) + c))) = (tt2 V H q X Y k (T (3 * (P + X) + c))) by show toF (decide (Y + 1 < H)) (tt2 V H q X Y k (T (3 * (P + X) + c))) (k + 4 * V) q 1084227584 = _; rw [show (decide (Y + 1 < H)) = false by simpa using hcb]; rfl)
                        simp only [decide_eq_true_eq] at hcb
                        by_cases hx : 0 ≤ (X : Int) + 0 ∧ (X : Int) + 0 ≤ (V : Int) - 1
                        · have hyi : ¬ (Y : Int) + 1 < (H : Int) := by omega
                          clear hcb
                          go_wp2_with (first | (go_at_call 7; refine (In_any _ _ _ _).mono ?_; rintro e w' ⟨rfl, rfl⟩; rw [inB_t]; rotate_left; (constructor <;> omega)))
                          go_roundw
                          case rel => exact ⟨3, _, rfl, Or.inr (Or.inr (Or.inr (Or.inl ⟨rfl, rfl⟩))), by rw [HKK.out]; exact H1.out.1, H1.out.2.1⟩
                          case measure => simp [intOf]
                        · exfalso; omega
                    · have b0 := HR.out.2.c 9 _ rfl; have b1 := HR.out.2.c 10 _ rfl; have b2 := HR.out.2.c 11 _ rfl; have bl := HR.out.2.lt
                      go_upto_region 23 with fail
                      refine wp_world (fun W1 hW1 => ?_)
                      have B1 : Below wr.heap.size wr W1 := by rw [hW1]; (repeat (first | exact Below.refl _ _ | assumption | (refine Below.setCell ?_ (by first | (simp; done) | (simp; omega) | omega) _) | (refine Below.drew ?_) | (refine below_drewN ?_ _) | (refine Below.alloc ?_ (by first | (simp; done) | (simp; omega) | omega) _) | (refine Below.trans ?_ (Below.mono (by assumption) (by first | (simp; done) | (simp; omega) | omega)))))
                      have T1 : Blk W1 wr.heap.size [.int .i64 1, .int .i64 1, .int .i64 1] := by rw [hW1]; exact Blk.new _ _ _ _ rfl
                      have H1 := Lib.hid (And.intro (HR.out.1.past B1) (And.intro (HR.out.2.past B1) T1))
                      clear hW1 B1 T1 b0 b1 b2 bl HR
                      generalize wr.heap.size = gb at *
                      have d0 := H1.out.2.2.c 0 _ rfl; have d1 := H1.out.2.2.c 1 _ rfl; have d2 := H1.out.2.2.c 2 _ rfl; have dl := H1.out.2.2.lt
                      have a2 := H1.out.1.fa.c 2 _ rfl; have a3 := H1.out.1.fa.c 3 _ rfl; have al := H1.out.1.fa.lt
                      by_cases hcb : (decide (X + 1 < V) && decide (Y + 1 < H)) = true
                      · obtain ⟨kk, hkk⟩ : ∃ kk, kk = k + 4 * V + 4 := ⟨_, rfl⟩
                        have hcb2 := hcb
                        simp only [Bool.and_eq_true, decide_eq_true_eq] at hcb2
                        have hkn : kk < n := by have := HXY.out; have := HK.out; omega
                        have hki : (kk : Int) < (n : Int) := by omega
                        have hyi : (Y : Int) + 1 < (H : Int) := by omega
                        obtain ⟨Y1, hY1⟩ : ∃ Y1, Y1 = Y + 1 := ⟨_, rfl⟩
                        obtain ⟨P1, hP1⟩ : ∃ P1, P1 = P + V := ⟨_, rfl⟩
                        obtain ⟨Q1, hQ1'⟩ : ∃ Q1, Q1 = P1 + X := ⟨_, rfl⟩
                        have wy : IntKind.i64.wrap ((Y : Int) + 1) = (Y1 : Int) := by rw [IntKind.wrap_i64]; have := HXY.out; omega
                        have hyi1 : (Y1 : Int) < (H : Int) := by omega
                        have wp : IntKind.i64.wrap ((Y1 : Int) * (V : Int)) = (P1 : Int) := by rw [hY1, hP1]; exact_mod_cast wP1
                        have wq : IntKind.i64.wrap ((P1 : Int) + (X : Int)) = (Q1 : Int) := by rw [IntKind.wrap_i64]; have := HXY.out; omega
                        obtain ⟨Q2, hQ2⟩ : ∃ Q2, Q2 = Q1 + 1 := ⟨_, rfl⟩
                        have wz : IntKind.i64.wrap ((Q1 : Int) + 1) = (Q2 : Int) := by rw [IntKind.wrap_i64]; have := HXY.out; omega
                        obtain ⟨Q4, hQ4⟩ : ∃ Q4, Q4 = 4 * Q2 := ⟨_, rfl⟩
                        have w5 : IntKind.i64.wrap (4 * (Q2 : Int)) = (Q4 : Int) := by rw [IntKind.wrap_i64]; have := HXY.out; omega
                        have w6 : IntKind.i64.wrap ((Q4 : Int) + (c : Int)) = (kk : Int) := by rw [IntKind.wrap_i64, hkk]; have := HXY.out; have := HK.out; omega
                        have HKK := Lib.hid (show (tt4 V H q X Y k (T (3 * (P + X) + c))) = giveF (tt3 V H q X Y k (T (3 * (P + X) + c))) kk q 1065353216 by show toF (decide (X + 1 < V) && decide (Y + 1 < H)) (tt3 V H q X Y k (T (3 * (P + X) + c))) (k + 4 * V + 4) q 1065353216 = _; rw [hcb, hkk]; rfl)
                        clear hQ1' hQ4 hY1 hP1 hQ2 hkk hcb
                        have a4 := H1.out.1.fa.c 4 _ rfl
                        obtain ⟨es, G1, G2⟩ := H1.out.1.er
                        have q0 := G1.cell hkn
                        have G2k := Lib.hid (G2 kk)
                        obtain ⟨ee, hee⟩ : ∃ ee, ee = es kk := ⟨_, rfl⟩
                        rw [← hee] at q0 G2k
                        clear hee G1 G2
                        have q1 := cell_lt q0; simp only at q1
                        go_upto_region 24 with (first | (go_at_call 7; refine (In_any _ _ _ _).mono ?_; rintro e w' ⟨rfl, rfl⟩; rw [inB_t]; rotate_left; (constructor <;> omega)))
                        refine wp_region_loose 26 (fun _ _ _ => False) (by kernel_rfl) (by kernel_rfl) ?_
                        simp only [List.take_succ_cons, List.take_zero, List.drop_succ_cons, List.drop_zero]
                        iterate 22 (refine loose_wanted rfl (fun K hK => ?_); go_simp; refine hK _ ?_; clear hK K)
                        iterate 1 (refine loose_wanted rfl (fun K hK => ?_); go_simp; refine hK _ ?_; clear hK K)
                        (first | ((with_reducible apply loose_farith); rfl; rfl; rfl; rfl; intro _ _) | ((with_reducible apply loose_up); rfl; rfl; exact Try.underlying46; exact Try.underlying69; intro _ _))
                        rename_i r1 hr1
                        (first | ((with_reducible apply loose_farith); rfl; rfl; rfl; rfl; intro _ _) | ((with_reducible apply loose_up); rfl; rfl; exact Try.underlying46; exact Try.underlying69; intro _ _))
                        rename_i r2 hr2
                        (first | ((with_reducible apply loose_farith); rfl; rfl; rfl; rfl; intro _ _) | ((with_reducible apply loose_up); rfl; rfl; exact Try.underlying46; exact Try.underlying69; intro _ _))
                        rename_i r3 hr3
                        have hR3 : FR .f32 r3 (fop .add .f32 ((tt3 V H q X Y k (T (3 * (P + X) + c))) kk) (fop .quo .f32 (fop .mul .f32 q 1065353216) 1098907648)) := by
                          rw [show floatOfInt .f32 1 = 1065353216 by decide +kernel] at hr1
                          rw [hr1.eq, fop_cn_left, fop_cn_right, fop_cn_right] at hr2
                          rw [hr2.eq, G2k.out.eq] at hr3
                          exact hr3
                        have HR3 := Lib.hid hR3
                        clear hr1 hr2 hr3 hR3
                        refine loose_nil (fun w7 hb7 => ?_)
                        have H7 := Lib.hid (And.intro (H1.out.1.past hb7) (H1.out.2.1.past hb7))
                        have hgt7 : gt < w7.heap.size := H7.out.2.lt
                        have x7 : w7.cell? ⟨ge, kk, none⟩ = some (.float .f32 ee) := (hb7.cell (p := ⟨ge, kk, none⟩) q1).trans q0
                        have y7 : w7.frozen? ⟨ge, kk, none⟩ = false := by obtain ⟨es7, G7, -⟩ := H7.out.1.er; exact G7.frozen _
                        clear hb7 d0 d1 d2 dl a2 a3 a4 al q0 q1 H1
                        go_wp2_with fail
                        go_roundw
                        case rel =>
                          refine ⟨4, _, rfl, Or.inr (Or.inr (Or.inr (Or.inr ⟨rfl, rfl⟩))), ?_, H7.out.2.far _ _ (by have := HGT.out; simp; omega)⟩
                          rw [HKK.out]
                          refine H7.out.1.give ((OneB.refl _ _).setCell) (by have := HG.out; omega) (by have := HG.out; omega) (H7.out.1.er.set kk r3 _ ?_ ?_)
                          · unfold giveF; rw [if_pos rfl]; exact HR3.out
                          · intro j hj; unfold giveF; rw [if_neg hj]
                        case measure => simp [intOf]
                      · have HKK := Lib.hid (show (tt4 V H q X Y k (T (3 * (P + X) + c))) = (tt3 V H q X Y k (T (3 * (P + X) + c))) by show toF (decide (X + 1 < V) && decide (Y + 1 < H)) (tt3 V H q X Y k (T (3 * (P + X) + c))) (k + 4 * V + 4) q 1065353216 = _; rw [show (decide (X + 1 < V) && decide (Y + 1 < H)) = false by simpa using hcb]; rfl)
                        simp only [Bool.and_eq_true, decide_eq_true_eq] at hcb
                        by_cases hx : 0 ≤ (X : Int) + 1 ∧ (X : Int) + 1 ≤ (V : Int) - 1
                        · have hyi : ¬ (Y : Int) + 1 < (H : Int) := by omega
                          clear hcb
                          go_wp2_with (first | (go_at_call 7; refine (In_any _ _ _ _).mono ?_; rintro e w' ⟨rfl, rfl⟩; rw [inB_t]; rotate_left; (constructor <;> omega)))
                          go_roundw
                          case rel => exact ⟨4, _, rfl, Or.inr (Or.inr (Or.inr (Or.inr ⟨rfl, rfl⟩))), by rw [HKK.out]; exact H1.out.1, H1.out.2.1⟩
                          case measure => simp [intOf]
                        · clear hcb
                          go_wp2_with (first | (go_at_call 7; refine (In_any _ _ _ _).mono ?_; rintro e w' ⟨rfl, rfl⟩; rw [inB_f]; rotate_left; omega))
                          go_roundw
                          case rel => exact ⟨4, _, rfl, Or.inr (Or.inr (Or.inr (Or.inr ⟨rfl, rfl⟩))), by rw [HKK.out]; exact H1.out.1, H1.out.2.1⟩
                          case measure => simp [intOf]
                    · go_wp2_with fail
                      go_roundw
                      case rel =>
                        refine ⟨c + 1, by omega, by go_num, ?_⟩
                        obtain ⟨e1, e2⟩ := HK.out
                        have e0 := HP.out
                        rw [show 3 * (P + X) + min (c + 1) 3 = 3 * (Y * V + X) + c + 1 by rw [← e0]; omega, HT.out, stT_succ V H d fs X Y c hXV hcl, ← HT.out, tt_step, ← e0]
                        have eQ : q = errF (sumF fs (T (3 * (P + X) + c)) (4 * (P + X) + c)) d := by rw [HQ.out, HS.out, e2, e1]
                        rw [← eQ]
                        have e3 : k = 4 * (P + X) + c := by rw [e2, e1]
                        rw [← e3]
                        exact HR.out.1
                      case measure => simp [intOf]; omega
                  --4>
            · have hce : ¬ (c : Int) < 4 := by omega
              have HM2 := Lib.hid (show DeR w wr [.int .i64 x, .int .i64 y, .int .i64 V, .int .i64 H, .slice (some ⟨b, off, none⟩) n cap] ge gl n (T (3 * (Y * V + (X + 1)))) (dfO Z (4 * (Y * V + (X + 1))) false 0) by
                have e0 := HP.out
                have hce4 : c = 4 := by omega
                have e : 3 * (P + X) + min c 3 = 3 * (Y * V + (X + 1)) := by rw [← e0]; omega
                have e' : 4 * (P + X) + c = 4 * (Y * V + (X + 1)) := by rw [← e0]; omega
                have h := HM.out
                rw [e, e'] at h
                exact h)
              go_wp2_with fail
              go_roundw
              case rel => exact ⟨X + 1, by omega, by go_num, HM2.out⟩
              case measure => simp [intOf]; omega
        · have hXi : ¬ (X : Int) < (V : Int) := by omega
          have hXe : X = V := by omega
          have HM := Lib.hid (show DeR w wr [.int .i64 x, .int .i64 y, .int .i64 V, .int .i64 H, .slice (some ⟨b, off, none⟩) n cap] ge gl n (T (3 * ((Y + 1) * V))) (dfO Z (4 * ((Y + 1) * V)) false 0) by have e : Y * V + X = (Y + 1) * V := (by rw [hXe, Nat.add_mul]; omega); have h := HM2.out; rw [e] at h; exact h)
          go_wp2_with fail
          go_roundw
          case rel => exact ⟨Y + 1, by omega, by go_num, HM.out⟩
          case measure => simp [intOf]; omega
    · have hYi : ¬ (Y : Int) < (H : Int) := by omega
      have hYe : Y = H := by omega
      have HM2 := Lib.hid (show DeR w wr [.int .i64 x, .int .i64 y, .int .i64 V, .int .i64 H, .slice (some ⟨b, off, none⟩) n cap] ge gl n (T (3 * (Y * V))) (dfO Z n false 0) by have e : 4 * (Y * V) = n := (by rw [HN.out, hYe]); have h := HM.out; rw [e] at h; exact h)
      go_wp2_with fail
      go_ret
      refine ⟨gl, rfl, by have := HG.out; omega, fun i hi => ?_, HM2.out.bel⟩
      have := HM2.out.lv.cell hi
      rw [this]
      simp [dfO, hi]
end Go.Proofs.Ythphcnchbogheaa
