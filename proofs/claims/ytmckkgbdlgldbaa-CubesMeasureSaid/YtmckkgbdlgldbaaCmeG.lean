/- Greys of a cube: cube.Grey. Conditions: what each theorem names. -/
import Derived.Test.YtmckkgbdlgldbaaCmeF
namespace Go.Proofs.Ytmckkgbdlgldbaa
open Go Go.RowKit
/-- Whether an entry of the grey axis is a grey number. -/
def greyN (S : Nat) (fs : Nat → Nat) (k : Nat) : Bool := isNum .f32 (fs (3 * enI S k k k)) && (decide (cn .f32 (fs (3 * enI S k k k)) = cn .f32 (fs (3 * enI S k k k + 1))) && decide (cn .f32 (fs (3 * enI S k k k)) = cn .f32 (fs (3 * enI S k k k + 2))))
/-- .. and the first ones. -/
def greyF (S : Nat) (fs : Nat → Nat) : Nat → Bool
  | 0 => true
  | k + 1 => greyF S fs k && greyN S fs k
theorem greyF_false {S : Nat} {fs : Nat → Nat} {k : Nat} (h : greyN S fs k = false) : ∀ m, k < m → greyF S fs m = false := by
  intro m
  induction m with
  | zero => intro h; omega
  | succ m ih =>
    intro hm
    show (greyF S fs m && greyN S fs m) = false
    rcases (show k < m ∨ k = m by omega) with h1 | rfl
    · rw [ih h1]; rfl
    · rw [h, Bool.and_false]
theorem isNum_of_cn {a b : Nat} (h : cn .f32 a = cn .f32 b) (ha : isNum .f32 a = true) : isNum .f32 b = true := by
  have h1 : cn .f32 a = a := cn_of_not (isNum_not_nan ha)
  rw [h1] at h
  have hb : isN .f32 b = false := by rw [← isN_cn, ← h]; exact isNum_not_nan ha
  rw [cn_of_not hb] at h
  rw [← h]; exact ha
def GreyPsi (an : Bool) (f : FuncId) (args : Array Value) (u : Value) : Prop := (f = 133 ∧ u = .bool an) ∨ (f = 140 ∧ u = .int .u32 (cn .f32 (argF args 0)))
theorem grey_psi1 {an : Bool} {args : Array Value} {u : Value} : GreyPsi an 133 args u ↔ u = .bool an := by
  have h : (133 : FuncId) ≠ 140 := by decide
  unfold GreyPsi; simp [h]
theorem grey_psi2 {an : Bool} {b : Nat} {u : Value} : GreyPsi an 140 #[.float .f32 b] u ↔ u = .int .u32 (cn .f32 b) := by
  have h : (140 : FuncId) ≠ 133 := by decide
  unfold GreyPsi; simp [h, argF_0]
set_option maxRecDepth 100000 in
set_option maxHeartbeats 3200000 in
theorem Grey_yes (S lo hi b off n cap : Nat) (fs : Nat → Nat) (w : World) (he : cubErr S lo hi n = 0) (hcap : n ≤ cap) (hc : Row w b off n fs) :
    Calls Try.prog 55 #[.agg #[.int .i64 S, .float .f32 lo, .float .f32 hi, .slice (some ⟨b, off, none⟩) n cap]] w fun e w' =>
      e = .returned (.tuple #[.bool (greyF S fs S), .int .i64 0]) ∧ Below w.heap.size w w' := by
  obtain ⟨hS, hS0, hn, hpos, hnb⟩ := cub_ok_nat he
  have hbw : b < w.heap.size := hc.lt (by omega)
  have HEN : Hid (∀ k w', k < S → Below w.heap.size w w' → Calls Try.prog 124 #[.agg #[.int .i64 S, .float .f32 lo, .float .f32 hi, .slice (some ⟨b, off, none⟩) n cap], .int .i64 k, .int .i64 k, .int .i64 k] w' fun e w'' =>
      e = .returned (.agg #[.float .f32 (fs (3 * enI S k k k)), .float .f32 (fs (3 * enI S k k k + 1)), .float .f32 (fs (3 * enI S k k k + 2))]) ∧ Below w'.heap.size w' w'') := fun k w' hk hb => entry_any S k k k lo hi b off n cap fs w' hS hk hk hk hn hcap (hc.below hb hbw)
  have HE := Lib.hid he; have HS := Lib.hid hS
  clear he hc hbw hn hpos hnb hcap
  go_enter Try.func55, Try.ntmps55
  go_upto_region 1 with fail
  refine wp_world (fun W hW => ?_)
  have A0 : Blk W w.heap.size [.int .i64 S, .float .f32 lo, .float .f32 hi, .slice (some ⟨b, off, none⟩) n cap] := by rw [hW]; exact Blk.new _ _ _ _ rfl
  have BW : Below w.heap.size w W := by rw [hW]; (repeat (first | exact Below.refl _ _ | assumption | (refine Below.setCell ?_ (by first | (simp; done) | (simp; omega) | omega) _) | (refine Below.drew ?_) | (refine below_drewN ?_ _) | (refine Below.alloc ?_ (by first | (simp; done) | (simp; omega) | omega) _) | (refine Below.trans ?_ (Below.mono (by assumption) (by first | (simp; done) | (simp; omega) | omega)))))
  have a0 := A0.c 0 _ rfl; have a1 := A0.c 1 _ rfl; have a2 := A0.c 2 _ rfl; have a3 := A0.c 3 _ rfl; have al := A0.lt
  have H0 := Lib.hid (And.intro A0 BW)
  clear hW A0 BW
  go_wp2_with fail
  refine (CuCheck_any _ _ _ _ _ _ _).mono ?_
  rintro e w2 ⟨rfl, hb2⟩
  rw [HE.out]
  have H2 := Lib.hid (And.intro (H0.out.1.past hb2) (H0.out.2.trans (hb2.mono H0.out.2.size)))
  clear hb2 a0 a1 a2 a3 al H0
  have a0 := H2.out.1.c 0 _ rfl; have al := H2.out.1.lt
  go_wp2_with fail
  clear a0 al
  go_loopw [14] (fun s14 wr => ∃ k : Nat, k ≤ S ∧ s14 = .int .i64 k ∧ greyF S fs k = true ∧ Blk wr w.heap.size [.int .i64 S, .float .f32 lo, .float .f32 hi, .slice (some ⟨b, off, none⟩) n cap] ∧ Below w.heap.size w wr) (fun s14 _ => S - (intOf s14).toNat)
  case atStart => exact ⟨0, Nat.zero_le _, rfl, rfl, H2.out⟩
  case round =>
    obtain ⟨k, hk, rfl, hg, hA, hB⟩ := hrel
    have HG := Lib.hid (And.intro hg (And.intro hA hB))
    have a0 := hA.c 0 _ rfl; have a1 := hA.c 1 _ rfl; have a2 := hA.c 2 _ rfl; have a3 := hA.c 3 _ rfl; have al := hA.lt
    clear hg hA hB H2
    by_cases hkS : k < S
    · have hkS' : (k : Int) < (S : Int) := by omega
      go_wp2_with fail
      refine (HEN.out k wr hkS HG.out.2.2).mono ?_
      rintro e w3 ⟨rfl, hb3⟩
      have H3 := Lib.hid (And.intro (HG.out.2.1.past hb3) (HG.out.2.2.trans (hb3.mono HG.out.2.2.size)))
      clear a0 a1 a2 a3 al hb3
      obtain ⟨q, hq⟩ : ∃ q : Nat → Nat, q = fun m => fs (3 * enI S k k k + m) := ⟨_, rfl⟩
      have hq0 : fs (3 * enI S k k k) = q 0 := by rw [hq]; rfl
      have hq1 : fs (3 * enI S k k k + 1) = q 1 := by rw [hq]
      have hq2 : fs (3 * enI S k k k + 2) = q 2 := by rw [hq]
      obtain ⟨GN, hGN⟩ : ∃ g, g = greyN S fs k := ⟨_, rfl⟩
      have HGN := Lib.hid hGN
      have HP := Lib.hid (show GN = (isNum .f32 (q 0) && (decide (cn .f32 (q 0) = cn .f32 (q 1)) && decide (cn .f32 (q 0) = cn .f32 (q 2)))) by rw [hGN]; unfold greyN; rw [hq0, hq1, hq2])
      rw [hq0, hq1, hq2]
      clear hq hq0 hq1 hq2 hGN
      go_upto_region 8 with fail
      refine wp_world (fun W4 hW4 => ?_)
      have P4 : Blk W4 w3.heap.size [.float .f32 (q 0), .float .f32 (q 1), .float .f32 (q 2)] := by rw [hW4]; exact Blk.new _ _ _ _ rfl
      have B4 : Below w3.heap.size w3 W4 := by rw [hW4]; (repeat (first | exact Below.refl _ _ | assumption | (refine Below.setCell ?_ (by first | (simp; done) | (simp; omega) | omega) _) | (refine Below.drew ?_) | (refine below_drewN ?_ _) | (refine Below.alloc ?_ (by first | (simp; done) | (simp; omega) | omega) _) | (refine Below.trans ?_ (Below.mono (by assumption) (by first | (simp; done) | (simp; omega) | omega)))))
      have H4 := Lib.hid (And.intro (H3.out.1.past B4) (H3.out.2.trans (B4.mono H3.out.2.size)))
      have p0 := P4.c 0 _ rfl; have p1 := P4.c 1 _ rfl; have p2 := P4.c 2 _ rfl; have pl := P4.lt
      clear hW4 B4 P4 H3
      generalize w3.heap.size = nv at *
      have HA3 := Lib.hid (fun w' (hb : Below W4.heap.size W4 w') => All3_any nv 0 3 (q 0) (q 1) (q 2) w' ((hb.cell (p := ⟨nv, 0, none⟩) pl).trans p0) ((hb.cell (p := ⟨nv, 1, none⟩) pl).trans p1) ((hb.cell (p := ⟨nv, 2, none⟩) pl).trans p2) : ∀ w', Below W4.heap.size W4 w' → _)
      go_cut [42] (fun s42 wx => s42 = .bool (!GN) ∧ Below W4.heap.size W4 wx)
      case first =>
        have hP := HP.out
        by_cases hall : allNum [q 0, q 1, q 2] = true
        · have h0 : isNum .f32 (q 0) = true := by unfold allNum at hall; revert hall; cases isNum .f32 (q 0) <;> simp
          rw [h0, Bool.true_and] at hP
          by_cases h1 : cn .f32 (q 0) = cn .f32 (q 1)
          · have e1 : ((cn .f32 (q 0) : Int) != (cn .f32 (q 1) : Int)) = false := by rw [h1]; simp
            rw [decide_eq_true h1, Bool.true_and] at hP
            obtain ⟨g, hg⟩ : ∃ g, g = decide (cn .f32 (q 0) = cn .f32 (q 2)) := ⟨_, rfl⟩
            have e2 : ((cn .f32 (q 0) : Int) != (cn .f32 (q 2) : Int)) = !g := by
              rw [hg]
              by_cases h : cn .f32 (q 0) = cn .f32 (q 2)
              · rw [decide_eq_true h, h]; simp
              · rw [decide_eq_false h]; simp; omega
            rw [← hg] at hP
            have HAL := Lib.hid hall; have HGV := Lib.hid hP
            clear h0 h1 hg hall hP
            refine wp_region_loose 20 (GreyPsi (allNum [q 0, q 1, q 2])) (by kernel_rfl) (by kernel_rfl) ?_
            simp only [List.take_succ_cons, List.take_zero, List.drop_succ_cons, List.drop_zero]
            iterate 1 (refine loose_wanted rfl (fun K hK => ?_); go_simp; refine hK _ ?_; clear hK K)
            refine loose_wanted rfl (fun K1 hK => ?_)
            go_simp
            refine ⟨fun p => (HA3.out p.w p.h).mono ?_, ?_⟩
            · rintro e w' ⟨rfl, rfl⟩
              exact ⟨_, rfl, grey_psi1.2 rfl, p.h⟩
            intro u hu
            obtain rfl := grey_psi1.1 hu
            refine hK _ ?_
            clear hK K1 hu
            rw [HAL.out]
            iterate 4 (refine loose_wanted rfl (fun K hK => ?_); go_simp; refine hK _ ?_; clear hK K)
            refine loose_wanted rfl (fun K1 hK => ?_)
            go_simp
            refine ⟨fun p => (Bits_any _ _).mono ?_, ?_⟩
            · rintro e w' ⟨rfl, rfl⟩
              exact ⟨_, rfl, grey_psi2.2 rfl, p.h⟩
            intro u hu
            obtain rfl := grey_psi2.1 hu
            refine hK _ ?_
            clear hK K1 hu
            iterate 2 (refine loose_wanted rfl (fun K hK => ?_); go_simp; refine hK _ ?_; clear hK K)
            refine loose_wanted rfl (fun K1 hK => ?_)
            go_simp
            refine ⟨fun p => (Bits_any _ _).mono ?_, ?_⟩
            · rintro e w' ⟨rfl, rfl⟩
              exact ⟨_, rfl, grey_psi2.2 rfl, p.h⟩
            intro u hu
            obtain rfl := grey_psi2.1 hu
            refine hK _ ?_
            clear hK K1 hu
            iterate 5 (refine loose_wanted rfl (fun K hK => ?_); go_simp; refine hK _ ?_; clear hK K)
            refine loose_wanted rfl (fun K1 hK => ?_)
            go_simp
            refine ⟨fun p => (Bits_any _ _).mono ?_, ?_⟩
            · rintro e w' ⟨rfl, rfl⟩
              exact ⟨_, rfl, grey_psi2.2 rfl, p.h⟩
            intro u hu
            obtain rfl := grey_psi2.1 hu
            refine hK _ ?_
            clear hK K1 hu
            iterate 2 (refine loose_wanted rfl (fun K hK => ?_); go_simp; refine hK _ ?_; clear hK K)
            refine loose_wanted rfl (fun K1 hK => ?_)
            go_simp
            refine ⟨fun p => (Bits_any _ _).mono ?_, ?_⟩
            · rintro e w' ⟨rfl, rfl⟩
              exact ⟨_, rfl, grey_psi2.2 rfl, p.h⟩
            intro u hu
            obtain rfl := grey_psi2.1 hu
            refine hK _ ?_
            clear hK K1 hu
            iterate 1 (refine loose_wanted rfl (fun K hK => ?_); go_simp; refine hK _ ?_; clear hK K)
            refine loose_nil (fun w5 hb5 => ?_)
            go_wp2_with fail
            go_meet
            exact ⟨by rw [HGV.out] <;> first | rfl | simp, hb5⟩
          · have e1 : ((cn .f32 (q 0) : Int) != (cn .f32 (q 1) : Int)) = true := by simp; omega
            rw [decide_eq_false h1, Bool.false_and] at hP
            have HAL := Lib.hid hall; have HGV := Lib.hid hP
            clear h0 h1 hall hP
            refine wp_region_loose 20 (GreyPsi (allNum [q 0, q 1, q 2])) (by kernel_rfl) (by kernel_rfl) ?_
            simp only [List.take_succ_cons, List.take_zero, List.drop_succ_cons, List.drop_zero]
            iterate 1 (refine loose_wanted rfl (fun K hK => ?_); go_simp; refine hK _ ?_; clear hK K)
            refine loose_wanted rfl (fun K1 hK => ?_)
            go_simp
            refine ⟨fun p => (HA3.out p.w p.h).mono ?_, ?_⟩
            · rintro e w' ⟨rfl, rfl⟩
              exact ⟨_, rfl, grey_psi1.2 rfl, p.h⟩
            intro u hu
            obtain rfl := grey_psi1.1 hu
            refine hK _ ?_
            clear hK K1 hu
            rw [HAL.out]
            iterate 4 (refine loose_wanted rfl (fun K hK => ?_); go_simp; refine hK _ ?_; clear hK K)
            refine loose_wanted rfl (fun K1 hK => ?_)
            go_simp
            refine ⟨fun p => (Bits_any _ _).mono ?_, ?_⟩
            · rintro e w' ⟨rfl, rfl⟩
              exact ⟨_, rfl, grey_psi2.2 rfl, p.h⟩
            intro u hu
            obtain rfl := grey_psi2.1 hu
            refine hK _ ?_
            clear hK K1 hu
            iterate 2 (refine loose_wanted rfl (fun K hK => ?_); go_simp; refine hK _ ?_; clear hK K)
            refine loose_wanted rfl (fun K1 hK => ?_)
            go_simp
            refine ⟨fun p => (Bits_any _ _).mono ?_, ?_⟩
            · rintro e w' ⟨rfl, rfl⟩
              exact ⟨_, rfl, grey_psi2.2 rfl, p.h⟩
            intro u hu
            obtain rfl := grey_psi2.1 hu
            refine hK _ ?_
            clear hK K1 hu
            iterate 3 (refine loose_wanted rfl (fun K hK => ?_); go_simp; refine hK _ ?_; clear hK K)
            iterate 7 ((with_reducible refine loose_pass (by kernel_rfl) (fun K hK => ?_)); go_simp; refine hK _ ?_; clear hK K)
            refine loose_nil (fun w5 hb5 => ?_)
            go_wp2_with fail
            go_meet
            exact ⟨by rw [HGV.out] <;> first | rfl | simp, hb5⟩
        · have hall' : allNum [q 0, q 1, q 2] = false := by simpa using hall
          have hx : (isNum .f32 (q 0) && (decide (cn .f32 (q 0) = cn .f32 (q 1)) && decide (cn .f32 (q 0) = cn .f32 (q 2)))) = false := by
            cases h0 : isNum .f32 (q 0)
            · rfl
            · by_cases h1 : cn .f32 (q 0) = cn .f32 (q 1)
              · by_cases h2 : cn .f32 (q 0) = cn .f32 (q 2)
                · exfalso; apply hall; simp [allNum, h0, isNum_of_cn h1 h0, isNum_of_cn h2 h0]
                · simp [h2]
              · simp [h1]
          rw [hx] at hP
          have HAL := Lib.hid hall'; have HGV := Lib.hid hP
          clear hall hall' hx hP
          refine wp_region_loose 20 (GreyPsi (allNum [q 0, q 1, q 2])) (by kernel_rfl) (by kernel_rfl) ?_
          simp only [List.take_succ_cons, List.take_zero, List.drop_succ_cons, List.drop_zero]
          iterate 1 (refine loose_wanted rfl (fun K hK => ?_); go_simp; refine hK _ ?_; clear hK K)
          refine loose_wanted rfl (fun K1 hK => ?_)
          go_simp
          refine ⟨fun p => (HA3.out p.w p.h).mono ?_, ?_⟩
          · rintro e w' ⟨rfl, rfl⟩
            exact ⟨_, rfl, grey_psi1.2 rfl, p.h⟩
          intro u hu
          obtain rfl := grey_psi1.1 hu
          refine hK _ ?_
          clear hK K1 hu
          rw [HAL.out]
          iterate 2 (refine loose_wanted rfl (fun K hK => ?_); go_simp; refine hK _ ?_; clear hK K)
          iterate 7 ((with_reducible refine loose_pass (by kernel_rfl) (fun K hK => ?_)); go_simp; refine hK _ ?_; clear hK K)
          iterate 2 (refine loose_wanted rfl (fun K hK => ?_); go_simp; refine hK _ ?_; clear hK K)
          iterate 7 ((with_reducible refine loose_pass (by kernel_rfl) (fun K hK => ?_)); go_simp; refine hK _ ?_; clear hK K)
          refine loose_nil (fun w5 hb5 => ?_)
          go_wp2_with fail
          go_meet
          exact ⟨by rw [HGV.out] <;> first | rfl | simp, hb5⟩
      case rest =>
        obtain ⟨rfl, hb5⟩ := hcut
        have HR5 := Lib.hid (And.intro (H4.out.1.past hb5) (H4.out.2.trans (hb5.mono H4.out.2.size)))
        clear hb5 p0 p1 p2 pl H4 HA3 HP
        cases GN
        · have HGN := Lib.hid HGN.out.symm
          go_wp2_with fail
          refine bodyPost_ret (v := .tuple #[.bool false, .int .i64 0]) (by simp [results, Try.results55, go_sem]) rfl ⟨by rw [greyF_false HGN.out S hkS], HR5.out.2⟩
        · have HGN := Lib.hid HGN.out.symm
          go_wp2_with fail
          go_roundw
          case rel => exact ⟨k + 1, by omega, by go_num, by show (greyF S fs k && greyN S fs k) = true; rw [HG.out.1, HGN.out]; rfl, HR5.out⟩
          case measure => simp [intOf]; omega
    · obtain rfl : k = S := by omega
      have hkk : ¬ (k : Int) < (k : Int) := by omega
      go_wp2_with fail
      refine bodyPost_ret (v := .tuple #[.bool true, .int .i64 0]) (by simp [results, Try.results55, go_sem]) rfl ⟨by rw [HG.out.1], HG.out.2.2⟩
set_option maxHeartbeats 800000 in
theorem Grey_no (sa : Int) (la ha : Nat) (aa : Option Addr) (na ca : Nat) (w : World) (hE : cubErr sa la ha na ≠ 0) :
    Calls Try.prog 55 #[.agg #[.int .i64 sa, .float .f32 la, .float .f32 ha, .slice aa na ca]] w fun e w' => e = .returned (.tuple #[.bool false, .int .i64 (cubErr sa la ha na)]) ∧ Below w.heap.size w w' := by
  obtain ⟨EA, hEA⟩ : ∃ E, E = cubErr sa la ha na := ⟨_, rfl⟩
  rw [← hEA] at hE ⊢
  have hc : (EA != 0) = true := by simpa using hE
  have HEA := Lib.hid hEA
  clear hEA hE
  go_enter Try.func55, Try.ntmps55
  go_wp2_with (first | (go_at_call 95; refine (CuCheck_any _ _ _ _ _ _ _).mono ?_; rintro e w2 ⟨rfl, hb2⟩; rw [← HEA.out]; have hs2 := hb2.size))
  refine bodyPost_ret (v := .tuple #[.bool false, .int .i64 EA]) (by simp [results, Try.results55, go_sem]) rfl ⟨rfl, ?_⟩
  (repeat (first | exact Below.refl _ _ | assumption | (refine Below.setCell ?_ (by first | (simp; done) | (simp; omega) | omega) _) | (refine Below.drew ?_) | (refine below_drewN ?_ _) | (refine Below.alloc ?_ (by first | (simp; done) | (simp; omega) | omega) _) | (refine Below.trans ?_ (Below.mono (by assumption) (by first | (simp; done) | (simp; omega) | omega)))))
end Go.Proofs.Ytmckkgbdlgldbaa
