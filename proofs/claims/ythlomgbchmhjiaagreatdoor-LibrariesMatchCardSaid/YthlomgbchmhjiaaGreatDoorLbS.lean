/- key.CheckFrames. Condition: the key frames can be read. -/
import Derived.Test.YthlomgbchmhjiaaGreatDoorLbRa
set_option linter.unusedSimpArgs false
set_option linter.unusedVariables false
namespace Go.Proofs.YthlomgbchmhjiaaGreatDoor
open Go Go.RowKit
/-- What is wrong with key frame i. -/
def frT (FD : Nat → KeyD) (i : Nat) : Int := if (FD i).fr < 0 then 3 else if 16777216 < (FD i).fr then 3 else if (FD i).ez < 1 then 1 else if 3 < (FD i).ez then 1 else if wiE (FD i) ≠ 0 then wiE (FD i) else if 0 < i ∧ (FD i).fr ≤ (FD (i - 1)).fr then 8 else if (FD i).k ≠ (FD 0).k then 12 else if (FD i).out ≠ (FD 0).out then 12 else if (FD i).pn ≠ (FD 0).pn then 12 else 0
def weE (n : Nat) (FD : Nat → KeyD) : Int := if n = 0 then 10 else if 100 < n then 4 else fstN (frT FD) n
set_option maxRecDepth 100000 in
set_option maxHeartbeats 6400000 in
theorem CheckFrames_any (a : Option Addr) (n c : Nat) (FD : Nat → KeyD) (w : World) (h : RowS w a n c 10 (fun j => frmL (FD j))) (hk : ∀ j, j < n → KeyAt w (FD j)) : Calls Tryz.prog 15 #[.slice a n c] w fun e w' => e = .returned (.int .i64 (weE n FD)) ∧ Below w.heap.size w w' := by
  have HV := Lib.hid (show weE n FD = if n = 0 then 10 else if 100 < n then 4 else fstN (frT FD) n from rfl)
  have HT := Lib.hid (fun i => show frT FD i = if (FD i).fr < 0 then 3 else if 16777216 < (FD i).fr then 3 else if (FD i).ez < 1 then 1 else if 3 < (FD i).ez then 1 else if wiE (FD i) ≠ 0 then wiE (FD i) else if 0 < i ∧ (FD i).fr ≤ (FD (i - 1)).fr then 8 else if (FD i).k ≠ (FD 0).k then 12 else if (FD i).out ≠ (FD 0).out then 12 else if (FD i).pn ≠ (FD 0).pn then 12 else 0 from rfl)
  obtain ⟨R, hR⟩ : ∃ R, R = weE n FD := ⟨_, rfl⟩
  rw [← hR] at HV
  rw [← hR]
  clear hR
  have HH := Lib.hid h
  have HKA := Lib.hid hk
  have hn1 : n ≤ c := h.lc
  have hn2 : c ≤ 9223372036854775807 := by have := h.lm; unfold maxLen at this; omega
  clear h hk
  by_cases g0 : n = 0
  · subst g0
    have HV1 : Hid (R = 10) := Lib.hid HV.out
    go_enter Tryz.func15, Tryz.ntmps15
    go_wp2_with fail
    go_ret
    rw [HV1.out]
    exact ⟨rfl, Below.refl _ _⟩
  have g0i : ((n : Int) == 0) = false := beq_false_of_ne (by omega)
  by_cases g1 : 100 < n
  · have g1i : (100 : Int) < (n : Int) := by omega
    have HV1 : Hid (R = 4) := Lib.hid (by rw [HV.out, if_neg g0, if_pos g1])
    go_enter Tryz.func15, Tryz.ntmps15
    go_wp2_with fail
    go_ret
    rw [HV1.out]
    exact ⟨rfl, Below.refl _ _⟩
  have g1i : ¬ (100 : Int) < (n : Int) := by omega
  have hn0 : (0 : Int) < (n : Int) := by omega
  have HV1 : Hid (R = fstN (frT FD) n) := Lib.hid (by rw [HV.out, if_neg g0, if_neg g1])
  obtain ⟨b, off, rfl, hc⟩ : ∃ b off, a = some ⟨b, off, none⟩ ∧ ∀ i, i < n → ∀ j x, (frmL (FD i))[j]? = some x → w.cell? ⟨b, off + i * 10 + j, none⟩ = some x := by
    rcases HH.out.at_ with h1 | h1
    · exact absurd h1 g0
    · exact h1
  have HC := Lib.hid hc
  clear hc HH HV
  go_enter Tryz.func15, Tryz.ntmps15
  go_wp2_with fail
  go_loopw [15] (fun s15 wr => ∃ i : Nat, i ≤ n ∧ s15 = .int .i64 i ∧ fstN (frT FD) i = 0 ∧ Below w.heap.size w wr) (fun s15 _ => n - (intOf s15).toNat)
  case atStart => exact ⟨0, by omega, rfl, rfl, Below.refl _ _⟩
  case round =>
    obtain ⟨i, hi, rfl, hz, hq⟩ := hrel
    have HZ := Lib.hid hz; have HQ := Lib.hid hq
    clear hz hq
    by_cases hin : i < n
    · have hini : (i : Int) < (n : Int) := by omega
      have HBAD := Lib.hid (fun h => by rw [HV1.out, fstN_of HZ.out h hin] : frT FD i ≠ 0 → R = frT FD i)
      have HOK := Lib.hid (fun h => fstN_succ HZ.out h : frT FD i = 0 → fstN (frT FD) (i + 1) = 0)
      have HTI := Lib.hid (HT.out i)
      have HRI := Lib.hid (fun j x hj => by have d := HC.out i hin j x hj; exact (HQ.out.cell (p := ⟨b, off + i * 10 + j, none⟩) (cell_lt d)).trans d : ∀ j x, (frmL (FD i))[j]? = some x → wr.cell? ⟨b, off + i * 10 + j, none⟩ = some x)
      have HR0 := Lib.hid (fun w' (hb : Below w.heap.size w w') j x hj => by have d := HC.out 0 (by omega) j x hj; exact (hb.cell (p := ⟨b, off + 0 * 10 + j, none⟩) (cell_lt d)).trans d : ∀ w', Below w.heap.size w w' → ∀ j x, (frmL (FD 0))[j]? = some x → w'.cell? ⟨b, off + 0 * 10 + j, none⟩ = some x)
      have HRM := Lib.hid (fun m (hm : i = m + 1) w' (hb : Below w.heap.size w w') => by have d := HC.out m (by omega) 0 _ rfl; exact (hb.cell (p := ⟨b, off + m * 10 + 0, none⟩) (cell_lt d)).trans d : ∀ m, i = m + 1 → ∀ w', Below w.heap.size w w' → w'.cell? ⟨b, off + m * 10 + 0, none⟩ = some (.int .i64 (FD m).fr))
      have HWI := Lib.hid (fun w' (hb : Below w.heap.size w w') => CheckWindow_any (FD i) w' (RowS.past (HKA.out i hin) hb))
      have HMM : Hid (∀ m, i = m + 1 → FD (i - 1) = FD m) := Lib.hid (fun m hm => by rw [hm]; rfl)
      obtain ⟨t, ht⟩ : ∃ t, t = frT FD i := ⟨_, rfl⟩
      rw [← ht] at HBAD HOK HTI
      clear ht
      obtain ⟨d, hd⟩ : ∃ d, d = FD i := ⟨_, rfl⟩
      obtain ⟨z, hz⟩ : ∃ z, z = FD 0 := ⟨_, rfl⟩
      obtain ⟨p, hp⟩ : ∃ p, p = FD (i - 1) := ⟨_, rfl⟩
      have HRP : Hid (∀ m, i = m + 1 → ∀ w', Below w.heap.size w w' → w'.cell? ⟨b, off + m * 10 + 0, none⟩ = some (.int .i64 p.fr)) := Lib.hid (fun m hm w' hb => by rw [hp, HMM.out m hm]; exact HRM.out m hm w' hb)
      rw [← hd] at HRI HWI HTI
      rw [← hz] at HR0 HTI
      rw [← hp] at HTI
      clear hd hz hp HRM HMM
      obtain ⟨E, hE⟩ : ∃ E, E = wiE d := ⟨_, rfl⟩
      rw [← hE] at HWI HTI
      clear hE
      obtain ⟨pf, hpf⟩ : ∃ pf, pf = p.fr := ⟨_, rfl⟩
      rw [← hpf] at HRP HTI
      clear hpf
      obtain ⟨fr, ez, k, x, y, u, v, s, pa, pn, pc, px, py, ou⟩ := d
      obtain ⟨fr0, ez0, k0, x0, y0, u0, v0, s0, pa0, pn0, pc0, px0, py0, ou0⟩ := z
      unfold winV at HWI
      simp only at HTI HWI
      have r0 := HRI.out 0 _ rfl; have r1 := HRI.out 1 _ rfl; have r2 := HRI.out 2 _ rfl; have r3 := HRI.out 3 _ rfl; have r4 := HRI.out 4 _ rfl; have r5 := HRI.out 5 _ rfl; have r6 := HRI.out 6 _ rfl; have r7 := HRI.out 7 _ rfl; have r8 := HRI.out 8 _ rfl; have r9 := HRI.out 9 _ rfl
      rw [Nat.add_zero] at r0
      have rl := cell_lt r0; simp only at rl
      clear HRI HC HKA HT
      go_upto_region 8 with fail
      refine wp_world (fun W hW => ?_)
      have HWp : Blk W wr.heap.size [.int .i64 fr, .int .i64 ez, .int .i64 k, .float .f32 x, .float .f32 y, .float .f32 u, .float .f32 v, .float .f32 s, .slice pa pn pc, .bool ou] ∧ Below wr.heap.size wr W := by rw [hW]; exact ⟨Blk.new _ _ _ _ rfl, by (repeat (first | exact Below.refl _ _ | assumption | (refine Below.setCell ?_ (by first | (simp; done) | (simp; omega) | omega) _) | (refine Below.drew ?_) | (refine below_drewN ?_ _) | (refine Below.alloc ?_ (by first | (simp; done) | (simp; omega) | omega) _) | (refine Below.trans ?_ (Below.mono (by assumption) (by first | (simp; done) | (simp; omega) | omega)))))⟩
      obtain ⟨pl, hpl⟩ : ∃ pl, pl = wr.heap.size := ⟨_, rfl⟩
      have HW : Hid (Blk W pl [.int .i64 fr, .int .i64 ez, .int .i64 k, .float .f32 x, .float .f32 y, .float .f32 u, .float .f32 v, .float .f32 s, .slice pa pn pc, .bool ou]) := Lib.hid (by rw [hpl]; exact HWp.1)
      have HB : Hid (Below w.heap.size w W) := Lib.hid (HQ.out.trans (HWp.2.mono HQ.out.size))
      rw [← hpl]
      clear hW HWp hpl r0 r1 r2 r3 r4 r5 r6 r7 r8 r9 rl
      have r0 := HW.out.c 0 _ rfl; have r1 := HW.out.c 1 _ rfl; have r2 := HW.out.c 2 _ rfl; have r3 := HW.out.c 3 _ rfl; have r4 := HW.out.c 4 _ rfl; have r5 := HW.out.c 5 _ rfl; have r6 := HW.out.c 6 _ rfl; have r7 := HW.out.c 7 _ rfl; have r8 := HW.out.c 8 _ rfl; have r9 := HW.out.c 9 _ rfl; have rl := HW.out.lt
      by_cases a0 : fr < 0
      · skip
        have HV2 := Lib.hid (show R = 3 by rw [HBAD.out (by rw [HTI.out]; simp [a0]), HTI.out]; simp [a0])
        go_wp2_with fail
        go_ret
        rw [HV2.out]
        exact ⟨rfl, HB.out⟩
      have A0 := Lib.hid a0
      by_cases a1 : 16777216 < fr
      · skip
        have b0 : ¬ fr < 0 := by (have h := A0.out; omega)
        have HV2 := Lib.hid (show R = 3 by rw [HBAD.out (by rw [HTI.out]; simp [b0, a1]), HTI.out]; simp [b0, a1])
        go_wp2_with fail
        go_ret
        rw [HV2.out]
        exact ⟨rfl, HB.out⟩
      have A1 := Lib.hid a1
      by_cases a2 : ez < 1
      · skip
        have b0 : ¬ fr < 0 := by (have h := A0.out; omega)
        have b1 : ¬ (16777216 : Int) < fr := by (have h := A1.out; omega)
        have HV2 := Lib.hid (show R = 1 by rw [HBAD.out (by rw [HTI.out]; simp [b0, b1, a2]), HTI.out]; simp [b0, b1, a2])
        go_wp2_with fail
        go_ret
        rw [HV2.out]
        exact ⟨rfl, HB.out⟩
      have A2 := Lib.hid a2
      by_cases a3 : 3 < ez
      · skip
        have b0 : ¬ fr < 0 := by (have h := A0.out; omega)
        have b1 : ¬ (16777216 : Int) < fr := by (have h := A1.out; omega)
        have b2 : ¬ ez < 1 := by (have h := A2.out; omega)
        have HV2 := Lib.hid (show R = 1 by rw [HBAD.out (by rw [HTI.out]; simp [b0, b1, b2, a3]), HTI.out]; simp [b0, b1, b2, a3])
        go_wp2_with fail
        go_ret
        rw [HV2.out]
        exact ⟨rfl, HB.out⟩
      have A3 := Lib.hid a3
      cases hE : (E == 0)
      case false =>
        have hE1 : E ≠ 0 := by simpa using hE
        have hE2 : (E != 0) = true := bne_iff_ne.2 hE1
        have b0 : ¬ fr < 0 := by (have h := A0.out; omega)
        have b1 : ¬ (16777216 : Int) < fr := by (have h := A1.out; omega)
        have b2 : ¬ ez < 1 := by (have h := A2.out; omega)
        have b3 : ¬ (3 : Int) < ez := by (have h := A3.out; omega)
        have HV2 := Lib.hid (show R = E by rw [HBAD.out (by rw [HTI.out]; simp [b0, b1, b2, b3, hE1]), HTI.out]; simp [b0, b1, b2, b3, hE1])
        go_wp2_with (go_at_call 31; refine (HWI.out _ HB.out).mono ?_; rintro e w5 ⟨rfl, hb5⟩)
        go_ret
        rw [HV2.out]
        exact ⟨rfl, HB.out.trans (hb5.mono HB.out.size)⟩
      case true =>
        obtain rfl : E = 0 := by simpa using hE
        clear hE
        go_upto_region 15 with (go_at_call 31; refine (HWI.out _ HB.out).mono ?_; rintro e w5 ⟨rfl, hb5⟩)
        have HW5 := Lib.hid (HW.out.past hb5)
        have HB5 := Lib.hid (HB.out.trans (hb5.mono HB.out.size))
        clear hb5 HWI
        clear r0 r1 r2 r3 r4 r5 r6 r7 r8 r9 rl
        have r0 := HW5.out.c 0 _ rfl; have r1 := HW5.out.c 1 _ rfl; have r2 := HW5.out.c 2 _ rfl; have r3 := HW5.out.c 3 _ rfl; have r4 := HW5.out.c 4 _ rfl; have r5 := HW5.out.c 5 _ rfl; have r6 := HW5.out.c 6 _ rfl; have r7 := HW5.out.c 7 _ rfl; have r8 := HW5.out.c 8 _ rfl; have r9 := HW5.out.c 9 _ rfl; have rl := HW5.out.lt
        by_cases hi0 : i = 0
        · have hi1 : ¬ (0 : Int) < (i : Int) := by omega
          have O0 : Hid (¬ (0 < i ∧ fr ≤ pf)) := Lib.hid (fun h => by omega)
          go_quiet (fail)
          go_upto_region 17 with fail
          refine wp_world (fun W7 hW7 => ?_)
          have HB57 : Hid (Below w5.heap.size w5 W7) := Lib.hid (by rw [hW7]; first | exact below_drewN (Below.refl _ _) _ | exact (Below.refl _ _).drew | exact Below.refl _ _)
          have HW7 := Lib.hid (HW5.out.past HB57.out)
          have HB7 := Lib.hid (HB5.out.trans (HB57.out.mono HB5.out.size))
          clear hW7 HB57 HW5 HB5
          have q2 := HR0.out _ HB7.out 2 _ rfl; have q3 := HR0.out _ HB7.out 3 _ rfl; have q4 := HR0.out _ HB7.out 4 _ rfl; have q5 := HR0.out _ HB7.out 5 _ rfl; have q6 := HR0.out _ HB7.out 6 _ rfl; have q7 := HR0.out _ HB7.out 7 _ rfl; have q8 := HR0.out _ HB7.out 8 _ rfl; have q9 := HR0.out _ HB7.out 9 _ rfl
          simp only [Nat.zero_mul, Nat.add_zero] at q2 q3 q4 q5 q6 q7 q8 q9
          have ql := cell_lt q2; simp only at ql
          clear r0 r1 r2 r3 r4 r5 r6 r7 r8 r9 rl
          go_upto_region 18 with fail
          refine wp_world (fun W6 hW6 => ?_)
          have HWp : Blk W6 W7.heap.size [.int .i64 k0, .float .f32 x0, .float .f32 y0, .float .f32 u0, .float .f32 v0, .float .f32 s0, .slice pa0 pn0 pc0, .bool ou0] ∧ Blk W6 pl [.int .i64 fr, .int .i64 ez, .int .i64 k, .float .f32 x, .float .f32 y, .float .f32 u, .float .f32 v, .float .f32 s, .slice pa pn pc, .bool ou] ∧ Below w.heap.size w W6 := by rw [hW6]; exact ⟨Blk.new _ _ _ _ rfl, HW7.out.alloc _, HB7.out.alloc HB7.out.size _⟩
          obtain ⟨pz, hpz⟩ : ∃ pz, pz = W7.heap.size := ⟨_, rfl⟩
          have HZ6 : Hid (Blk W6 pz [.int .i64 k0, .float .f32 x0, .float .f32 y0, .float .f32 u0, .float .f32 v0, .float .f32 s0, .slice pa0 pn0 pc0, .bool ou0]) := Lib.hid (by rw [hpz]; exact HWp.1)
          have HW6 := Lib.hid HWp.2.1
          have HB6 := Lib.hid HWp.2.2
          rw [← hpz]
          clear hW6 HWp hpz q2 q3 q4 q5 q6 q7 q8 q9 ql HR0 HW7 HB7
          have r0 := HW6.out.c 0 _ rfl; have r1 := HW6.out.c 1 _ rfl; have r2 := HW6.out.c 2 _ rfl; have r3 := HW6.out.c 3 _ rfl; have r4 := HW6.out.c 4 _ rfl; have r5 := HW6.out.c 5 _ rfl; have r6 := HW6.out.c 6 _ rfl; have r7 := HW6.out.c 7 _ rfl; have r8 := HW6.out.c 8 _ rfl; have r9 := HW6.out.c 9 _ rfl; have rl := HW6.out.lt
          have z0 := HZ6.out.c 0 _ rfl; have z6 := HZ6.out.c 6 _ rfl; have z7 := HZ6.out.c 7 _ rfl; have zl := HZ6.out.lt
          cases k1 : (k == k0)
          case false =>
            have k2 : k ≠ k0 := by simpa using k1
            have k3 : (k != k0) = true := bne_iff_ne.2 k2
            have b0 : ¬ fr < 0 := by (have h := A0.out; omega)
            have b1 : ¬ (16777216 : Int) < fr := by (have h := A1.out; omega)
            have b2 : ¬ ez < 1 := by (have h := A2.out; omega)
            have b3 : ¬ (3 : Int) < ez := by (have h := A3.out; omega)
            have c0 : ¬ (0 < i ∧ fr ≤ pf) := by (have h := O0.out; omega)
            have HV2 := Lib.hid (show R = 12 by rw [HBAD.out (by rw [HTI.out]; simp [b0, b1, b2, b3, c0, k2]), HTI.out]; simp [b0, b1, b2, b3, c0, k2])
            go_wp2_with fail
            go_ret
            rw [HV2.out]
            exact ⟨rfl, HB6.out⟩
          case true =>
            have k2 : k = k0 := by simpa using k1
            have k3 : (k != k0) = false := by rw [k2]; simp
            cases u1 : (ou == ou0)
            case false =>
              have u2 : ou ≠ ou0 := by simpa using u1
              have u3 : (ou != ou0) = true := bne_iff_ne.2 u2
              have b0 : ¬ fr < 0 := by (have h := A0.out; omega)
              have b1 : ¬ (16777216 : Int) < fr := by (have h := A1.out; omega)
              have b2 : ¬ ez < 1 := by (have h := A2.out; omega)
              have b3 : ¬ (3 : Int) < ez := by (have h := A3.out; omega)
              have c0 : ¬ (0 < i ∧ fr ≤ pf) := by (have h := O0.out; omega)
              have HV2 := Lib.hid (show R = 12 by rw [HBAD.out (by rw [HTI.out]; simp [b0, b1, b2, b3, c0, k2, u2]), HTI.out]; simp [b0, b1, b2, b3, c0, k2, u2])
              go_wp2_with fail
              go_ret
              rw [HV2.out]
              exact ⟨rfl, HB6.out⟩
            case true =>
              have u2 : ou = ou0 := by simpa using u1
              have u3 : (ou != ou0) = false := by rw [u2]; simp
              by_cases p2 : pn = pn0
              · have p3 : ((pn : Int) != (pn0 : Int)) = false := by rw [p2]; simp
                have b0 : ¬ fr < 0 := by (have h := A0.out; omega)
                have b1 : ¬ (16777216 : Int) < fr := by (have h := A1.out; omega)
                have b2 : ¬ ez < 1 := by (have h := A2.out; omega)
                have b3 : ¬ (3 : Int) < ez := by (have h := A3.out; omega)
                have c0 : ¬ (0 < i ∧ fr ≤ pf) := by (have h := O0.out; omega)
                have HN := Lib.hid (HOK.out (by rw [HTI.out]; simp [b0, b1, b2, b3, c0, k2, u2, p2]))
                go_wp2_with fail
                go_roundw
                case rel => exact ⟨i + 1, by omega, by go_num, HN.out, HB6.out⟩
                case measure => simp [intOf] <;> omega
              · have p3 : ((pn : Int) != (pn0 : Int)) = true := bne_iff_ne.2 (fun h => p2 (by omega))
                have b0 : ¬ fr < 0 := by (have h := A0.out; omega)
                have b1 : ¬ (16777216 : Int) < fr := by (have h := A1.out; omega)
                have b2 : ¬ ez < 1 := by (have h := A2.out; omega)
                have b3 : ¬ (3 : Int) < ez := by (have h := A3.out; omega)
                have c0 : ¬ (0 < i ∧ fr ≤ pf) := by (have h := O0.out; omega)
                have HV2 := Lib.hid (show R = 12 by rw [HBAD.out (by rw [HTI.out]; simp [b0, b1, b2, b3, c0, k2, u2, p2]), HTI.out]; simp [b0, b1, b2, b3, c0, k2, u2, p2])
                go_wp2_with fail
                go_ret
                rw [HV2.out]
                exact ⟨rfl, HB6.out⟩
        have hi1 : (0 : Int) < (i : Int) := by omega
        obtain ⟨m, hm⟩ : ∃ m, i = m + 1 := ⟨i - 1, by omega⟩
        have pm := HRP.out m hm _ HB5.out
        rw [Nat.add_zero] at pm
        have e1 : wrap64 ((i : Int) - 1) = (m : Int) := by unfold wrap64; omega
        have e5 : (m : Int) < (n : Int) := by omega
        have e6 : (0 : Int) ≤ (m : Int) := by omega
        by_cases o1 : fr ≤ pf
        · have o0 : 0 < i ∧ fr ≤ pf := ⟨by omega, o1⟩
          have b0 : ¬ fr < 0 := by (have h := A0.out; omega)
          have b1 : ¬ (16777216 : Int) < fr := by (have h := A1.out; omega)
          have b2 : ¬ ez < 1 := by (have h := A2.out; omega)
          have b3 : ¬ (3 : Int) < ez := by (have h := A3.out; omega)
          have HV2 := Lib.hid (show R = 8 by rw [HBAD.out (by rw [HTI.out]; simp [b0, b1, b2, b3, o0]), HTI.out]; simp [b0, b1, b2, b3, o0])
          go_quiet (fail)
          go_wp2_with fail
          go_ret
          rw [HV2.out]
          exact ⟨rfl, by have hh9 := HB5.out; have hs := hh9.size; (repeat (first | exact Below.refl _ _ | assumption | (refine Below.setCell ?_ (by first | (simp; done) | (simp; omega) | omega) _) | (refine Below.drew ?_) | (refine below_drewN ?_ _) | (refine Below.alloc ?_ (by first | (simp; done) | (simp; omega) | omega) _) | (refine Below.trans ?_ (Below.mono (by assumption) (by first | (simp; done) | (simp; omega) | omega)))))⟩
        have O0 : Hid (¬ (0 < i ∧ fr ≤ pf)) := Lib.hid (fun h => o1 h.2)
        go_quiet (fail)
        go_upto_region 17 with fail
        clear pm
        refine wp_world (fun W7 hW7 => ?_)
        have HB57 : Hid (Below w5.heap.size w5 W7) := Lib.hid (by rw [hW7]; first | exact below_drewN (Below.refl _ _) _ | exact (Below.refl _ _).drew | exact Below.refl _ _)
        have HW7 := Lib.hid (HW5.out.past HB57.out)
        have HB7 := Lib.hid (HB5.out.trans (HB57.out.mono HB5.out.size))
        clear hW7 HB57 HW5 HB5
        have q2 := HR0.out _ HB7.out 2 _ rfl; have q3 := HR0.out _ HB7.out 3 _ rfl; have q4 := HR0.out _ HB7.out 4 _ rfl; have q5 := HR0.out _ HB7.out 5 _ rfl; have q6 := HR0.out _ HB7.out 6 _ rfl; have q7 := HR0.out _ HB7.out 7 _ rfl; have q8 := HR0.out _ HB7.out 8 _ rfl; have q9 := HR0.out _ HB7.out 9 _ rfl
        simp only [Nat.zero_mul, Nat.add_zero] at q2 q3 q4 q5 q6 q7 q8 q9
        have ql := cell_lt q2; simp only at ql
        clear r0 r1 r2 r3 r4 r5 r6 r7 r8 r9 rl
        go_upto_region 18 with fail
        refine wp_world (fun W6 hW6 => ?_)
        have HWp : Blk W6 W7.heap.size [.int .i64 k0, .float .f32 x0, .float .f32 y0, .float .f32 u0, .float .f32 v0, .float .f32 s0, .slice pa0 pn0 pc0, .bool ou0] ∧ Blk W6 pl [.int .i64 fr, .int .i64 ez, .int .i64 k, .float .f32 x, .float .f32 y, .float .f32 u, .float .f32 v, .float .f32 s, .slice pa pn pc, .bool ou] ∧ Below w.heap.size w W6 := by rw [hW6]; exact ⟨Blk.new _ _ _ _ rfl, HW7.out.alloc _, HB7.out.alloc HB7.out.size _⟩
        obtain ⟨pz, hpz⟩ : ∃ pz, pz = W7.heap.size := ⟨_, rfl⟩
        have HZ6 : Hid (Blk W6 pz [.int .i64 k0, .float .f32 x0, .float .f32 y0, .float .f32 u0, .float .f32 v0, .float .f32 s0, .slice pa0 pn0 pc0, .bool ou0]) := Lib.hid (by rw [hpz]; exact HWp.1)
        have HW6 := Lib.hid HWp.2.1
        have HB6 := Lib.hid HWp.2.2
        rw [← hpz]
        clear hW6 HWp hpz q2 q3 q4 q5 q6 q7 q8 q9 ql HR0 HW7 HB7
        have r0 := HW6.out.c 0 _ rfl; have r1 := HW6.out.c 1 _ rfl; have r2 := HW6.out.c 2 _ rfl; have r3 := HW6.out.c 3 _ rfl; have r4 := HW6.out.c 4 _ rfl; have r5 := HW6.out.c 5 _ rfl; have r6 := HW6.out.c 6 _ rfl; have r7 := HW6.out.c 7 _ rfl; have r8 := HW6.out.c 8 _ rfl; have r9 := HW6.out.c 9 _ rfl; have rl := HW6.out.lt
        have z0 := HZ6.out.c 0 _ rfl; have z6 := HZ6.out.c 6 _ rfl; have z7 := HZ6.out.c 7 _ rfl; have zl := HZ6.out.lt
        cases k1 : (k == k0)
        case false =>
          have k2 : k ≠ k0 := by simpa using k1
          have k3 : (k != k0) = true := bne_iff_ne.2 k2
          have b0 : ¬ fr < 0 := by (have h := A0.out; omega)
          have b1 : ¬ (16777216 : Int) < fr := by (have h := A1.out; omega)
          have b2 : ¬ ez < 1 := by (have h := A2.out; omega)
          have b3 : ¬ (3 : Int) < ez := by (have h := A3.out; omega)
          have c0 : ¬ (0 < i ∧ fr ≤ pf) := by (have h := O0.out; omega)
          have HV2 := Lib.hid (show R = 12 by rw [HBAD.out (by rw [HTI.out]; simp [b0, b1, b2, b3, c0, k2]), HTI.out]; simp [b0, b1, b2, b3, c0, k2])
          go_wp2_with fail
          go_ret
          rw [HV2.out]
          exact ⟨rfl, HB6.out⟩
        case true =>
          have k2 : k = k0 := by simpa using k1
          have k3 : (k != k0) = false := by rw [k2]; simp
          cases u1 : (ou == ou0)
          case false =>
            have u2 : ou ≠ ou0 := by simpa using u1
            have u3 : (ou != ou0) = true := bne_iff_ne.2 u2
            have b0 : ¬ fr < 0 := by (have h := A0.out; omega)
            have b1 : ¬ (16777216 : Int) < fr := by (have h := A1.out; omega)
            have b2 : ¬ ez < 1 := by (have h := A2.out; omega)
            have b3 : ¬ (3 : Int) < ez := by (have h := A3.out; omega)
            have c0 : ¬ (0 < i ∧ fr ≤ pf) := by (have h := O0.out; omega)
            have HV2 := Lib.hid (show R = 12 by rw [HBAD.out (by rw [HTI.out]; simp [b0, b1, b2, b3, c0, k2, u2]), HTI.out]; simp [b0, b1, b2, b3, c0, k2, u2])
            go_wp2_with fail
            go_ret
            rw [HV2.out]
            exact ⟨rfl, HB6.out⟩
          case true =>
            have u2 : ou = ou0 := by simpa using u1
            have u3 : (ou != ou0) = false := by rw [u2]; simp
            by_cases p2 : pn = pn0
            · have p3 : ((pn : Int) != (pn0 : Int)) = false := by rw [p2]; simp
              have b0 : ¬ fr < 0 := by (have h := A0.out; omega)
              have b1 : ¬ (16777216 : Int) < fr := by (have h := A1.out; omega)
              have b2 : ¬ ez < 1 := by (have h := A2.out; omega)
              have b3 : ¬ (3 : Int) < ez := by (have h := A3.out; omega)
              have c0 : ¬ (0 < i ∧ fr ≤ pf) := by (have h := O0.out; omega)
              have HN := Lib.hid (HOK.out (by rw [HTI.out]; simp [b0, b1, b2, b3, c0, k2, u2, p2]))
              go_wp2_with fail
              go_roundw
              case rel => exact ⟨i + 1, by omega, by go_num, HN.out, HB6.out⟩
              case measure => simp [intOf] <;> omega
            · have p3 : ((pn : Int) != (pn0 : Int)) = true := bne_iff_ne.2 (fun h => p2 (by omega))
              have b0 : ¬ fr < 0 := by (have h := A0.out; omega)
              have b1 : ¬ (16777216 : Int) < fr := by (have h := A1.out; omega)
              have b2 : ¬ ez < 1 := by (have h := A2.out; omega)
              have b3 : ¬ (3 : Int) < ez := by (have h := A3.out; omega)
              have c0 : ¬ (0 < i ∧ fr ≤ pf) := by (have h := O0.out; omega)
              have HV2 := Lib.hid (show R = 12 by rw [HBAD.out (by rw [HTI.out]; simp [b0, b1, b2, b3, c0, k2, u2, p2]), HTI.out]; simp [b0, b1, b2, b3, c0, k2, u2, p2])
              go_wp2_with fail
              go_ret
              rw [HV2.out]
              exact ⟨rfl, HB6.out⟩
    · have hini : ¬ (i : Int) < (n : Int) := by omega
      obtain rfl : i = n := by omega
      have HV2 : Hid (R = 0) := Lib.hid (by rw [HV1.out]; exact HZ.out)
      go_wp2_with fail
      go_ret
      rw [HV2.out]
      exact ⟨rfl, HQ.out⟩
end Go.Proofs.YthlomgbchmhjiaaGreatDoor
