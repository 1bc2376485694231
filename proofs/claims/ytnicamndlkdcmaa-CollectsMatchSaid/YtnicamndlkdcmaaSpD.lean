/- Tasks of frames: farm.Split, where all is right. Conditions: what each theorem names. -/
import Derived.Test.YtnicamndlkdcmaaSpC
namespace Go.Proofs.Ytnicamndlkdcmaa
open Go Go.RowKit
set_option maxRecDepth 100000 in
set_option maxHeartbeats 3200000 in
theorem Split_yes (X Y W H s first last : Int) (D N : Nat) (w : World) (he : regErr X Y W H = 0) (hs : 1 ≤ s ∧ s ≤ 256) (hf : 0 ≤ first ∧ last ≤ 16777216) (hl : last - first + 1 = (D : Int)) (hD : 1 ≤ D) (hN : N = tlN X W s * tlN Y H s) (hK : N * D ≤ 2000) :
    Calls Try.prog 27 #[.agg #[.int .i64 X, .int .i64 Y, .int .i64 W, .int .i64 H], .int .i64 s, .int .i64 first, .int .i64 last] w fun e w' =>
      ∃ u w2, e = .returned (.tuple #[u, .int .i64 0]) ∧ w.heap.size ≤ w2.heap.size ∧ AcR 69 5 w2 w' u (tkV X Y W H s first N) (N * D) ∧ Below w.heap.size w w' := by
  obtain ⟨r1, r2, r3, r4, r5, r6, r7, r8, r9, r10⟩ := regErr_ok he
  obtain ⟨n1, n2⟩ := tlN_bd (X := X) hs.1 ⟨r1, r2⟩
  obtain ⟨m1, m2⟩ := tlN_bd (X := Y) hs.1 ⟨r3, r4⟩
  have hN0 : 0 < N := by rw [hN]; exact Nat.mul_pos (by omega) (by omega)
  have hN1 : N ≤ 262144 := by rw [hN]; exact Nat.le_trans (Nat.mul_le_mul n2 m2) (by decide)
  obtain ⟨K, hKK⟩ : ∃ K, K = N * D := ⟨_, rfl⟩
  rw [← hKK] at hK ⊢
  have hKi : ((N : Int) * (D : Int)) = (K : Int) := by rw [hKK]; simp
  have wK : IntKind.i64.wrap ((N : Int) * (last - first + 1)) = (K : Int) := by rw [hl, hKi, IntKind.wrap_i64]; omega
  have hK2 : ¬ (2000 : Int) < (K : Int) := by omega
  have hfl : first ≤ last := by omega
  have hT := Lib.hid (fun w' => Tiles_yes X Y W H s w' he hs : ∀ w', _)
  rw [← hN] at hT
  have HN := Lib.hid (And.intro hN (And.intro hl (And.intro hKK he)))
  obtain ⟨i0, hi0, hz0, hz1, hz2⟩ := info_parts infoTask
  have q1 : ¬ first < 0 := by omega
  have q2 : ¬ 16777216 < first := by omega
  have q3 : ¬ last < 0 := by omega
  have q4 : ¬ 16777216 < last := by omega
  have q5 : ¬ last < first := by omega
  clear r1 r2 r3 r4 r5 r6 r7 r8 r9 r10 n1 n2 m1 m2 hN hl hKK hKi he hs
  go_enter Try.func27, Try.ntmps27
  go_upto_region 1 with fail
  refine wp_world (fun V hV => ?_)
  have A0 : Blk V w.heap.size [.int .i64 X, .int .i64 Y, .int .i64 W, .int .i64 H] := by rw [hV]; exact Blk.new _ _ _ _ rfl
  have BW : Below w.heap.size w V := by rw [hV]; (repeat (first | exact Below.refl _ _ | assumption | (refine Below.setCell ?_ (by first | (simp; done) | (simp; omega) | omega) _) | (refine Below.drew ?_) | (refine below_drewN ?_ _) | (refine Below.alloc ?_ (by first | (simp; done) | (simp; omega) | omega) _) | (refine Below.trans ?_ (Below.mono (by assumption) (by first | (simp; done) | (simp; omega) | omega)))))
  have HB0 := Lib.hid BW
  have a0 := A0.c 0 _ rfl; have a1 := A0.c 1 _ rfl; have a2 := A0.c 2 _ rfl; have a3 := A0.c 3 _ rfl; have al := A0.lt
  clear hV A0 BW
  go_wp2_with fail
  refine (hT.out _).mono ?_
  rintro e w2 ⟨u2, rfl, hTl⟩
  obtain ⟨gt, ct, rfl, -, hgt, hcell⟩ := own_cells (f := fun p => tlV X Y W H s (p % tlN X W s) (p / tlN X W s)) (m := 4) (by rw [← tlL_acc]; exact hTl.own) (fun _ => rfl) hN0
  have HC := Lib.hid hcell; have HG := Lib.hid hgt
  have HB2 := Lib.hid (HB0.out.trans (hTl.bel.mono HB0.out.size))
  clear a0 a1 a2 a3 al hTl hcell hT HB0
  go_wp2_with fail
  clear wK hK2 q1 q2 q3 q4 q5
  go_loopw [12, 13, 15] (fun s12 s13 _ wr => ∃ (m : Nat) (u : Value) (nv : Int), m ≤ D ∧ u = s12 ∧ s13 = .int .i64 nv ∧ nv = first + m ∧ AcR 69 5 w2 wr u (tkV X Y W H s first N) (N * m)) (fun _ s13 _ _ => (last + 1 - intOf s13).toNat)
  case atStart => exact ⟨0, _, _, Nat.zero_le _, rfl, rfl, by simp, AcR.nil _ _ _ _⟩
  case round =>
    obtain ⟨m, u, nv, hm, rfl, rfl, hnv, hM⟩ := hrel
    have HM := Lib.hid hM
    have HNV := Lib.hid hnv
    have hnb : 0 ≤ nv ∧ nv ≤ 16777217 := by have := HN.out.2.1; omega
    clear hM
    by_cases hmD : m < D
    · have hnl : nv ≤ last := by have := HN.out.2.1; omega
      have HMD := Lib.hid (show N * m + N ≤ K by
        have h1 : N * (m + 1) ≤ N * D := Nat.mul_le_mul_left _ hmD
        rw [Nat.mul_add, Nat.mul_one] at h1
        rw [HN.out.2.2.1]; exact h1)
      clear hnv
      go_wp2_with fail
      go_loopw [12, 15, 62] (fun s12 _ s62 wr => ∃ (i : Nat) (u : Value), i ≤ N ∧ u = s12 ∧ s62 = .int .i64 i ∧ AcR 69 5 w2 wr u (tkV X Y W H s first N) (N * m + i)) (fun _ _ s62 _ => N - (intOf s62).toNat)
      case atStart => exact ⟨0, _, Nat.zero_le _, rfl, rfl, HM.out⟩
      case round =>
        obtain ⟨i, u, hi, rfl, rfl, hM⟩ := hrel
        have HM2 := Lib.hid hM
        clear hM HM
        by_cases hin : i < N
        · have hini : (i : Int) < (N : Int) := by omega
          have hbs := HM2.out.bel.size
          have hgt := HG.out
          have l0 : gt < wr.heap.size := by omega
          have hcc : ∀ j v, (tlV X Y W H s (i % tlN X W s) (i / tlN X W s))[j]? = some v → wr.cell? ⟨gt, 4 * i + j, none⟩ = some v := fun j v hj => (HM2.out.bel.cell (p := ⟨gt, 4 * i + j, none⟩) HG.out).trans (HC.out i j v hin hj)
          obtain ⟨v0, v1, v2, v3, hv⟩ : ∃ v0 v1 v2 v3 : Int, tlV X Y W H s (i % tlN X W s) (i / tlN X W s) = [.int .i64 v0, .int .i64 v1, .int .i64 v2, .int .i64 v3] := ⟨_, _, _, _, rfl⟩
          rw [hv] at hcc
          have t0 : wr.cell? ⟨gt, i * 4, none⟩ = some (.int .i64 v0) := by have h := hcc 0 _ rfl; rw [Nat.mul_comm] at h; exact h
          have t1 : wr.cell? ⟨gt, i * 4 + 1, none⟩ = some (.int .i64 v1) := by have h := hcc 1 _ rfl; rw [Nat.mul_comm] at h; exact h
          have t2 : wr.cell? ⟨gt, i * 4 + 2, none⟩ = some (.int .i64 v2) := by have h := hcc 2 _ rfl; rw [Nat.mul_comm] at h; exact h
          have t3 : wr.cell? ⟨gt, i * 4 + 3, none⟩ = some (.int .i64 v3) := by have h := hcc 3 _ rfl; rw [Nat.mul_comm] at h; exact h
          have HV := Lib.hid (show [Value.int .i64 nv, .int .i64 v0, .int .i64 v1, .int .i64 v2, .int .i64 v3] = tkV X Y W H s first N (N * m + i) by
            unfold tkV
            rw [Nat.mul_add_mod, Nat.mod_eq_of_lt hin, Nat.mul_add_div (by omega), Nat.div_eq_of_lt hin, Nat.add_zero, hv, HNV.out])
          clear hcc hv
          go_upto_region 17 with fail
          refine wp_world (fun V6 hV6 => ?_)
          have B6 : Below wr.heap.size wr V6 := by rw [hV6]; (repeat (first | exact Below.refl _ _ | assumption | (refine Below.setCell ?_ (by first | (simp; done) | (simp; omega) | omega) _) | (refine Below.drew ?_) | (refine below_drewN ?_ _) | (refine Below.alloc ?_ (by first | (simp; done) | (simp; omega) | omega) _) | (refine Below.trans ?_ (Below.mono (by assumption) (by first | (simp; done) | (simp; omega) | omega)))))
          have N6 : Blk V6 wr.heap.size [.int .i64 v0, .int .i64 v1, .int .i64 v2, .int .i64 v3] := by rw [hV6]; exact Blk.new _ _ _ _ rfl
          have H6 := Lib.hid (HM2.out.past B6)
          have b0 := N6.c 0 _ rfl; have b1 := N6.c 1 _ rfl; have b2 := N6.c 2 _ rfl; have b3 := N6.c 3 _ rfl; have bl := N6.lt
          obtain ⟨q, hqe⟩ : ∃ q, q = N * m + i := ⟨_, rfl⟩
          rw [← hqe] at HV H6
          have hq : q < 2000 := by have := HMD.out; omega
          have HQ := Lib.hid hqe
          clear hV6 B6 N6 HM2 t0 t1 t2 t3 l0 hbs hgt hqe
          have hbs := H6.out.bel.size
          go_wp2_with (first | (at_builtin; refine wpList_append_lies _ rfl _ _ _ rfl w2.heap.size 69 i0 (.agg #[.int .i64 0, .int .i64 0, .int .i64 0, .int .i64 0, .int .i64 0]) 5 40 Try.underlying61 hi0 hz0 hz1 hz2 rfl (by decide) u q (accL (tkV X Y W H s first N) q) rfl (own_past H6.out.own (by (repeat (first | exact Below.refl _ _ | assumption | (refine Below.setCell ?_ (by first | (simp; done) | (simp; omega) | omega) _) | (refine Below.drew ?_) | (refine below_drewN ?_ _) | (refine Below.alloc ?_ (by first | (simp; done) | (simp; omega) | omega) _) | (refine Below.trans ?_ (Below.mono (by assumption) (by first | (simp; done) | (simp; omega) | omega))))))) ⟨V6.heap.size, 0, none⟩ 1 1 [.int .i64 nv, .int .i64 v0, .int .i64 v1, .int .i64 v2, .int .i64 v3] rfl rfl (by intro j u hj; match j, hj with | 0, hj => (simp at hj; subst hj; simp [Addr.add]) | 1, hj => (simp at hj; subst hj; simp [Addr.add]) | 2, hj => (simp at hj; subst hj; simp [Addr.add]) | 3, hj => (simp at hj; subst hj; simp [Addr.add]) | 4, hj => (simp at hj; subst hj; simp [Addr.add])) (by intro u hu; simp at hu; rcases hu with rfl | rfl | rfl | rfl | rfl <;> rfl) (by decide) (by unfold maxLen; omega) (by omega) (by simp; omega) _ rfl ?_; intro g cap w7 hown hgrow hat hlt))
          have HN7 := Lib.hid (AcR.app H6.out (by (repeat (first | exact Below.refl _ _ | assumption | (refine Below.setCell ?_ (by first | (simp; done) | (simp; omega) | omega) _) | (refine Below.drew ?_) | (refine below_drewN ?_ _) | (refine Below.alloc ?_ (by first | (simp; done) | (simp; omega) | omega) _) | (refine Below.trans ?_ (Below.mono (by assumption) (by first | (simp; done) | (simp; omega) | omega)))))) HV.out hown hgrow)
          clear hown hgrow hat hlt
          go_roundw
          case rel =>
            refine ⟨i + 1, _, by omega, rfl, by go_num, ?_⟩
            rw [show N * m + (i + 1) = q + 1 by rw [HQ.out]; omega]
            exact HN7.out
          case measure => simp [intOf]; omega
        · have hini : ¬ (i : Int) < (N : Int) := by omega
          have hie : i = N := by omega
          have HN7 := Lib.hid (show AcR 69 5 w2 wr u (tkV X Y W H s first N) (N * (m + 1)) by have h := HM2.out; rw [hie] at h; rw [Nat.mul_add, Nat.mul_one]; exact h)
          go_wp2_with fail
          go_roundw
          case rel =>
            refine ⟨m + 1, _, _, by omega, rfl, rfl, ?_, HN7.out⟩
            rw [HNV.out]; simp; omega
          case measure => simp [intOf]; omega
    · have hnl : ¬ nv ≤ last := by have := HN.out.2.1; omega
      have hme : m = D := by omega
      have HN7 := Lib.hid (show AcR 69 5 w2 wr u (tkV X Y W H s first N) K by have h := HM.out; rw [hme, ← HN.out.2.2.1] at h; exact h)
      clear hnv
      go_wp2_with fail
      go_ret2
      exact ⟨_, rfl, w2, HB2.out.size, HN7.out, HB2.out.trans (HN7.out.bel.mono HB2.out.size)⟩
end Go.Proofs.Ytnicamndlkdcmaa
