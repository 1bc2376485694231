/- Tiles: frame.Tiles of a right region. Conditions: what each theorem names. -/
import Derived.Test.YtnicamndlkdcmaaSpA
import Derived.Test.YtnicamndlkdcmaaBC
namespace Go.Proofs.Ytnicamndlkdcmaa
open Go Go.RowKit
/-- A tile's four numbers: column i, row j. -/
def tlV (X Y W H s : Int) (i j : Nat) : List Value :=
  [.int .i64 (max X (X - X % s + s * i)), .int .i64 (max Y (Y - Y % s + s * j)), .int .i64 (min (X + W) (X - X % s + s * i + s) - max X (X - X % s + s * i)), .int .i64 (min (Y + H) (Y - Y % s + s * j + s) - max Y (Y - Y % s + s * j))]
/-- How many tiles stand beside one another. -/
def tlN (X W s : Int) : Nat := ((W + X % s + s - 1) / s).toNat
/-- The first q tiles, row by row. -/
def tlL (X Y W H s : Int) : Nat → List Value
  | 0 => []
  | q + 1 => tlL X Y W H s q ++ tlV X Y W H s (q % tlN X W s) (q / tlN X W s)
theorem tlL_len (X Y W H s : Int) (q : Nat) : (tlL X Y W H s q).length = 4 * q := by
  induction q with
  | zero => rfl
  | succ q ih => unfold tlL; rw [List.length_append, ih]; simp [tlV]; omega
theorem tlN_iff {X W s : Int} (hs : 1 ≤ s) (hW : 1 ≤ W) (i : Nat) : X - X % s + s * (i : Int) < X + W ↔ i < tlN X W s := by
  have h0 := Int.emod_nonneg X (show s ≠ 0 by omega)
  have h1 := Int.emod_lt_of_pos X (show 0 < s by omega)
  obtain ⟨d, hd⟩ : ∃ d, d = X % s := ⟨_, rfl⟩
  unfold tlN
  rw [← hd] at h0 h1 ⊢
  have h2 : 0 ≤ (W + d + s - 1) / s := Int.ediv_nonneg (by omega) (by omega)
  have h3 := Int.mul_ediv_add_emod (W + d + s - 1) s
  have h4 := Int.emod_nonneg (W + d + s - 1) (show s ≠ 0 by omega)
  have h5 := Int.emod_lt_of_pos (W + d + s - 1) (show 0 < s by omega)
  obtain ⟨Q, hQ⟩ : ∃ Q, Q = (W + d + s - 1) / s := ⟨_, rfl⟩
  rw [← hQ] at h2 h3 ⊢
  constructor
  · intro h
    rcases Nat.lt_or_ge i Q.toNat with h' | h'
    · exact h'
    · exfalso
      have : s * Q ≤ s * (i : Int) := Int.mul_le_mul_of_nonneg_left (by omega) (by omega)
      omega
  · intro h
    have : s * ((i : Int) + 1) ≤ s * Q := Int.mul_le_mul_of_nonneg_left (by omega) (by omega)
    rw [Int.mul_add, Int.mul_one] at this
    omega
theorem tlN_bd {X W s : Int} (hs : 1 ≤ s) (hW : 1 ≤ W ∧ W ≤ 256) : 1 ≤ tlN X W s ∧ tlN X W s ≤ 512 := by
  have h0 := Int.emod_nonneg X (show s ≠ 0 by omega)
  have h1 := Int.emod_lt_of_pos X (show 0 < s by omega)
  constructor
  · have := (tlN_iff (X := X) hs hW.1 0).1 (by simp; omega)
    omega
  · rcases Nat.lt_or_ge 512 (tlN X W s) with h | h
    · exfalso
      have := (tlN_iff (X := X) hs hW.1 512).2 h
      have h2 : 1 * 512 ≤ s * ((512 : Nat) : Int) := Int.mul_le_mul_of_nonneg_right hs (by omega)
      by_cases h3 : s ≤ 256
      · omega
      · have h4 : s * 1 ≤ s * ((512 : Nat) : Int) := Int.mul_le_mul_of_nonneg_left (by omega) (by omega)
        have h5 : s * 2 ≤ s * ((512 : Nat) : Int) := Int.mul_le_mul_of_nonneg_left (by omega) (by omega)
        omega
    · exact h
theorem infoRegion : (Try.prog.info? 40).map (fun i => (i.zero, i.size, i.bytes)) = some (some (.agg #[.int .i64 0, .int .i64 0, .int .i64 0, .int .i64 0]), 4, 32) := by kernel_rfl
/-- What stands of the walk's variables. -/
structure TlR (w wr : World) (La : List Value) (u : Value) (X Y W H s : Int) (q : Nat) : Prop where
  fa : Blk wr w.heap.size La
  own : wr.ownsRow (w.heap.size + 1) 40 4 u q (tlL X Y W H s q)
  bel : Below w.heap.size w wr
theorem TlR.past {w wr wy : World} {La : List Value} {u : Value} {X Y W H s : Int} {q : Nat} (k : TlR w wr La u X Y W H s q) (h : Below wr.heap.size wr wy) : TlR w wy La u X Y W H s q := ⟨k.fa.past h, own_past k.own h, k.bel.trans (h.mono k.bel.size)⟩
theorem TlR.app {w wr wa w1 : World} {La : List Value} {u u' : Value} {X Y W H s : Int} {q : Nat} {vs : List Value} (k0 : TlR w wr La u X Y W H s q) (hb : Below wr.heap.size wr wa) (hv : vs = tlV X Y W H s (q % tlN X W s) (q / tlN X W s)) (hown : w1.ownsRow (w.heap.size + 1) 40 4 u' (q + 1) (tlL X Y W H s q ++ vs)) (hg : wa.grownBy w1 u.ownBlock) : TlR w w1 La u' X Y W H s (q + 1) := by
  have k := k0.past hb
  have blk := hg.block w.heap.size k.fa.lt (own_block k.own (by omega))
  refine ⟨k.fa.block hg.size blk, by unfold tlL; rw [← hv]; exact hown, k.bel.grown hg k.bel.size (fun j hj => ?_)⟩
  have := k.own.lt j hj
  omega
set_option maxRecDepth 100000 in
set_option maxHeartbeats 3200000 in
theorem Tiles_yes (X Y W H s : Int) (w : World) (he : regErr X Y W H = 0) (hs : 1 ≤ s ∧ s ≤ 256) :
    Calls Try.prog 29 #[.agg #[.int .i64 X, .int .i64 Y, .int .i64 W, .int .i64 H], .int .i64 s] w fun e w' =>
      ∃ u, e = .returned (.tuple #[u, .int .i64 0]) ∧ TlR w w' [.int .i64 X, .int .i64 Y, .int .i64 W, .int .i64 H] u X Y W H s (tlN X W s * tlN Y H s) := by
  obtain ⟨r1, r2, r3, r4, r5, r6, r7, r8, r9, r10⟩ := regErr_ok he
  obtain ⟨n1, n2⟩ := tlN_bd (X := X) hs.1 ⟨r1, r2⟩
  obtain ⟨m1, m2⟩ := tlN_bd (X := Y) hs.1 ⟨r3, r4⟩
  have hix := fun i => tlN_iff (X := X) (W := W) hs.1 r1 i
  have hiy := fun i => tlN_iff (X := Y) (W := H) hs.1 r3 i
  have dx0 := Int.emod_nonneg X (show s ≠ 0 by omega)
  have dx1 := Int.emod_lt_of_pos X (show 0 < s by omega)
  have dy0 := Int.emod_nonneg Y (show s ≠ 0 by omega)
  have dy1 := Int.emod_lt_of_pos Y (show 0 < s by omega)
  obtain ⟨dx, hdx⟩ : ∃ d, d = X % s := ⟨_, rfl⟩
  obtain ⟨dy, hdy⟩ : ∃ d, d = Y % s := ⟨_, rfl⟩
  obtain ⟨nx, hnx⟩ : ∃ n, n = tlN X W s := ⟨_, rfl⟩
  obtain ⟨ny, hny⟩ : ∃ n, n = tlN Y H s := ⟨_, rfl⟩
  rw [← hdx] at dx0 dx1 hix
  rw [← hdy] at dy0 dy1 hiy
  rw [← hnx] at n1 n2 hix ⊢
  rw [← hny] at m1 m2 hiy ⊢
  have HIX := Lib.hid hix; have HIY := Lib.hid hiy
  have HD := Lib.hid (And.intro hdx (And.intro hdy (And.intro hnx hny)))
  have HE := Lib.hid he
  obtain ⟨i0, hi0, hz0, hz1, hz2⟩ := info_parts infoRegion
  clear r5 r6 hix hiy hdx hdy hnx hny he
  go_enter Try.func29, Try.ntmps29
  go_upto_region 1 with fail
  refine wp_world (fun V hV => ?_)
  have A0 : Blk V w.heap.size [.int .i64 X, .int .i64 Y, .int .i64 W, .int .i64 H] := by rw [hV]; exact Blk.new _ _ _ _ rfl
  have BW : Below w.heap.size w V := by rw [hV]; (repeat (first | exact Below.refl _ _ | assumption | (refine Below.setCell ?_ (by first | (simp; done) | (simp; omega) | omega) _) | (refine Below.drew ?_) | (refine below_drewN ?_ _) | (refine Below.alloc ?_ (by first | (simp; done) | (simp; omega) | omega) _) | (refine Below.trans ?_ (Below.mono (by assumption) (by first | (simp; done) | (simp; omega) | omega)))))
  have H0 := Lib.hid (And.intro A0 BW)
  have a0 := A0.c 0 _ rfl; have a1 := A0.c 1 _ rfl; have a2 := A0.c 2 _ rfl; have a3 := A0.c 3 _ rfl; have al := A0.lt
  clear hV A0 BW
  go_wp2_with fail
  refine (CheckRegion_any _ _ _ _ _).mono ?_
  rintro e w1 ⟨rfl, hb1⟩
  rw [HE.out]
  have H1 := Lib.hid (And.intro (H0.out.1.past hb1) (H0.out.2.trans (hb1.mono H0.out.2.size)))
  clear a0 a1 a2 a3 al hb1 H0
  have a0 := H1.out.1.c 0 _ rfl; have a1 := H1.out.1.c 1 _ rfl; have al := H1.out.1.lt
  go_upto_region 9 with (first | (go_at_call 59; refine (fdiv_any _ _ _ (by omega) (by omega)).mono ?_; rintro e w' ⟨rfl, nn, rfl⟩))
  refine wp_world (fun V2 hV2 => ?_)
  have B2 : Below w1.heap.size w1 V2 := by rw [hV2]; (repeat (first | exact Below.refl _ _ | assumption | (refine Below.setCell ?_ (by first | (simp; done) | (simp; omega) | omega) _) | (refine Below.drew ?_) | (refine below_drewN ?_ _) | (refine Below.alloc ?_ (by first | (simp; done) | (simp; omega) | omega) _) | (refine Below.trans ?_ (Below.mono (by assumption) (by first | (simp; done) | (simp; omega) | omega)))))
  have R2 : TlR w V2 [.int .i64 X, .int .i64 Y, .int .i64 W, .int .i64 H] (.slice none 0 0) X Y W H s 0 := ⟨H1.out.1.past B2, World.ownsRow_nil _ _ _ _, H1.out.2.trans (B2.mono H1.out.2.size)⟩
  have H2 := Lib.hid R2
  clear hV2 B2 R2 a0 a1 al H1
  rw [← HD.out.1, ← HD.out.2.1]
  have a1 := H2.out.fa.c 1 _ rfl; have al := H2.out.fa.lt
  go_wp2_with fail
  clear a1 al
  go_loopw [7, 12, 13, 14, 15] (fun s7 s12 _ _ _ wr => ∃ (j : Nat) (u : Value) (yv : Int), j ≤ ny ∧ u = s7 ∧ s12 = .int .i64 yv ∧ yv = Y - dy + s * j ∧ TlR w wr [.int .i64 X, .int .i64 Y, .int .i64 W, .int .i64 H] u X Y W H s (nx * j)) (fun _ s12 _ _ _ _ => (Y + H + 512 - intOf s12).toNat)
  case atStart => exact ⟨0, _, _, Nat.zero_le _, rfl, rfl, by simp, H2.out⟩
  case round =>
    obtain ⟨j, u, yv, hj, rfl, rfl, hyv, hM⟩ := hrel
    have HM := Lib.hid hM
    have hyb : Y - 256 ≤ yv := by
      have : 0 ≤ s * (j : Int) := Int.mul_nonneg (by omega) (by omega)
      omega
    have hyi := HIY.out j
    rw [← hyv] at hyi
    have HYV := Lib.hid hyv
    clear hM H2 hyv
    have a0 := HM.out.fa.c 0 _ rfl; have a1 := HM.out.fa.c 1 _ rfl; have a3 := HM.out.fa.c 3 _ rfl; have al := HM.out.fa.lt
    by_cases hjn : j < ny
    · have hyl : yv < Y + H := hyi.2 hjn
      clear hyi
      go_wp2_with fail
      clear a0 a1 a3 al
      go_loopw [7, 13, 14, 15] (fun s7 s13 _ _ wr => ∃ (i : Nat) (u : Value) (xv : Int), i ≤ nx ∧ u = s7 ∧ s13 = .int .i64 xv ∧ xv = X - dx + s * i ∧ TlR w wr [.int .i64 X, .int .i64 Y, .int .i64 W, .int .i64 H] u X Y W H s (nx * j + i)) (fun _ s13 _ _ _ => (X + W + 512 - intOf s13).toNat)
      case atStart => exact ⟨0, _, _, Nat.zero_le _, rfl, rfl, by simp, HM.out⟩
      case round =>
        obtain ⟨i, u, xv, hi, rfl, rfl, hxv, hM⟩ := hrel
        have HM2 := Lib.hid hM
        have hxs : 0 ≤ s * (i : Int) := Int.mul_nonneg (by omega) (by omega)
        have hys : 0 ≤ s * (j : Int) := Int.mul_nonneg (by omega) (by omega)
        have hxb : X - dx ≤ xv := by omega
        have hyb2 : Y - dy ≤ yv := by have := HYV.out; omega
        have hxi := HIX.out i
        rw [← hxv] at hxi
        have HXV := Lib.hid hxv
        clear hM HM hxv hxs hys
        have a0 := HM2.out.fa.c 0 _ rfl; have a1 := HM2.out.fa.c 1 _ rfl; have a2 := HM2.out.fa.c 2 _ rfl; have a3 := HM2.out.fa.c 3 _ rfl; have al := HM2.out.fa.lt
        by_cases hin : i < nx
        · have hxl : xv < X + W := hxi.2 hin
          clear hxi
          go_wp2_with fail
          refine (Common_in X Y W H xv yv s _ (by omega) (by omega) (by omega) (by omega) hs (by omega) (by omega)).mono ?_
          rintro e w5 ⟨rfl, hb5⟩
          have H5 := Lib.hid (HM2.out.past hb5)
          clear a0 a1 a2 a3 al hb5 HM2
          have HV := Lib.hid (show [Value.int .i64 (max X xv), .int .i64 (max Y yv), .int .i64 (min (X + W) (xv + s) - max X xv), .int .i64 (min (Y + H) (yv + s) - max Y yv)] = tlV X Y W H s ((nx * j + i) % tlN X W s) ((nx * j + i) / tlN X W s) by
            rw [← HD.out.2.2.1, Nat.mul_add_mod, Nat.mod_eq_of_lt hin, Nat.mul_add_div (by omega), Nat.div_eq_of_lt hin, Nat.add_zero]
            unfold tlV
            rw [← HD.out.1, ← HD.out.2.1, ← HXV.out, ← HYV.out])
          obtain ⟨v0, hv0⟩ : ∃ v, v = max X xv := ⟨_, rfl⟩
          obtain ⟨v1, hv1⟩ : ∃ v, v = max Y yv := ⟨_, rfl⟩
          obtain ⟨v2, hv2⟩ : ∃ v, v = min (X + W) (xv + s) - max X xv := ⟨_, rfl⟩
          obtain ⟨v3, hv3⟩ : ∃ v, v = min (Y + H) (yv + s) - max Y yv := ⟨_, rfl⟩
          rw [← hv2, ← hv3, ← hv0, ← hv1] at HV ⊢
          clear hv2 hv3 hv0 hv1
          go_upto_region 17 with fail
          refine wp_world (fun V6 hV6 => ?_)
          have B6 : Below w5.heap.size w5 V6 := by rw [hV6]; (repeat (first | exact Below.refl _ _ | assumption | (refine Below.setCell ?_ (by first | (simp; done) | (simp; omega) | omega) _) | (refine Below.drew ?_) | (refine below_drewN ?_ _) | (refine Below.alloc ?_ (by first | (simp; done) | (simp; omega) | omega) _) | (refine Below.trans ?_ (Below.mono (by assumption) (by first | (simp; done) | (simp; omega) | omega)))))
          have N6 : Blk V6 w5.heap.size [.int .i64 v0, .int .i64 v1, .int .i64 v2, .int .i64 v3] := by rw [hV6]; exact Blk.new _ _ _ _ rfl
          have H6 := Lib.hid (H5.out.past B6)
          have hq : nx * j + i ≤ 262144 := by
            have : nx * j ≤ 512 * 511 := Nat.mul_le_mul n2 (by omega)
            omega
          have b0 := N6.c 0 _ rfl; have b1 := N6.c 1 _ rfl; have b2 := N6.c 2 _ rfl; have b3 := N6.c 3 _ rfl; have bl := N6.lt
          clear hV6 B6 N6 H5
          have hbs := H6.out.bel.size
          have hal := H6.out.fa.lt
          obtain ⟨q, hqe⟩ : ∃ q, q = nx * j + i := ⟨_, rfl⟩
          rw [← hqe] at HV H6 hq
          have HQ := Lib.hid hqe
          clear hqe
          go_wp2_with (first | (at_builtin; refine wpList_append_lies _ rfl _ _ _ rfl (w.heap.size + 1) 40 i0 (.agg #[.int .i64 0, .int .i64 0, .int .i64 0, .int .i64 0]) 4 32 Try.underlying65 hi0 hz0 hz1 hz2 rfl (by decide) u q (tlL X Y W H s q) rfl (own_past H6.out.own (by (repeat (first | exact Below.refl _ _ | assumption | (refine Below.setCell ?_ (by first | (simp; done) | (simp; omega) | omega) _) | (refine Below.drew ?_) | (refine below_drewN ?_ _) | (refine Below.alloc ?_ (by first | (simp; done) | (simp; omega) | omega) _) | (refine Below.trans ?_ (Below.mono (by assumption) (by first | (simp; done) | (simp; omega) | omega))))))) ⟨V6.heap.size, 0, none⟩ 1 1 [.int .i64 v0, .int .i64 v1, .int .i64 v2, .int .i64 v3] rfl rfl (by intro j u hj; match j, hj with | 0, hj => (simp at hj; subst hj; simp [Addr.add]) | 1, hj => (simp at hj; subst hj; simp [Addr.add]) | 2, hj => (simp at hj; subst hj; simp [Addr.add]) | 3, hj => (simp at hj; subst hj; simp [Addr.add])) (by intro u hu; simp at hu; rcases hu with rfl | rfl | rfl | rfl <;> rfl) (by decide) (by unfold maxLen; omega) (by omega) (by simp; omega) _ rfl ?_; intro g cap w7 hown hgrow hat hlt))
          have HN := Lib.hid (TlR.app H6.out (by (repeat (first | exact Below.refl _ _ | assumption | (refine Below.setCell ?_ (by first | (simp; done) | (simp; omega) | omega) _) | (refine Below.drew ?_) | (refine below_drewN ?_ _) | (refine Below.alloc ?_ (by first | (simp; done) | (simp; omega) | omega) _) | (refine Below.trans ?_ (Below.mono (by assumption) (by first | (simp; done) | (simp; omega) | omega)))))) HV.out hown hgrow)
          clear hown hgrow hat hlt
          go_roundw
          case rel =>
            refine ⟨i + 1, _, _, by omega, rfl, rfl, ?_, ?_⟩
            · rw [HXV.out, Int.natCast_add, Int.mul_add]; simp; omega
            · rw [show nx * j + (i + 1) = q + 1 by rw [HQ.out]; omega]
              exact HN.out
          case measure => simp [intOf]; omega
        · have hxl : ¬ xv < X + W := fun h => hin (hxi.1 h)
          have hie : i = nx := by omega
          have HN := Lib.hid (show TlR w wr [.int .i64 X, .int .i64 Y, .int .i64 W, .int .i64 H] u X Y W H s (nx * (j + 1)) by have h := HM2.out; rw [hie] at h; rw [Nat.mul_add, Nat.mul_one]; exact h)
          clear hxi
          go_wp2_with fail
          go_roundw
          case rel =>
            refine ⟨j + 1, _, _, by omega, rfl, rfl, ?_, HN.out⟩
            rw [HYV.out, Int.natCast_add, Int.mul_add]; simp; omega
          case measure => simp [intOf]; omega
    · have hyl : ¬ yv < Y + H := fun h => hjn (hyi.1 h)
      have hje : j = ny := by omega
      have HN := Lib.hid (show TlR w wr [.int .i64 X, .int .i64 Y, .int .i64 W, .int .i64 H] u X Y W H s (nx * ny) by have h := HM.out; rw [hje] at h; exact h)
      clear hyi
      go_wp2_with fail
      go_ret2
      exact ⟨_, rfl, HN.out⟩
theorem Tiles_no (X Y W H s : Int) (w : World) (hE : firstE (regErr X Y W H) (whenE (!inB s 1 256) 3) ≠ 0) :
    Calls Try.prog 29 #[.agg #[.int .i64 X, .int .i64 Y, .int .i64 W, .int .i64 H], .int .i64 s] w fun e w' => e = .returned (.tuple #[.slice none 0 0, .int .i64 (firstE (regErr X Y W H) (whenE (!inB s 1 256) 3))]) ∧ Below w.heap.size w w' := by
  obtain ⟨F, hF⟩ : ∃ F, F = regErr X Y W H := ⟨_, rfl⟩
  rw [← hF] at hE ⊢
  have HF := Lib.hid hF
  clear hF
  by_cases h1 : F = 0
  · subst h1
    have e0 : firstE 0 (whenE (!inB s 1 256) 3) = whenE (!inB s 1 256) 3 := rfl
    rw [e0] at hE ⊢
    have hi : inB s 1 256 = false := by
      cases h : inB s 1 256
      · rfl
      · rw [h] at hE; exact absurd rfl hE
    rw [hi]
    have hs : s < 1 ∨ 256 < s := by
      rcases Int.lt_or_le s 1 with h | h
      · exact Or.inl h
      · rcases Int.lt_or_le 256 s with h2 | h2
        · exact Or.inr h2
        · rw [inB_t ⟨h, h2⟩] at hi; cases hi
    clear hE e0 hi
    rcases hs with hs | hs
    · go_enter Try.func29, Try.ntmps29
      go_wp2_with (first | (go_at_call 58; refine (CheckRegion_any _ _ _ _ _).mono ?_; rintro e w2 ⟨rfl, hb2⟩; rw [← HF.out]; have hs2 := hb2.size))
      go_ret2
      exact ⟨rfl, by (repeat (first | exact Below.refl _ _ | assumption | (refine Below.setCell ?_ (by first | (simp; done) | (simp; omega) | omega) _) | (refine Below.drew ?_) | (refine below_drewN ?_ _) | (refine Below.alloc ?_ (by first | (simp; done) | (simp; omega) | omega) _) | (refine Below.trans ?_ (Below.mono (by assumption) (by first | (simp; done) | (simp; omega) | omega)))))⟩
    · have hs' : ¬ s < 1 := by omega
      go_enter Try.func29, Try.ntmps29
      go_wp2_with (first | (go_at_call 58; refine (CheckRegion_any _ _ _ _ _).mono ?_; rintro e w2 ⟨rfl, hb2⟩; rw [← HF.out]; have hs2 := hb2.size))
      go_ret2
      exact ⟨rfl, by (repeat (first | exact Below.refl _ _ | assumption | (refine Below.setCell ?_ (by first | (simp; done) | (simp; omega) | omega) _) | (refine Below.drew ?_) | (refine below_drewN ?_ _) | (refine Below.alloc ?_ (by first | (simp; done) | (simp; omega) | omega) _) | (refine Below.trans ?_ (Below.mono (by assumption) (by first | (simp; done) | (simp; omega) | omega)))))⟩
  · have hb : (F != 0) = true := by simpa using h1
    rw [firstE_of _ h1]
    clear hE h1
    go_enter Try.func29, Try.ntmps29
    go_wp2_with (first | (go_at_call 58; refine (CheckRegion_any _ _ _ _ _).mono ?_; rintro e w2 ⟨rfl, hb2⟩; rw [← HF.out]; have hs2 := hb2.size))
    go_ret2
    exact ⟨rfl, by (repeat (first | exact Below.refl _ _ | assumption | (refine Below.setCell ?_ (by first | (simp; done) | (simp; omega) | omega) _) | (refine Below.drew ?_) | (refine below_drewN ?_ _) | (refine Below.alloc ?_ (by first | (simp; done) | (simp; omega) | omega) _) | (refine Below.trans ?_ (Below.mono (by assumption) (by first | (simp; done) | (simp; omega) | omega)))))⟩
end Go.Proofs.Ytnicamndlkdcmaa
