/- The greatest difference of neighbours: cube.Rough. Conditions: what each theorem names. -/
import Derived.Test.YtmckkgbdlgldbaaCmeC
namespace Go.Proofs.Ytmckkgbdlgldbaa
open Go Go.RowKit
/-- The difference with the neighbour so far on; 0 at the last. -/
def nextG (st S : Nat) (fc : Nat → Nat) (at_ : Nat) : Nat := if at_ / st % S + 1 < S then gapF (fc at_) (fc (at_ + st)) else 0
theorem nextG_le (st S : Nat) (fc : Nat → Nat) (k : Nat) : nextG st S fc k ≤ 2139095040 := by
  unfold nextG; split
  · exact gapF_le _ _
  · omega
/-- What Rough hands back. -/
def roughF (S : Nat) (fc : Nat → Nat) (n : Nat) : Nat := mostF (fun x => mostF (nextG (3 * S ^ x) S fc) n) 3
theorem next_in {st S r n k : Nat} (hst : 0 < st) (hn : n = st * (S * r)) (hk : k < n) (h : k / st % S + 1 < S) : k + st < n := by
  have h1 : k / st < S * r := by rw [Nat.div_lt_iff_lt_mul hst, Nat.mul_comm (S * r)]; omega
  have h2 : k / st / S < r := by rw [Nat.div_lt_iff_lt_mul (by omega), Nat.mul_comm r]; exact h1
  have h3 : S * (k / st / S) + k / st % S = k / st := Nat.div_add_mod _ _
  have h4 : S * (k / st / S) + S ≤ S * r := by
    have := Nat.mul_le_mul_left S (show k / st / S + 1 ≤ r by omega)
    rw [Nat.mul_add] at this; omega
  have h5 : st * (k / st + 1 + 1) ≤ st * (S * r) := Nat.mul_le_mul_left st (by omega)
  have h6 : k < st * (k / st + 1) := by
    have h7 := Nat.div_add_mod k st; have h8 := Nat.mod_lt k hst
    rw [Nat.mul_add]; omega
  rw [Nat.mul_add] at h5
  omega
theorem side_cases {S n : Nat} (hn : n = 3 * (S * S * S)) {x : Nat} (hx : x < 3) : ∃ r, n = 3 * S ^ x * (S * r) := by
  rcases (show x = 0 ∨ x = 1 ∨ x = 2 by omega) with rfl | rfl | rfl
  · exact ⟨S * S, by rw [hn]; simp [Nat.mul_assoc]⟩
  · exact ⟨S, by rw [hn]; simp [Nat.mul_assoc]⟩
  · exact ⟨1, by rw [hn]; simp [Nat.mul_assoc, Nat.pow_succ]⟩
theorem side_le {S : Nat} (hS : S ≤ 17) {x : Nat} (hx : x ≤ 3) : S ^ x ≤ 4913 := by
  have h1 : S ^ x ≤ 17 ^ x := Nat.pow_le_pow_left hS x
  have h2 : 17 ^ x ≤ 17 ^ 3 := Nat.pow_le_pow_right (by omega) hx
  omega
theorem most3 (a b c : Nat) : Nat.max (Nat.max a b) c = Nat.max a (Nat.max b c) := Nat.max_assoc a b c
set_option maxRecDepth 100000 in
set_option maxHeartbeats 6400000 in
theorem Rough_yes (S lo hi b off n cap : Nat) (fc : Nat → Nat) (w : World) (he : cubErr S lo hi n = 0) (hc : Row w b off n fc) :
    Calls Try.prog 56 #[.agg #[.int .i64 S, .float .f32 lo, .float .f32 hi, .slice (some ⟨b, off, none⟩) n cap]] w fun e w' =>
      e = .returned (.tuple #[.float .f32 (roughF S fc n), .int .i64 0]) ∧ Below w.heap.size w w' := by
  obtain ⟨hS, hS0, hn, hpos, hnb⟩ := cub_ok_nat he
  have hbw : b < w.heap.size := hc.lt (by omega)
  have hn6 : n ≤ 14739 := by have := side_le hS (x := 3) (by omega); have e : S ^ 3 = S * S * S := by simp [Nat.pow_succ]
                             omega
  have HC := Lib.hid (fun (w' : World) (hb : Below w.heap.size w w') => hc.below hb hbw : ∀ w', Below w.heap.size w w' → _); have HE := Lib.hid he
  have HN := Lib.hid (And.intro hn (And.intro hS hS0))
  clear he hc hbw hn hpos hnb
  go_enter Try.func56, Try.ntmps56
  go_upto_region 1 with fail
  refine wp_world (fun W hW => ?_)
  have A0 : Blk W w.heap.size [.int .i64 S, .float .f32 lo, .float .f32 hi, .slice (some ⟨b, off, none⟩) n cap] := by rw [hW]; exact Blk.new _ _ _ _ rfl
  have BW : Below w.heap.size w W := by rw [hW]; (repeat (first | exact Below.refl _ _ | assumption | (refine Below.setCell ?_ (by first | (simp; done) | (simp; omega) | omega) _) | (refine Below.drew ?_) | (refine below_drewN ?_ _) | (refine Below.alloc ?_ (by first | (simp; done) | (simp; omega) | omega) _) | (refine Below.trans ?_ (Below.mono (by assumption) (by first | (simp; done) | (simp; omega) | omega)))))
  have a0 := A0.c 0 _ rfl; have a1 := A0.c 1 _ rfl; have a2 := A0.c 2 _ rfl; have a3 := A0.c 3 _ rfl; have al := A0.lt
  have H0 := Lib.hid (And.intro A0 BW)
  clear hW A0 BW
  go_wp2_with fail
  refine (CuCheck_any _ _ _ _ _ _ _).mono ?_
  rintro e w2 ⟨rfl, hb2⟩
  rw [HE.out]
  have H2 := Lib.hid (And.intro (H0.out.1.past hb2) (H0.out.2.trans (hb2.mono H0.out.2.size)))
  clear hb2 a0 a1 a2 a3 al H0
  go_wp2_with fail
  go_loopw [5, 6, 13] (fun s5 s6 s13 wr => ∃ x : Nat, x ≤ 3 ∧ s13 = .int .i64 x ∧ s6 = .int .i64 (3 * S ^ x : Nat) ∧ s5 = .float .f32 (mostF (fun x => mostF (nextG (3 * S ^ x) S fc) n) x) ∧ Blk wr w.heap.size [.int .i64 S, .float .f32 lo, .float .f32 hi, .slice (some ⟨b, off, none⟩) n cap] ∧ Below w.heap.size w wr) (fun _ _ s13 _ => 3 - (intOf s13).toNat)
  case atStart => exact ⟨0, by omega, rfl, rfl, rfl, H2.out⟩
  case round =>
    obtain ⟨x, hx, rfl, rfl, rfl, hA, hB⟩ := hrel
    have HA := Lib.hid (And.intro hA hB)
    obtain ⟨st, hst⟩ : ∃ st, st = 3 * S ^ x := ⟨_, rfl⟩
    obtain ⟨acc, hacc⟩ : ∃ acc, acc = mostF (fun x => mostF (nextG (3 * S ^ x) S fc) n) x := ⟨_, rfl⟩
    have hS4 := side_le hS hx
    have hstM : st ≤ 14739 := by omega
    have haccM : acc ≤ 2139095040 := by rw [hacc]; exact mostF_le (fun i => mostF_le (fun j => nextG_le _ _ _ _) _) _
    rw [← hst, ← hacc]
    have HST := Lib.hid hst; have HACC := Lib.hid hacc
    clear hB hst hacc H2 hS4
    have a0 := hA.c 0 _ rfl; have a3 := hA.c 3 _ rfl; have al := hA.lt
    clear hA
    by_cases hx3 : x < 3
    · have hx3' : (x : Int) < 3 := by omega
      have hst0 : 0 < st := by rw [HST.out]; exact Nat.mul_pos (by omega) (Nat.pow_pos (by omega))
      obtain ⟨r, hr⟩ := side_cases HN.out.1 hx3
      rw [← HST.out] at hr
      have HRR := Lib.hid hr
      clear hr
      go_upto_region 9 with fail
      clear a0 a3 al
      go_loopw [5, 18] (fun s5 s18 wy => ∃ k : Nat, k ≤ n ∧ s18 = .int .i64 k ∧ s5 = .float .f32 (Nat.max acc (mostF (nextG st S fc) k)) ∧ Blk wy w.heap.size [.int .i64 S, .float .f32 lo, .float .f32 hi, .slice (some ⟨b, off, none⟩) n cap] ∧ Below w.heap.size w wy) (fun _ s18 _ => n - (intOf s18).toNat)
      case atStart => exact ⟨0, Nat.zero_le _, rfl, by rw [show mostF (nextG st S fc) 0 = 0 from rfl, show Nat.max acc 0 = acc from Nat.max_zero acc], HA.out⟩
      case round =>
        obtain ⟨k, hk, rfl, rfl, hA, hB⟩ := hrel
        have HA2 := Lib.hid (And.intro hA hB)
        clear HA
        have a0 := hA.c 0 _ rfl; have a3 := hA.c 3 _ rfl; have al := hA.lt
        by_cases hkn : k < n
        · have hkn' : (k : Int) < (n : Int) := by omega
          obtain ⟨q1, hq1⟩ : ∃ q, q = k / st := ⟨_, rfl⟩
          obtain ⟨q2, hq2⟩ : ∃ q, q = q1 % S := ⟨_, rfl⟩
          have d1 : (k : Int).tdiv (st : Int) = (q1 : Int) := by rw [Int.tdiv_eq_ediv_of_nonneg (by omega), hq1]; exact (Int.natCast_ediv _ _).symm
          have d2 : (q1 : Int).tmod (S : Int) = (q2 : Int) := by rw [Int.tmod_eq_emod_of_nonneg (by omega), hq2]; exact (Int.natCast_emod _ _).symm
          have b1 : q1 ≤ 14739 := by have := Nat.div_le_self k st; omega
          have b2 : q2 ≤ 17 := by have := Nat.mod_lt q1 (show 0 < S by omega); omega
          have uS : IntKind.i64.wrap ((S : Int) - 1) = (S : Int) - 1 := by rw [IntKind.wrap_i64]; omega
          have hS1 : ¬ (S : Int) = 0 := by omega
          have hst1 : ¬ (st : Int) = 0 := by omega
          obtain ⟨m, hm⟩ : ∃ m, m = Nat.max acc (mostF (nextG st S fc) k) := ⟨_, rfl⟩
          have hmM : m ≤ 2139095040 := by rw [hm]; exact Nat.max_le.2 ⟨haccM, mostF_le (fun j => nextG_le _ _ _ _) _⟩
          rw [← hm]
          by_cases hin : q2 + 1 < S
          · have hin' : (q2 : Int) < (S : Int) - 1 := by omega
            have hin2 := next_in hst0 HRR.out hkn (by rw [← hq1, ← hq2]; exact hin)
            have C := HC.out _ hB
            have c0 := C k hkn; have c1 := C (k + st) hin2
            obtain ⟨va, hva⟩ : ∃ z, z = fc k := ⟨_, rfl⟩
            obtain ⟨vb, hvb⟩ : ∃ z, z = fc (k + st) := ⟨_, rfl⟩
            rw [← hva] at c0; rw [← hvb] at c1
            have HX := Lib.hid (show Nat.max m (gapF va vb) = Nat.max acc (mostF (nextG st S fc) (k + 1)) by
              have e : nextG st S fc k = gapF va vb := by unfold nextG; rw [← hq1, ← hq2, if_pos hin, hva, hvb]
              rw [hm, most3, ← e]; rfl)
            have l0 := cell_lt c0
            simp only at l0
            have i0 : IntKind.i64.wrap ((k : Int) + (st : Int)) = ((k + st : Nat) : Int) := by rw [IntKind.wrap_i64]; omega
            have i1 : ((k + st : Nat) : Int) < (n : Int) := by omega
            obtain ⟨kt, hkt⟩ : ∃ kt, kt = k + st := ⟨_, rfl⟩
            rw [← hkt] at c1 i0 i1
            clear hva hvb hm hB C hq1 hq2 hin2
            go_upto_region 11 with fail
            go_quiet (fail)
            go_upto_region 12 with fail
            refine wp_world (fun W9 hW9 => ?_)
            have B9 : Below wr.heap.size wr W9 := by rw [hW9]; exact below_drewN (Below.refl _ _) _
            have A9 := hA.past B9
            have HA9 := Lib.hid (And.intro A9 (HA2.out.2.trans (B9.mono HA2.out.2.size)))
            have C9 := HC.out _ HA9.out.2
            have c0 : W9.cell? ⟨b, off + k, none⟩ = some (.float .f32 va) := (B9.cell (p := ⟨b, off + k, none⟩) l0).trans c0
            have c1 : W9.cell? ⟨b, off + kt, none⟩ = some (.float .f32 vb) := (B9.cell (p := ⟨b, off + kt, none⟩) l0).trans c1
            have l0 := cell_lt c0
            simp only at l0
            clear a0 a3 al hA hW9 B9 HA2 hkt C9
            have a0 := A9.c 0 _ rfl; have a3 := A9.c 3 _ rfl; have al := A9.lt
            clear A9
            refine wp_region_loose 14 GapPsi (by kernel_rfl) (by kernel_rfl) ?_
            simp only [List.take_succ_cons, List.take_zero, List.drop_succ_cons, List.drop_zero]
            iterate 13 (refine loose_wanted rfl (fun K hK => ?_); go_simp; refine hK _ ?_; clear hK K)
            refine loose_wanted rfl (fun K1 hK => ?_)
            go_simp
            refine ⟨fun p => (gap_any _ _ p.w).mono ?_, ?_⟩
            · rintro e w' ⟨⟨r, rfl, hr⟩, m, rfl⟩
              exact ⟨_, rfl, ⟨r, rfl, hr⟩, below_drewN p.h m⟩
            rintro u ⟨r, rfl, hr⟩
            refine hK _ ?_
            clear hK K1
            refine loose_nil (fun w5 hb5 => ?_)
            have HR5 := Lib.hid (And.intro (HA9.out.1.past hb5) (HA9.out.2.trans (hb5.mono HA9.out.2.size)))
            have hmx := fun ts t w => run_max_gap (P := Try.prog) hr hmM ts t w
            clear hb5 c0 c1 a0 a3 al l0 HA9
            go_wp2_with fail
            go_roundw
            case rel => exact ⟨k + 1, by omega, by go_num, by rw [HX.out], HR5.out⟩
            case measure => simp [intOf]; omega
          · have hin' : ¬ (q2 : Int) < (S : Int) - 1 := by omega
            have HX := Lib.hid (show m = Nat.max acc (mostF (nextG st S fc) (k + 1)) by
              have e : nextG st S fc k = 0 := by unfold nextG; rw [← hq1, ← hq2, if_neg hin]
              rw [hm, show mostF (nextG st S fc) (k + 1) = mostF (nextG st S fc) k from mostF_ge _ _ (by rw [e]; exact Nat.zero_le _)])
            clear hm hB hA hq1 hq2
            go_upto_region 11 with fail
            go_quiet (fail)
            go_wp2_with fail
            go_roundw
            case rel => exact ⟨k + 1, by omega, by go_num, by rw [← HX.out], HA2.out.1.past (below_drewN (Below.refl _ _) _), HA2.out.2.trans ((below_drewN (Below.refl _ _) _).mono HA2.out.2.size)⟩
            case measure => simp [intOf]; omega
        · obtain rfl : k = n := by omega
          have hkk : ¬ (k : Int) < (k : Int) := by omega
          have i0 : IntKind.i64.wrap ((st : Int) * (S : Int)) = ((3 * S ^ (x + 1) : Nat) : Int) := by
            have h1 : 3 * S ^ (x + 1) = st * S := by rw [HST.out, Nat.pow_succ, Nat.mul_assoc]
            have h2 := side_le hS (x := x + 1) (by omega)
            rw [IntKind.wrap_i64, ← Int.natCast_mul, ← h1]; omega
          clear hA hB
          go_wp2_with fail
          go_roundw
          case rel => exact ⟨x + 1, by omega, by go_num, rfl, by rw [HACC.out, HST.out]; rfl, HA2.out⟩
          case measure => simp [intOf]; omega
    · obtain rfl : x = 3 := by omega
      go_wp2_with fail
      refine bodyPost_ret (v := .tuple #[.float .f32 acc, .int .i64 0]) (by simp [results, Try.results56, go_sem]) rfl ⟨by rw [HACC.out]; rfl, HA.out.2⟩
set_option maxHeartbeats 800000 in
theorem Rough_no (sa : Int) (la ha : Nat) (aa : Option Addr) (na ca : Nat) (w : World) (hE : cubErr sa la ha na ≠ 0) :
    Calls Try.prog 56 #[.agg #[.int .i64 sa, .float .f32 la, .float .f32 ha, .slice aa na ca]] w fun e w' => e = .returned (.tuple #[.float .f32 0, .int .i64 (cubErr sa la ha na)]) ∧ Below w.heap.size w w' := by
  obtain ⟨EA, hEA⟩ : ∃ E, E = cubErr sa la ha na := ⟨_, rfl⟩
  rw [← hEA] at hE ⊢
  have hc : (EA != 0) = true := by simpa using hE
  have HEA := Lib.hid hEA
  clear hEA hE
  go_enter Try.func56, Try.ntmps56
  go_wp2_with (first | (go_at_call 95; refine (CuCheck_any _ _ _ _ _ _ _).mono ?_; rintro e w2 ⟨rfl, hb2⟩; rw [← HEA.out]; have hs2 := hb2.size))
  refine bodyPost_ret (v := .tuple #[.float .f32 0, .int .i64 EA]) (by simp [results, Try.results56, go_sem]) rfl ⟨rfl, ?_⟩
  (repeat (first | exact Below.refl _ _ | assumption | (refine Below.setCell ?_ (by first | (simp; done) | (simp; omega) | omega) _) | (refine Below.drew ?_) | (refine below_drewN ?_ _) | (refine Below.alloc ?_ (by first | (simp; done) | (simp; omega) | omega) _) | (refine Below.trans ?_ (Below.mono (by assumption) (by first | (simp; done) | (simp; omega) | omega)))))
end Go.Proofs.Ytmckkgbdlgldbaa
