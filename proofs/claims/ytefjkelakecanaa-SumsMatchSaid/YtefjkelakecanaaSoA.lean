/- slices.swapRangeCmpFunc, rotateCmpFunc over singles: rows change places. Conditions: the rows lie within the slice. -/
import Derived.Test.YtefjkelakecanaaSoQ
import Derived.Test.YtefjkelakecanaaVcN
import Derived.Deep.RegionLaw
import Derived.BigRegion
namespace Go.Proofs.Ytefjkelakecanaa
open Go.RowKit
/-- A row of singles in a block of its own; what lies below the block is as it was. -/
structure SoW (w : World) (g n : Nat) (wr : World) (q : Nat → Nat) : Prop where
  v : VecF wr g n q
  b : Below g w wr
  k : ∀ j, j < n → q j < 4294967296
theorem SoW.past {w : World} {g n : Nat} {wr wy : World} {q : Nat → Nat} (k : SoW w g n wr q) (h : Below wr.heap.size wr wy) : SoW w g n wy q := ⟨k.v.past h, k.b.trans (h.mono (Nat.le_of_lt k.v.lt)), k.k⟩
theorem SoW.drewN {w : World} {g n : Nat} {wr : World} {q : Nat → Nat} (k : SoW w g n wr q) (m : Nat) : SoW w g n (wr.drewN m) q := k.past (below_drewN (Below.refl _ _) m)
theorem SoW.set {w : World} {g n : Nat} {wr : World} {q : Nat → Nat} (k : SoW w g n wr q) (i x : Nat) (hi : i < n) (hx : x < 4294967296) : SoW w g n (wr.setCell ⟨g, i, none⟩ (.float .f32 x)) (fun j => if j = i then x else q j) := ⟨k.v.set i x hi, k.b.setCell (Nat.le_refl _) _, fun j hj => by
    show (if j = i then x else q j) < _
    split
    · exact hx
    · exact k.k j hj⟩
theorem SoW.swap {w : World} {g n : Nat} {wr : World} {q : Nat → Nat} (k : SoW w g n wr q) {i j : Nat} (hi : i < n) (hj : j < n) : SoW w g n ((wr.setCell ⟨g, i, none⟩ (.float .f32 (q j))).setCell ⟨g, j, none⟩ (.float .f32 (q i))) (swp q i j) := by
  have h := (k.set i (q j) hi (k.k j hj)).set j (q i) hj (k.k i hi)
  exact h
theorem SoW.congr {w : World} {g n : Nat} {wr : World} {q q' : Nat → Nat} (k : SoW w g n wr q) (h : q = q') : SoW w g n wr q' := h ▸ k
theorem so_exit {next : Exit → Act → World → Prop} {e : Exit} {a : Act} {w : World} (h : ∀ W, W = w → next e a W) : next e a w := h w rfl
set_option maxRecDepth 100000 in
set_option maxHeartbeats 3200000 in
theorem swr_any (w : World) (g n cap a b c : Nat) (cf : Value) (q : Nat → Nat) (wr : World) (hn : n ≤ 1073741824) (h1 : a + c ≤ b) (h2 : b + c ≤ n) (hw : SoW w g n wr q) :
    Calls Try.prog 68 #[.slice (some ⟨g, 0, none⟩) n cap, .int .i64 a, .int .i64 b, .int .i64 c, cf] wr fun e w' => e = .returned (.tuple #[]) ∧ SoW w g n w' (swr q a b c) := by
  have H0 := Lib.hid hw
  clear hw
  go_enter Try.func68, Try.ntmps68
  go_wp2_with fail
  go_loopw [10] (fun s10 wr => ∃ i : Nat, s10 = .int .i64 i ∧ i ≤ c ∧ SoW w g n wr (swr q a b i)) (fun s10 _ => c - (intOf s10).toNat)
  case atStart => exact ⟨0, rfl, Nat.zero_le _, H0.out.congr (by funext x; unfold swr; (repeat' split) <;> first | rfl | (exfalso; omega))⟩
  case round =>
    obtain ⟨i, rfl, hi, hr⟩ := hrel
    have HR := Lib.hid hr
    by_cases hic : i < c
    · have hic' : (i : Int) < (c : Int) := by omega
      obtain ⟨A, hA⟩ : ∃ A : Nat, A = a + i := ⟨_, rfl⟩
      obtain ⟨B, hB⟩ : ∃ B : Nat, B = b + i := ⟨_, rfl⟩
      have hA1 : (a : Int) + (i : Int) = (A : Int) := by omega
      have hB1 : (b : Int) + (i : Int) = (B : Int) := by omega
      have hA2 : A < n := by omega
      have hB2 : B < n := by omega
      have hAB : A ≠ B := by omega
      obtain ⟨qq, hqq⟩ : ∃ qq, qq = swr q a b i := ⟨_, rfl⟩
      rw [← hqq] at hr
      obtain ⟨x, hx⟩ : ∃ x, x = qq A := ⟨_, rfl⟩
      obtain ⟨y, hy⟩ : ∃ y, y = qq B := ⟨_, rfl⟩
      have ca := hr.v.c A hA2
      have cb := hr.v.c B hB2
      have cl := hr.v.lt
      have cfr := hr.v.f
      rw [← hx] at ca
      rw [← hy] at cb
      have HQ := Lib.hid (And.intro hqq (And.intro hx (And.intro hy (And.intro hA hB))))
      clear hqq hx hy hA hB hr
      go_upto_region 3 with fail
      go_region
      refine so_exit (fun W hW => ?_)
      have HW : Hid (SoW w g n W (swr q a b (i + 1))) := by
        obtain ⟨q1, q2, q3, q4, q5⟩ := HQ.out
        have h := (HR.out.congr q1.symm).swap hA2 hB2
        rw [← q2, ← q3] at h
        rw [hW]
        refine (h.past (by (repeat (first | exact Below.refl _ _ | assumption | (refine Below.setCell ?_ (by first | (simp; done) | (simp; omega) | omega) _) | (refine Below.drew ?_) | (refine below_drewN ?_ _) | (refine Below.alloc ?_ (by first | (simp; done) | (simp; omega) | omega) _) | (refine Below.trans ?_ (Below.mono (by assumption) (by first | (simp; done) | (simp; omega) | omega))))))).congr ?_
        rw [q1, q4, q5, swr_step q (by omega)]
      clear hW HR
      go_wp2_with fail
      go_roundw
      case rel => exact ⟨i + 1, by first | rfl | go_num, by omega, HW.out⟩
      case measure => simp [intOf]; omega
    · obtain rfl : i = c := by omega
      clear hr
      go_wp2_with fail
      exact bodyPost_end (v := .tuple #[]) (by simp [results, Try.results68, go_sem]) rfl ⟨rfl, HR.out⟩
set_option maxRecDepth 100000 in
set_option maxHeartbeats 3200000 in
theorem rot_any (w : World) (g n cap a m b : Nat) (cf : Value) (q : Nat → Nat) (wr : World) (hn : n ≤ 1073741824) (h1 : a < m) (h2 : m < b) (h3 : b ≤ n) (hw : SoW w g n wr q) :
    Calls Try.prog 66 #[.slice (some ⟨g, 0, none⟩) n cap, .int .i64 a, .int .i64 m, .int .i64 b, cf] wr fun e w' => e = .returned (.tuple #[]) ∧ SoW w g n w' (rot q a m b) := by
  have H0 := Lib.hid hw
  clear hw
  have i1 : (m : Int) - (a : Int) = ((m - a : Nat) : Int) := by omega
  have i2 : (b : Int) - (m : Int) = ((b - m : Nat) : Int) := by omega
  go_enter Try.func66, Try.ntmps66
  go_wp2_with fail
  clear i1 i2
  go_loopw [10, 11] (fun s10 s11 wr => ∃ i j : Nat, ∃ qq, s10 = .int .i64 i ∧ s11 = .int .i64 j ∧ 0 < i ∧ 0 < j ∧ i ≤ m ∧ m + j ≤ n ∧ rot qq (m - i) m (m + j) = rot q a m b ∧ SoW w g n wr qq) (fun s10 s11 _ => (intOf s10).toNat + (intOf s11).toNat)
  case atStart => exact ⟨m - a, b - m, q, rfl, rfl, by omega, by omega, by omega, by omega, by congr 1 <;> omega, H0.out⟩
  case round =>
    obtain ⟨i, j, qq, rfl, rfl, hi0, hj0, hi, hj, hq, hr⟩ := hrel
    have HR := Lib.hid (And.intro hq hr)
    clear hq hr H0
    have hi' : (0 : Int) < i := by omega
    have hj' : (0 : Int) < j := by omega
    have him : (i : Int) ≤ m := by omega
    have hmn : (m : Int) ≤ 1073741824 := by omega
    have hjn : (j : Int) ≤ 1073741824 := by omega
    rcases Nat.lt_trichotomy i j with hlt | heq | hgt
    · have c1 : ¬ (i : Int) = (j : Int) := by omega
      have c2 : ¬ (j : Int) < (i : Int) := by omega
      have e1 : (m : Int) - (i : Int) = ((m - i : Nat) : Int) := by omega
      have e2 : (m : Int) + (j : Int) - (i : Int) = ((m + j - i : Nat) : Int) := by omega
      have e3 : (j : Int) - (i : Int) = ((j - i : Nat) : Int) := by omega
      go_wp2_with fail
      refine (swr_any w g n cap (m - i) (m + j - i) i cf qq _ hn (by omega) (by omega) HR.out.2).mono ?_
      rintro e w' ⟨rfl, h⟩
      have HW := Lib.hid h
      clear h
      go_wp2_with fail
      go_roundw
      case rel => exact ⟨i, j - i, _, rfl, by first | rfl | go_num, hi0, by omega, hi, by omega, (rot_small qq hi hlt).trans HR.out.1, HW.out⟩
      case measure => simp [intOf]; omega
    · subst heq
      have e1 : (m : Int) - (i : Int) = ((m - i : Nat) : Int) := by omega
      go_wp2_with fail
      refine (swr_any w g n cap (m - i) m i cf qq _ hn (by omega) (by omega) HR.out.2).mono ?_
      rintro e w' ⟨rfl, h⟩
      have HW := Lib.hid (h.congr ((rot_same qq hi).trans HR.out.1))
      clear h
      go_wp2_with fail
      exact bodyPost_end (v := .tuple #[]) (by simp [results, Try.results66, go_sem]) rfl ⟨rfl, HW.out⟩
    · have c1 : ¬ (i : Int) = (j : Int) := by omega
      have c2 : (j : Int) < (i : Int) := by omega
      have e1 : (m : Int) - (i : Int) = ((m - i : Nat) : Int) := by omega
      have e3 : (i : Int) - (j : Int) = ((i - j : Nat) : Int) := by omega
      go_wp2_with fail
      refine (swr_any w g n cap (m - i) m j cf qq _ hn (by omega) (by omega) HR.out.2).mono ?_
      rintro e w' ⟨rfl, h⟩
      have HW := Lib.hid h
      clear h
      go_wp2_with fail
      go_roundw
      case rel => exact ⟨i - j, j, _, by first | rfl | go_num, rfl, by omega, hj0, by omega, hj, (rot_big qq hi hgt).trans HR.out.1, HW.out⟩
      case measure => simp [intOf]; omega
end Go.Proofs.Ytefjkelakecanaa
