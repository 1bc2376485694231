/- slices.IndexFunc of steps by a name. Conditions: what each theorem names. -/
import Derived.Test.YtbaocallhnehfaaGreatDoorPrH
set_option linter.unusedSimpArgs false
set_option linter.unusedVariables false
namespace Go.Proofs.YtbaocallhnehfaaGreatDoor
open Go Go.RowKit
theorem posS_first {S : Nat → StepD} {i j : Nat} {l : List UInt8} (h : posS S i l = some j) : ∀ q, q < j → l ≠ (S q).nm.data.toList := by
  induction i with
  | zero => simp [posS] at h
  | succ i ih =>
    unfold posS at h
    split at h
    · rename_i k hk
      cases h
      exact ih hk
    · rename_i hk
      split at h
      · cases h
        intro q hq e
        have : ∀ i, posS S i l = none → q < i → l ≠ (S q).nm.data.toList := by
          intro i
          induction i with
          | zero => intro _ h; omega
          | succ i ih2 =>
            intro h1 h2 h3
            unfold posS at h1
            split at h1
            · cases h1
            · rename_i h4
              split at h1
              · cases h1
              · rename_i h5
                by_cases e2 : q = i
                · subst e2; exact h5 h3
                · exact ih2 h4 (by omega) h3
        exact this _ hk hq e
      · cases h
set_option maxRecDepth 100000 in
theorem stepIs_any (s : StepD) (nm : ByteArray) (pt : Nat) (w : World) (h : Blk w pt [.string nm]) : Calls Tryz.prog 25 #[stV s, .pointer (some ⟨pt, 0, none⟩)] w fun e w' => e = .returned (.bool (s.nm.toList == nm.toList)) ∧ Below w.heap.size w w' := by
  have b0 := h.c 0 _ rfl; have bl := h.lt
  clear h
  obtain ⟨n2, op, ins, ints, reals, ia, ic, na, nc, ra, rc⟩ := s
  unfold stV
  simp only
  go_enter Tryz.func25, Tryz.ntmps25
  go_wp2_with fail
  go_ret
  exact ⟨rfl, by (repeat (first | exact Below.refl _ _ | assumption | (refine Below.setCell ?_ (by first | (simp; done) | (simp; omega) | omega) _) | (refine Below.drew ?_) | (refine below_drewN ?_ _) | (refine Below.alloc ?_ (by first | (simp; done) | (simp; omega) | omega) _) | (refine Below.trans ?_ (Below.mono (by assumption) (by first | (simp; done) | (simp; omega) | omega)))))⟩
theorem entIs : ∀ args w, (callFunc 25 args).run Tryz.prog w = .ok (.enter 25 args) w := body_enters Tryz.func25 (by kernel_rfl) rfl
set_option maxRecDepth 100000 in
set_option maxHeartbeats 1600000 in
theorem IndexStep (a : Option Addr) (c n jo pt : Nat) (S : Nat → StepD) (nm : ByteArray) (w : World) (h : RowP w a n c 5 (fun i => stL (S i))) (hp : posS S n nm.data.toList = some jo) (hb : Blk w pt [.string nm]) :
    Calls Tryz.prog 24 #[.slice a n c, .func (.func 25) #[] #[.pointer (some ⟨pt, 0, none⟩)]] w fun e w' => e = .returned (.int .i64 (jo : Int)) ∧ Below w.heap.size w w' := by
  have HH := Lib.hid h
  have hj := posS_lt hp
  have HY : Hid (((S jo).nm.toList == nm.toList) = true) := Lib.hid (by rw [Lib.bytes_beq_iff, ← bs_of (S jo).nm, ← posS_nm hp, bs_of])
  have HN : Hid (∀ q, q < jo → ((S q).nm.toList == nm.toList) = false) := Lib.hid (fun q hq => by rw [Lib.bytes_beq_false_iff]; exact fun e => posS_first hp q hq (by rw [e]))
  have HB := Lib.hid hb
  have hm63 : n ≤ 9223372036854775807 := by have h1 := h.lc; have h3 := h.lm; unfold maxLen at h3; omega
  have hent := entIs
  clear h hp hb
  go_enter Tryz.func24, Tryz.ntmps24
  go_wp2_with fail
  go_loopw [8] (fun s8 wr => ∃ k : Nat, k ≤ jo ∧ s8 = .int .i64 k ∧ Below w.heap.size w wr) (fun s8 _ => n - (intOf s8).toNat)
  case atStart => exact ⟨0, Nat.zero_le _, rfl, Below.refl _ _⟩
  case round =>
    obtain ⟨k, hk, rfl, hB⟩ := hrel
    have HBL := Lib.hid hB
    have hkn : k < n := by omega
    have hkmi : (k : Int) < (n : Int) := by omega
    obtain ⟨b, off, rfl, hrow⟩ := (HH.out.past hB).get hkn
    have c1 := HH.out.lc
    have c2 : c ≤ 9223372036854775807 := by have := HH.out.lm; unfold maxLen at this; omega
    have d0 := hrow 0 _ rfl; have d1 := hrow 1 _ rfl; have d2 := hrow 2 _ rfl; have d3 := hrow 3 _ rfl; have d4 := hrow 4 _ rfl
    rw [Nat.add_zero] at d0
    have l0 := cell_lt d0; simp only at l0
    have HC := Lib.hid (stepIs_any (S k) nm pt wr (HB.out.past hB))
    by_cases he : k = jo
    · subst he
      have hy := HY.out
      rw [hy] at HC
      obtain ⟨sk, hsk⟩ : ∃ sk, sk = S k := ⟨_, rfl⟩
      rw [← hsk] at d0 d1 d2 d3 d4 HC
      obtain ⟨n2, op, ins, ints, reals, ia, ic, na, nc, ra, rc⟩ := sk
      unfold stV at HC
      simp only at d0 d1 d2 d3 d4 HC
      clear hrow hB hsk HY HN hy
      go_wp2_with fail
      refine (HC.out).mono ?_
      rintro e w5 ⟨rfl, hb5⟩
      have HB5 := Lib.hid (HBL.out.trans (hb5.mono HBL.out.size))
      clear HC hb5 d0 d1 d2 d3 d4 l0
      go_wp2_with fail
      go_ret
      exact ⟨rfl, HB5.out⟩
    · have hy := HN.out k (by omega)
      rw [hy] at HC
      obtain ⟨sk, hsk⟩ : ∃ sk, sk = S k := ⟨_, rfl⟩
      rw [← hsk] at d0 d1 d2 d3 d4 HC
      obtain ⟨n2, op, ins, ints, reals, ia, ic, na, nc, ra, rc⟩ := sk
      unfold stV at HC
      simp only at d0 d1 d2 d3 d4 HC
      clear hrow hB hsk hy
      go_wp2_with fail
      refine (HC.out).mono ?_
      rintro e w5 ⟨rfl, hb5⟩
      have HB5 := Lib.hid (HBL.out.trans (hb5.mono HBL.out.size))
      clear HC hb5 d0 d1 d2 d3 d4 l0
      go_wp2_with fail
      go_roundw
      case rel => exact ⟨k + 1, by omega, by go_num, HB5.out⟩
      case measure => simp [intOf]; omega
end Go.Proofs.YtbaocallhnehfaaGreatDoor
