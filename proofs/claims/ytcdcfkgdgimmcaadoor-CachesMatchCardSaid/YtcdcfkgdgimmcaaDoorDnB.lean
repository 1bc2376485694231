/- Whether work is right: farm.CheckWork. Conditions: what each theorem names. -/
import Derived.Test.YtcdcfkgdgimmcaaDoorDnA
namespace Go.Proofs.YtcdcfkgdgimmcaaDoor
open Go Go.RowKit
theorem InI.take {w : World} {a : Option Addr} {n c k : Nat} {zs : Nat → Int} (h : InI w a n c zs) (hk : k ≤ n) : InI w a k c zs := by
  refine ⟨Nat.le_trans hk h.1, h.2.1, fun h0 => ?_⟩
  obtain ⟨b, off, h1, h2⟩ := h.2.2 (by omega)
  exact ⟨b, off, h1, fun j hj => h2 j (by omega)⟩
set_option maxRecDepth 100000 in
set_option maxHeartbeats 3200000 in
theorem CheckWork_any (a : Option Addr) (n c : Nat) (ks : Nat → Wk) (w : World) (h : IsWorks w a n c ks) :
    Calls Tryd.prog 76 #[.slice a n c] w fun e w' => e = .returned (.int .i64 (wkErr n ks)) ∧ Below w.heap.size w w' := by
  by_cases hn : 2000 < n
  · have hni : (2000 : Int) < (n : Int) := by omega
    have hE : wkErr n ks = 4 := by unfold wkErr; rw [if_pos hn]
    rw [hE]
    clear h hn hE
    go_enter Tryd.func76, Tryd.ntmps76
    go_wp2_with fail
    go_ret
    exact ⟨rfl, Below.refl _ _⟩
  · have hni : ¬ (2000 : Int) < (n : Int) := by omega
    have hE : wkErr n ks = firstN (fun i => wkE i (ks i)) n := by unfold wkErr; rw [if_neg hn]
    rw [hE]
    have HH := Lib.hid h
    clear h hE
    go_enter Tryd.func76, Tryd.ntmps76
    go_wp2_with fail
    clear hni
    go_loopw [12] (fun s12 wr => ∃ i : Nat, i ≤ n ∧ s12 = .int .i64 i ∧ firstN (fun i => wkE i (ks i)) i = 0 ∧ Below w.heap.size w wr) (fun s12 _ => n - (intOf s12).toNat)
    case atStart => exact ⟨0, Nat.zero_le _, rfl, rfl, Below.refl _ _⟩
    case round =>
      obtain ⟨i, hi, rfl, hz, hB⟩ := hrel
      have HZ := Lib.hid hz; have HB := Lib.hid hB
      clear hz
      by_cases hin : i < n
      · have hini : (i : Int) < (n : Int) := by omega
        have h20 : i < 2000 := by omega
        obtain ⟨b, off, rfl, hc⟩ := HH.out.2.2 (by omega)
        have hw := (hc i hin).below hB
        have HN := Lib.hid (fun hk => firstN_of HZ.out hk hin : wkE i (ks i) ≠ 0 → firstN (fun i => wkE i (ks i)) n = wkE i (ks i))
        have HS := Lib.hid (fun hk => firstN_succ (k := i) HZ.out hk : wkE i (ks i) = 0 → firstN (fun i => wkE i (ks i)) (i + 1) = 0)
        obtain ⟨K, hK⟩ : ∃ K, K = ks i := ⟨_, rfl⟩
        rw [← hK] at hw HN HS
        obtain ⟨co, ra, aa, an, ac, az⟩ := K
        clear hK hc hB
        have c0 := hw.1; have c1 := hw.2.1; have c2 := hw.2.2.1
        simp only at c0 c1 c2
        have l0 := cell_lt c0; simp only at l0
        have HI := Lib.hid (show InI wr aa an ac az from hw.2.2.2.2.2)
        have hco := hw.2.2.2.1; have hra := hw.2.2.2.2.1
        simp only [IntKind.min, IntKind.max] at hco hra
        clear hw
        by_cases hb : co < 1 ∨ 1000000 < co ∨ ra < 0 ∨ 100 < ra
        · have hE : wkE i ⟨co, ra, aa, an, ac, az⟩ = 3 := by unfold wkE; rw [if_pos hb]
          have HE := Lib.hid (show firstN (fun i => wkE i (ks i)) n = 3 by rw [HN.out (by rw [hE]; decide), hE])
          have hb' : (co < 1) ∨ (¬ co < 1 ∧ 1000000 < co) ∨ (¬ co < 1 ∧ ¬ 1000000 < co ∧ ra < 0) ∨ (¬ co < 1 ∧ ¬ 1000000 < co ∧ ¬ ra < 0 ∧ 100 < ra) := by omega
          clear hb hE HN HS HZ hco hra
          rcases hb' with q1 | ⟨q1, q2⟩ | ⟨q1, q2, q3⟩ | ⟨q1, q2, q3, q4⟩
          all_goals
            go_wp2_with fail
            go_ret
            exact ⟨by rw [HE.out]; rfl, Below.alloc HB.out HB.out.size _⟩
        · have q1 : ¬ co < 1 := by omega
          have q2 : ¬ 1000000 < co := by omega
          have q3 : ¬ ra < 0 := by omega
          have q4 : ¬ 100 < ra := by omega
          by_cases ha : 20 < an
          · have hai : (20 : Int) < (an : Int) := by omega
            have hE : wkE i ⟨co, ra, aa, an, ac, az⟩ = 4 := by unfold wkE; rw [if_neg hb, if_pos ha]
            have HE := Lib.hid (show firstN (fun i => wkE i (ks i)) n = 4 by rw [HN.out (by rw [hE]; decide), hE])
            clear hE HN HS HZ hco hra hb
            go_wp2_with fail
            go_ret
            exact ⟨by rw [HE.out]; rfl, Below.alloc HB.out HB.out.size _⟩
          · have hai : ¬ (20 : Int) < (an : Int) := by omega
            have hE : wkE i ⟨co, ra, aa, an, ac, az⟩ = firstN (afE i az) an := by unfold wkE; rw [if_neg hb, if_neg ha]
            rw [hE] at HN HS
            clear hE hb
            go_upto_region 8 with fail
            refine wp_world (fun W4 hW4 => ?_)
            have B4 : Below wr.heap.size wr W4 := by rw [hW4]; (repeat (first | exact Below.refl _ _ | assumption | (refine Below.setCell ?_ (by first | (simp; done) | (simp; omega) | omega) _) | (refine Below.drew ?_) | (refine below_drewN ?_ _) | (refine Below.alloc ?_ (by first | (simp; done) | (simp; omega) | omega) _) | (refine Below.trans ?_ (Below.mono (by assumption) (by first | (simp; done) | (simp; omega) | omega)))))
            have N4 : Blk W4 wr.heap.size [.int .i64 co, .int .i64 ra, .slice aa an ac] := by rw [hW4]; exact Blk.new _ _ _ _ rfl
            have HB4 := Lib.hid (HB.out.trans (B4.mono HB.out.size))
            have HI4 := Lib.hid (HI.out.below B4)
            have m2 := N4.c 2 _ rfl; have ml := N4.lt
            clear hW4 B4 N4 c0 c1 c2 l0 HI
            go_wp2_with fail
            go_loopw [42] (fun s42 wq => ∃ k : Nat, k ≤ an ∧ s42 = .int .i64 k ∧ firstN (afE i az) k = 0 ∧ wq = W4) (fun s42 _ => an - (intOf s42).toNat)
            case atStart => exact ⟨0, Nat.zero_le _, rfl, rfl, rfl⟩
            case round =>
              obtain ⟨k, hk, rfl, hz, rfl⟩ := hrel
              have HZ2 := Lib.hid hz
              by_cases hka : k < an
              · have hkai : (k : Int) < (an : Int) := by omega
                obtain ⟨b2, off2, rfl, hcc⟩ := HI4.out.2.2 (by omega)
                have hac := HI4.out.1
                have hac2 : ac ≤ 9223372036854775807 := by have := HI4.out.2.1; unfold maxLen at this; omega
                obtain ⟨d0, d1⟩ := hcc k hka
                have HN2 := Lib.hid (fun hq => firstN_of HZ2.out hq hka : afE i az k ≠ 0 → firstN (afE i az) an = afE i az k)
                have HA := Lib.hid (show afE i az k = if az k < 0 ∨ (i : Int) ≤ az k then 11 else if hasZ az (az k) k = true then 7 else 0 from rfl)
                obtain ⟨z, hze⟩ : ∃ z, z = az k := ⟨_, rfl⟩
                rw [← hze] at d0 d1 HA
                simp only [IntKind.min, IntKind.max] at d1
                have e0 := cell_lt d0; simp only at e0
                have hkc : (k : Int) ≤ (ac : Int) := by omega
                clear hcc hze hz
                by_cases hbad : z < 0 ∨ (i : Int) ≤ z
                · have hE : afE i az k = 11 := by rw [HA.out, if_pos hbad]
                  have HE := Lib.hid (show firstN (fun i => wkE i (ks i)) n = 11 by rw [HN.out (by rw [HN2.out (by rw [hE]; decide), hE]; decide), HN2.out (by rw [hE]; decide), hE])
                  have hb' : z < 0 ∨ (¬ z < 0 ∧ (i : Int) ≤ z) := by omega
                  clear hbad hE HN HN2 HA HS HZ2 HZ
                  rcases hb' with p1 | ⟨p1, p2⟩
                  all_goals
                    go_wp2_with fail
                    go_ret
                    refine ⟨by rw [HE.out]; rfl, HB4.out⟩
                · have p1 : ¬ z < 0 := by omega
                  have p2 : ¬ (i : Int) ≤ z := by omega
                  have HCT := Lib.hid (ContainsI_any (some ⟨b2, off2, none⟩) k ac az z _ (by omega) (HI4.out.take (by omega)))
                  rw [if_neg hbad] at HA
                  clear hbad
                  go_wp2_with fail
                  refine (HCT.out).mono ?_
                  rintro e w' ⟨rfl, rfl⟩
                  cases hcz : hasZ az z k
                  · rw [hcz] at HA
                    have HE := Lib.hid (firstN_succ HZ2.out HA.out)
                    clear HA HN HN2 HCT hcz
                    go_wp2_with fail
                    go_roundw
                    case rel => exact ⟨k + 1, by omega, by go_num, HE.out, by trivial⟩
                    case measure => simp [intOf]; omega
                  · rw [hcz] at HA
                    have hE : afE i az k = 7 := HA.out
                    have HE := Lib.hid (show firstN (fun i => wkE i (ks i)) n = 7 by rw [HN.out (by rw [HN2.out (by rw [hE]; decide), hE]; decide), HN2.out (by rw [hE]; decide), hE])
                    clear hE HN HN2 HA HS HZ2 HZ HCT hcz
                    go_wp2_with fail
                    go_ret
                    exact ⟨by rw [HE.out]; rfl, HB4.out⟩
              · have hkai : ¬ (k : Int) < (an : Int) := by omega
                have hke : k = an := by omega
                have HE := Lib.hid (HS.out (by rw [← hke]; exact HZ2.out))
                clear hz
                go_wp2_with fail
                go_roundw
                case rel => exact ⟨i + 1, by omega, by go_num, HE.out, HB4.out⟩
                case measure => simp [intOf]; omega
      · have hini : ¬ (i : Int) < (n : Int) := by omega
        have hie : i = n := by omega
        go_wp2_with fail
        go_ret
        exact ⟨by rw [← hie, HZ.out]; rfl, HB.out⟩
end Go.Proofs.YtcdcfkgdgimmcaaDoor
