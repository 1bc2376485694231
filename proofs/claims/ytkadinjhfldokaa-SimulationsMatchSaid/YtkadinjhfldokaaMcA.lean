/- Whether machines are right: farm.CheckMachines. Conditions: what each theorem names. -/
import Derived.Test.YtkadinjhfldokaaOpM
import Derived.BigQuiet
namespace Go.Proofs.Ytkadinjhfldokaa
open Go Go.RowKit
/-- What is wrong with a time at which a machine is down. -/
def dnE (df dt : Nat → Int) (k : Nat) : Int := if df k < 0 ∨ 1000000000 < df k ∨ dt k < 0 ∨ 1000000000 < dt k then 3 else if dt k ≤ df k ∨ (0 < k ∧ df k < dt (k - 1)) then 8 else 0
/-- What is wrong with a machine. -/
def mcE (k : Mc) : Int := if k.sp < 1 ∨ 1000 < k.sp then 3 else if 20 < k.dn then 4 else firstN (dnE k.df k.dt) k.dn
/-- What is wrong with machines. -/
def mcErr (n : Nat) (ks : Nat → Mc) : Int := if n = 0 then 10 else if 64 < n then 4 else firstN (fun i => mcE (ks i)) n
set_option maxRecDepth 100000 in
set_option maxHeartbeats 6400000 in
theorem CheckMachines_any (a : Option Addr) (n c : Nat) (ks : Nat → Mc) (w : World) (h : IsMachines w a n c ks) :
    Calls Try.prog 10 #[.slice a n c] w fun e w' => e = .returned (.int .i64 (mcErr n ks)) ∧ Below w.heap.size w w' := by
  by_cases h0 : n = 0
  · subst h0
    have hE : mcErr 0 ks = 10 := by unfold mcErr; rw [if_pos rfl]
    rw [hE]
    clear h hE
    go_enter Try.func10, Try.ntmps10
    go_wp2_with fail
    go_ret
    exact ⟨rfl, Below.refl _ _⟩
  by_cases hn : 64 < n
  · have hni : (64 : Int) < (n : Int) := by omega
    have hn0 : ¬ (n : Int) = 0 := by omega
    have hE : mcErr n ks = 4 := by unfold mcErr; rw [if_neg h0, if_pos hn]
    rw [hE]
    clear h hn hE h0
    go_enter Try.func10, Try.ntmps10
    go_wp2_with fail
    go_ret
    exact ⟨rfl, Below.refl _ _⟩
  · have hni : ¬ (64 : Int) < (n : Int) := by omega
    have hn0 : ¬ (n : Int) = 0 := by omega
    have hE : mcErr n ks = firstN (fun i => mcE (ks i)) n := by unfold mcErr; rw [if_neg h0, if_neg hn]
    rw [hE]
    have HH := Lib.hid h
    clear h hE h0
    go_enter Try.func10, Try.ntmps10
    go_wp2_with fail
    clear hni hn0
    go_loopw [15] (fun s15 wr => ∃ i : Nat, i ≤ n ∧ s15 = .int .i64 i ∧ firstN (fun i => mcE (ks i)) i = 0 ∧ Below w.heap.size w wr) (fun s15 _ => n - (intOf s15).toNat)
    case atStart => exact ⟨0, Nat.zero_le _, rfl, rfl, Below.refl _ _⟩
    case round =>
      obtain ⟨i, hi, rfl, hz, hB⟩ := hrel
      have HZ := Lib.hid hz; have HB := Lib.hid hB
      clear hz
      by_cases hin : i < n
      · have hini : (i : Int) < (n : Int) := by omega
        obtain ⟨b, off, rfl, hc⟩ := HH.out.2.2 (by omega)
        have hw := (hc i hin).below hB
        have HN := Lib.hid (fun hk => firstN_of HZ.out hk hin : mcE (ks i) ≠ 0 → firstN (fun i => mcE (ks i)) n = mcE (ks i))
        have HS := Lib.hid (fun hk => firstN_succ (k := i) HZ.out hk : mcE (ks i) = 0 → firstN (fun i => mcE (ks i)) (i + 1) = 0)
        obtain ⟨K, hK⟩ : ∃ K, K = ks i := ⟨_, rfl⟩
        rw [← hK] at hw HN HS
        obtain ⟨sp, da, dn, dc, df, dt⟩ := K
        clear hK hc hB
        have c0 := hw.1; have c1 := hw.2.1
        simp only at c0 c1
        have l0 := cell_lt c0; simp only at l0
        have HI := Lib.hid (show InS wr da dn dc df dt from hw.2.2.2)
        have hsp := hw.2.2.1
        simp only [IntKind.min, IntKind.max] at hsp
        clear hw
        by_cases hb : sp < 1 ∨ 1000 < sp
        · have hE : mcE ⟨sp, da, dn, dc, df, dt⟩ = 3 := by unfold mcE; rw [if_pos hb]
          have HE := Lib.hid (show firstN (fun i => mcE (ks i)) n = 3 by rw [HN.out (by rw [hE]; decide), hE])
          have hb' : sp < 1 ∨ (¬ sp < 1 ∧ 1000 < sp) := by omega
          clear hb hE HN HS HZ hsp
          rcases hb' with q1 | ⟨q1, q2⟩
          all_goals
            go_wp2_with fail
            go_ret
            exact ⟨by rw [HE.out]; rfl, Below.alloc HB.out HB.out.size _⟩
        · have q1 : ¬ sp < 1 := by omega
          have q2 : ¬ 1000 < sp := by omega
          by_cases ha : 20 < dn
          · have hai : (20 : Int) < (dn : Int) := by omega
            have hE : mcE ⟨sp, da, dn, dc, df, dt⟩ = 4 := by unfold mcE; rw [if_neg hb, if_pos ha]
            have HE := Lib.hid (show firstN (fun i => mcE (ks i)) n = 4 by rw [HN.out (by rw [hE]; decide), hE])
            clear hE HN HS HZ hsp hb
            go_wp2_with (fail)
            go_ret
            exact ⟨by rw [HE.out]; rfl, Below.alloc HB.out HB.out.size _⟩
          · have hai : ¬ (20 : Int) < (dn : Int) := by omega
            have hE : mcE ⟨sp, da, dn, dc, df, dt⟩ = firstN (dnE df dt) dn := by unfold mcE; rw [if_neg hb, if_neg ha]
            rw [hE] at HN HS
            clear hE hb
            go_upto_region 12 with (fail)
            refine wp_world (fun W4 hW4 => ?_)
            have B4 : Below wr.heap.size wr W4 := by rw [hW4]; (repeat (first | exact Below.refl _ _ | assumption | (refine Below.setCell ?_ (by first | (simp; done) | (simp; omega) | omega) _) | (refine Below.drew ?_) | (refine below_drewN ?_ _) | (refine Below.alloc ?_ (by first | (simp; done) | (simp; omega) | omega) _) | (refine Below.trans ?_ (Below.mono (by assumption) (by first | (simp; done) | (simp; omega) | omega)))))
            have N4 : Blk W4 wr.heap.size [.int .i64 sp, .slice da dn dc] := by rw [hW4]; exact Blk.new _ _ _ _ rfl
            have HB4 := Lib.hid (HB.out.trans (B4.mono HB.out.size))
            have HI4 := Lib.hid (HI.out.below B4)
            have HN4 := Lib.hid N4
            have m1 := N4.c 1 _ rfl; have ml := N4.lt
            clear hW4 B4 N4 c0 c1 l0 HI
            go_wp2_with fail
            clear m1 ml
            go_loopw [34] (fun s34 wq => ∃ k : Nat, k ≤ dn ∧ s34 = .int .i64 k ∧ firstN (dnE df dt) k = 0 ∧ Below W4.heap.size W4 wq) (fun s34 _ => dn - (intOf s34).toNat)
            case atStart => exact ⟨0, Nat.zero_le _, rfl, rfl, Below.refl _ _⟩
            case round =>
              obtain ⟨k, hk, rfl, hz, hq⟩ := hrel
              have HZ2 := Lib.hid hz
              have HQ := Lib.hid hq
              by_cases hka : k < dn
              · have hkai : (k : Int) < (dn : Int) := by omega
                obtain ⟨b2, off2, rfl, hcc⟩ := HI4.out.2.2 (by omega)
                have hac := HI4.out.1
                have hac2 : dc ≤ 9223372036854775807 := by have := HI4.out.2.1; unfold maxLen at this; omega
                obtain ⟨d0, d1, d2, d3⟩ := hcc k hka
                have HN2 := Lib.hid (fun hq => firstN_of HZ2.out hq hka : dnE df dt k ≠ 0 → firstN (dnE df dt) dn = dnE df dt k)
                have HA := Lib.hid (show dnE df dt k = if df k < 0 ∨ 1000000000 < df k ∨ dt k < 0 ∨ 1000000000 < dt k then 3 else if dt k ≤ df k ∨ (0 < k ∧ df k < dt (k - 1)) then 8 else 0 from rfl)
                obtain ⟨z, hze⟩ : ∃ z, z = df k := ⟨_, rfl⟩
                obtain ⟨y, hye⟩ : ∃ y, y = dt k := ⟨_, rfl⟩
                rw [← hze] at d0 d2 HA
                rw [← hye] at d1 d3 HA
                simp only [IntKind.min, IntKind.max] at d2 d3
                have e0 := (hq.cell (p := ⟨b2, off2 + k * 2, none⟩) (cell_lt d0)).trans d0
                have e1 := (hq.cell (p := ⟨b2, off2 + k * 2 + 1, none⟩) (cell_lt d1)).trans d1
                have el := cell_lt e0; simp only at el
                have HCC := Lib.hid hcc
                clear hcc hze hye hz d0 d1
                by_cases hbad : z < 0 ∨ 1000000000 < z ∨ y < 0 ∨ 1000000000 < y
                · have hE : dnE df dt k = 3 := by rw [HA.out, if_pos hbad]
                  have HE := Lib.hid (show firstN (fun i => mcE (ks i)) n = 3 by rw [HN.out (by rw [HN2.out (by rw [hE]; decide), hE]; decide), HN2.out (by rw [hE]; decide), hE])
                  have hb' : z < 0 ∨ (¬ z < 0 ∧ 1000000000 < z) ∨ (¬ z < 0 ∧ ¬ 1000000000 < z ∧ y < 0) ∨ (¬ z < 0 ∧ ¬ 1000000000 < z ∧ ¬ y < 0 ∧ 1000000000 < y) := by omega
                  clear hbad hE HN HN2 HA HS HZ2 HZ
                  rcases hb' with p1 | ⟨p1, p2⟩ | ⟨p1, p2, p3⟩ | ⟨p1, p2, p3, p4⟩
                  all_goals
                    go_wp2_with fail
                    go_ret
                    refine ⟨by rw [HE.out]; rfl, ?_⟩
                    have hb4 := HB4.out; have hb5 := HQ.out
                    have hs := hb4.size
                    have hb6 := hb4.trans (hb5.mono hs)
                    exact hb6.alloc hb6.size _
                · have HR := Lib.hid (fun h => by rw [HA.out, if_neg hbad, if_pos h] : (y ≤ z ∨ (0 < k ∧ z < dt (k - 1))) → dnE df dt k = 8)
                  have HO := Lib.hid (fun h => by rw [HA.out, if_neg hbad, if_neg h] : ¬ (y ≤ z ∨ (0 < k ∧ z < dt (k - 1))) → dnE df dt k = 0)
                  have r1 : ¬ z < 0 := by omega
                  have r2 : ¬ 1000000000 < z := by omega
                  have r3 : ¬ y < 0 := by omega
                  have r4 : ¬ 1000000000 < y := by omega
                  clear hbad HA
                  go_upto_region 17 with (fail)
                  refine wp_world (fun W5 hW5 => ?_)
                  have B5 : Below wr.heap.size wr W5 := by rw [hW5]; (repeat (first | exact Below.refl _ _ | assumption | (refine Below.setCell ?_ (by first | (simp; done) | (simp; omega) | omega) _) | (refine Below.drew ?_) | (refine below_drewN ?_ _) | (refine Below.alloc ?_ (by first | (simp; done) | (simp; omega) | omega) _) | (refine Below.trans ?_ (Below.mono (by assumption) (by first | (simp; done) | (simp; omega) | omega)))))
                  have N5 : Blk W5 wr.heap.size [.int .i64 z, .int .i64 y] := by rw [hW5]; exact Blk.new _ _ _ _ rfl
                  have HB5 := Lib.hid (hq.trans (B5.mono hq.size))
                  have g0 := N5.c 0 _ rfl; have g1 := N5.c 1 _ rfl; have gl := N5.lt
                  have M5 := HN4.out.past HB5.out
                  have m1 := M5.c 1 _ rfl; have ml := M5.lt
                  clear hW5 B5 N5 e0 e1 el M5 hq
                  by_cases hyz : y ≤ z
                  · have hd : decide (y ≤ z) = true := decide_eq_true hyz
                    have HE := Lib.hid (show firstN (fun i => mcE (ks i)) n = 8 by rw [HN.out (by rw [HN2.out (by rw [HR.out (.inl hyz)]; decide), HR.out (.inl hyz)]; decide), HN2.out (by rw [HR.out (.inl hyz)]; decide), HR.out (.inl hyz)])
                    clear HN HN2 HS HZ2 HZ HR HO hyz
                    go_quiet (fail)
                    go_wp2_with fail
                    go_ret
                    refine ⟨by rw [HE.out]; rfl, ?_⟩
                    have hb4 := HB4.out; have hb5 := HB5.out
                    have hs := hb4.size
                    exact below_drewN (hb4.trans (hb5.mono hs)) _
                  · have hd : decide (y ≤ z) = false := decide_eq_false hyz
                    by_cases hk0 : 0 < k
                    · obtain ⟨J, hJ⟩ : ∃ J, k = J + 1 := ⟨k - 1, by omega⟩
                      have hkk : (0 : Int) < (k : Int) := by omega
                      have hd0 : decide ((0 : Int) < (k : Int)) = true := decide_eq_true hkk
                      have hJ1 : (k : Int) - 1 = (J : Int) := by omega
                      have p0 := (HCC.out J (by omega)).2.1
                      have p1 := (HB5.out.cell (p := ⟨b2, off2 + J * 2 + 1, none⟩) (cell_lt p0)).trans p0
                      have p2 := cell_lt p1; simp only at p2
                      have hJd : J < dn := by omega
                      have hJw : IntKind.i64.wrap (J : Int) = (J : Int) := by rw [IntKind.wrap_i64]; omega
                      obtain ⟨v, hv⟩ : ∃ v, v = dt J := ⟨_, rfl⟩
                      rw [← hv] at p1
                      have hkJ : k - 1 = J := by omega
                      rw [hkJ, ← hv] at HR HO
                      clear p0 hkJ
                      by_cases hzv : z < v
                      · have hd1 : decide (z < v) = true := decide_eq_true hzv
                        have HE := Lib.hid (show firstN (fun i => mcE (ks i)) n = 8 by rw [HN.out (by rw [HN2.out (by rw [HR.out (.inr ⟨hk0, hzv⟩)]; decide), HR.out (.inr ⟨hk0, hzv⟩)]; decide), HN2.out (by rw [HR.out (.inr ⟨hk0, hzv⟩)]; decide), HR.out (.inr ⟨hk0, hzv⟩)])
                        clear HN HN2 HS HZ2 HZ HR HO hJ hv
                        go_quiet (fail)
                        go_wp2_with fail
                        go_ret
                        refine ⟨by rw [HE.out]; rfl, ?_⟩
                        have hb4 := HB4.out; have hb5 := HB5.out
                        have hs := hb4.size
                        exact below_drewN (hb4.trans (hb5.mono hs)) _
                      · have hd1 : decide (z < v) = false := decide_eq_false hzv
                        have HE := Lib.hid (firstN_succ HZ2.out (HO.out (by omega)))
                        clear HN HN2 HR HO hJ hv
                        go_quiet (fail)
                        go_wp2_with fail
                        go_roundw
                        case rel => exact ⟨k + 1, by omega, by go_num, HE.out, below_drewN HB5.out _⟩
                        case measure => simp [intOf]; omega
                    · have hkk : ¬ (0 : Int) < (k : Int) := by omega
                      have hd0 : decide ((0 : Int) < (k : Int)) = false := decide_eq_false hkk
                      have HE := Lib.hid (firstN_succ HZ2.out (HO.out (by omega)))
                      clear HN HN2 HR HO
                      go_quiet (fail)
                      go_wp2_with fail
                      go_roundw
                      case rel => exact ⟨k + 1, by omega, by go_num, HE.out, below_drewN HB5.out _⟩
                      case measure => simp [intOf]; omega
              · have hkai : ¬ (k : Int) < (dn : Int) := by omega
                have hke : k = dn := by omega
                have HE := Lib.hid (HS.out (by rw [← hke]; exact HZ2.out))
                clear hz
                go_wp2_with fail
                go_roundw
                case rel => exact ⟨i + 1, by omega, by go_num, HE.out, HB4.out.trans (HQ.out.mono HB4.out.size)⟩
                case measure => simp [intOf]; omega
      · have hini : ¬ (i : Int) < (n : Int) := by omega
        have hie : i = n := by omega
        go_wp2_with fail
        go_ret
        exact ⟨by rw [← hie, HZ.out]; rfl, HB.out⟩
end Go.Proofs.Ytkadinjhfldokaa
