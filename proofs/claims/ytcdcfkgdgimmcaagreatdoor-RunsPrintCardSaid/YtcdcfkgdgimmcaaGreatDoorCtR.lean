/- The runs of a work, in RunsPrint: the closure, slices.IndexFunc, slices.ContainsFunc. Conditions: what each theorem names. -/
import Derived.Test.YtcdcfkgdgimmcaaGreatDoorDnF
namespace Go.Proofs.YtcdcfkgdgimmcaaGreatDoor
open Go Go.RowKit
/-- The closure: whether a run is one of work i that did not fail. -/
theorem rpIs_any (k : RunV) (i : Nat) (pi : Nat) (w : World) (h : Blk w pi [.int .i64 i]) :
    Calls Tryz.prog 16 #[.agg #[.int .i64 k.wk, .int .i64 k.mc, .int .i64 k.fr, .int .i64 k.to, .bool k.fl], .pointer (some ⟨pi, 0, none⟩)] w fun e w' => e = .returned (.bool (decide (k.wk = i) && !k.fl)) ∧ Below w.heap.size w w' := by
  have p0 := h.c 0 _ rfl; have pl := h.lt
  clear h
  obtain ⟨wk, mc, fr, te, fl⟩ := k
  by_cases he : wk = i
  · have heb : (wk == (i : Int)) = true := by simpa using he
    go_enter Tryz.func16, Tryz.ntmps16
    go_wp2_with fail
    go_ret
    exact ⟨by simp [he], by (repeat (first | exact Below.refl _ _ | assumption | (refine Below.setCell ?_ (by first | (simp; done) | (simp; omega) | omega) _) | (refine Below.drew ?_) | (refine below_drewN ?_ _) | (refine Below.alloc ?_ (by first | (simp; done) | (simp; omega) | omega) _) | (refine Below.trans ?_ (Below.mono (by assumption) (by first | (simp; done) | (simp; omega) | omega)))))⟩
  · have heb : (wk == (i : Int)) = false := by simpa using he
    go_enter Tryz.func16, Tryz.ntmps16
    go_wp2_with fail
    go_ret
    exact ⟨by simp [he], by (repeat (first | exact Below.refl _ _ | assumption | (refine Below.setCell ?_ (by first | (simp; done) | (simp; omega) | omega) _) | (refine Below.drew ?_) | (refine below_drewN ?_ _) | (refine Below.alloc ?_ (by first | (simp; done) | (simp; omega) | omega) _) | (refine Below.trans ?_ (Below.mono (by assumption) (by first | (simp; done) | (simp; omega) | omega)))))⟩
set_option maxRecDepth 100000 in
set_option maxHeartbeats 1600000 in
theorem rpIndex_any (a : Option Addr) (m c : Nat) (rs : Nat → RunV) (i pi : Nat) (w : World) (h : IsRuns w a m c rs) (hp : Blk w pi [.int .i64 i]) (hv : ∀ k, k < m → 0 ≤ (rs k).wk) :
    Calls Tryz.prog 35 #[.slice a m c, .func (.func 16) #[] #[.pointer (some ⟨pi, 0, none⟩)]] w fun e w' => (∃ r : Int, e = .returned (.int .i64 r) ∧ (0 ≤ r ↔ dnB rs m i = true)) ∧ Below w.heap.size w w' := by
  have HH := Lib.hid h; have HP := Lib.hid hp; have HV := Lib.hid hv
  have hm63 : m ≤ 9223372036854775807 := by have h1 := h.1; have h3 := h.2.1; unfold maxLen at h3; omega
  clear h hp hv
  go_enter Tryz.func35, Tryz.ntmps35
  go_wp2_with fail
  go_loopw [8] (fun s8 wr => ∃ k : Nat, k ≤ m ∧ s8 = .int .i64 k ∧ dnB rs k i = false ∧ Below w.heap.size w wr) (fun s8 _ => m - (intOf s8).toNat)
  case atStart => exact ⟨0, Nat.zero_le _, rfl, rfl, Below.refl _ _⟩
  case round =>
    obtain ⟨k, hk, rfl, hz, hB⟩ := hrel
    have HZ := Lib.hid hz; have HB := Lib.hid hB
    clear hz
    by_cases hkm : k < m
    · have hkmi : (k : Int) < (m : Int) := by omega
      obtain ⟨b, off, rfl, hc⟩ := HH.out.2.2 (by omega)
      have hw := (hc k hkm).below hB
      have HC := Lib.hid (rpIs_any (rs k) i pi wr (HP.out.past hB))
      have HT := Lib.hid (fun h1 h2 => dnB_of (i := i) hkm h1 h2 : (rs k).wk.toNat = i → (rs k).fl = false → dnB rs m i = true)
      have HN := Lib.hid (show dnB rs (k + 1) i = if (rs k).wk.toNat = i then dnB rs k i || !(rs k).fl else dnB rs k i from rfl)
      have HV2 := Lib.hid (HV.out k hkm)
      obtain ⟨K, hK⟩ : ∃ K, K = rs k := ⟨_, rfl⟩
      rw [← hK] at hw HC HT HN HV2
      obtain ⟨wk, mc, fr, te, fl⟩ := K
      simp only at HC HT HN HV2
      clear hK hc hB
      have c0 := hw.1; have c1 := hw.2.1; have c2 := hw.2.2.1; have c3 := hw.2.2.2.1; have c4 := hw.2.2.2.2.1
      simp only at c0 c1 c2 c3 c4
      have l0 := cell_lt c0; simp only at l0
      clear hw
      cases hr : (decide (wk = (i : Int)) && !fl)
      · rw [hr] at HC
        have HS := Lib.hid (show dnB rs (k + 1) i = false by
          rw [HN.out, HZ.out]
          by_cases e : wk = i
          · simp [e] at hr ⊢; exact hr
          · have hv2 := HV2.out
            rw [if_neg (by omega)])
        clear hr HN HT
        go_wp2_with fail
        refine (HC.out).mono ?_
        rintro e w5 ⟨rfl, hb⟩
        have HB5 := Lib.hid (HB.out.trans (hb.mono HB.out.size))
        clear hb HC c0 c1 c2 c3 c4 l0
        go_wp2_with fail
        go_roundw
        case rel => exact ⟨k + 1, by omega, by go_num, HS.out, HB5.out⟩
        case measure => simp [intOf]; omega
      · rw [hr] at HC
        have HS := Lib.hid (show dnB rs m i = true by simp at hr; exact HT.out (by omega) hr.2)
        clear hr HN HT
        go_wp2_with fail
        refine (HC.out).mono ?_
        rintro e w5 ⟨rfl, hb⟩
        have HB5 := Lib.hid (HB.out.trans (hb.mono HB.out.size))
        clear hb HC c0 c1 c2 c3 c4 l0
        go_wp2_with fail
        go_ret
        exact ⟨⟨_, rfl, by simp [HS.out]⟩, HB5.out⟩
    · have hkmi : ¬ (k : Int) < (m : Int) := by omega
      have hke : k = m := by omega
      clear hB
      go_wp2_with fail
      go_ret
      refine ⟨⟨_, rfl, ?_⟩, HB.out⟩
      rw [← hke, HZ.out]
      simp
theorem rpContains_any (a : Option Addr) (m c : Nat) (rs : Nat → RunV) (i pi : Nat) (w : World) (h : IsRuns w a m c rs) (hp : Blk w pi [.int .i64 i]) (hv : ∀ k, k < m → 0 ≤ (rs k).wk) :
    Calls Tryz.prog 15 #[.slice a m c, .func (.func 16) #[] #[.pointer (some ⟨pi, 0, none⟩)]] w fun e w' => e = .returned (.bool (dnB rs m i)) ∧ Below w.heap.size w w' := by
  go_enter Tryz.func15, Tryz.ntmps15
  go_wp2_with fail
  refine (rpIndex_any a m c rs i pi w h hp hv).mono ?_
  rintro e w' ⟨⟨r, rfl, hr⟩, hB⟩
  have HB := Lib.hid hB
  clear hB
  cases hz : dnB rs m i
  · rw [hz] at hr
    have HZ := Lib.hid hz
    clear hz
    have hr' : ¬ 0 ≤ r := fun h => by have := hr.1 h; cases this
    go_wp2_with fail
    go_ret
    exact ⟨by first | (simp; done) | (rw [HZ.out]; simp), HB.out⟩
  · rw [hz] at hr
    have HZ := Lib.hid hz
    clear hz
    have hr' : 0 ≤ r := hr.2 rfl
    go_wp2_with fail
    go_ret
    exact ⟨by first | (simp; done) | (rw [HZ.out]; simp), HB.out⟩
end Go.Proofs.YtcdcfkgdgimmcaaGreatDoor
