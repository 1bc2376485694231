/- What is done: farm.numbersOf, farm.Done. Conditions: what each theorem names. -/
import Derived.Test.YtcdcfkgdgimmcaaGreatDoorDnD
import Derived.Test.YtcdcfkgdgimmcaaGreatDoorCA
namespace Go.Proofs.YtcdcfkgdgimmcaaGreatDoor
open Go Go.RowKit
theorem infoInt : (Tryz.prog.info? 3).map (fun i => (i.zero, i.size, i.bytes)) = some (some (.int .i64 0), 1, 8) := by kernel_rfl
/-- The numbers below n for which f. -/
def nmZ (f : Nat → Bool) : Nat → List Int
  | 0 => []
  | i + 1 => if f i = true then nmZ f i ++ [(i : Int)] else nmZ f i
theorem nmZ_len (f : Nat → Bool) (n : Nat) : (nmZ f n).length ≤ n := by
  induction n with
  | zero => exact Nat.le_refl _
  | succ n ih =>
    unfold nmZ
    split
    · rw [List.length_append]; simp; omega
    · omega
/-- A row of numbers that grows. -/
structure NmR (w wr : World) (u : Value) (l : List Int) : Prop where
  own : wr.ownsRow w.heap.size 3 1 u l.length (l.map (Value.int .i64))
  bel : Below w.heap.size w wr
theorem NmR.nil (w : World) : NmR w w (.slice none 0 0) [] := ⟨World.ownsRow_nil _ _ _ _, Below.refl _ _⟩
theorem NmR.past {w wr wy : World} {u : Value} {l : List Int} (k : NmR w wr u l) (h : Below wr.heap.size wr wy) : NmR w wy u l := ⟨own_past k.own h, k.bel.trans (h.mono k.bel.size)⟩
theorem NmR.app {w wr wa w1 : World} {u u' : Value} {l : List Int} {x : Int} (k0 : NmR w wr u l) (hb : Below wr.heap.size wr wa) (hown : w1.ownsRow w.heap.size 3 1 u' (l.length + 1) (l.map (Value.int .i64) ++ [.int .i64 x])) (hg : wa.grownBy w1 u.ownBlock) : NmR w w1 u' (l ++ [x]) := by
  have k := k0.past hb
  refine ⟨by simpa using hown, k.bel.grown hg k.bel.size (fun j hj => ?_)⟩
  exact (k.own.lt j hj).1
theorem NmR.cells {w wr : World} {u : Value} {l : List Int} (k : NmR w wr u l) : ∃ (g : Nat) (a : Option Addr) (c : Nat), u = .slice a l.length c ∧ (0 < l.length → a = some ⟨g, 0, none⟩) ∧ ∀ i, i < l.length → wr.cell? ⟨g, 0 + i, none⟩ = some (.int .i64 (l.getD i 0)) := by
  rcases Nat.eq_zero_or_pos l.length with h0 | h0
  · rcases k.own.2 with ⟨h1, h2⟩ | ⟨g, cap, cur, h1, -⟩
    · rw [h2]
      exact ⟨0, none, 0, by rw [h1], fun h => by omega, fun i hi => by omega⟩
    · exact ⟨g, _, cap, h1, fun h => by omega, fun i hi => by omega⟩
  · obtain ⟨g, c, rfl, -, -, -, -⟩ := own_form k.own h0
    have hc := k.own.cells (g := g) rfl
    refine ⟨g, _, c, rfl, fun _ => rfl, fun i hi => ?_⟩
    have := hc i (.int .i64 (l.getD i 0)) (by simp [hi])
    rw [Go.WideShapes.add_plain] at this
    exact this
set_option maxRecDepth 100000 in
set_option maxHeartbeats 3200000 in
theorem NumbersOf_any (g n c : Nat) (f : Nat → Bool) (w : World) (hn : n ≤ 65536) (hr : w.rowIs g 4 n (fun j => .bool (f j))) :
    Calls Tryz.prog 30 #[.slice (some ⟨g, 0, none⟩) n c, .bool true] w fun e w' => ∃ u, e = .returned u ∧ NmR w w' u (nmZ f n) := by
  obtain ⟨i0, hi0, hz0, hz1, hz2⟩ := info_parts infoInt
  have HR := Lib.hid hr
  clear hr
  go_enter Tryz.func30, Tryz.ntmps30
  go_wp2_with fail
  go_loopw [5, 10] (fun s5 s10 wr => ∃ (i : Nat) (u : Value), i ≤ n ∧ s10 = .int .i64 i ∧ u = s5 ∧ NmR w wr u (nmZ f i)) (fun _ s10 _ => n - (intOf s10).toNat)
  case atStart => exact ⟨0, _, Nat.zero_le _, rfl, rfl, NmR.nil _⟩
  case round =>
    obtain ⟨i, u, hi, rfl, rfl, hM⟩ := hrel
    have HM := Lib.hid hM
    by_cases hin : i < n
    · have hini : (i : Int) < (n : Int) := by omega
      have hR := HR.out.of_block (hM.bel.block g HR.out.lt)
      have r0 := hR.cell hin
      have gl := hR.lt
      have hL := nmZ_len f i
      have hbs := hM.bel.size
      have HF := Lib.hid (show nmZ f (i + 1) = if f i = true then nmZ f i ++ [(i : Int)] else nmZ f i from rfl)
      obtain ⟨L, hLL⟩ : ∃ L, L = nmZ f i := ⟨_, rfl⟩
      rw [← hLL] at HM HF hL
      obtain ⟨b, hb⟩ : ∃ b, b = f i := ⟨_, rfl⟩
      rw [← hb] at r0 HF
      clear hR hM hLL hb
      cases b
      · go_wp2_with fail
        go_roundw
        case rel => exact ⟨i + 1, _, by omega, by go_num, rfl, by rw [HF.out]; simpa using HM.out⟩
        case measure => simp [intOf]; omega
      · go_wp2_with (first | (at_builtin; refine wpList_append_lies _ rfl _ _ _ rfl w.heap.size 3 i0 (.int .i64 0) 1 8 Tryz.underlying36 hi0 hz0 hz1 hz2 rfl (by decide) u L.length (L.map (Value.int .i64)) rfl (own_past HM.out.own (by (repeat (first | exact Below.refl _ _ | assumption | (refine Below.setCell ?_ (by first | (simp; done) | (simp; omega) | omega) _) | (refine Below.drew ?_) | (refine below_drewN ?_ _) | (refine Below.alloc ?_ (by first | (simp; done) | (simp; omega) | omega) _) | (refine Below.trans ?_ (Below.mono (by assumption) (by first | (simp; done) | (simp; omega) | omega))))))) ⟨wr.heap.size, 0, none⟩ 1 1 [.int .i64 i] rfl rfl (by intro j u hj; match j, hj with | 0, hj => (simp at hj; subst hj; simp [Addr.add])) (by intro u hu; simp at hu; subst hu; rfl) (by decide) (by unfold maxLen; omega) (by omega) (by simp; omega) _ rfl ?_; intro g' cap w7 hown hgrow hat hlt))
        have HN := Lib.hid (NmR.app HM.out (by (repeat (first | exact Below.refl _ _ | assumption | (refine Below.setCell ?_ (by first | (simp; done) | (simp; omega) | omega) _) | (refine Below.drew ?_) | (refine below_drewN ?_ _) | (refine Below.alloc ?_ (by first | (simp; done) | (simp; omega) | omega) _) | (refine Below.trans ?_ (Below.mono (by assumption) (by first | (simp; done) | (simp; omega) | omega)))))) hown hgrow)
        clear hown hgrow hat hlt
        go_roundw
        case rel => exact ⟨i + 1, _, by omega, by go_num, rfl, by rw [HF.out]; simpa using HN.out⟩
        case measure => simp [intOf]; omega
    · have hini : ¬ (i : Int) < (n : Int) := by omega
      have hie : i = n := by omega
      clear hM
      go_wp2_with fail
      go_ret
      exact ⟨_, rfl, by rw [← hie]; exact HM.out⟩
/-- What is wrong with run k. -/
def rnE (n : Nat) (rs : Nat → RunV) (k : Nat) : Int := if (rs k).wk < 0 ∨ (n : Int) ≤ (rs k).wk then 11 else 0
/-- Whether work i is done behind m runs. -/
def dnB (rs : Nat → RunV) : Nat → (Nat → Bool)
  | 0 => fun _ => false
  | m + 1 => fun i => if (rs m).wk.toNat = i then dnB rs m i || !(rs m).fl else dnB rs m i
set_option maxRecDepth 100000 in
set_option maxHeartbeats 3200000 in
theorem Done_any (a : Option Addr) (n c : Nat) (ks : Nat → Wk) (a2 : Option Addr) (m c2 : Nat) (rs : Nat → RunV) (w : World) (h : IsWorks w a n c ks) (h2 : IsRuns w a2 m c2 rs) (hE : wkErr n ks = 0) :
    Calls Tryz.prog 29 #[.slice a n c, .slice a2 m c2] w fun e w' =>
      (firstN (rnE n rs) m = 0 ∧ ∃ u w2, e = .returned (.tuple #[u, .int .i64 0]) ∧ w.heap.size ≤ w2.heap.size ∧ NmR w2 w' u (nmZ (dnB rs m) n) ∧ Below w.heap.size w w') ∨
      (firstN (rnE n rs) m ≠ 0 ∧ e = .returned (.tuple #[.slice none 0 0, .int .i64 (firstN (rnE n rs) m)]) ∧ Below w.heap.size w w') := by
  obtain ⟨hn, -⟩ := wk_ok hE
  have HH := Lib.hid h; have H2 := Lib.hid h2; have HE := Lib.hid hE
  have hmk := run_make_row' (P := Tryz.prog) 77 4 (.bool false) 1 Tryz.underlying77 (by kernel_rfl) rfl .i64 .i64 n (by omega) (by omega)
  have hm63 : m ≤ 9223372036854775807 := by have h1 := h2.1; have h3 := h2.2.1; unfold maxLen at h3; omega
  clear h h2 hE
  go_enter Tryz.func29, Tryz.ntmps29
  go_upto_region 4 with (first | (go_at_call 27; refine (CheckWork_any _ _ _ _ _ HH.out).mono ?_; rintro e w1 ⟨rfl, hb⟩; rw [HE.out]; have HB1 := Lib.hid hb; clear hb))
  go_upto_region 5 with fail
  refine wp_world (fun W2 hW2 => ?_)
  have R2 : W2.rowIs w1.heap.size 4 n (fun j => .bool (dnB rs 0 j)) := by rw [hW2]; exact World.rowIs_made w1 (.bool false) n 4
  have HB2 := Lib.hid (show Below w.heap.size w W2 by rw [hW2]; exact Below.alloc HB1.out HB1.out.size _)
  have HR2 := Lib.hid R2
  have hgw : w.heap.size ≤ w1.heap.size := HB1.out.size
  clear hW2 R2 HB1 hmk
  generalize w1.heap.size = g at *
  go_wp2_with fail
  go_loopw [20] (fun s20 wr => ∃ k : Nat, k ≤ m ∧ s20 = .int .i64 k ∧ firstN (rnE n rs) k = 0 ∧ wr.rowIs g 4 n (fun j => .bool (dnB rs k j)) ∧ Below w.heap.size w wr) (fun s20 _ => m - (intOf s20).toNat)
  case atStart => exact ⟨0, Nat.zero_le _, rfl, rfl, HR2.out, HB2.out⟩
  case round =>
    obtain ⟨k, hk, rfl, hz, hR, hB⟩ := hrel
    have HZ := Lib.hid hz; have HR := Lib.hid hR; have HB := Lib.hid hB
    clear hz hR HR2 HB2
    by_cases hkm : k < m
    · have hkmi : (k : Int) < (m : Int) := by omega
      obtain ⟨b, off, rfl, hc⟩ := H2.out.2.2 (by omega)
      have hw := (hc k hkm).below hB
      have HER := Lib.hid (show rnE n rs k = if (rs k).wk < 0 ∨ (n : Int) ≤ (rs k).wk then 11 else 0 from rfl)
      have HDN := Lib.hid (show dnB rs (k + 1) = fun i => if (rs k).wk.toNat = i then dnB rs k i || !(rs k).fl else dnB rs k i from rfl)
      obtain ⟨K, hK⟩ : ∃ K, K = rs k := ⟨_, rfl⟩
      rw [← hK] at hw HER HDN
      obtain ⟨wk, mc, fr, te, fl⟩ := K
      clear hK hc hB
      have c0 := hw.1; have c1 := hw.2.1; have c2 := hw.2.2.1; have c3 := hw.2.2.2.1; have c4 := hw.2.2.2.2.1
      simp only at c0 c1 c2 c3 c4 HER HDN
      have l0 := cell_lt c0; simp only at l0
      clear hw
      go_upto_region 8 with fail
      refine wp_world (fun W4 hW4 => ?_)
      have B4 : Below wr.heap.size wr W4 := by rw [hW4]; (repeat (first | exact Below.refl _ _ | assumption | (refine Below.setCell ?_ (by first | (simp; done) | (simp; omega) | omega) _) | (refine Below.drew ?_) | (refine below_drewN ?_ _) | (refine Below.alloc ?_ (by first | (simp; done) | (simp; omega) | omega) _) | (refine Below.trans ?_ (Below.mono (by assumption) (by first | (simp; done) | (simp; omega) | omega)))))
      have N4 : Blk W4 wr.heap.size [.int .i64 wk, .int .i64 mc, .int .i64 fr, .int .i64 te, .bool fl] := by rw [hW4]; exact Blk.new _ _ _ _ rfl
      have hgl := HR.out.lt
      have H4 := Lib.hid (And.intro N4 (And.intro (HR.out.of_block (B4.block g hgl)) (HB.out.trans (B4.mono HB.out.size))))
      have hsz := HB.out.size
      have m0 := N4.c 0 _ rfl; have ml := N4.lt
      clear hW4 B4 N4 c0 c1 c2 c3 c4 l0 HR HB
      generalize wr.heap.size = nb at *
      by_cases hbad : wk < 0 ∨ (n : Int) ≤ wk
      · have hE : rnE n rs k = 11 := by rw [HER.out, if_pos hbad]
        have HEE := Lib.hid (show firstN (rnE n rs) m = 11 by rw [firstN_of HZ.out (by rw [hE]; decide) hkm, hE])
        have hb' : wk < 0 ∨ (¬ wk < 0 ∧ (n : Int) ≤ wk) := by omega
        clear hbad hE HER HDN
        rcases hb' with p1 | ⟨p1, p2⟩
        all_goals
          go_wp2_with fail
          go_ret2
          exact Or.inr ⟨by rw [HEE.out]; decide, by rw [HEE.out]; rfl, H4.out.2.2⟩
      · obtain ⟨q, hq⟩ : ∃ q : Nat, wk = q := ⟨wk.toNat, by omega⟩
        subst hq
        rw [if_neg hbad] at HER
        have HS := Lib.hid (firstN_succ HZ.out HER.out)
        have p1 : ¬ ((q : Int) < 0) := by omega
        have p2 : ¬ ((n : Int) ≤ (q : Int)) := by omega
        have hqn : q < n := by omega
        have hqni : (q : Int) < (n : Int) := by omega
        simp only [Int.toNat_natCast] at HDN
        have r0 := H4.out.2.1.cell hqn
        have gl := H4.out.2.1.lt
        have m4 := H4.out.1.c 4 _ rfl
        obtain ⟨vb, hvb⟩ : ∃ vb, dnB rs k q = vb := ⟨_, rfl⟩
        have HVB := Lib.hid hvb
        rw [hvb] at r0
        clear hbad HER HZ hvb
        go_upto_region 10 with fail
        cases vb
        · skip
          refine wp_region_loose 13 (fun _ _ _ => False) (by kernel_rfl) (by kernel_rfl) ?_
          simp only [List.take_succ_cons, List.take_zero, List.drop_succ_cons, List.drop_zero]
          iterate 13 (refine loose_wanted rfl (fun K hK => ?_); go_simp; refine hK _ ?_; clear hK K)
          refine loose_nil (fun w5 hb5 => ?_)
          have H5 := Lib.hid (And.intro (H4.out.2.1.of_block (hb5.block g H4.out.2.1.lt)) (H4.out.2.2.trans (hb5.mono H4.out.2.2.size)))
          have x5 := H5.out.1.cell hqn
          have y5 : w5.frozen? ⟨g, q, none⟩ = false := H5.out.1.frozen _
          clear hb5 m0 m4 ml r0 gl H4
          go_wp2_with fail
          go_roundw
          case rel =>
            refine ⟨k + 1, by omega, by go_num, HS.out, ?_, H5.out.2.setCell (by simp; omega) _⟩
            rw [HDN.out]
            refine World.rowIs.congr (World.rowIs.set H5.out.1 q _) (fun j hj => ?_)
            by_cases e : q = j
            · subst e; simp [HVB.out]
            · simp [e, Ne.symm e]
          case measure => simp [intOf]; omega
        · skip
          refine wp_region_loose 13 (fun _ _ _ => False) (by kernel_rfl) (by kernel_rfl) ?_
          simp only [List.take_succ_cons, List.take_zero, List.drop_succ_cons, List.drop_zero]
          iterate 9 (refine loose_wanted rfl (fun K hK => ?_); go_simp; refine hK _ ?_; clear hK K)
          iterate 3 ((with_reducible refine loose_pass (by kernel_rfl) (fun K hK => ?_)); go_simp; refine hK _ ?_; clear hK K)
          iterate 1 (refine loose_wanted rfl (fun K hK => ?_); go_simp; refine hK _ ?_; clear hK K)
          refine loose_nil (fun w5 hb5 => ?_)
          have H5 := Lib.hid (And.intro (H4.out.2.1.of_block (hb5.block g H4.out.2.1.lt)) (H4.out.2.2.trans (hb5.mono H4.out.2.2.size)))
          have x5 := H5.out.1.cell hqn
          have y5 : w5.frozen? ⟨g, q, none⟩ = false := H5.out.1.frozen _
          clear hb5 m0 m4 ml r0 gl H4
          go_wp2_with fail
          go_roundw
          case rel =>
            refine ⟨k + 1, by omega, by go_num, HS.out, ?_, H5.out.2.setCell (by simp; omega) _⟩
            rw [HDN.out]
            refine World.rowIs.congr (World.rowIs.set H5.out.1 q _) (fun j hj => ?_)
            by_cases e : q = j
            · subst e; simp [HVB.out]
            · simp [e, Ne.symm e]
          case measure => simp [intOf]; omega
    · have hkmi : ¬ (k : Int) < (m : Int) := by omega
      have hke : k = m := by omega
      subst hke
      go_wp2_with fail
      refine (NumbersOf_any g n n (dnB rs k) wr (by omega) HR.out).mono ?_
      rintro e w5 ⟨u, rfl, hN⟩
      have HN := Lib.hid hN
      clear hN
      go_wp2_with fail
      go_ret2
      exact Or.inl ⟨HZ.out, _, _, rfl, HB.out.size, HN.out, HB.out.trans (HN.out.bel.mono HB.out.size)⟩
end Go.Proofs.YtcdcfkgdgimmcaaGreatDoor
