/- Whether a graph has a source: the statement's closure, slices.ContainsFunc over nodes. Conditions: what each theorem names. -/
import Derived.Test.YtbclecoblcfboaaGreatDoorGqG
import Derived.Test.YtbclecoblcfboaaGreatDoorQE
namespace Go.Proofs.YtbclecoblcfboaaGreatDoor
open Go Go.RowKit
set_option maxRecDepth 100000 in
set_option maxHeartbeats 3200000 in
theorem srcCl_any (op : ByteArray) (ins ints : List Int) (reals : List Nat) (ia na ra : Option Addr) (ic nc rc k ps s : Nat) (w : World) (hk : opK op.data.toList = some k) (hni : (ints.length : Int) = (F k).ints) (hI : IntsAt 0 w na ints) (hp : Blk w ps [.int .i64 s]) :
    Calls Tryz.prog 25 #[.agg #[.string op, .slice ia ins.length ic, .slice na ints.length nc, .slice ra reals.length rc], .pointer (some ⟨ps, 0, none⟩)] w fun e w' => e = .returned (.bool (k == 0 && ints.getD 0 0 == (s : Int))) ∧ Below w.heap.size w w' := by
  obtain ⟨hk27, hop⟩ := opK_name hk
  have hs : (op.toList == [115, 111, 117, 114, 99, 101]) = (k == 0) := by rw [hop]; exact src_name hk27
  have HS := Lib.hid hs
  have HP := Lib.hid hp
  clear hk hop hs
  by_cases hk0 : k = 0
  · subst hk0
    obtain ⟨i1, rfl⟩ : ∃ i1, ints = [i1] := by
      have h1 : (ints.length : Int) = 1 := hni
      match ints, h1 with
      | [i1], _ => exact ⟨i1, rfl⟩
    obtain ⟨bi, oi, rfl, ci⟩ := hI.one (i := 0) rfl
    rw [Nat.add_zero] at ci
    obtain ⟨R, hR⟩ : ∃ R, R = (i1 == (s : Int)) := ⟨_, rfl⟩
    rw [show ((0 : Nat) == 0 && ([i1].getD 0 0 == (s : Int))) = R by rw [hR]; rfl]
    have HR := Lib.hid hR
    have HC0 := Lib.hid ci
    clear hni hI hp ci hR
    go_enter Tryz.func25, Tryz.ntmps25
    go_upto_region 1 with fail
    refine wp_world (fun W1 hW1 => ?_)
    have hb1 : Below w.heap.size w W1 := by rw [hW1]; (repeat (first | exact Below.refl _ _ | assumption | (refine Below.setCell ?_ (by first | (simp; done) | (simp; omega) | omega) _) | (refine Below.drew ?_) | (refine below_drewN ?_ _) | (refine Below.alloc ?_ (by first | (simp; done) | (simp; omega) | omega) _) | (refine Below.trans ?_ (Below.mono (by assumption) (by first | (simp; done) | (simp; omega) | omega)))))
    have N1 : Blk W1 w.heap.size [.string op, .slice ia ins.length ic, .slice (some ⟨bi, oi, none⟩) 1 nc, .slice ra reals.length rc] := by rw [hW1]; exact Blk.new _ _ _ _ rfl
    obtain ⟨nb, hnb⟩ : ∃ nb, nb = w.heap.size := ⟨_, rfl⟩
    rw [← hnb] at N1
    rw [← hnb]
    have n0 := N1.c 0 _ rfl
    have n2 := N1.c 2 _ rfl
    have c1 := (hb1.cell (p := ⟨bi, oi, none⟩) (cell_lt HC0.out)).trans HC0.out
    have p0 := (HP.out.past hb1).c 0 _ rfl
    have HB1 := Lib.hid hb1
    have HCP : Hid (∀ w', Below W1.heap.size W1 w' → w'.cell? ⟨nb, 0, none⟩ = some (.string op) ∧ w'.cell? ⟨nb, 2, none⟩ = some (.slice (some ⟨bi, oi, none⟩) 1 nc) ∧ w'.cell? ⟨bi, oi, none⟩ = some (.int .i64 i1) ∧ w'.cell? ⟨ps, 0, none⟩ = some (.int .i64 s)) := Lib.hid (fun w' hb => ⟨(hb.cell (p := ⟨nb, 0, none⟩) (cell_lt n0)).trans n0, (hb.cell (p := ⟨nb, 2, none⟩) (cell_lt n2)).trans n2, (hb.cell (p := ⟨bi, oi, none⟩) (cell_lt c1)).trans c1, (hb.cell (p := ⟨ps, 0, none⟩) (cell_lt p0)).trans p0⟩)
    clear hW1 N1 hnb n0 n2 c1 p0 hb1
    refine wp_region_C (fun w' => w'.cell? ⟨nb, 0, none⟩ = some (.string op) ∧ w'.cell? ⟨nb, 2, none⟩ = some (.slice (some ⟨bi, oi, none⟩) 1 nc) ∧ w'.cell? ⟨bi, oi, none⟩ = some (.int .i64 i1) ∧ w'.cell? ⟨ps, 0, none⟩ = some (.int .i64 s)) 11 12 (by kernel_rfl) rfl ?_
    have hC := HCP.out W1.drew ((Below.refl _ _).drew)
    have hs1 : (op.toList == [115, 111, 117, 114, 99, 101]) = true := HS.out
    refine wpAnyC_take (i := 0) (v := .pointer (some ⟨nb, 0, none⟩)) rfl (by kernel_rfl) (by kernel_rfl) (fun _ _ _ h => h) (.inl ⟨rfl, fun w' hw' => ?_⟩) hC ?_
    · obtain ⟨k0, k1, k2, k3⟩ := hw'
      go_simp
    refine wpAnyC_act (by rfl) ?_
    simp only [Act.put, List.setIfInBounds_toArray, List.set_cons_zero, List.set_cons_succ]
    refine wpAnyC_take (i := 1) (v := .string op) rfl (by kernel_rfl) (by kernel_rfl) (fun _ _ _ h => h) (.inl ⟨rfl, fun w' hw' => ?_⟩) hC ?_
    · obtain ⟨k0, k1, k2, k3⟩ := hw'
      go_simp
    refine wpAnyC_act (by rfl) ?_
    simp only [Act.put, List.setIfInBounds_toArray, List.set_cons_zero, List.set_cons_succ]
    refine wpAnyC_take (i := 2) (v := .bool true) rfl (by kernel_rfl) (by kernel_rfl) (fun _ _ _ h => h) (.inl ⟨rfl, fun w' hw' => ?_⟩) hC ?_
    · obtain ⟨k0, k1, k2, k3⟩ := hw'
      go_simp
    refine wpAnyC_act (by rfl) ?_
    simp only [Act.put, List.setIfInBounds_toArray, List.set_cons_zero, List.set_cons_succ]
    refine wpAnyC_take (i := 3) (v := .bool true) rfl (by kernel_rfl) (by kernel_rfl) (fun _ _ _ h => h) (.inl ⟨rfl, fun w' hw' => ?_⟩) hC ?_
    · obtain ⟨k0, k1, k2, k3⟩ := hw'
      go_simp
    refine wpAnyC_act (by rfl) ?_
    simp only [Act.put, List.setIfInBounds_toArray, List.set_cons_zero, List.set_cons_succ]
    refine wpAnyC_take (i := 4) (v := .pointer (some ⟨nb, 2, none⟩)) rfl (by kernel_rfl) (by kernel_rfl) (fun _ _ _ h => h) (.inl ⟨rfl, fun w' hw' => ?_⟩) hC ?_
    · obtain ⟨k0, k1, k2, k3⟩ := hw'
      go_simp
    refine wpAnyC_act (by rfl) ?_
    simp only [Act.put, List.setIfInBounds_toArray, List.set_cons_zero, List.set_cons_succ]
    refine wpAnyC_take (i := 5) (v := .slice (some ⟨bi, oi, none⟩) 1 nc) rfl (by kernel_rfl) (by kernel_rfl) (fun _ _ _ h => h) (.inl ⟨rfl, fun w' hw' => ?_⟩) hC ?_
    · obtain ⟨k0, k1, k2, k3⟩ := hw'
      go_simp
    refine wpAnyC_act (by rfl) ?_
    simp only [Act.put, List.setIfInBounds_toArray, List.set_cons_zero, List.set_cons_succ]
    refine wpAnyC_take (i := 6) (v := .pointer (some ⟨bi, oi, none⟩)) rfl (by kernel_rfl) (by kernel_rfl) (fun _ _ _ h => h) (.inl ⟨rfl, fun w' hw' => ?_⟩) hC ?_
    · obtain ⟨k0, k1, k2, k3⟩ := hw'
      go_simp
    refine wpAnyC_act (by rfl) ?_
    simp only [Act.put, List.setIfInBounds_toArray, List.set_cons_zero, List.set_cons_succ]
    refine wpAnyC_take (i := 7) (v := .int .i64 i1) rfl (by kernel_rfl) (by kernel_rfl) (fun _ _ _ h => h) (.inl ⟨rfl, fun w' hw' => ?_⟩) hC ?_
    · obtain ⟨k0, k1, k2, k3⟩ := hw'
      go_simp
    refine wpAnyC_act (by rfl) ?_
    simp only [Act.put, List.setIfInBounds_toArray, List.set_cons_zero, List.set_cons_succ]
    refine wpAnyC_take (i := 8) (v := .int .i64 s) rfl (by kernel_rfl) (by kernel_rfl) (fun _ _ _ h => h) (.inl ⟨rfl, fun w' hw' => ?_⟩) hC ?_
    · obtain ⟨k0, k1, k2, k3⟩ := hw'
      go_simp
    refine wpAnyC_act (by rfl) ?_
    simp only [Act.put, List.setIfInBounds_toArray, List.set_cons_zero, List.set_cons_succ]
    refine wpAnyC_take (i := 9) (v := .bool R) rfl (by kernel_rfl) (by kernel_rfl) (fun _ _ _ h => h) (.inl ⟨rfl, fun w' hw' => ?_⟩) hC ?_
    · rw [HR.out]
      go_simp
    refine wpAnyC_act (by rfl) ?_
    simp only [Act.put, List.setIfInBounds_toArray, List.set_cons_zero, List.set_cons_succ]
    refine wpAnyC_take (i := 10) (v := .bool R) rfl (by kernel_rfl) (by kernel_rfl) (fun _ _ _ h => h) (.inl ⟨rfl, fun w' hw' => ?_⟩) hC ?_
    · obtain ⟨k0, k1, k2, k3⟩ := hw'
      go_simp
    refine wpAnyC_act (by rfl) ?_
    simp only [Act.put, List.setIfInBounds_toArray, List.set_cons_zero, List.set_cons_succ]
    clear hC
    refine wpAnyC_one (i := 11) rfl (by kernel_rfl) (fun K hK => ?_)
    go_simp
    refine hK _ _ (fun h => by rw [getD_setSelf] at h; cases h) ?_
    clear hK K
    refine wpAnyC_done (by kernel_rfl) ?_
    go_wp2_with fail
    go_ret
    exact ⟨rfl, HB1.out.drew⟩
  · rw [show (k == 0 && (ints.getD 0 0 == (s : Int))) = false by rw [beq_false_of_ne hk0]; rfl]
    obtain ⟨l, hl⟩ : ∃ l, l = ints.length := ⟨_, rfl⟩
    rw [← hl]
    clear hni hI hp hl
    go_enter Tryz.func25, Tryz.ntmps25
    go_upto_region 1 with fail
    refine wp_world (fun W1 hW1 => ?_)
    have hb1 : Below w.heap.size w W1 := by rw [hW1]; (repeat (first | exact Below.refl _ _ | assumption | (refine Below.setCell ?_ (by first | (simp; done) | (simp; omega) | omega) _) | (refine Below.drew ?_) | (refine below_drewN ?_ _) | (refine Below.alloc ?_ (by first | (simp; done) | (simp; omega) | omega) _) | (refine Below.trans ?_ (Below.mono (by assumption) (by first | (simp; done) | (simp; omega) | omega)))))
    have N1 : Blk W1 w.heap.size [.string op, .slice ia ins.length ic, .slice na l nc, .slice ra reals.length rc] := by rw [hW1]; exact Blk.new _ _ _ _ rfl
    obtain ⟨nb, hnb⟩ : ∃ nb, nb = w.heap.size := ⟨_, rfl⟩
    rw [← hnb] at N1
    rw [← hnb]
    have n0 := N1.c 0 _ rfl
    have n2 := N1.c 2 _ rfl
    have HB1 := Lib.hid hb1
    have HCP : Hid (∀ w', Below W1.heap.size W1 w' → w'.cell? ⟨nb, 0, none⟩ = some (.string op) ∧ w'.cell? ⟨nb, 2, none⟩ = some (.slice na l nc)) := Lib.hid (fun w' hb => ⟨(hb.cell (p := ⟨nb, 0, none⟩) (cell_lt n0)).trans n0, (hb.cell (p := ⟨nb, 2, none⟩) (cell_lt n2)).trans n2⟩)
    clear hW1 N1 hnb n0 n2 hb1
    refine wp_region_C (fun w' => w'.cell? ⟨nb, 0, none⟩ = some (.string op) ∧ w'.cell? ⟨nb, 2, none⟩ = some (.slice na l nc)) 11 12 (by kernel_rfl) rfl ?_
    have hC := HCP.out W1.drew ((Below.refl _ _).drew)
    have hs1 : (op.toList == [115, 111, 117, 114, 99, 101]) = false := by rw [HS.out]; exact beq_false_of_ne hk0
    refine wpAnyC_take (i := 0) (v := .pointer (some ⟨nb, 0, none⟩)) rfl (by kernel_rfl) (by kernel_rfl) (fun _ _ _ h => h) (.inl ⟨rfl, fun w' hw' => ?_⟩) hC ?_
    · obtain ⟨k0, k1⟩ := hw'
      go_simp
    refine wpAnyC_act (by rfl) ?_
    simp only [Act.put, List.setIfInBounds_toArray, List.set_cons_zero, List.set_cons_succ]
    refine wpAnyC_take (i := 1) (v := .string op) rfl (by kernel_rfl) (by kernel_rfl) (fun _ _ _ h => h) (.inl ⟨rfl, fun w' hw' => ?_⟩) hC ?_
    · obtain ⟨k0, k1⟩ := hw'
      go_simp
    refine wpAnyC_act (by rfl) ?_
    simp only [Act.put, List.setIfInBounds_toArray, List.set_cons_zero, List.set_cons_succ]
    refine wpAnyC_take (i := 2) (v := .bool false) rfl (by kernel_rfl) (by kernel_rfl) (fun _ _ _ h => h) (.inl ⟨rfl, fun w' hw' => ?_⟩) hC ?_
    · obtain ⟨k0, k1⟩ := hw'
      go_simp
    refine wpAnyC_act (by rfl) ?_
    simp only [Act.put, List.setIfInBounds_toArray, List.set_cons_zero, List.set_cons_succ]
    refine wpAnyC_take (i := 3) (v := .bool false) rfl (by kernel_rfl) (by kernel_rfl) (fun _ _ _ h => h) (.inl ⟨rfl, fun w' hw' => ?_⟩) hC ?_
    · obtain ⟨k0, k1⟩ := hw'
      go_simp
    refine wpAnyC_act (by rfl) ?_
    simp only [Act.put, List.setIfInBounds_toArray, List.set_cons_zero, List.set_cons_succ]
    refine wpAnyC_take (i := 4) (v := undef) rfl (by kernel_rfl) (by kernel_rfl) (fun _ _ _ h => h) (.inr ⟨rfl, rfl⟩) hC ?_
    refine wpAnyC_act (by rfl) ?_
    simp only [Act.put, List.setIfInBounds_toArray, List.set_cons_zero, List.set_cons_succ]
    refine wpAnyC_take (i := 5) (v := undef) rfl (by kernel_rfl) (by kernel_rfl) (fun _ _ _ h => h) (.inr ⟨rfl, rfl⟩) hC ?_
    refine wpAnyC_act (by rfl) ?_
    simp only [Act.put, List.setIfInBounds_toArray, List.set_cons_zero, List.set_cons_succ]
    refine wpAnyC_take (i := 6) (v := undef) rfl (by kernel_rfl) (by kernel_rfl) (fun _ _ _ h => h) (.inr ⟨rfl, rfl⟩) hC ?_
    refine wpAnyC_act (by rfl) ?_
    simp only [Act.put, List.setIfInBounds_toArray, List.set_cons_zero, List.set_cons_succ]
    refine wpAnyC_take (i := 7) (v := undef) rfl (by kernel_rfl) (by kernel_rfl) (fun _ _ _ h => h) (.inr ⟨rfl, rfl⟩) hC ?_
    refine wpAnyC_act (by rfl) ?_
    simp only [Act.put, List.setIfInBounds_toArray, List.set_cons_zero, List.set_cons_succ]
    refine wpAnyC_take (i := 8) (v := undef) rfl (by kernel_rfl) (by kernel_rfl) (fun _ _ _ h => h) (.inr ⟨rfl, rfl⟩) hC ?_
    refine wpAnyC_act (by rfl) ?_
    simp only [Act.put, List.setIfInBounds_toArray, List.set_cons_zero, List.set_cons_succ]
    refine wpAnyC_take (i := 9) (v := undef) rfl (by kernel_rfl) (by kernel_rfl) (fun _ _ _ h => h) (.inr ⟨rfl, rfl⟩) hC ?_
    refine wpAnyC_act (by rfl) ?_
    simp only [Act.put, List.setIfInBounds_toArray, List.set_cons_zero, List.set_cons_succ]
    refine wpAnyC_take (i := 10) (v := .bool false) rfl (by kernel_rfl) (by kernel_rfl) (fun _ _ _ h => h) (.inl ⟨rfl, fun w' hw' => ?_⟩) hC ?_
    · obtain ⟨k0, k1⟩ := hw'
      go_simp
    refine wpAnyC_act (by rfl) ?_
    simp only [Act.put, List.setIfInBounds_toArray, List.set_cons_zero, List.set_cons_succ]
    clear hC
    refine wpAnyC_one (i := 11) rfl (by kernel_rfl) (fun K hK => ?_)
    go_simp
    refine hK _ _ (fun h => by rw [getD_setSelf] at h; cases h) ?_
    clear hK K
    refine wpAnyC_done (by kernel_rfl) ?_
    go_wp2_with fail
    go_ret
    exact ⟨rfl, HB1.out.drew⟩
def ndV (n : NodeD) : Value := .agg #[.string n.op, .slice n.ia n.ins.length n.ic, .slice n.na n.ints.length n.nc, .slice n.ra n.reals.length n.rc]
set_option maxRecDepth 100000 in
set_option maxHeartbeats 1600000 in
theorem IndexFN (K : Nat) (caps : Array Value) (a : Option Addr) (c : Nat) (ns : List NodeD) (p : Nat → Bool) (w : World) (_hn : ns.length ≤ 100) (h : IsNodes w a c ns) (hent : ∀ args w, (callFunc K args).run Tryz.prog w = .ok (.enter K args) w)
    (hk : ∀ j n wr, ns[j]? = some n → Below w.heap.size w wr → Calls Tryz.prog K (#[ndV n] ++ caps) wr fun e w' => e = .returned (.bool (p j)) ∧ Below wr.heap.size wr w') :
    Calls Tryz.prog 50 #[.slice a ns.length c, .func (.func K) #[] caps] w fun e w' => (∃ r : Int, e = .returned (.int .i64 r) ∧ (0 ≤ r ↔ anyQ p ns.length = true)) ∧ Below w.heap.size w w' := by
  have HH := Lib.hid h
  have HK := Lib.hid hk
  obtain ⟨n, hnn⟩ : ∃ n, n = ns.length := ⟨_, rfl⟩
  have HM := Lib.hid hnn
  rw [← hnn]
  clear h hk hnn
  go_enter Tryz.func50, Tryz.ntmps50
  go_wp2_with fail
  go_loopw [8] (fun s8 wr => ∃ k : Nat, k ≤ n ∧ s8 = .int .i64 k ∧ anyQ p k = false ∧ Below w.heap.size w wr) (fun s8 _ => n - (intOf s8).toNat)
  case atStart => exact ⟨0, Nat.zero_le _, rfl, rfl, Below.refl _ _⟩
  case round =>
    obtain ⟨k, hk, rfl, hz, hB⟩ := hrel
    have HZ := Lib.hid hz; have HB := Lib.hid hB
    clear hz
    by_cases hkm : k < n
    · have hkmi : (k : Int) < (n : Int) := by omega
      obtain ⟨nd, hnd⟩ : ∃ nd, ns[k]? = some nd := ⟨_, List.getElem?_eq_getElem (by rw [← HM.out]; exact hkm)⟩
      obtain ⟨b, off, rfl, hna, hnb⟩ := HH.out.get hnd
      have hc := HH.out.lc
      have hc2 := HH.out.lm
      rw [← HM.out] at hc
      have hc3 : c ≤ 9223372036854775807 := by unfold maxLen at hc2; omega
      have HC := Lib.hid (HK.out k nd wr hnd hB)
      obtain ⟨op, ins, ints, reals, ia, ic, na, nc, ra, rc⟩ := nd
      have N := hna.past HB.out
      have c0 := N.c0; have c1 := N.c1; have c2 := N.c2; have c3 := N.c3
      have l0 := cell_lt c0; simp only at c0 c1 c2 c3 l0
      unfold ndV at HC
      simp only at HC
      have HT := Lib.hid (fun h => anyQ_true hkm h : p k = true → anyQ p n = true)
      have HN := Lib.hid (show anyQ p (k + 1) = (anyQ p k || p k) from rfl)
      clear hnd hna hnb N hc2
      cases hr : p k
      · rw [hr] at HC
        have HS := Lib.hid (show anyQ p (k + 1) = false by rw [HN.out, HZ.out, hr]; rfl)
        clear hB hr HN HT
        go_wp2_with fail
        refine (HC.out).mono ?_
        rintro e w5 ⟨rfl, hb5⟩
        have HB5 := Lib.hid (HB.out.trans (hb5.mono HB.out.size))
        clear HC hb5 c0 c1 c2 c3 l0
        go_wp2_with fail
        go_roundw
        case rel => exact ⟨k + 1, by omega, by go_num, HS.out, HB5.out⟩
        case measure => simp [intOf]; omega
      · rw [hr] at HC
        have HS := Lib.hid (HT.out hr)
        clear hB hr HN HT
        go_wp2_with fail
        refine (HC.out).mono ?_
        rintro e w5 ⟨rfl, hb5⟩
        have HB5 := Lib.hid (HB.out.trans (hb5.mono HB.out.size))
        clear HC hb5 c0 c1 c2 c3 l0
        go_wp2_with fail
        go_ret
        exact ⟨⟨_, rfl, by rw [HS.out]; simp⟩, HB5.out⟩
    · have hkmi : ¬ (k : Int) < (n : Int) := by omega
      have hkn : k = n := by omega
      have HE := Lib.hid (show anyQ p n = false by rw [← hkn]; exact HZ.out)
      clear hB hkn
      go_wp2_with fail
      go_ret
      exact ⟨⟨_, rfl, by rw [HE.out]; simp⟩, HB.out⟩
set_option maxRecDepth 100000 in
set_option maxHeartbeats 1600000 in
theorem ContainsFN (K : Nat) (caps : Array Value) (a : Option Addr) (c : Nat) (ns : List NodeD) (p : Nat → Bool) (w : World) (hn : ns.length ≤ 100) (h : IsNodes w a c ns) (hent : ∀ args w, (callFunc K args).run Tryz.prog w = .ok (.enter K args) w)
    (hk : ∀ j n wr, ns[j]? = some n → Below w.heap.size w wr → Calls Tryz.prog K (#[ndV n] ++ caps) wr fun e w' => e = .returned (.bool (p j)) ∧ Below wr.heap.size wr w') :
    Calls Tryz.prog 24 #[.slice a ns.length c, .func (.func K) #[] caps] w fun e w' => e = .returned (.bool (anyQ p ns.length)) ∧ Below w.heap.size w w' := by
  have HC := Lib.hid (IndexFN K caps a c ns p w hn h hent hk)
  obtain ⟨n, hnn⟩ : ∃ n, n = ns.length := ⟨_, rfl⟩
  rw [← hnn] at HC
  rw [← hnn]
  clear h hk hent hnn hn
  go_enter Tryz.func24, Tryz.ntmps24
  go_wp2_with fail
  refine (HC.out).mono ?_
  rintro e w5 ⟨⟨r, rfl, hr⟩, hb⟩
  have HB := Lib.hid hb; have HR := Lib.hid hr
  clear hb hr
  have HD := Lib.hid (show decide ((0 : Int) ≤ r) = anyQ p n by
    cases ha : anyQ p n
    · exact decide_eq_false (fun h => by rw [HR.out, ha] at h; cases h)
    · exact decide_eq_true (HR.out.2 ha))
  go_wp2_with fail
  go_ret
  exact ⟨by rw [← HD.out]; rfl, HB.out⟩
theorem entSrc : ∀ args w, (callFunc 25 args).run Tryz.prog w = .ok (.enter 25 args) w := body_enters Tryz.func25 (by kernel_rfl) rfl
/-- Whether the graph has the source s. -/
theorem hasSrc (a : Option Addr) (c : Nat) (ns : List NodeD) (ps s : Nat) (w : World) (hn : ns.length ≤ 100) (hz : fstN (ndE ns) ns.length = 0) (h : IsNodes w a c ns) (hp : Blk w ps [.int .i64 s]) :
    Calls Tryz.prog 24 #[.slice a ns.length c, .func (.func 25) #[] #[.pointer (some ⟨ps, 0, none⟩)]] w fun e w' => e = .returned (.bool (usF ns s)) ∧ Below w.heap.size w w' := by
  refine ContainsFN _ _ a c ns (srcO ns s) w hn h entSrc (fun j n wr hj hb => ?_)
  have hjl : j < ns.length := (List.getElem?_eq_some_iff.1 hj).1
  obtain ⟨b, off, rfl, hna, -⟩ := h.get hj
  obtain ⟨k, -, -, hk, -, hni, -, -, -⟩ := nd_ok hj (fstN_zero hz j hjl)
  rw [srcO_at hj hk]
  exact srcCl_any n.op n.ins n.ints n.reals n.ia n.na n.ra n.ic n.nc n.rc k ps s wr hk hni (hna.k.past hb) (hp.past hb)
end Go.Proofs.YtbclecoblcfboaaGreatDoor
