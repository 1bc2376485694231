/- slices.Clone of singles; num.Middle's comparison, num.Mean, num.Middle. Conditions: the row lies in memory; at most 300 elements. -/
import Derived.Test.YtefjkelakecanaaSoE
import Derived.Test.YtefjkelakecanaaSoS
import Derived.Deep.AppendLies
import Derived.OwnWalk
import Derived.Laws.OwnMore
namespace Go.Proofs.Ytefjkelakecanaa
open Go Go.RowKit
theorem infoF32 : (Try.prog.info? 22).map (fun i => (i.zero, i.size, i.bytes)) = some (some (.float .f32 0), 1, 4) := by kernel_rfl
def celL (fs : Nat → Nat) (o n : Nat) : List Value := (List.range n).map fun i => Value.float .f32 (fs (o + i))
theorem celL_get (fs : Nat → Nat) (o n j : Nat) : (celL fs o n)[j]? = if j < n then some (.float .f32 (fs (o + j))) else none := by
  unfold celL
  rw [List.getElem?_map]
  by_cases h : j < n
  · rw [List.getElem?_range h, if_pos h]; rfl
  · rw [List.getElem?_eq_none (by simpa using h), if_neg h]; rfl
set_option maxRecDepth 100000 in
set_option maxHeartbeats 3200000 in
theorem Clone_any (b o n cap : Nat) (fs : Nat → Nat) (w : World) (h2 : n ≤ 300) (h3 : 0 < n) (hc : CelF w b o (o + n) fs) :
    Calls Try.prog 47 #[.slice (some ⟨b, o, none⟩) n cap] w fun e w' => ∃ g c, e = .returned (.slice (some ⟨g, 0, none⟩) n c) ∧ w.heap.size ≤ g ∧ VecF w' g n (fun i => fs (o + i)) ∧ Below w.heap.size w w' := by
  obtain ⟨i0, hi0, hz0, hz1, hz2⟩ := info_parts infoF32
  have HC := Lib.hid hc
  have hbl : b < w.heap.size := cell_lt (hc o (Nat.le_refl _) (by omega)).1
  clear hc
  have heq : ∀ w : World, (binOp .eql 40 (.slice (some ⟨b, o, none⟩) n cap) (.slice none 0 0)).run Try.prog w = .ok (.bool false) w := fun w => by kernel_rfl
  go_enter Try.func47, Try.ntmps47
  go_upto_region 3 with fail
  have hnw : ∀ j u, (celL fs o n)[j]? = some u → (w.alloc (.cells #[] 22)).cell? ((⟨b, o, none⟩ : Addr).add j) = some u := fun j u hj => by
    rw [celL_get] at hj
    by_cases hjn : j < n
    · rw [if_pos hjn] at hj
      cases hj
      have h := (HC.out (o + j) (by omega) (by omega)).1
      rw [show (⟨b, o, none⟩ : Addr).add j = ⟨b, o + j, none⟩ by simp [Addr.add]]
      rw [World.cell?_alloc_past _ _ _ hbl]
      exact h
    · rw [if_neg hjn] at hj; cases hj
  have hone : ∀ u ∈ celL fs o n, u.oneCell' = true := fun u hu => by
    unfold celL at hu
    obtain ⟨i, -, rfl⟩ := List.mem_map.1 hu
    rfl
  have hlen : (celL fs o n).length = n * 1 := by unfold celL; simp
  have HN := Lib.hid (And.intro hnw (And.intro hone hlen))
  clear hnw hone hlen heq
  go_wp2_with (first | (at_builtin; refine wpList_append_lies _ rfl _ _ _ rfl w.heap.size 22 i0 (.float .f32 0) 1 4 Try.underlying40 hi0 hz0 hz1 hz2 rfl (by decide) (.slice (some ⟨w.heap.size, 0, none⟩) 0 0) 0 [] rfl (World.ownsRow_lit w #[] 0 (Nat.le_refl _) (by decide) rfl) ⟨b, o, none⟩ n cap (celL fs o n) rfl HN.out.2.2 HN.out.1 HN.out.2.1 h3 (by unfold maxLen; omega) (by omega) (by simp) _ rfl ?_; intro g c w7 hown hgrow hat hlt))
  have hz : 0 + n = n := Nat.zero_add n
  have hgw : w.heap.size ≤ g := by
    rcases hat with h | h
    · simp [Value.ownBlock] at h; omega
    · simp at h; omega
  have hv : VecF w7 g n (fun i => fs (o + i)) := by
    rw [hz] at hown
    refine ⟨hlt, fun j hj => ?_, fun j => hown.frozenAt j⟩
    rw [hown.cellAt j (by omega), List.nil_append, celL_get, if_pos hj]
  have hb : Below w.heap.size w w7 := by
    refine Below.grown ((Below.refl w.heap.size w).alloc (Nat.le_refl _) _) hgrow (by simp) (fun k hk => ?_)
    simp [Value.ownBlock] at hk; omega
  have HF := Lib.hid (And.intro hgw (And.intro hv hb))
  clear hown hgrow hat hlt hgw hv hb
  go_wp2_with fail
  go_ret
  exact ⟨g, c, rfl, HF.out.1, HF.out.2.1, HF.out.2.2⟩
/-- The key by which num.Middle puts singles in order. -/
def rkZ (v : Nat) : Int := if isN .f32 v then 4294967296 else placeZ v
theorem rk_bd {v : Nat} (hv : v < 4294967296) : -2147483648 ≤ rkZ v ∧ rkZ v ≤ 4294967296 := by
  unfold rkZ
  split
  · omega
  · have := place_rng (v := v) hv; omega
theorem key_any (v : Nat) (w : World) (hv : v < 4294967296) : Calls Try.prog 45 #[.float .f32 v] w fun e w' => e = .returned (.int .i64 (rkZ v)) ∧ w = w' := by
  cases hN : isN .f32 v with
  | true =>
    have h1 : (FloatKind.f32.format.order v v != some .eq) = true := by rw [ord_self_ne]; exact hN
    go_enter Try.func45, Try.ntmps45
    go_wp2_with fail
    go_ret
    exact ⟨ret_i (by unfold rkZ; rw [hN]; rfl), rfl⟩
  | false =>
    have h1 : (FloatKind.f32.format.order v v != some .eq) = false := by rw [ord_self_ne]; exact hN
    go_enter Try.func45, Try.ntmps45
    go_wp2_with (first | (go_at_call 46; refine (place_any _ _ hv).mono ?_; rintro e w' ⟨rfl, rfl⟩))
    go_ret
    exact ⟨ret_i (by unfold rkZ; rw [hN]; rfl), rfl⟩
set_option maxRecDepth 100000 in
set_option maxHeartbeats 3200000 in
theorem cmp_any (x y kc : Nat) (w : World) (hx : x < 4294967296) (hy : y < 4294967296) (hk : w.cell? ⟨kc, 0, none⟩ = some (.func (.func 45) #[] #[])) :
    Calls Try.prog 49 #[.float .f32 x, .float .f32 y, .pointer (some ⟨kc, 0, none⟩)] w fun e w' => e = .returned (.int .i64 (rkZ x - rkZ y)) ∧ ∃ m, w' = w.drewN m := by
  obtain ⟨x1, x2⟩ := rk_bd hx
  obtain ⟨y1, y2⟩ := rk_bd hy
  have hkl := cell_lt hk
  simp only at hkl
  go_enter Try.func49, Try.ntmps49
  go_upto_region 1 with fail
  have hsw : IntKind.i64.wrap (rkZ x - rkZ y) = rkZ x - rkZ y := by rw [IntKind.wrap_i64]; omega
  go_quiet ((go_at_call 45; first | exact Calls.quiet_of_same ((key_any x _ hx).mono (fun _ _ h => ⟨h.1, h.2.symm⟩)) | exact Calls.quiet_of_same ((key_any y _ hy).mono (fun _ _ h => ⟨h.1, h.2.symm⟩))))
  refine so_exit (fun W hW => ?_)
  have HW := Lib.hid hW
  clear hW
  go_wp2_with fail
  go_ret
  exact ⟨rfl, _, HW.out⟩
set_option maxRecDepth 100000 in
set_option maxHeartbeats 3200000 in
theorem Middle_any (b o n cap : Nat) (fs : Nat → Nat) (w : World) (h2 : n ≤ 300) (h3 : 0 < n) (hc : CelF w b o (o + n) fs) :
    Calls Try.prog 19 #[.slice (some ⟨b, o, none⟩) n cap] w fun e w' => ∃ q : Nat → Nat, e = .returned (.tuple #[.float .f32 (cn .f32 (q ((n - 1) / 2))), .int .i64 0]) ∧ PmR 0 n (fun i => fs (o + i)) q ∧ SoR rkZ 0 n q ∧ Below w.heap.size w w' := by
  have HC := Lib.hid hc
  have hbl : b < w.heap.size := cell_lt (hc o (Nat.le_refl _) (by omega)).1
  clear hc
  go_enter Try.func19, Try.ntmps19
  go_upto_region 4 with fail
  refine wp_world (fun W hW => ?_)
  have KB : Blk W w.heap.size [.func (.func 45) #[] #[]] := by rw [hW]; exact Blk.new _ _ _ _ rfl
  have BW : Below w.heap.size w W := by rw [hW]; (repeat (first | exact Below.refl _ _ | assumption | (refine Below.setCell ?_ (by first | (simp; done) | (simp; omega) | omega) _) | (refine Below.drew ?_) | (refine below_drewN ?_ _) | (refine Below.alloc ?_ (by first | (simp; done) | (simp; omega) | omega) _) | (refine Below.trans ?_ (Below.mono (by assumption) (by first | (simp; done) | (simp; omega) | omega)))))
  have hcW : CelF W b o (o + n) fs := by
    intro i h5 h6
    obtain ⟨c0, c1⟩ := HC.out i h5 h6
    exact ⟨(BW.cell (p := ⟨b, i, none⟩) hbl).trans c0, c1⟩
  have HW := Lib.hid (And.intro hcW (And.intro BW KB))
  clear hW KB BW hcW
  go_wp2_with fail
  refine (Clone_any b o n cap fs W h2 h3 HW.out.1).mono ?_
  rintro e w1 ⟨g, c1, rfl, hg, hv, hb⟩
  have hkl := HW.out.2.2.lt
  have HB1 := Lib.hid (HW.out.2.1.trans (hb.mono HW.out.2.1.size))
  have hkb := HW.out.2.2.past hb
  have HS0 : Hid (SoW w1 g n w1 (fun i => fs (o + i))) := Lib.hid ⟨hv, Below.refl _ _, fun j hj => (HW.out.1 (o + j) (by omega) (by omega)).2⟩
  have hkg : w.heap.size < g := by omega
  have HCM : Hid (∀ (x y : Nat) (wr : World), x < 4294967296 → y < 4294967296 → Below g w1 wr → Calls Try.prog 49 #[.float .f32 x, .float .f32 y, .pointer (some ⟨w.heap.size, 0, none⟩)] wr fun e w' => e = .returned (.int .i64 (rkZ x - rkZ y)) ∧ ∃ m, w' = wr.drewN m) := Lib.hid (fun x y wr hx hy hbw => cmp_any x y w.heap.size wr hx hy (by
    rw [hbw.cell (p := ⟨w.heap.size, 0, none⟩) hkg]
    exact hkb.c 0 _ rfl))
  have hgb : W.heap.size ≤ g := hg
  have HBW := Lib.hid (And.intro hgb HW.out.2.1.size)
  clear hv hb hkb hg hgb
  go_wp2_with fail
  refine (sortstable_any rkZ w1 g n c1 w.heap.size _ w1 (by omega) HCM HS0.out).mono ?_
  rintro e w2 ⟨rfl, q, k1, k2, k3⟩
  have hmid : (n - 1) / 2 < n := by omega
  obtain ⟨m, hm⟩ : ∃ m, m = (n - 1) / 2 := ⟨_, rfl⟩
  have hm1 : ((n : Int) - 1) / 2 = (m : Int) := by omega
  have hmn : m < n := by omega
  obtain ⟨x, hx⟩ : ∃ x, x = q m := ⟨_, rfl⟩
  have cx := k1.v.c m hmn
  have cl := k1.v.lt
  rw [← hx] at cx
  have HF := Lib.hid (And.intro k1 (And.intro k2 (And.intro k3 (And.intro hm hx))))
  clear k1 k2 k3 hm hx hmid
  go_wp2_with (first | (go_at_call 37; refine (Clean_any _ _).mono ?_; rintro e w' ⟨rfl, rfl⟩))
  refine bodyPost_ret (v := .tuple #[.float .f32 (cn .f32 x), .int .i64 0]) (by simp [results, Try.results19, go_sem]) rfl ⟨q, by rw [HF.out.2.2.2.2, HF.out.2.2.2.1], HF.out.2.1, HF.out.2.2.1, ?_⟩
  exact HB1.out.trans (HF.out.1.b.mono (by have := HBW.out; omega))
set_option maxRecDepth 100000 in
set_option maxHeartbeats 3200000 in
theorem Mean_any (b o n cap : Nat) (fs : Nat → Nat) (w : World) (h2 : n ≤ 300) (h3 : 0 < n) (h4 : n ≤ cap) (hc : CelF w b o (o + n) fs) :
    Calls Try.prog 18 #[.slice (some ⟨b, o, none⟩) n cap] w fun e w' => e = .returned (.tuple #[.float .f32 (fop .quo .f32 (sumQ fs 300 o n) (cn .f32 (floatOfInt .f32 n))), .int .i64 0]) ∧ Below w.heap.size w w' := by
  have HC := Lib.hid hc
  clear hc
  go_enter Try.func18, Try.ntmps18
  go_wp2_with fail
  refine (Sum_any b o n cap fs _ h2 h3 h4 HC.out).mono ?_
  rintro e w1 ⟨rfl, hb⟩
  have HB := Lib.hid hb
  clear hb
  go_wp2_with (first | ((with_reducible apply wpList_farith); rfl; rfl; rfl; intro r m hr; have HR := Lib.hid hr; clear hr) | (go_at_call 37; refine (Clean_any _ _).mono ?_; rintro e w' ⟨rfl, rfl⟩))
  have e1 := HR.out.eq
  rw [sumQ_cn] at e1
  refine bodyPost_ret (v := .tuple #[.float .f32 (cn .f32 r), .int .i64 0]) (by simp [results, Try.results18, go_sem]) rfl ⟨by rw [e1], ?_⟩
  exact HB.out.trans (Below.mono (below_drewN (Below.refl _ _) _) HB.out.size)
theorem Mean_none (a : Option Addr) (cap : Nat) (w : World) : Calls Try.prog 18 #[.slice a 0 cap] w fun e w' => e = .returned (.tuple #[.float .f32 0, .int .i64 10]) ∧ w = w' := by
  go_enter Try.func18, Try.ntmps18
  go_wp2_with fail
  exact bodyPost_ret (v := .tuple #[.float .f32 0, .int .i64 10]) (by simp [results, Try.results18, go_sem]) rfl ⟨rfl, rfl⟩
theorem Middle_none (a : Option Addr) (cap : Nat) (w : World) : Calls Try.prog 19 #[.slice a 0 cap] w fun e w' => e = .returned (.tuple #[.float .f32 0, .int .i64 10]) ∧ w = w' := by
  go_enter Try.func19, Try.ntmps19
  go_wp2_with fail
  exact bodyPost_ret (v := .tuple #[.float .f32 0, .int .i64 10]) (by simp [results, Try.results19, go_sem]) rfl ⟨rfl, rfl⟩
end Go.Proofs.Ytefjkelakecanaa
