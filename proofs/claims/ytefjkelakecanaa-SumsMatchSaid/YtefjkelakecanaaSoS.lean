/- num.Sum and dyeref2.SumOf: the same sum by halves. Conditions: the row lies in memory; at most 300 elements. -/
import Derived.Test.YtefjkelakecanaaKtN
namespace Go.Proofs.Ytefjkelakecanaa
open Go Go.RowKit
/-- The sum by halves of n cells from o on. -/
def sumQ (fs : Nat → Nat) : Nat → Nat → Nat → Nat
  | 0, _, _ => 0
  | f + 1, o, n => if n = 0 then 0 else if n = 1 then cn .f32 (fs o) else fop .add .f32 (sumQ fs f o (n / 2)) (sumQ fs f (o + n / 2) (n - n / 2))
theorem cn_zero : cn .f32 0 = 0 := by decide +kernel
theorem sumQ_cn (fs : Nat → Nat) (f o n : Nat) : cn .f32 (sumQ fs f o n) = sumQ fs f o n := by
  cases f with
  | zero => exact cn_zero
  | succ f =>
    unfold sumQ
    split
    · exact cn_zero
    · split
      · exact cn_cn _ _
      · exact cn_fop _ _ _ _
def argSl (args : Array Value) : Nat × Nat := match args[(0 : Nat)]? with | some (.slice (some p) n _) => (p.off, n) | _ => (0, 0)
/-- Cells of a block, by their place in it. -/
def CelF (w : World) (b lo hi : Nat) (fs : Nat → Nat) : Prop := ∀ i, lo ≤ i → i < hi → w.cell? ⟨b, i, none⟩ = some (.float .f32 (fs i)) ∧ fs i < 4294967296
theorem CelF.past {W w : World} {b lo hi : Nat} {fs : Nat → Nat} (k : CelF W b lo hi fs) (hb : Below W.heap.size W w) : CelF w b lo hi fs := fun i h1 h2 => ⟨(hb.cell (p := ⟨b, i, none⟩) (cell_lt (k i h1 h2).1)).trans (k i h1 h2).1, (k i h1 h2).2⟩
theorem CelF.sub {w : World} {b lo hi lo' hi' : Nat} {fs : Nat → Nat} (k : CelF w b lo hi fs) (h1 : lo ≤ lo') (h2 : hi' ≤ hi) : CelF w b lo' hi' fs := fun i h3 h4 => k i (by omega) (by omega)
set_option maxRecDepth 100000 in
set_option maxHeartbeats 6400000 in
theorem sum1_any (b kc : Nat) (fs : Nat → Nat) : ∀ f n o cap : Nat, ∀ w : World, n ≤ f → n ≤ 300 → 0 < n → n ≤ cap → CelF w b o (o + n) fs → w.cell? ⟨kc, 0, none⟩ = some (.func (.func 50) #[] #[.pointer (some ⟨kc, 0, none⟩)]) →
    Calls Try.prog 50 #[.slice (some ⟨b, o, none⟩) n cap, .pointer (some ⟨kc, 0, none⟩)] w fun e w' => ∃ r, e = .returned (.float .f32 r) ∧ FR .f32 r (sumQ fs f o n) ∧ Below w.heap.size w w'
  | 0, n, o, cap, w, h1, h2, h3, h4, hc, hk => by omega
  | f + 1, n, o, cap, w, h1, h2, h3, h4, hc, hk => by
    have hkl := cell_lt hk
    simp only at hkl
    by_cases hn1 : n = 1
    · subst hn1
      obtain ⟨c0, c1⟩ := hc o (Nat.le_refl _) (by omega)
      have HC := Lib.hid (And.intro c1 hc)
      clear hc c1
      go_enter Try.func50, Try.ntmps50
      go_wp2_with fail
      go_ret
      exact ⟨_, rfl, by unfold sumQ; rw [if_neg (by decide), if_pos rfl]; exact FR.refl HC.out.1, Below.refl _ _⟩
    · have n0 : ¬ (n : Int) = 0 := by omega
      have n1 : ¬ (n : Int) = 1 := by omega
      obtain ⟨k, hkk⟩ : ∃ k, k = n / 2 := ⟨_, rfl⟩
      have hk2 : (n : Int) / 2 = (k : Int) := by omega
      have k1 : 0 < k ∧ k < n ∧ k ≤ f ∧ n - k ≤ f := by omega
      obtain ⟨k1, k2, k3, k4⟩ := k1
      have HI : Hid (∀ w', Below w.heap.size w w' → (Calls Try.prog 50 #[.slice (some ⟨b, o, none⟩) k cap, .pointer (some ⟨kc, 0, none⟩)] w' fun e w'' => ∃ r, e = .returned (.float .f32 r) ∧ FR .f32 r (sumQ fs f o k) ∧ Below w'.heap.size w' w'') ∧
          (Calls Try.prog 50 #[.slice (some ⟨b, o + k, none⟩) (n - k) (cap - k), .pointer (some ⟨kc, 0, none⟩)] w' fun e w'' => ∃ r, e = .returned (.float .f32 r) ∧ FR .f32 r (sumQ fs f (o + k) (n - k)) ∧ Below w'.heap.size w' w'')) := Lib.hid (fun w' hb => by
        have hc' := hc.past hb
        have hk' := (hb.cell (p := ⟨kc, 0, none⟩) hkl).trans hk
        exact ⟨sum1_any b kc fs f k o cap w' k3 (by omega) k1 (by omega) (hc'.sub (Nat.le_refl _) (by omega)) hk', sum1_any b kc fs f (n - k) (o + k) (cap - k) w' k4 (by omega) (by omega) (by omega) (hc'.sub (by omega) (by omega)) hk'⟩)
      have HK := Lib.hid hkk
      clear hc hkk
      have kn : (k : Int) ≤ (n : Int) := by omega
      have kn2 : (n : Int) ≤ (cap : Int) := by omega
      have kc1 : k ≤ cap := by omega
      have kc2 : k ≤ n := by omega
      have kc3 : ¬ cap = k := by omega
      go_enter Try.func50, Try.ntmps50
      go_upto_region 7 with fail
      refine wp_region_loose 11 (fun _ args u => ∃ r, u = .float .f32 r ∧ FR .f32 r (sumQ fs f (argSl args).1 (argSl args).2)) (by kernel_rfl) (by kernel_rfl) ?_
      simp only [List.take_succ_cons, List.take_zero, List.drop_succ_cons, List.drop_zero]
      iterate 3 (refine loose_wanted rfl (fun K hK => ?_); go_simp; refine hK _ ?_; clear hK K)
      refine loose_wanted rfl (fun K hK => ?_)
      go_simp
      refine hK _ ?_
      clear hK K
      refine loose_wanted rfl (fun K hK => ?_)
      go_simp
      refine ⟨fun p => ((HI.out p.w p.h).1).mono ?_, ?_⟩
      · rintro e w' ⟨r, rfl, hr, hb⟩
        exact ⟨_, rfl, ⟨r, rfl, hr⟩, p.h.trans (hb.mono p.h.size)⟩
      rintro u r1 hu hr
      subst hu
      refine hK _ ?_
      clear hK K
      have HR1 := Lib.hid hr
      clear hr
      iterate 3 (refine loose_wanted rfl (fun K hK => ?_); go_simp; refine hK _ ?_; clear hK K)
      refine loose_wanted rfl (fun K hK => ?_)
      go_simp
      refine hK _ ?_
      clear hK K
      refine loose_wanted rfl (fun K hK => ?_)
      go_simp
      refine ⟨fun p => ((HI.out p.w p.h).2).mono ?_, ?_⟩
      · rintro e w' ⟨r, rfl, hr, hb⟩
        exact ⟨_, rfl, ⟨r, rfl, hr⟩, p.h.trans (hb.mono p.h.size)⟩
      rintro u r2 hu hr
      subst hu
      refine hK _ ?_
      clear hK K
      have HR2 := Lib.hid hr
      clear hr
      (first | ((with_reducible apply loose_farith); rfl; rfl; rfl; rfl; intro _ _) | ((with_reducible apply loose_up); rfl; rfl; exact Try.underlying22; exact Try.underlying26; intro _ _))
      rename_i r3 hr3
      have HR3 := Lib.hid hr3
      clear hr3
      refine loose_nil (fun w5 hb5 => ?_)
      go_wp2_with fail
      go_ret
      refine ⟨r3, rfl, ?_, hb5⟩
      have e1 : cn .f32 r1 = sumQ fs f o (n / 2) := by rw [← HK.out]; exact HR1.out.eq
      have e2 : cn .f32 r2 = sumQ fs f (o + n / 2) (n - n / 2) := by rw [← HK.out]; exact HR2.out.eq
      have h := HR3.out
      rw [e1, e2] at h
      unfold sumQ
      rw [if_neg (by omega), if_neg hn1]
      exact h
set_option maxRecDepth 100000 in
set_option maxHeartbeats 6400000 in
theorem Sum_any (b o n cap : Nat) (fs : Nat → Nat) (w : World) (h2 : n ≤ 300) (h3 : 0 < n) (h4 : n ≤ cap) (hc : CelF w b o (o + n) fs) :
    Calls Try.prog 20 #[.slice (some ⟨b, o, none⟩) n cap] w fun e w' => e = .returned (.float .f32 (sumQ fs 300 o n)) ∧ Below w.heap.size w w' := by
  have HC := Lib.hid hc
  clear hc
  go_enter Try.func20, Try.ntmps20
  go_upto_region 3 with fail
  refine wp_world (fun W hW => ?_)
  have KB : Blk W w.heap.size [.func (.func 50) #[] #[.pointer (some ⟨w.heap.size, 0, none⟩)]] := by rw [hW]; exact Blk.new _ _ _ _ rfl
  have BW : Below w.heap.size w W := by rw [hW]; (repeat (first | exact Below.refl _ _ | assumption | (refine Below.setCell ?_ (by first | (simp; done) | (simp; omega) | omega) _) | (refine Below.drew ?_) | (refine below_drewN ?_ _) | (refine Below.alloc ?_ (by first | (simp; done) | (simp; omega) | omega) _) | (refine Below.trans ?_ (Below.mono (by assumption) (by first | (simp; done) | (simp; omega) | omega)))))
  have k0 := KB.c 0 _ rfl
  have kl := KB.lt
  have hcW : CelF W b o (o + n) fs := by
    intro i h5 h6
    obtain ⟨c0, c1⟩ := HC.out i h5 h6
    exact ⟨(BW.cell (p := ⟨b, i, none⟩) (cell_lt c0)).trans c0, c1⟩
  have HW := Lib.hid (And.intro hcW (And.intro BW k0))
  clear hW KB BW hcW
  go_wp2_with fail
  refine (sum1_any b w.heap.size fs 300 n o cap W h2 h2 h3 h4 HW.out.1 HW.out.2.2).mono ?_
  rintro e w' ⟨r, rfl, hr, hb⟩
  have HR := Lib.hid (And.intro hr (HW.out.2.1.trans (hb.mono HW.out.2.1.size)))
  clear hr hb k0 kl
  go_wp2_with (first | (go_at_call 37; refine (Clean_any _ _).mono ?_; rintro e w' ⟨rfl, rfl⟩))
  go_ret
  exact ⟨ret_f HR.out.1.eq, HR.out.2⟩
set_option maxRecDepth 100000 in
set_option maxHeartbeats 6400000 in
theorem SumOf_any (b : Nat) (fs : Nat → Nat) : ∀ f n o cap : Nat, ∀ w : World, n ≤ f → n ≤ 300 → 0 < n → n ≤ cap → CelF w b o (o + n) fs →
    Calls Try.prog 21 #[.slice (some ⟨b, o, none⟩) n cap] w fun e w' => e = .returned (.float .f32 (sumQ fs f o n)) ∧ Below w.heap.size w w'
  | 0, n, o, cap, w, h1, h2, h3, h4, hc => by omega
  | f + 1, n, o, cap, w, h1, h2, h3, h4, hc => by
    by_cases hn1 : n = 1
    · subst hn1
      obtain ⟨c0, c1⟩ := hc o (Nat.le_refl _) (by omega)
      clear hc
      go_enter Try.func21, Try.ntmps21
      go_wp2_with (first | (go_at_call 22; refine (Fix_any _ _).mono ?_; rintro e w' ⟨rfl, rfl⟩))
      go_ret
      exact ⟨ret_f (by unfold sumQ; rw [if_neg (by decide), if_pos rfl]), Below.refl _ _⟩
    · have n0 : ¬ (n : Int) = 0 := by omega
      have n1 : ¬ (n : Int) = 1 := by omega
      obtain ⟨k, hkk⟩ : ∃ k, k = n / 2 := ⟨_, rfl⟩
      have hk2 : (n : Int) / 2 = (k : Int) := by omega
      have k1 : 0 < k ∧ k < n ∧ k ≤ f ∧ n - k ≤ f := by omega
      obtain ⟨k1, k2, k3, k4⟩ := k1
      have HI : Hid (∀ w', Below w.heap.size w w' → (Calls Try.prog 21 #[.slice (some ⟨b, o, none⟩) k cap] w' fun e w'' => e = .returned (.float .f32 (sumQ fs f o k)) ∧ Below w'.heap.size w' w'') ∧
          (Calls Try.prog 21 #[.slice (some ⟨b, o + k, none⟩) (n - k) (cap - k)] w' fun e w'' => e = .returned (.float .f32 (sumQ fs f (o + k) (n - k))) ∧ Below w'.heap.size w' w'')) := Lib.hid (fun w' hb => by
        have hc' := hc.past hb
        exact ⟨SumOf_any b fs f k o cap w' k3 (by omega) k1 (by omega) (hc'.sub (Nat.le_refl _) (by omega)), SumOf_any b fs f (n - k) (o + k) (cap - k) w' k4 (by omega) (by omega) (by omega) (hc'.sub (by omega) (by omega))⟩)
      have HK := Lib.hid hkk
      clear hc hkk
      have kn : (k : Int) ≤ (n : Int) := by omega
      have kn2 : (n : Int) ≤ (cap : Int) := by omega
      have kc1 : k ≤ cap := by omega
      have kc2 : k ≤ n := by omega
      have kc3 : ¬ cap = k := by omega
      go_enter Try.func21, Try.ntmps21
      go_upto_region 7 with fail
      refine wp_region_loose 10 (fun g args u => (g = 21 → u = .float .f32 (sumQ fs f (argSl args).1 (argSl args).2)) ∧ (g = 22 → u = .float .f32 (cn .f32 (argF args 0)))) (by kernel_rfl) (by kernel_rfl) ?_
      simp only [List.take_succ_cons, List.take_zero, List.drop_succ_cons, List.drop_zero]
      iterate 2 (refine loose_wanted rfl (fun K hK => ?_); go_simp; refine hK _ ?_; clear hK K)
      refine loose_wanted rfl (fun K hK => ?_)
      go_simp
      refine hK _ ?_
      clear hK K
      refine loose_wanted rfl (fun K hK => ?_)
      go_simp
      refine ⟨fun p => ((HI.out p.w p.h).1).mono ?_, ?_⟩
      · rintro e w' ⟨rfl, hb⟩
        exact ⟨_, rfl, rfl, p.h.trans (hb.mono p.h.size)⟩
      refine hK _ ?_
      clear hK K
      iterate 2 (refine loose_wanted rfl (fun K hK => ?_); go_simp; refine hK _ ?_; clear hK K)
      refine loose_wanted rfl (fun K hK => ?_)
      go_simp
      refine hK _ ?_
      clear hK K
      refine loose_wanted rfl (fun K hK => ?_)
      go_simp
      refine ⟨fun p => ((HI.out p.w p.h).2).mono ?_, ?_⟩
      · rintro e w' ⟨rfl, hb⟩
        exact ⟨_, rfl, rfl, p.h.trans (hb.mono p.h.size)⟩
      refine hK _ ?_
      clear hK K
      (first | ((with_reducible apply loose_farith); rfl; rfl; rfl; rfl; intro _ _) | ((with_reducible apply loose_up); rfl; rfl; exact Try.underlying22; exact Try.underlying26; intro _ _))
      rename_i r3 hr3
      have HR3 := Lib.hid hr3
      clear hr3
      refine loose_wanted rfl (fun K hK => ?_)
      go_simp
      refine ⟨fun p => (Fix_any _ p.w).mono ?_, ?_⟩
      · rintro e w' ⟨rfl, rfl⟩
        exact ⟨_, rfl, by first | rfl | simp, p.h⟩
      refine hK _ ?_
      clear hK K
      refine loose_nil (fun w5 hb5 => ?_)
      go_wp2_with fail
      go_ret
      refine ⟨ret_f ?_, hb5⟩
      have e1 : cn .f32 (sumQ fs f o k) = sumQ fs f o (n / 2) := by rw [← HK.out]; exact sumQ_cn _ _ _ _
      have e2 : cn .f32 (sumQ fs f (o + k) (n - k)) = sumQ fs f (o + n / 2) (n - n / 2) := by rw [← HK.out]; exact sumQ_cn _ _ _ _
      have h : FR .f32 r3 (fop .add .f32 (cn .f32 (sumQ fs f o k)) (cn .f32 (sumQ fs f (o + k) (n - k)))) := HR3.out
      rw [e1, e2] at h
      show cn .f32 r3 = _
      rw [h.eq]
      show _ = (if n = 0 then 0 else if n = 1 then cn .f32 (fs o) else fop .add .f32 (sumQ fs f o (n / 2)) (sumQ fs f (o + n / 2) (n - n / 2)))
      rw [if_neg (by omega), if_neg hn1]
theorem sumQ_zero (fs : Nat → Nat) (f o : Nat) : sumQ fs f o 0 = 0 := by
  cases f with
  | zero => rfl
  | succ f => unfold sumQ; rw [if_pos rfl]
set_option maxRecDepth 100000 in
set_option maxHeartbeats 1600000 in
theorem Sum_none (a : Option Addr) (cap : Nat) (w : World) : Calls Try.prog 20 #[.slice a 0 cap] w fun e w' => e = .returned (.float .f32 0) ∧ Below w.heap.size w w' := by
  have H : ∀ (kc : Nat) (w : World), Calls Try.prog 50 #[.slice a 0 cap, .pointer (some ⟨kc, 0, none⟩)] w fun e w' => e = .returned (.float .f32 0) ∧ w = w' := fun kc w => by
    go_enter Try.func50, Try.ntmps50
    go_wp2_with fail
    go_ret
    exact ⟨rfl, rfl⟩
  have HH := Lib.hid H
  clear H
  go_enter Try.func20, Try.ntmps20
  go_wp2_with fail
  refine (HH.out _ _).mono ?_
  rintro e w' ⟨rfl, rfl⟩
  go_wp2_with (first | (go_at_call 37; refine (Clean_any _ _).mono ?_; rintro e w' ⟨rfl, rfl⟩))
  go_ret
  exact ⟨ret_f cn_zero, by (repeat (first | exact Below.refl _ _ | assumption | (refine Below.setCell ?_ (by first | (simp; done) | (simp; omega) | omega) _) | (refine Below.drew ?_) | (refine below_drewN ?_ _) | (refine Below.alloc ?_ (by first | (simp; done) | (simp; omega) | omega) _) | (refine Below.trans ?_ (Below.mono (by assumption) (by first | (simp; done) | (simp; omega) | omega)))))⟩
set_option maxRecDepth 100000 in
set_option maxHeartbeats 1600000 in
theorem SumOf_none (a : Option Addr) (cap : Nat) (w : World) : Calls Try.prog 21 #[.slice a 0 cap] w fun e w' => e = .returned (.float .f32 0) ∧ w = w' := by
  go_enter Try.func21, Try.ntmps21
  go_wp2_with fail
  go_ret
  exact ⟨rfl, rfl⟩
end Go.Proofs.Ytefjkelakecanaa
