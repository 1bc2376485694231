/- A cube of entries that are made, in the document: dyeref2.Places, dyeref2.MadeOf, by any closure. Conditions: the size is right; the closure answers within it. -/
import Derived.Test.YtmckkgbdlgldbaaCA
import Derived.Test.YtmckkgbdlgldbaaHeldT
namespace Go.Proofs.Ytmckkgbdlgldbaa
open Go.RowKit
set_option maxRecDepth 100000 in
set_option maxHeartbeats 1600000 in
theorem Places_any (K : Nat) (caps : Array Value) (S : Nat) (I : Nat → World → Prop) (w : World) (hS : S ≤ 17) (hS0 : 0 < S)
    (hent : ∀ args w, (callFunc K args).run Try.prog w = .ok (.enter K args) w) (h0 : I 0 w) (hp : ∀ n a b, I n a → Below a.heap.size a b → I n b)
    (hk : ∀ n w', n < S * S * S → I n w' → Calls Try.prog K (#[.int .i64 n, .int .i64 (n % S : Nat), .int .i64 (n / S % S : Nat), .int .i64 (n / S / S : Nat)] ++ caps) w' fun e w'' => e = .returned (.tuple #[]) ∧ I (n + 1) w'') :
    Calls Try.prog 128 #[.int .i64 S, .func (.func K) #[] caps] w fun e w' => e = .returned (.tuple #[]) ∧ I (S * S * S) w' := by
  obtain ⟨b1, b2⟩ := cub_nat hS
  have u1 : IntKind.i64.wrap ((S : Int) * (S : Int)) = ((S * S : Nat) : Int) := by rw [← Int.natCast_mul, IntKind.wrap_i64]; omega
  have u2 : IntKind.i64.wrap (((S * S : Nat) : Int) * (S : Int)) = ((S * S * S : Nat) : Int) := by rw [← Int.natCast_mul, IntKind.wrap_i64]; omega
  have HK := Lib.hid (And.intro hk (And.intro h0 hp))
  clear hk h0 hp
  generalize S * S * S = B at *
  generalize S * S = A at *
  have s1 : ¬ (S : Int) = 0 := by omega
  have s2 : ¬ S = 0 := by omega
  go_enter Try.func128, Try.ntmps128
  go_wp2_with fail
  go_loopw [10] (fun s wr => ∃ n : Nat, n ≤ B ∧ s = .int .i64 n ∧ I n wr) (fun s _ => B - (intOf s).toNat)
  case atStart => exact ⟨0, Nat.zero_le _, rfl, HK.out.2.1⟩
  case round =>
    obtain ⟨n, hn, rfl, hI⟩ := hrel
    have HI := Lib.hid hI; clear hI
    by_cases hnB : n < B
    · have d1 : (n : Int).tmod (S : Int) = ((n % S : Nat) : Int) := by rw [Int.tmod_eq_emod_of_nonneg (Int.natCast_nonneg _)]; simp
      have d2 : (n : Int).tdiv (S : Int) = ((n / S : Nat) : Int) := by rw [Int.tdiv_eq_ediv_of_nonneg (Int.natCast_nonneg _)]; simp
      have d3 : ((n / S : Nat) : Int).tmod (S : Int) = ((n / S % S : Nat) : Int) := by rw [Int.tmod_eq_emod_of_nonneg (Int.natCast_nonneg _)]; simp
      have d4 : ((n / S : Nat) : Int).tdiv (S : Int) = ((n / S / S : Nat) : Int) := by rw [Int.tdiv_eq_ediv_of_nonneg (Int.natCast_nonneg _)]; simp
      have l1 : n / S ≤ n := Nat.div_le_self _ _
      have l2 : n / S / S ≤ n / S := Nat.div_le_self _ _
      have l3 : n / S % S ≤ n / S := Nat.mod_le _ _
      have l4 : n % S ≤ n := Nat.mod_le _ _
      have HC := Lib.hid (fun w' hi => HK.out.1 n w' hnB hi)
      have HP := Lib.hid HK.out.2.2
      clear HK
      generalize n % S = r1 at *
      generalize n / S % S = r2 at *
      generalize n / S / S = q2 at *
      generalize n / S = q1 at *
      have w1 : IntKind.i64.wrap (r1 : Int) = (r1 : Int) := by rw [IntKind.wrap_i64]; omega
      have w2 : IntKind.i64.wrap (q1 : Int) = (q1 : Int) := by rw [IntKind.wrap_i64]; omega
      have w3 : IntKind.i64.wrap (r2 : Int) = (r2 : Int) := by rw [IntKind.wrap_i64]; omega
      have w4 : IntKind.i64.wrap (q2 : Int) = (q2 : Int) := by rw [IntKind.wrap_i64]; omega
      go_wp2_with fail
      refine wp_region_loose 15 (fun _ _ _ => False) (by kernel_rfl) (by kernel_rfl) ?_
      simp only [List.take_succ_cons, List.take_zero, List.drop_succ_cons, List.drop_zero]
      iterate 15 (refine loose_wanted rfl (fun K hK => ?_); go_simp; refine hK _ ?_; clear hK K)
      refine loose_nil (fun w5 hb5 => ?_)
      go_wp2_with fail
      refine (HC.out _ (HP.out _ _ _ HI.out hb5)).mono ?_
      rintro e w6 ⟨rfl, hI6⟩
      have HI6 := Lib.hid hI6; clear hI6
      go_wp2_with fail
      go_roundw
      case rel => exact ⟨n + 1, by omega, by go_num, HI6.out⟩
      case measure => simp [intOf]; omega
    · have hnn : n = B := by omega
      subst hnn
      go_wp2_with fail
      go_end0
      exact ⟨rfl, HI.out⟩
theorem nf_app {W wa w5 : World} {base nf nc n : Nat} {s s' : Value} {xs vs : List Value} (k : Blk W nf vs) (hb : Below W.heap.size W wa) (own : wa.ownsRow base 38 1 s n xs) (hnf : nf < base) (hne : nf ≠ nc) (hg : wa.grownBy w5 s.ownBlock) : Blk (w5.setCell ⟨nc, 3, none⟩ s') nf vs :=
  ((k.past hb).block hg.size (hg.block nf (k.past hb).lt (own_block own hnf))).far _ _ (Ne.symm hne)
theorem grown_cell {W wa w5 : World} {row : Option Nat} {n i : Nat} {v : Value} (hg : wa.grownBy w5 row) (hb : Below W.heap.size W wa) (hl : n < W.heap.size) (hne : some n ≠ row) (hv : W.cell? ⟨n, i, none⟩ = some v) : w5.cell? ⟨n, i, none⟩ = some v :=
  (World.grownBy.cell_far hg ⟨n, i, none⟩ (Nat.lt_of_lt_of_le hl hb.size) hne).trans ((hb.cell (p := ⟨n, i, none⟩) hl).trans hv)
set_option maxRecDepth 100000 in
set_option maxHeartbeats 6400000 in
theorem MadeOf_closure (K : Nat) (caps : Array Value) (S lo hi : Nat) (G : Nat → Nat → Nat) (w wr : World) (nf nr nc base n i j k : Nat) (s : Value) (hS : S ≤ 17) (hi1 : i < S) (hj1 : j < S) (hk1 : k < S) (hn : enI S i j k = n)
    (hent : ∀ args w, (callFunc K args).run Try.prog w = .ok (.enter K args) w) (hK : EntOK K caps w S G) (R : CubR w wr nr nc base S lo hi G n s) (hf : Blk wr nf [.func (.func K) #[] caps]) (hnf : nf < base) (hne : nf ≠ nc) (hba : base = nc + 1) :
    Calls Try.prog 129 #[.int .i64 n, .int .i64 i, .int .i64 j, .int .i64 k, .pointer (some ⟨nf, 0, none⟩), .pointer (some ⟨nc, 0, none⟩)] wr fun e w' =>
      e = .returned (.tuple #[]) ∧ (∃ s', CubR w w' nr nc base S lo hi G (n + 1) s') ∧ Blk w' nf [.func (.func K) #[] caps] := by
  obtain ⟨b1, b2⟩ := cub_nat hS
  have hlt := enI_lt hi1 hj1 hk1
  rw [hn] at hlt
  have HE := Lib.hid (hK i j k _ hi1 hj1 hk1 R.bel)
  have HN := Lib.hid hn
  obtain ⟨i0, hi0, hz0, hz1, hz2⟩ := info_parts infoF32
  have f0 := hf.c 0 _ rfl
  have HR := Lib.hid R; have HF := Lib.hid hf
  have lf := hf.lt; have lc := R.cub.lt
  clear hS hi1 hj1 hk1 hn hK R hf
  go_enter Try.func129, Try.ntmps129
  go_wp2_with fail
  refine HE.out.mono ?_
  rintro e w1 ⟨⟨q, rfl, hq⟩, hb1⟩
  rw [HN.out] at hq
  have q0 := Lib.hid (hq 0 (by omega)); have q1 := Lib.hid (hq 1 (by omega)); have q2 := Lib.hid (hq 2 (by omega))
  have M1 := HR.out.past hb1
  have F1 := HF.out.past hb1
  have HM1 := Lib.hid M1; have HF1 := Lib.hid F1
  clear hq hb1 M1 F1 f0 lf lc
  go_wp2_with fail
  refine wp_world (fun W3 hW3 => ?_)
  have VB : Blk W3 w1.heap.size [.float .f32 (q 0), .float .f32 (q 1), .float .f32 (q 2)] := by rw [hW3]; first | exact Blk.new _ _ _ _ rfl | exact ((((Blk.new _ _ _ _ rfl).set 0 _).set 1 _).set 2 _)
  have B13 : Below w1.heap.size w1 W3 := by rw [hW3]; (repeat (first | exact Below.refl _ _ | assumption | (refine Below.setCell ?_ (by first | (simp; done) | (simp; omega) | omega) _) | (refine Below.drew ?_) | (refine below_drewN ?_ _) | (refine Below.alloc ?_ (by first | (simp; done) | (simp; omega) | omega) _) | (refine Below.trans ?_ (Below.mono (by assumption) (by first | (simp; done) | (simp; omega) | omega)))))
  have M3 := HM1.out.past B13
  have F3 := HF1.out.past B13
  have c3 := M3.cub.c 3 _ rfl
  have cf := M3.cub.f
  have lc := M3.cub.lt
  have v0 := VB.c 0 _ rfl; have v1 := VB.c 1 _ rfl; have v2 := VB.c 2 _ rfl
  have hbs := M3.bel.size
  have lv := VB.lt
  have lw := HM1.out.bel.size
  have hvo : some w1.heap.size ≠ s.ownBlock := by
    intro e'
    have := (HM1.out.own.lt _ e'.symm).2
    omega
  have hcv : nc ≠ w1.heap.size := by have := HM1.out.cub.lt; omega
  have HVO := Lib.hid hvo; have HV := Lib.hid VB
  have HM4 := Lib.hid M3; have HF4 := Lib.hid F3
  clear hW3 HM1 HF1 M3 F3 VB B13 hvo HF HR
  have hCp : ∀ w', Below W3.heap.size W3 w' → w'.cell? ⟨nc, 3, none⟩ = some s ∧ w'.cell? ⟨w1.heap.size, 0, none⟩ = some (.float .f32 (q 0)) ∧ w'.cell? ⟨w1.heap.size, 1, none⟩ = some (.float .f32 (q 1)) ∧ w'.cell? ⟨w1.heap.size, 2, none⟩ = some (.float .f32 (q 2)) := fun w' hb =>
    ⟨(hb.cell (p := ⟨nc, 3, none⟩) lc).trans c3, (hb.cell (p := ⟨w1.heap.size, 0, none⟩) lv).trans v0, (hb.cell (p := ⟨w1.heap.size, 1, none⟩) lv).trans v1, (hb.cell (p := ⟨w1.heap.size, 2, none⟩) lv).trans v2⟩
  have HCP := Lib.hid hCp; clear hCp
  refine wp_region_C (fun w' => w'.cell? ⟨nc, 3, none⟩ = some s ∧ w'.cell? ⟨w1.heap.size, 0, none⟩ = some (.float .f32 (q 0)) ∧ w'.cell? ⟨w1.heap.size, 1, none⟩ = some (.float .f32 (q 1)) ∧ w'.cell? ⟨w1.heap.size, 2, none⟩ = some (.float .f32 (q 2))) 12 15 (by kernel_rfl) rfl ?_
  have hC := HCP.out W3.drew ((Below.refl _ _).drew)
  refine wpAnyC_take (i := 0) (v := .pointer (some ⟨nc, 3, none⟩)) rfl (by kernel_rfl) (by kernel_rfl) (fun _ _ _ h => h) (.inl ⟨rfl, fun w' hw' => ?_⟩) hC ?_
  · obtain ⟨k0, k1, k2, k3⟩ := hw'
    go_simp
  refine wpAnyC_act (by rfl) ?_
  simp only [Act.put, List.setIfInBounds_toArray, List.set_cons_zero, List.set_cons_succ]
  refine wpAnyC_take (i := 1) (v := s) rfl (by kernel_rfl) (by kernel_rfl) (fun _ _ _ h => h) (.inl ⟨rfl, fun w' hw' => ?_⟩) hC ?_
  · obtain ⟨k0, k1, k2, k3⟩ := hw'
    go_simp
  refine wpAnyC_act (by rfl) ?_
  simp only [Act.put, List.setIfInBounds_toArray, List.set_cons_zero, List.set_cons_succ]
  refine wpAnyC_take (i := 2) (v := .pointer (some ⟨w1.heap.size, 0, none⟩)) rfl (by kernel_rfl) (by kernel_rfl) (fun _ _ _ h => h) (.inl ⟨rfl, fun w' hw' => ?_⟩) hC ?_
  · obtain ⟨k0, k1, k2, k3⟩ := hw'
    go_simp
  refine wpAnyC_act (by rfl) ?_
  simp only [Act.put, List.setIfInBounds_toArray, List.set_cons_zero, List.set_cons_succ]
  refine wpAnyC_take (i := 3) (v := .float .f32 (q 0)) rfl (by kernel_rfl) (by kernel_rfl) (fun _ _ _ h => h) (.inl ⟨rfl, fun w' hw' => ?_⟩) hC ?_
  · obtain ⟨k0, k1, k2, k3⟩ := hw'
    go_simp
  refine wpAnyC_act (by rfl) ?_
  simp only [Act.put, List.setIfInBounds_toArray, List.set_cons_zero, List.set_cons_succ]
  refine wpAnyC_take (i := 5) (v := .pointer (some ⟨w1.heap.size, 1, none⟩)) rfl (by kernel_rfl) (by kernel_rfl) (fun _ _ _ h => h) (.inl ⟨rfl, fun w' hw' => ?_⟩) hC ?_
  · obtain ⟨k0, k1, k2, k3⟩ := hw'
    go_simp
  refine wpAnyC_act (by rfl) ?_
  simp only [Act.put, List.setIfInBounds_toArray, List.set_cons_zero, List.set_cons_succ]
  refine wpAnyC_take (i := 6) (v := .float .f32 (q 1)) rfl (by kernel_rfl) (by kernel_rfl) (fun _ _ _ h => h) (.inl ⟨rfl, fun w' hw' => ?_⟩) hC ?_
  · obtain ⟨k0, k1, k2, k3⟩ := hw'
    go_simp
  refine wpAnyC_act (by rfl) ?_
  simp only [Act.put, List.setIfInBounds_toArray, List.set_cons_zero, List.set_cons_succ]
  refine wpAnyC_take (i := 8) (v := .pointer (some ⟨w1.heap.size, 2, none⟩)) rfl (by kernel_rfl) (by kernel_rfl) (fun _ _ _ h => h) (.inl ⟨rfl, fun w' hw' => ?_⟩) hC ?_
  · obtain ⟨k0, k1, k2, k3⟩ := hw'
    go_simp
  refine wpAnyC_act (by rfl) ?_
  simp only [Act.put, List.setIfInBounds_toArray, List.set_cons_zero, List.set_cons_succ]
  refine wpAnyC_take (i := 9) (v := .float .f32 (q 2)) rfl (by kernel_rfl) (by kernel_rfl) (fun _ _ _ h => h) (.inl ⟨rfl, fun w' hw' => ?_⟩) hC ?_
  · obtain ⟨k0, k1, k2, k3⟩ := hw'
    go_simp
  refine wpAnyC_act (by rfl) ?_
  simp only [Act.put, List.setIfInBounds_toArray, List.set_cons_zero, List.set_cons_succ]
  refine wpAnyC_one (i := 4) rfl (by kernel_rfl) (fun K hK => ?_)
  go_simp
  go_at_call 48
  refine (Fix_any _ _).mono ?_
  rintro e w' ⟨rfl, rfl⟩
  go_simp
  refine hK _ _ (fun _ => hC) ?_
  clear hK K
  refine wpAnyC_one (i := 7) rfl (by kernel_rfl) (fun K hK => ?_)
  go_simp
  go_at_call 48
  refine (Fix_any _ _).mono ?_
  rintro e w' ⟨rfl, rfl⟩
  go_simp
  refine hK _ _ (fun _ => hC) ?_
  clear hK K
  refine wpAnyC_one (i := 10) rfl (by kernel_rfl) (fun K hK => ?_)
  go_simp
  go_at_call 48
  refine (Fix_any _ _).mono ?_
  rintro e w' ⟨rfl, rfl⟩
  go_simp
  refine hK _ _ (fun _ => hC) ?_
  clear hK K
  refine wpAnyC_one (i := 11) rfl (by kernel_rfl) (fun K hK => ?_)
  go_simp
  refine hK _ _ (fun _ => HCP.out _ (by (repeat (first | exact Below.refl _ _ | assumption | (refine Below.setCell ?_ (by first | (simp; done) | (simp; omega) | omega) _) | (refine Below.drew ?_) | (refine below_drewN ?_ _) | (refine Below.alloc ?_ (by first | (simp; done) | (simp; omega) | omega) _) | (refine Below.trans ?_ (Below.mono (by assumption) (by first | (simp; done) | (simp; omega) | omega))))))) ?_
  clear hK K
  refine wpAnyC_one (i := 12) rfl (by kernel_rfl) (fun K hK => ?_)
  refine step_append_lies _ rfl (.tmp 17) (.tmp 27) 25 rfl base 38 i0 (.float .f32 0) 1 4 Try.underlying25 hi0 hz0 hz1 hz2 rfl (by decide) s (3 * n) (made3L G n) rfl (by first | exact HM4.out.own | exact own_past HM4.out.own (by (repeat (first | exact Below.refl _ _ | assumption | (refine Below.setCell ?_ (by first | (simp; done) | (simp; omega) | omega) _) | (refine Below.drew ?_) | (refine below_drewN ?_ _) | (refine Below.alloc ?_ (by first | (simp; done) | (simp; omega) | omega) _) | (refine Below.trans ?_ (Below.mono (by assumption) (by first | (simp; done) | (simp; omega) | omega))))))) ⟨W3.heap.size, 0, none⟩ 3 3 [.float .f32 (cn .f32 (q 0)), .float .f32 (cn .f32 (q 1)), .float .f32 (cn .f32 (q 2))] rfl rfl (by intro j u hj; match j, hj with | 0, hj => (simp at hj; subst hj; simp [Addr.add]) | 1, hj => (simp at hj; subst hj; simp [Addr.add]) | 2, hj => (simp at hj; subst hj; simp [Addr.add])) (by intro u hu; simp at hu; rcases hu with rfl | rfl | rfl <;> rfl) (by decide) (by unfold maxLen; omega) (by omega) (by first | (simp; omega) | omega) _ rfl ?_
  intro g cap w5 hown hgrow hat hlt
  have NF := Lib.hid (nf_app (s' := .slice (some ⟨g, 0, none⟩) (3 * n + 3) cap) HF4.out (by (repeat (first | exact Below.refl _ _ | assumption | (refine Below.setCell ?_ (by first | (simp; done) | (simp; omega) | omega) _) | (refine Below.drew ?_) | (refine below_drewN ?_ _) | (refine Below.alloc ?_ (by first | (simp; done) | (simp; omega) | omega) _) | (refine Below.trans ?_ (Below.mono (by assumption) (by first | (simp; done) | (simp; omega) | omega)))))) (own_past HM4.out.own (by (repeat (first | exact Below.refl _ _ | assumption | (refine Below.setCell ?_ (by first | (simp; done) | (simp; omega) | omega) _) | (refine Below.drew ?_) | (refine below_drewN ?_ _) | (refine Below.alloc ?_ (by first | (simp; done) | (simp; omega) | omega) _) | (refine Below.trans ?_ (Below.mono (by assumption) (by first | (simp; done) | (simp; omega) | omega))))))) hnf hne hgrow)
  obtain ⟨f4w, ffw, MS0⟩ := CubR.app HM4.out (by (repeat (first | exact Below.refl _ _ | assumption | (refine Below.setCell ?_ (by first | (simp; done) | (simp; omega) | omega) _) | (refine Below.drew ?_) | (refine below_drewN ?_ _) | (refine Below.alloc ?_ (by first | (simp; done) | (simp; omega) | omega) _) | (refine Below.trans ?_ (Below.mono (by assumption) (by first | (simp; done) | (simp; omega) | omega)))))) hown q0.out q1.out q2.out hgrow
  have MS := Lib.hid MS0
  clear MS0 hown hgrow
  refine hK _ _ (fun h => by rw [getD_setSelf] at h; cases h) ?_
  clear hK K
  refine wpAnyC_act (by rfl) ?_
  simp only [Act.put, List.setIfInBounds_toArray, List.set_cons_zero, List.set_cons_succ]
  refine wpAnyC_one (i := 13) rfl (by kernel_rfl) (fun K hK => ?_)
  go_simp
  refine hK _ _ (fun h => by rw [getD_setC (by decide), getD_setSelf] at h; cases h) ?_
  clear hK K
  refine wpAnyC_one (i := 14) rfl (by kernel_rfl) (fun K hK => ?_)
  go_simp
  refine hK _ _ (fun h => by rw [getD_setC (by decide), getD_setC (by decide), getD_setSelf] at h; cases h) ?_
  clear hK K
  refine wpAnyC_done (by kernel_rfl) ?_
  go_wp2_with fail
  go_end0
  exact ⟨rfl, ⟨_, MS.out⟩, NF.out⟩
theorem enI_of {S n : Nat} (hS : 0 < S) (hn : n < S * S * S) : n % S < S ∧ n / S % S < S ∧ n / S / S < S ∧ enI S (n % S) (n / S % S) (n / S / S) = n := by
  refine ⟨Nat.mod_lt _ hS, Nat.mod_lt _ hS, ?_, ?_⟩
  · rw [Nat.div_div_eq_div_mul]; exact Nat.div_lt_of_lt_mul hn
  · unfold enI
    rw [Nat.mod_add_div, Nat.mod_add_div]
set_option maxRecDepth 100000 in
set_option maxHeartbeats 3200000 in
theorem MadeOf_any (K : Nat) (caps : Array Value) (S lo hi : Nat) (G : Nat → Nat → Nat) (w : World) (hS : S ≤ 17) (hS0 : 0 < S)
    (hent : ∀ args w, (callFunc K args).run Try.prog w = .ok (.enter K args) w) (hk : EntOK K caps w S G) :
    Calls Try.prog 38 #[.int .i64 S, .float .f32 lo, .float .f32 hi, .func (.func K) #[] caps] w fun e w' =>
      ∃ g cap : Nat, e = .returned (.agg #[.int .i64 S, .float .f32 lo, .float .f32 hi, .slice (some ⟨g, 0, none⟩) (3 * (S * S * S)) cap]) ∧ w.heap.size ≤ g ∧ g < w'.heap.size ∧ 3 * (S * S * S) ≤ cap ∧ cap ≤ 9223372036854775807 ∧ Row w' g 0 (3 * (S * S * S)) (fun i => G (i / 3) (i % 3)) ∧ Below w.heap.size w w' := by
  have hk' := Lib.hid hk; clear hk
  have hpos : 0 < S * S * S := Nat.mul_pos (Nat.mul_pos hS0 hS0) hS0
  go_enter Try.func38, Try.ntmps38
  go_wp2_with fail
  refine calls_world (fun W hW => ?_)
  have BF : Blk W w.heap.size [.func (.func K) #[] caps] := by rw [hW]; exact ((Blk.new _ _ _ _ rfl).alloc _).alloc _
  have M0 : CubR w W (w.heap.size + 1) (w.heap.size + 2) (w.heap.size + 3) S lo hi G 0 (.slice none 0 0) := by
    rw [hW]
    exact ⟨Blk.new _ _ _ _ (by simp), World.ownsRow_nil _ _ _ _, (Blk.new _ _ _ _ (by simp)).alloc _, by (repeat (first | exact Below.refl _ _ | assumption | (refine Below.setCell ?_ (by first | (simp; done) | (simp; omega) | omega) _) | (refine Below.drew ?_) | (refine below_drewN ?_ _) | (refine Below.alloc ?_ (by first | (simp; done) | (simp; omega) | omega) _) | (refine Below.trans ?_ (Below.mono (by assumption) (by first | (simp; done) | (simp; omega) | omega))))), by omega, by omega, by omega, by omega, by omega⟩
  have HI := Lib.hid (And.intro M0 BF)
  clear hW M0 BF
  refine (Places_any 129 #[.pointer (some ⟨w.heap.size, 0, none⟩), .pointer (some ⟨w.heap.size + 1 + 1, 0, none⟩)] S (fun n wr => (∃ s, CubR w wr (w.heap.size + 1) (w.heap.size + 2) (w.heap.size + 3) S lo hi G n s) ∧ Blk wr w.heap.size [.func (.func K) #[] caps]) W hS hS0 (body_enters Try.func129 (by kernel_rfl) rfl) ⟨⟨_, HI.out.1⟩, HI.out.2⟩ (fun n a b ⟨⟨s, h1⟩, h2⟩ hb => ⟨⟨s, h1.past hb⟩, h2.past hb⟩) (fun n w' hn ⟨⟨s, h1⟩, h2⟩ => ?_)).mono ?_
  · obtain ⟨e1, e2, e3, e4⟩ := enI_of hS0 hn
    exact MadeOf_closure K caps S lo hi G w w' w.heap.size (w.heap.size + 1) (w.heap.size + 2) (w.heap.size + 3) n _ _ _ s hS e1 e2 e3 e4 hent hk'.out h1 h2 (by omega) (by omega) rfl
  rintro e w3 ⟨rfl, ⟨s, M⟩, -⟩
  have HM := Lib.hid M; clear M HI
  obtain ⟨g, cap, rfl, hg1, hg2, hg3, hg4⟩ := own_form HM.out.own (by omega)
  have hcells := HM.out.own.cells (g := g) rfl
  have HC := Lib.hid hcells; clear hcells
  have c0 := HM.out.cub.c 0 _ rfl; have c1 := HM.out.cub.c 1 _ rfl; have c2 := HM.out.cub.c 2 _ rfl; have c3 := HM.out.cub.c 3 _ rfl; have cl := HM.out.cub.lt
  have z0 := HM.out.res.c 0 _ rfl; have z1 := HM.out.res.c 1 _ rfl; have z2 := HM.out.res.c 2 _ rfl; have z3 := HM.out.res.c 3 _ rfl
  have zf := HM.out.res.f
  have zl := HM.out.res.lt
  go_wp2_with fail
  refine bodyPost_ret (v := .agg #[.int .i64 S, .float .f32 lo, .float .f32 hi, .slice (some ⟨g, 0, none⟩) (3 * (S * S * S)) cap]) (by simp [results, Try.results38, go_sem, z0, z1, z2, z3]) rfl ⟨g, cap, rfl, by omega, by simp; omega, hg3, hg4, fun x hx => ?_, ?_⟩
  · have := HC.out x (.float .f32 (G (x / 3) (x % 3))) (by simp [made3L, hx])
    rw [Go.WideShapes.add_plain] at this
    rw [Nat.zero_add, ← this]
    simp [go_sem]
  · exact (((HM.out.bel.setCell (by simp) _).setCell (by simp) _).setCell (by simp) _).setCell (by simp) _
end Go.Proofs.Ytmckkgbdlgldbaa
