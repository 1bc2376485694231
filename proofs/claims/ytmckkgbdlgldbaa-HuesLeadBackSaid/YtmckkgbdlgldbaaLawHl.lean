/- HuesLeadBack: the walk of the statement, whole. No condition. -/
import Derived.Test.YtmckkgbdlgldbaaHlD
import Derived.Test.YtmckkgbdlgldbaaLdB
import Derived.Test.YtmckkgbdlgldbaaVecH
namespace Go.Proofs.Ytmckkgbdlgldbaa
open Go Go.RowKit
/-- What the statement asks of a value. -/
def okL (v : Nat) : Bool := (FloatKind.f32.format.order v 897581056 == some .gt) || (FloatKind.f32.format.order v 897581056 == some .eq)
def okH (v : Nat) : Bool := (FloatKind.f32.format.order v 1233125376 == some .lt) || (FloatKind.f32.format.order v 1233125376 == some .eq)
theorem ok_num {v : Nat} (h : okL v = true) (h2 : okH v = true) : isNum .f32 v = true ∧ (2 : Rat) ^ (-20 : Int) ≤ val .f32 v ∧ val .f32 v ≤ 1048576 := by
  unfold okL at h
  unfold okH at h2
  have hn : isN .f32 v = false := by
    cases hN : isN .f32 v with
    | false => rfl
    | true => rw [ord_nan_l _ hN] at h; simp at h
  have z1 : isN .f32 897581056 = false := by decide +kernel
  have z2 : isN .f32 1233125376 = false := by decide +kernel
  rw [ord_gt hn z1, ord_eq hn z1] at h
  rw [ord_lt hn z2, ord_eq hn z2] at h2
  have k0 : key FloatKind.f32.format 897581056 = 897581056 := by decide +kernel
  have k1 : key FloatKind.f32.format 1233125376 = 1233125376 := by decide +kernel
  have v0 : val .f32 897581056 = (2 : Rat) ^ (-20 : Int) := by decide +kernel
  have v1 : val .f32 1233125376 = 1048576 := by decide +kernel
  rw [Bool.or_eq_true, decide_eq_true_eq, decide_eq_true_eq] at h h2
  have g0 : key FloatKind.f32.format 897581056 ≤ key FloatKind.f32.format v := by omega
  have g1 : key FloatKind.f32.format v ≤ key FloatKind.f32.format 1233125376 := by omega
  have i0 := val_le_key.2 g0
  have i1 := val_le_key.2 g1
  rw [v0] at i0
  rw [v1] at i1
  refine ⟨?_, i0, i1⟩
  unfold isNum
  rw [decide_eq_true_eq, f32_ir]
  rw [k0] at g0
  rw [k1] at g1
  unfold key at g0 g1
  split at g0 <;> rename_i hs <;> simp only [hs] at g1 <;> simp at g1 <;> omega
theorem ld20 (w : World) : Calls Try.prog 82 #[.float .f64 4607182418800017408, .int .i64 (-20)] w fun e w' => e = .returned (.float .f64 4517110426252607488) ∧ ∃ m, w' = w.drewN m := by
  have h := Ldexp_plain 1023 0 (-20) w (by decide) (by decide) (by decide) (by decide) (by decide)
  exact h
theorem ld19 {V : Nat} (nV : isNum .f32 V = true) (v0 : (2 : Rat) ^ (-20 : Int) ≤ val .f32 V) (v1 : val .f32 V ≤ 1048576) (w : World) :
    Calls Try.prog 82 #[.float .f64 (fcv .f32 .f64 V), .int .i64 (-19)] w fun e w' => (∃ r, e = .returned (.float .f64 r) ∧ isNum .f64 r = true ∧ val .f64 r = val .f32 V * (2 : Rat) ^ (-19 : Int)) ∧ ∃ m, w' = w.drewN m := by
  obtain ⟨u1, u2, u3⟩ := up_exact nV
  have hv : val .f64 (fcv .f32 .f64 V) = val .f32 V := by rw [val_sg, val_sg, u2, u3]
  have hl : fcv .f32 .f64 V < 2 ^ FloatKind.f64.format.width := fcv_lt _ _ _
  generalize fcv .f32 .f64 V = b at *
  have c0 : val .f64 4517110426252607488 = (2 : Rat) ^ (-20 : Int) := by decide +kernel
  have c1 : val .f64 4697254411347427328 = 1048576 := by decide +kernel
  have k0 : key FloatKind.f64.format 4517110426252607488 = 4517110426252607488 := by decide +kernel
  have k1 : key FloatKind.f64.format 4697254411347427328 = 4697254411347427328 := by decide +kernel
  have g0 := val_le_key.1 (show val .f64 4517110426252607488 ≤ val .f64 b by rw [c0, hv]; exact v0)
  have g1 := val_le_key.1 (show val .f64 b ≤ val .f64 4697254411347427328 by rw [c1, hv]; exact v1)
  rw [k0] at g0
  rw [k1] at g1
  have hs : sgn FloatKind.f64.format b = false := by
    cases hs : sgn FloatKind.f64.format b with
    | false => rfl
    | true => exfalso; unfold key at g0; rw [hs] at g0; simp at g0; omega
  have hk : key FloatKind.f64.format b = (b : Int) := by
    have hs' := hs
    unfold sgn at hs'; rw [f64_sw] at hs'
    have hl : b < 18446744073709551616 := hl
    simp only [beq_eq_false_iff_ne] at hs'
    unfold key rung
    rw [hs, f64_sw, Nat.mod_eq_of_lt (by omega)]; simp
  rw [hk] at g0 g1
  refine (Ldexp_val (-19) w u1 hs hl (by omega) (by omega) (by omega)).mono ?_
  rintro e w' ⟨r, rfl, ⟨h1, -, h3⟩, m, rfl⟩
  exact ⟨⟨r, rfl, h1, by rw [h3, hv]⟩, m, rfl⟩
def HlPsi (V : Nat) (f : FuncId) (args : Array Value) (u : Value) : Prop := (f = 86 ∧ u = .float .f64 (absF (argF args 0))) ∨ (f = 82 ∧ ∃ L, u = .float .f64 L ∧ isNum .f64 L = true ∧ val .f64 L = val .f32 V * (2 : Rat) ^ (-19 : Int))
theorem hl_psi1 {V b : Nat} {u : Value} : HlPsi V 86 #[.float .f64 b] u ↔ u = .float .f64 (absF b) := by
  have h : (86 : FuncId) ≠ 82 := by decide
  unfold HlPsi; simp [h, argF_0]
theorem hl_psi2 {V : Nat} {args : Array Value} {u : Value} : HlPsi V 82 args u ↔ ∃ L, u = .float .f64 L ∧ isNum .f64 L = true ∧ val .f64 L = val .f32 V * (2 : Rat) ^ (-19 : Int) := by
  have h : (82 : FuncId) ≠ 86 := by decide
  unfold HlPsi; simp [h]
theorem hueF_lt (V M p0 p1 p2 : Nat) : hueF V M p0 p1 p2 < 2 ^ FloatKind.f32.format.width := by
  unfold hueF
  split
  · exact Nat.two_pow_pos _
  · split
    · exact fop_lt _ _ _ _
    · unfold hrawF; exact fop_lt _ _ _ _
/-- What stands of the walk's variables. -/
structure HlR (w W : World) (p : Nat → Nat) (nq : Nat) (q : Nat → Nat) : Prop where
  p : VecF W w.heap.size 4 p
  q : VecF W nq 4 q
  w : Below w.heap.size w W
theorem HlR.past {w W V : World} {p q : Nat → Nat} {nq : Nat} (k : HlR w W p nq q) (h : Below W.heap.size W V) : HlR w V p nq q := ⟨k.p.past h, k.q.past h, k.w.trans (h.mono k.w.size)⟩
set_option maxRecDepth 100000 in
set_option maxHeartbeats 4000000 in
theorem hl_core (p : Nat → Nat) (w : World) : Calls Try.prog 12 #[.agg #[.float .f32 (p 0), .float .f32 (p 1), .float .f32 (p 2), .float .f32 (p 3)]] w fun e w' => e = .returned (.bool true) ∧ Below w.heap.size w w' := by
  have o1 : ovf .f64 .f32 4517110426252607488 = false := by decide +kernel
  have o2 : fcv .f64 .f32 4517110426252607488 = 897581056 := by decide +kernel
  go_enter Try.func12, Try.ntmps12
  go_upto_region 1 with fail
  refine wp_world (fun W hW => ?_)
  have P0 : VecF W w.heap.size 4 p := by rw [hW]; exact VecF.of4 (Blk.new _ _ _ _ rfl)
  have B0 : Below w.heap.size w W := by rw [hW]; (repeat (first | exact Below.refl _ _ | assumption | (refine Below.setCell ?_ (by first | (simp; done) | (simp; omega) | omega) _) | (refine Below.drew ?_) | (refine below_drewN ?_ _) | (refine Below.alloc ?_ (by first | (simp; done) | (simp; omega) | omega) _) | (refine Below.trans ?_ (Below.mono (by assumption) (by first | (simp; done) | (simp; omega) | omega)))))
  have pl := P0.lt
  have H0 := Lib.hid (And.intro P0 B0)
  clear hW P0 B0
  go_wp2_with fail
  clear pl
  go_loopw [12] (fun s12 wr => ∃ k : Nat, k ≤ 3 ∧ s12 = .int .i64 k ∧ (∀ i, i < k → okL (p i) = true ∧ okH (p i) = true) ∧ VecF wr w.heap.size 4 p ∧ Below w.heap.size w wr) (fun s12 _ => 3 - (intOf s12).toNat)
  case atStart => exact ⟨0, by omega, rfl, fun i hi => by omega, H0.out⟩
  case round =>
    obtain ⟨k, hk, rfl, hok, hP, hB⟩ := hrel
    have HK := Lib.hid (And.intro hok (And.intro hP hB))
    clear hok hB H0
    by_cases hk3 : k < 3
    · have hk3' : (k : Int) < 3 := by omega
      have c0 := hP.c k (by omega)
      have pl := hP.lt
      obtain ⟨v, hv⟩ : ∃ v, v = p k := ⟨_, rfl⟩
      rw [← hv] at c0
      have HV := Lib.hid hv
      clear hv hP
      cases hL : okL v
      · have hL' : ((FloatKind.f32.format.order v 897581056 == some .gt) || (FloatKind.f32.format.order v 897581056 == some .eq)) = false := hL
        clear hL
        go_wp2_with (first | (go_at_call 82; refine (ld20 _).mono ?_; rintro e w2 ⟨rfl, m, rfl⟩) | ((with_reducible apply wpList_clit); rfl; exact Try.underlying113; exact Try.underlying38; decide; assumption; assumption; (decide +kernel); intro _) | ((with_reducible apply wpList_clit); rfl; exact Try.underlying38; exact Try.underlying113; decide; assumption; assumption; (decide +kernel); intro _) | (go_at_call 83; refine (colours_any _).mono ?_; rintro e w3 ⟨rfl, hb3⟩))
        go_ret
        refine ⟨rfl, HK.out.2.2.trans (Below.mono ?_ HK.out.2.2.size)⟩
        first | exact (by (repeat (first | exact Below.refl _ _ | assumption | (refine Below.setCell ?_ (by first | (simp; done) | (simp; omega) | omega) _) | (refine Below.drew ?_) | (refine below_drewN ?_ _) | (refine Below.alloc ?_ (by first | (simp; done) | (simp; omega) | omega) _) | (refine Below.trans ?_ (Below.mono (by assumption) (by first | (simp; done) | (simp; omega) | omega)))))) | exact (below_drewN (below_drewN (Below.refl _ _) _) _).trans (hb3.mono (by simp))
      · have hL' : ((FloatKind.f32.format.order v 897581056 == some .gt) || (FloatKind.f32.format.order v 897581056 == some .eq)) = true := hL
        cases hH : okH v
        · have hH' : ((FloatKind.f32.format.order v 1233125376 == some .lt) || (FloatKind.f32.format.order v 1233125376 == some .eq)) = false := hH
          clear hL hH
          go_wp2_with (first | (go_at_call 82; refine (ld20 _).mono ?_; rintro e w2 ⟨rfl, m, rfl⟩) | ((with_reducible apply wpList_clit); rfl; exact Try.underlying113; exact Try.underlying38; decide; assumption; assumption; (decide +kernel); intro _) | ((with_reducible apply wpList_clit); rfl; exact Try.underlying38; exact Try.underlying113; decide; assumption; assumption; (decide +kernel); intro _) | (go_at_call 83; refine (colours_any _).mono ?_; rintro e w3 ⟨rfl, hb3⟩))
          go_ret
          refine ⟨rfl, HK.out.2.2.trans (Below.mono ?_ HK.out.2.2.size)⟩
          first | exact (by (repeat (first | exact Below.refl _ _ | assumption | (refine Below.setCell ?_ (by first | (simp; done) | (simp; omega) | omega) _) | (refine Below.drew ?_) | (refine below_drewN ?_ _) | (refine Below.alloc ?_ (by first | (simp; done) | (simp; omega) | omega) _) | (refine Below.trans ?_ (Below.mono (by assumption) (by first | (simp; done) | (simp; omega) | omega)))))) | exact (below_drewN (below_drewN (Below.refl _ _) _) _).trans (hb3.mono (by simp))
        · have hH' : ((FloatKind.f32.format.order v 1233125376 == some .lt) || (FloatKind.f32.format.order v 1233125376 == some .eq)) = true := hH
          have HO := Lib.hid (And.intro hL hH)
          clear hL hH
          go_wp2_with (first | (go_at_call 82; refine (ld20 _).mono ?_; rintro e w2 ⟨rfl, m, rfl⟩) | ((with_reducible apply wpList_clit); rfl; exact Try.underlying113; exact Try.underlying38; decide; assumption; assumption; (decide +kernel); intro _) | ((with_reducible apply wpList_clit); rfl; exact Try.underlying38; exact Try.underlying113; decide; assumption; assumption; (decide +kernel); intro _) | (go_at_call 83; refine (colours_any _).mono ?_; rintro e w3 ⟨rfl, hb3⟩))
          go_roundw
          case rel =>
            refine ⟨k + 1, by omega, by go_num, fun i hi => ?_, HK.out.2.1.past (by (repeat (first | exact Below.refl _ _ | assumption | (refine Below.setCell ?_ (by first | (simp; done) | (simp; omega) | omega) _) | (refine Below.drew ?_) | (refine below_drewN ?_ _) | (refine Below.alloc ?_ (by first | (simp; done) | (simp; omega) | omega) _) | (refine Below.trans ?_ (Below.mono (by assumption) (by first | (simp; done) | (simp; omega) | omega)))))), HK.out.2.2.trans (Below.mono (by (repeat (first | exact Below.refl _ _ | assumption | (refine Below.setCell ?_ (by first | (simp; done) | (simp; omega) | omega) _) | (refine Below.drew ?_) | (refine below_drewN ?_ _) | (refine Below.alloc ?_ (by first | (simp; done) | (simp; omega) | omega) _) | (refine Below.trans ?_ (Below.mono (by assumption) (by first | (simp; done) | (simp; omega) | omega)))))) HK.out.2.2.size)⟩
            rcases (show i < k ∨ i = k by omega) with h | rfl
            · exact HK.out.1 i h
            · rw [← HV.out]; exact HO.out
          case measure => simp [intOf]; omega
    · obtain rfl : k = 3 := by omega
      have hok := HK.out.1
      obtain ⟨n0, l0, u0⟩ := ok_num (hok 0 (by omega)).1 (hok 0 (by omega)).2
      obtain ⟨n1, l1, u1⟩ := ok_num (hok 1 (by omega)).1 (hok 1 (by omega)).2
      obtain ⟨n2, l2, u2⟩ := ok_num (hok 2 (by omega)).1 (hok 2 (by omega)).2
      have B3 := hue_back n0 n1 n2 l0 l1 l2 u0 u1 u2
      have HN := Lib.hid (And.intro n0 (And.intro n1 n2))
      have HTO := Lib.hid (fun w' => ToHSV_num (p 0) (p 1) (p 2) (p 3) w' (isNum_not_nan n0) (isNum_not_nan n1) (isNum_not_nan n2) : ∀ w', _)
      have hlt := hueF_lt (maxF (p 0) (p 1) (p 2)) (lkF (p 0) (p 1) (p 2) 2) (p 0) (p 1) (p 2)
      clear hok l0 l1 l2 u0 u1 u2 n0 n1 n2
      have ev : cn .f32 (maxF (p 0) (p 1) (p 2)) = maxF (p 0) (p 1) (p 2) := cn_of_not (isNum_not_nan B3.num)
      rw [ev] at HTO
      clear ev
      generalize hueF (maxF (p 0) (p 1) (p 2)) (lkF (p 0) (p 1) (p 2) 2) (p 0) (p 1) (p 2) = h at *
      generalize satF (maxF (p 0) (p 1) (p 2)) (lkF (p 0) (p 1) (p 2) 2) = s at *
      generalize maxF (p 0) (p 1) (p 2) = V at *
      have epx : pixF h s V = tabF (jF h) (cn .f32 V) (htF h s V) (hpF s V) (hqF h s V) := by unfold pixF; rw [if_pos B3.all]
      have HFH := Lib.hid (fun w' => FromHSV_num h s V (p 3) w' hlt B3.all : ∀ w', _)
      rw [← epx] at HFH
      obtain ⟨q, hq⟩ : ∃ q : Nat → Nat, q = fun i => if i = 0 then (pixF h s V).1 else if i = 1 then (pixF h s V).2.1 else if i = 2 then (pixF h s V).2.2 else cn .f32 (p 3) := ⟨_, rfl⟩
      have q0 : (pixF h s V).1 = q 0 := by rw [hq]; rfl
      have q1 : (pixF h s V).2.1 = q 1 := by rw [hq]; rfl
      have q2 : (pixF h s V).2.2 = q 2 := by rw [hq]; rfl
      have q3 : cn .f32 (p 3) = q 3 := by rw [hq]; rfl
      have HB : Hid (∀ i, i < 3 → isNum .f32 (q i) = true ∧ isNum .f32 (p i) = true ∧ Nr (val .f32 (q i)) (val .f32 (p i)) (val .f32 V * (31 * (1 / 16777216)))) := fun i hi => by
        rcases (show i = 0 ∨ i = 1 ∨ i = 2 by omega) with rfl | rfl | rfl
        · rw [← q0]; exact ⟨B3.n0, HN.out.1, B3.d0⟩
        · rw [← q1]; exact ⟨B3.n1, HN.out.2.1, B3.d1⟩
        · rw [← q2]; exact ⟨B3.n2, HN.out.2.2, B3.d2⟩
      rw [q0, q1, q2, q3] at HFH
      have HQ3 := Lib.hid q3
      have HVV := Lib.hid (And.intro B3.num (And.intro B3.lo B3.hi))
      clear hq q0 q1 q2 q3 epx hlt B3 HN
      have c0 := hP.c 0 (by omega); have c1 := hP.c 1 (by omega); have c2 := hP.c 2 (by omega); have c3 := hP.c 3 (by omega); have pl := hP.lt
      clear hP
      go_wp2_with fail
      refine (HTO.out _).mono ?_
      rintro e w2 ⟨rfl, hb2⟩
      have H2 := Lib.hid (And.intro (HK.out.2.1.past hb2) (HK.out.2.2.trans (hb2.mono HK.out.2.2.size)))
      clear hb2 c0 c1 c2 c3 pl HTO HK
      have c3 := H2.out.1.c 3 (by omega); have pl := H2.out.1.lt
      go_wp2_with fail
      refine (HFH.out _).mono ?_
      rintro e w3 ⟨rfl, hb3⟩
      have H3 := Lib.hid (And.intro (H2.out.1.past hb3) (H2.out.2.trans (hb3.mono H2.out.2.size)))
      clear hb3 c3 pl HFH H2
      go_upto_region 9 with fail
      refine wp_world (fun W4 hW4 => ?_)
      have HR4 := Lib.hid (HlR.mk (w := w) (W := W4) (p := p) (nq := w3.heap.size) (q := q) (by rw [hW4]; exact H3.out.1.past (by (repeat (first | exact Below.refl _ _ | assumption | (refine Below.setCell ?_ (by first | (simp; done) | (simp; omega) | omega) _) | (refine Below.drew ?_) | (refine below_drewN ?_ _) | (refine Below.alloc ?_ (by first | (simp; done) | (simp; omega) | omega) _) | (refine Below.trans ?_ (Below.mono (by assumption) (by first | (simp; done) | (simp; omega) | omega))))))) (by rw [hW4]; exact VecF.of4 (Blk.new _ _ _ _ rfl)) (by rw [hW4]; exact H3.out.2.trans (Below.mono (by (repeat (first | exact Below.refl _ _ | assumption | (refine Below.setCell ?_ (by first | (simp; done) | (simp; omega) | omega) _) | (refine Below.drew ?_) | (refine below_drewN ?_ _) | (refine Below.alloc ?_ (by first | (simp; done) | (simp; omega) | omega) _) | (refine Below.trans ?_ (Below.mono (by assumption) (by first | (simp; done) | (simp; omega) | omega)))))) H3.out.2.size)))
      clear hW4 H3
      generalize w3.heap.size = nq at *
      go_wp2_with fail
      go_loopw [39] (fun s39 wr => ∃ k : Nat, k ≤ 3 ∧ s39 = .int .i64 k ∧ HlR w wr p nq q) (fun s39 _ => 3 - (intOf s39).toNat)
      case atStart => exact ⟨0, by omega, rfl, HR4.out⟩
      case round =>
        obtain ⟨k, hk, rfl, hR⟩ := hrel
        have HR := Lib.hid hR
        clear hR HR4
        by_cases hk3 : k < 3
        · have hk3' : (k : Int) < 3 := by omega
          have hk4 : (k : Int) < 4 := by omega
          obtain ⟨nq1, np1, hd1⟩ := HB.out k hk3
          obtain ⟨nV, v0, v1⟩ := HVV.out
          have p0 := HR.out.p.c k (by omega); have pl := HR.out.p.lt
          have q0 := HR.out.q.c k (by omega); have ql := HR.out.q.lt
          generalize p k = pk at *
          generalize q k = qk at *
          have NQ := Lib.hid nq1; have NP := Lib.hid np1; have HD := Lib.hid hd1; have NV := Lib.hid nV; have V0 := Lib.hid v0; have V1 := Lib.hid v1
          clear nq1 np1 hd1 nV v0 v1
          go_upto_region 12 with fail
          refine wp_region_loose 13 (HlPsi V) (by kernel_rfl) (by kernel_rfl) ?_
          simp only [List.take_succ_cons, List.take_zero, List.drop_succ_cons, List.drop_zero]
          iterate 3 (refine loose_wanted rfl (fun K hK => ?_); go_simp; refine hK _ ?_; clear hK K)
          ((with_reducible apply loose_up); rfl; rfl; exact Try.underlying38; exact Try.underlying113; intro r1 hr1)
          rw [fcv_cn] at hr1
          obtain rfl := FR.exact hr1 (isNum_not_nan (up_exact NQ.out).1)
          clear hr1
          iterate 3 (refine loose_wanted rfl (fun K hK => ?_); go_simp; refine hK _ ?_; clear hK K)
          ((with_reducible apply loose_up); rfl; rfl; exact Try.underlying38; exact Try.underlying113; intro r2 hr2)
          rw [fcv_cn] at hr2
          obtain rfl := FR.exact hr2 (isNum_not_nan (up_exact NP.out).1)
          clear hr2
          ((with_reducible apply loose_farith); rfl; rfl; rfl; rfl; intro r3 hr3)
          rw [fop_cn_left, fop_cn_right] at hr3
          have n3 : isN .f64 (fop .sub .f64 (fcv .f32 .f64 qk) (fcv .f32 .f64 pk)) = false := back_num NQ.out NP.out HD.out V1.out
          obtain rfl := FR.exact hr3 n3
          clear hr3 n3
          refine loose_wanted rfl (fun K1 hK => ?_)
          go_simp
          refine ⟨fun p => (Abs_any _ _).mono ?_, ?_⟩
          · rintro e w' ⟨rfl, rfl⟩
            exact ⟨_, rfl, hl_psi1.2 rfl, p.h⟩
          intro u hu
          obtain rfl := hl_psi1.1 hu
          refine hK _ ?_
          clear hK K1 hu
          iterate 1 (refine loose_wanted rfl (fun K hK => ?_); go_simp; refine hK _ ?_; clear hK K)
          ((with_reducible apply loose_up); rfl; rfl; exact Try.underlying38; exact Try.underlying113; intro r4 hr4)
          rw [fcv_cn] at hr4
          obtain rfl := FR.exact hr4 (isNum_not_nan (up_exact NV.out).1)
          clear hr4
          refine loose_wanted rfl (fun K1 hK => ?_)
          go_simp
          refine ⟨fun p => (ld19 NV.out V0.out V1.out p.w).mono ?_, ?_⟩
          · rintro e w' ⟨⟨L, rfl, hL⟩, m, rfl⟩
            exact ⟨_, rfl, hl_psi2.2 ⟨L, rfl, hL⟩, below_drewN p.h m⟩
          intro u hu
          obtain ⟨L, rfl, hL1, hL2⟩ := hl_psi2.1 hu
          refine hK _ ?_
          clear hK K1 hu
          have ho := back_double NQ.out NP.out HD.out V0.out V1.out hL1 hL2
          clear hL1 hL2
          refine loose_nil (fun w5 hb5 => ?_)
          have HR5 := Lib.hid (HR.out.past hb5)
          clear hb5 p0 pl q0 ql HR
          go_wp2_with fail
          go_roundw
          case rel => exact ⟨k + 1, by omega, by go_num, HR5.out⟩
          case measure => simp [intOf]; omega
        · obtain rfl : k = 3 := by omega
          have p3 := HR.out.p.c 3 (by omega); have pl := HR.out.p.lt
          have q3 := HR.out.q.c 3 (by omega); have ql := HR.out.q.lt
          rw [← HQ3.out] at q3
          have HE := Lib.hid HR.out.w
          clear HR HB HVV HQ3
          generalize p 3 = al at *
          have hk9 : ¬ ((3 : Nat) : Int) < 3 := by decide
          go_upto_region 15 with fail
          refine wp_region_loose 8 (fun f args u => (f = 83 ∧ u = .bool true) ∨ (f = 48 ∧ u = .float .f32 (cn .f32 al)) ∨ (f = 25 ∧ u = .bool true)) (by kernel_rfl) (by kernel_rfl) ?_
          simp only [List.take_succ_cons, List.take_zero, List.drop_succ_cons, List.drop_zero]
          refine loose_wanted rfl (fun K1 hK => ?_)
          go_simp
          refine ⟨fun p => (colours_any p.w).mono ?_, ?_⟩
          · rintro e w' ⟨rfl, hb⟩
            exact ⟨_, rfl, by first | rfl | simp, p.h.trans (hb.mono p.h.size)⟩
          refine hK _ ?_
          clear hK K1
          iterate 5 (refine loose_wanted rfl (fun K hK => ?_); go_simp; refine hK _ ?_; clear hK K)
          refine loose_wanted rfl (fun K1 hK => ?_)
          go_simp
          refine ⟨fun p => (Fix_any _ _).mono ?_, ?_⟩
          · rintro e w' ⟨rfl, rfl⟩
            exact ⟨_, rfl, by first | rfl | simp, p.h⟩
          refine hK _ ?_
          clear hK K1
          refine loose_wanted rfl (fun K1 hK => ?_)
          go_simp
          refine ⟨fun p => (same_any _ _ _).mono ?_, ?_⟩
          · rintro e w' ⟨rfl, rfl⟩
            exact ⟨_, rfl, by first | rfl | simp, p.h⟩
          refine hK _ ?_
          clear hK K1
          refine loose_nil (fun w5 hb5 => ?_)
          go_wp2_with fail
          go_ret
          exact ⟨rfl, HE.out.trans (hb5.mono HE.out.size)⟩
def pp4 (a b c d : Nat) : Nat → Nat := fun x => if x = 0 then a else if x = 1 then b else if x = 2 then c else d
theorem hl_walk (p0 p1 p2 p3 : Nat) (w : World) (_ : p0 < 2 ^ FloatKind.f32.format.width) (_ : p1 < 2 ^ FloatKind.f32.format.width) (_ : p2 < 2 ^ FloatKind.f32.format.width) (_ : p3 < 2 ^ FloatKind.f32.format.width) :
    Calls Try.prog 12 #[.agg #[.float .f32 p0, .float .f32 p1, .float .f32 p2, .float .f32 p3]] w fun e w' => e = .returned (.bool true) ∧ Below w.heap.size w w' := hl_core (pp4 p0 p1 p2 p3) w
end Go.Proofs.Ytmckkgbdlgldbaa
