/- colour.Between of right primaries. Conditions: both are right, the first's and the second's matrices have inverses, and where the whites differ the first white has no cone that is 0. -/
import Derived.Test.YtfmdnibfeckmaaaTcI
namespace Go.Proofs.Ytfmdnibfeckmaaa
open Go Go.RowKit
def beF (df : Bool) (p q : Nat → Nat) : Nat → Nat := mulF (invF (xyF q)) (if df then mulF (adF (p 6) (p 7) (q 6) (q 7)) (xyF p) else xyF p)
/-- What is asked of two primaries; df: their whites differ. -/
structure BeOK (df : Bool) (p q : Nat → Nat) : Prop where
  hp : prE p = 0
  hq : prE q = 0
  xp : xyE p = 0
  xq : xyE q = 0
  iq : invE (xyF q) = 0
  sp : spoE (p 6) (p 7) = 0
  sq : spoE (q 6) (q 7) = 0
  co : df = true → ∀ i, i < 3 → zeroD (coV (p 6) (p 7) i) = false
  ik : invE kM = 0
  eq : ∀ w, Sem.run Try.prog (Op.equalIn 10000 39 (spV (p 6) (p 7)) (spV (q 6) (q 7))) w = .ok (!df) w
def selP (p q : Nat → Nat) (k : Nat) : Nat → Nat := if k = 0 then p else q
theorem idxP2 (p q : Nat → Nat) (k : Nat) (hk : k < 2) (w : World) : (Instr.index 67 (.agg #[.float .f32 (p 0), .float .f32 (p 1), .float .f32 (p 2), .float .f32 (p 3), .float .f32 (p 4), .float .f32 (p 5), .float .f32 (p 6), .float .f32 (p 7), .float .f32 (q 0), .float .f32 (q 1), .float .f32 (q 2), .float .f32 (q 3), .float .f32 (q 4), .float .f32 (q 5), .float .f32 (q 6), .float .f32 (q 7)]) (.int .i64 (k : Int))).run Try.prog w = .ok (prV (selP p q k)) w := by
  rcases (show k = 0 ∨ k = 1 by omega) with rfl | rfl <;> kernel_rfl
abbrev prL (p : Nat → Nat) : List Value := [.float .f32 (p 0), .float .f32 (p 1), .float .f32 (p 2), .float .f32 (p 3), .float .f32 (p 4), .float .f32 (p 5), .float .f32 (p 6), .float .f32 (p 7)]
structure BeR (w wr : World) (p q : Nat → Nat) : Prop where
  p : Blk wr w.heap.size (prL p)
  q : Blk wr (w.heap.size + 1) (prL q)
  z : VecD wr (w.heap.size + 2) 9 (fun _ => 0)
  b : Below w.heap.size w wr
theorem BeR.past {w wr wy : World} {p q : Nat → Nat} (k : BeR w wr p q) (h : Below wr.heap.size wr wy) : BeR w wy p q := ⟨k.p.past h, k.q.past h, k.z.past h, k.b.trans (h.mono k.b.size)⟩
theorem VecD.keep {w w' : World} {b n : Nat} {f : Nat → Nat} {c : Nat} (k : VecD w b n f) (hs : w'.heap.size = w.heap.size) (hh : ∀ b', b' ≠ c → w'.heap[b']? = w.heap[b']?) (hb : b ≠ c) : VecD w' b n f := k.block (by omega) (hh b hb)
theorem BeR.keep {w wr w' : World} {p q : Nat → Nat} {c : Nat} (k : BeR w wr p q) (hs : w'.heap.size = wr.heap.size) (hh : ∀ b', b' ≠ c → w'.heap[b']? = wr.heap[b']?) (hb : ∀ B W, Below B W wr → B ≤ c → Below B W w') (hc : w.heap.size + 2 < c) : BeR w w' p q :=
  ⟨k.p.block (by omega) (hh _ (by omega)), k.q.block (by omega) (hh _ (by omega)), k.z.keep hs hh (by omega), hb _ _ k.b (by omega)⟩
set_option maxRecDepth 100000 in
set_option maxHeartbeats 12800000 in
theorem Between_ok (df : Bool) (p q : Nat → Nat) (w : World) (hok : BeOK df p q) : Calls Try.prog 14 #[prV p, prV q] w (MatE 0 (beF df p q) w.heap.size w) := by
  have HO := Lib.hid hok
  clear hok
  go_enter Try.func14, Try.ntmps14
  go_upto_region 1 with fail
  refine wp_world (fun W hW => ?_)
  have A0 : BeR w W p q := by
    rw [hW]
    exact ⟨((Blk.new _ _ _ _ rfl).alloc _).alloc _, (Blk.new _ _ _ _ (by simp)).alloc _, VecD.of9 (Blk.new _ _ _ _ (by simp)), by (repeat (first | exact Below.refl _ _ | assumption | (refine Below.setCell ?_ (by first | (simp; done) | (simp; omega) | omega) _) | (refine Below.drew ?_) | (refine below_drewN ?_ _) | (refine Below.alloc ?_ (by first | (simp; done) | (simp; omega) | omega) _) | (refine Below.trans ?_ (Below.mono (by assumption) (by first | (simp; done) | (simp; omega) | omega)))))⟩
  have HR0 := Lib.hid A0
  have c0 := A0.p.c 0 _ rfl; have c1 := A0.p.c 1 _ rfl; have c2 := A0.p.c 2 _ rfl; have c3 := A0.p.c 3 _ rfl; have c4 := A0.p.c 4 _ rfl; have c5 := A0.p.c 5 _ rfl; have c6 := A0.p.c 6 _ rfl; have c7 := A0.p.c 7 _ rfl; have pl := A0.p.lt
  have d0 := A0.q.c 0 _ rfl; have d1 := A0.q.c 1 _ rfl; have d2 := A0.q.c 2 _ rfl; have d3 := A0.q.c 3 _ rfl; have d4 := A0.q.c 4 _ rfl; have d5 := A0.q.c 5 _ rfl; have d6 := A0.q.c 6 _ rfl; have d7 := A0.q.c 7 _ rfl; have ql := A0.q.lt
  clear hW A0
  go_wp2_with fail
  clear c0 c1 c2 c3 c4 c5 c6 c7 d0 d1 d2 d3 d4 d5 d6 d7 pl ql
  go_loopw [18] (fun s18 wr => ∃ k : Nat, k ≤ 2 ∧ s18 = .int .i64 k ∧ BeR w wr p q) (fun s18 _ => 2 - (intOf s18).toNat)
  case atStart => exact ⟨0, by omega, rfl, HR0.out⟩
  case round =>
    obtain ⟨k, hk, rfl, hR⟩ := hrel
    have HR := Lib.hid hR
    clear hR HR0
    by_cases hk2 : k < 2
    · have hk2' : (k : Int) < 2 := by omega
      have ix := idxP2 p q k hk2
      have hs : prE (selP p q k) = 0 := by
        rcases (show k = 0 ∨ k = 1 by omega) with rfl | rfl
        · exact HO.out.hp
        · exact HO.out.hq
      have HS := Lib.hid hs
      clear hs
      generalize selP p q k = s at *
      go_wp2_with (go_at_call 31; refine (CheckPrimaries_any s _).mono ?_; rintro e w1 ⟨rfl, hb1⟩; rw [HS.out])
      go_roundw
      case rel => exact ⟨k + 1, by omega, by go_num, HR.out.past (Below.trans (by (repeat (first | exact Below.refl _ _ | assumption | (refine Below.setCell ?_ (by first | (simp; done) | (simp; omega) | omega) _) | (refine Below.drew ?_) | (refine below_drewN ?_ _) | (refine Below.alloc ?_ (by first | (simp; done) | (simp; omega) | omega) _) | (refine Below.trans ?_ (Below.mono (by assumption) (by first | (simp; done) | (simp; omega) | omega)))))) (hb1.mono (by simp)))⟩
      case measure => simp [intOf]; omega
    · have h2 : ¬ (k : Int) < 2 := by omega
      have c0 := HR.out.p.c 0 _ rfl; have c1 := HR.out.p.c 1 _ rfl; have c2 := HR.out.p.c 2 _ rfl; have c3 := HR.out.p.c 3 _ rfl; have c4 := HR.out.p.c 4 _ rfl; have c5 := HR.out.p.c 5 _ rfl; have c6 := HR.out.p.c 6 _ rfl; have c7 := HR.out.p.c 7 _ rfl; have pl := HR.out.p.lt
      have HTX := Lib.hid (fun w' => ToXYZ_any p w' : ∀ w', _)
      rw [HO.out.xp] at HTX
      go_upto_region 9 with (first | (go_at_call 32; refine (HTX.out _).mono ?_; rintro e w1 ⟨⟨a, rfl, ha⟩, hb1⟩) | ((with_reducible apply wpList_st9 (r := a) (VecD.of9 (f := fun _ => 0) (Blk.new _ _ _ _ rfl))); rfl; rfl; rfl; rfl; intro w9 hk9 hs9 hh9 hb9))
      have hbz := hb9 _ _ (hb1.alloc hb1.size _) hb1.size
      have hla : w.heap.size + 2 < w1.heap.size := by have := hb1.size; have := HR.out.z.lt; omega
      have H1 := Lib.hid (And.intro (HR.out.past hbz) (And.intro hk9 (ha (by first | rfl | trivial))))
      clear hbz hk9 hs9 hh9 hb9 hb1 ha HR HTX c0 c1 c2 c3 c4 c5 c6 c7 pl
      generalize w1.heap.size = na at *
      have d0 := H1.out.1.q.c 0 _ rfl; have d1 := H1.out.1.q.c 1 _ rfl; have d2 := H1.out.1.q.c 2 _ rfl; have d3 := H1.out.1.q.c 3 _ rfl; have d4 := H1.out.1.q.c 4 _ rfl; have d5 := H1.out.1.q.c 5 _ rfl; have d6 := H1.out.1.q.c 6 _ rfl; have d7 := H1.out.1.q.c 7 _ rfl; have ql := H1.out.1.q.lt
      have HTY := Lib.hid (fun w' => ToXYZ_any q w' : ∀ w', _)
      rw [HO.out.xq] at HTY
      have hlw := H1.out.2.1.lt
      go_upto_region 12 with (first | (go_at_call 32; refine (HTY.out _).mono ?_; rintro e w2 ⟨⟨b, rfl, hb⟩, hb2⟩) | ((with_reducible apply wpList_st9 (r := b) (VecD.of9 (f := fun _ => 0) (Blk.new _ _ _ _ rfl))); rfl; rfl; rfl; rfl; intro w9 hk9 hs9 hh9 hb9))
      have hbz := hb9 _ _ (hb2.alloc hb2.size _) hb2.size
      have hlb : na < w2.heap.size := by have := hb2.size; omega
      have H2 := Lib.hid (And.intro (H1.out.1.past hbz) (And.intro (H1.out.2.1.past hbz) (And.intro hk9 (hb (by first | rfl | trivial)))))
      have HA := Lib.hid H1.out.2.2
      clear hbz hk9 hs9 hh9 hb9 hb2 hb H1 HTY d0 d1 d2 d3 d4 d5 d6 d7 ql hlw
      generalize w2.heap.size = nb at *
      have p6 := H2.out.1.p.c 6 _ rfl; have p7 := H2.out.1.p.c 7 _ rfl; have pl := H2.out.1.p.lt
      have q6 := H2.out.1.q.c 6 _ rfl; have q7 := H2.out.1.q.c 7 _ rfl; have ql := H2.out.1.q.lt
      have eq := HO.out.eq
      cases df
      · rw [show (!false) = true from rfl] at eq
        have hI := Inverse_any b
        rw [invE_congr H2.out.2.2.2, invF_congr H2.out.2.2.2, HO.out.iq] at hI
        have HI := Lib.hid hI
        clear hI
        go_upto_region 20 with (first | ((with_reducible apply wpList_ld9 (H2.out.2.2.1)); rfl; rfl; rfl) | (go_at_call 35; refine (HI.out _).mono ?_; rintro e w4 ⟨⟨v, rfl, hv⟩, hb4⟩) | ((with_reducible apply wpList_st9 (r := v) (VecD.of9 (f := fun _ => 0) (Blk.new _ _ _ _ rfl))); rfl; rfl; rfl; rfl; intro w9 hk9 hs9 hh9 hb9))
        have hbz := hb9 _ _ (hb4.alloc hb4.size _) hb4.size
        have H4 := Lib.hid (And.intro (H2.out.1.past hbz) (And.intro (H2.out.2.1.past hbz) (And.intro hk9 (hv (by first | rfl | trivial)))))
        clear hbz hk9 hs9 hh9 hb9 hb4 hv H2 HI
        go_wp2_with (first | ((with_reducible apply wpList_ld9 (H4.out.2.2.1)); rfl; rfl; rfl) | ((with_reducible apply wpList_ld9 (H4.out.2.1)); rfl; rfl; rfl) | (go_at_call 34; refine (Multiply_any v a _).mono ?_; rintro e w5 ⟨⟨d, rfl, hd⟩, hb5⟩) | ((with_reducible apply wpList_st9 (r := d) ((H4.out.1.past hb5).z)); rfl; rfl; rfl; rfl; intro w9 hk9 hs9 hh9 hb9))
        refine bodyPost_ret (v := .tuple #[m9 d, .int .i64 0]) (results_m9e Try.results14 _ hk9 rfl rfl) rfl ⟨⟨_, rfl, fun _ i hi => (hd i hi).trans (mul_congr H4.out.2.2.2 HA.out hi)⟩, ?_⟩
        exact hb9 _ _ (H4.out.1.past hb5).b (by omega)
      · rw [show (!true) = false from rfl] at eq
        go_upto_region 16 with (first | (go_at_call 33; refine (Adapt_ok (p 6) (p 7) (q 6) (q 7) _ HO.out.sp HO.out.sq (HO.out.co rfl) HO.out.ik).mono ?_; rintro e w3 ⟨⟨m, rfl, hm⟩, hb3⟩) | ((with_reducible apply wpList_st9 (r := m) (VecD.of9 (f := fun _ => 0) (Blk.new _ _ _ _ rfl))); rfl; rfl; rfl; rfl; intro w9 hk9 hs9 hh9 hb9))
        have hbz := hb9 _ _ (hb3.alloc hb3.size _) hb3.size
        have hlm : nb < w3.heap.size := by have := hb3.size; have := H2.out.2.2.1.lt; omega
        have H3 := Lib.hid (And.intro (H2.out.1.past hbz) (And.intro (H2.out.2.1.past hbz) (And.intro (H2.out.2.2.1.past hbz) (And.intro H2.out.2.2.2 (And.intro hk9 (hm (by first | rfl | trivial)))))))
        clear hbz hk9 hs9 hh9 hb9 hb3 hm H2 p6 p7 pl q6 q7 ql eq
        generalize w3.heap.size = nm at *
        go_upto_region 19 with (first | ((with_reducible apply wpList_ld9 (H3.out.2.2.2.2.1)); rfl; rfl; rfl) | ((with_reducible apply wpList_ld9 (H3.out.2.1)); rfl; rfl; rfl) | (go_at_call 34; refine (Multiply_any m a _).mono ?_; rintro e w5 ⟨⟨c, rfl, hc⟩, hb5⟩) | ((with_reducible apply wpList_st9 (r := c) (H3.out.2.1.past hb5)); rfl; rfl; rfl; rfl; intro w9 hk9 hs9 hh9 hb9))
        have H5 := Lib.hid (And.intro ((H3.out.1.past hb5).keep hs9 hh9 hb9 hla) (And.intro hk9 (And.intro ((H3.out.2.2.1.past hb5).keep hs9 hh9 (by omega)) H3.out.2.2.2.1)))
        have HC : Hid (∀ i, i < 9 → cn .f64 (c i) = mulF (adF (p 6) (p 7) (q 6) (q 7)) (xyF p) i) := Lib.hid (fun i hi => (hc i hi).trans (mul_congr H3.out.2.2.2.2.2 HA.out hi))
        clear hk9 hs9 hh9 hb9 hb5 hc H3
        have hI := Inverse_any b
        rw [invE_congr H5.out.2.2.2, invF_congr H5.out.2.2.2, HO.out.iq] at hI
        have HI := Lib.hid hI
        clear hI
        go_upto_region 20 with (first | ((with_reducible apply wpList_ld9 (H5.out.2.2.1)); rfl; rfl; rfl) | (go_at_call 35; refine (HI.out _).mono ?_; rintro e w4 ⟨⟨v, rfl, hv⟩, hb4⟩) | ((with_reducible apply wpList_st9 (r := v) (VecD.of9 (f := fun _ => 0) (Blk.new _ _ _ _ rfl))); rfl; rfl; rfl; rfl; intro w9 hk9 hs9 hh9 hb9))
        have hbz := hb9 _ _ (hb4.alloc hb4.size _) hb4.size
        have H4 := Lib.hid (And.intro (H5.out.1.past hbz) (And.intro (H5.out.2.1.past hbz) (And.intro hk9 (hv (by first | rfl | trivial)))))
        clear hbz hk9 hs9 hh9 hb9 hb4 hv H5 HI
        go_wp2_with (first | ((with_reducible apply wpList_ld9 (H4.out.2.2.1)); rfl; rfl; rfl) | ((with_reducible apply wpList_ld9 (H4.out.2.1)); rfl; rfl; rfl) | (go_at_call 34; refine (Multiply_any v c _).mono ?_; rintro e w5 ⟨⟨d, rfl, hd⟩, hb5⟩) | ((with_reducible apply wpList_st9 (r := d) ((H4.out.1.past hb5).z)); rfl; rfl; rfl; rfl; intro w9 hk9 hs9 hh9 hb9))
        refine bodyPost_ret (v := .tuple #[m9 d, .int .i64 0]) (results_m9e Try.results14 _ hk9 rfl rfl) rfl ⟨⟨_, rfl, fun _ i hi => (hd i hi).trans (mul_congr H4.out.2.2.2 HC.out hi)⟩, ?_⟩
        exact hb9 _ _ (H4.out.1.past hb5).b (by omega)
end Go.Proofs.Ytfmdnibfeckmaaa
