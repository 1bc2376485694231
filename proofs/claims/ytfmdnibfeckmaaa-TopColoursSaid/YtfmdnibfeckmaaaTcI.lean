/- colour.Adapt of right spots. Conditions: the spots are right, no cone of the first is 0, the matrix of the cones has an inverse. -/
import Derived.Test.YtfmdnibfeckmaaaTcH
namespace Go.Proofs.Ytfmdnibfeckmaaa
open Go Go.RowKit
/-- The matrix of the cones. -/
def kM : Nat → Nat := pk9 4606237563598195078 4598470655680831921 13818355104984172016 13828304457280958916 4610395737134146257 4585449848438178343 4585766901851945225 13812972402709538800 4607315725348987575
theorem cn_kM : ∀ i, i < 9 → cn .f64 (kM i) = kM i := fun i hi => by
  rcases (show i = 0 ∨ i = 1 ∨ i = 2 ∨ i = 3 ∨ i = 4 ∨ i = 5 ∨ i = 6 ∨ i = 7 ∨ i = 8 by omega) with rfl | rfl | rfl | rfl | rfl | rfl | rfl | rfl | rfl <;> decide +kernel
def xyV (x y : Nat) : Nat → Nat
  | 0 => spX x y
  | 1 => oneD
  | _ => spZ x y
/-- The cones of a spot. -/
def coV (x y i : Nat) : Nat := tmF kM (xyV x y) i
def diF (x y u v : Nat) : Nat → Nat
  | 0 => fop .quo .f64 (coV u v 0) (coV x y 0)
  | 4 => fop .quo .f64 (coV u v 1) (coV x y 1)
  | 8 => fop .quo .f64 (coV u v 2) (coV x y 2)
  | _ => 0
def adF (x y u v : Nat) : Nat → Nat := mulF (mulF (invF kM) (diF x y u v)) kM
def selK (x u k : Nat) : Nat := if k = 0 then x else u
theorem idxS2 (x y u v : Nat) (k : Nat) (hk : k < 2) (w : World) : (Instr.index 93 (.agg #[.float .f32 x, .float .f32 y, .float .f32 u, .float .f32 v]) (.int .i64 (k : Int))).run Try.prog w = .ok (spV (selK x u k) (selK y v k)) w := by
  rcases (show k = 0 ∨ k = 1 by omega) with rfl | rfl <;> kernel_rfl
theorem xyV_of {r s x y : Nat} (hr : cn .f64 r = spX x y) (hs : cn .f64 s = spZ x y) : ∀ j, j < 3 → cn .f64 (pk3 r 4607182418800017408 s j) = xyV x y j := fun j hj => by
  rcases (show j = 0 ∨ j = 1 ∨ j = 2 by omega) with rfl | rfl | rfl
  · exact hr
  · exact one_cn
  · exact hs
/-- The numbers of an argument that is an aggregate. -/
def agF (v : Value) (i : Nat) : Nat := match v with
  | .agg a => (match a.getD i undef with
    | .float _ b => b
    | _ => 0)
  | _ => 0
def agA (args : Array Value) (k : Nat) : Nat → Nat := agF (args.getD k undef)
theorem ag_m9 (r : Nat → Nat) : ∀ j, j < 9 → agF (m9 r) j = r j := fun j hj => by
  rcases (show j = 0 ∨ j = 1 ∨ j = 2 ∨ j = 3 ∨ j = 4 ∨ j = 5 ∨ j = 6 ∨ j = 7 ∨ j = 8 by omega) with rfl | rfl | rfl | rfl | rfl | rfl | rfl | rfl | rfl <;> rfl
theorem ag_m3 (r : Nat → Nat) : ∀ j, j < 3 → agF (m3 r) j = r j := fun j hj => by
  rcases (show j = 0 ∨ j = 1 ∨ j = 2 by omega) with rfl | rfl | rfl <;> rfl
theorem mul_congr {R S V U : Nat → Nat} (h : ∀ i, i < 9 → R i = S i) (hv : ∀ i, i < 9 → V i = U i) {i : Nat} (hi : i < 9) : mulF R V i = mulF S U i := by
  unfold mulF; rw [h _ (by omega), h _ (by omega), h _ (by omega), hv _ (by omega), hv _ (by omega), hv _ (by omega)]
def XyzR (a : Nat → Nat) (u : Value) : Prop := ∃ g, u = m3 g ∧ ∀ j, j < 3 → cn .f64 (g j) = xyV (a 0) (a 1) j
def TimR (a b : Nat → Nat) (u : Value) : Prop := ∃ q, u = m3 q ∧ ∀ i, i < 3 → cn .f64 (q i) = tmF (fun j => cn .f64 (a j)) (fun j => cn .f64 (b j)) i
def MulR (a b : Nat → Nat) (u : Value) : Prop := ∃ q, u = m9 q ∧ ∀ i, i < 9 → cn .f64 (q i) = mulF (fun j => cn .f64 (a j)) (fun j => cn .f64 (b j)) i
/-- What the calls in one statement hand over, by their arguments. -/
def PsA (f : FuncId) (args : Array Value) (u : Value) : Prop := (f = 65 ∧ XyzR (agA args 0) u) ∨ (f = 36 ∧ TimR (agA args 0) (agA args 1) u) ∨ (f = 34 ∧ MulR (agA args 0) (agA args 1) u)
theorem psA1 {args : Array Value} {u : Value} : PsA 65 args u ↔ XyzR (agA args 0) u := by
  have h1 : (65 : FuncId) ≠ 36 := by decide
  have h2 : (65 : FuncId) ≠ 34 := by decide
  unfold PsA; simp [h1, h2]
theorem psA2 {args : Array Value} {u : Value} : PsA 36 args u ↔ TimR (agA args 0) (agA args 1) u := by
  have h1 : (36 : FuncId) ≠ 65 := by decide
  have h2 : (36 : FuncId) ≠ 34 := by decide
  unfold PsA; simp [h1, h2]
theorem psA3 {args : Array Value} {u : Value} : PsA 34 args u ↔ MulR (agA args 0) (agA args 1) u := by
  have h1 : (34 : FuncId) ≠ 65 := by decide
  have h2 : (34 : FuncId) ≠ 36 := by decide
  unfold PsA; simp [h1, h2]
theorem xyz_R (x y : Nat) (w : World) : Calls Try.prog 65 #[spV x y] w fun e w' => (∃ u, e = .returned u ∧ XyzR (agA #[spV x y] 0) u) ∧ Below w.heap.size w w' :=
  (xyz_any x y w).mono fun _ _ ⟨⟨r, s, he, hr, hs⟩, hb⟩ => ⟨⟨_, he, pk3 r 4607182418800017408 s, rfl, xyV_of hr hs⟩, hb⟩
theorem times_R (r v : Nat → Nat) (w : World) : Calls Try.prog 36 #[m9 r, m3 v] w fun e w' => (∃ u, e = .returned u ∧ TimR (agA #[m9 r, m3 v] 0) (agA #[m9 r, m3 v] 1) u) ∧ Below w.heap.size w w' :=
  (times_any r v w).mono fun _ _ ⟨⟨q, he, hq⟩, hb⟩ => ⟨⟨_, he, q, rfl, fun i hi => (hq i hi).trans (tm_congr (fun j hj => congrArg (cn .f64) (ag_m9 r j hj).symm) (fun j hj => congrArg (cn .f64) (ag_m3 v j hj).symm) hi)⟩, hb⟩
theorem mul_R (r v : Nat → Nat) (w : World) : Calls Try.prog 34 #[m9 r, m9 v] w fun e w' => (∃ u, e = .returned u ∧ MulR (agA #[m9 r, m9 v] 0) (agA #[m9 r, m9 v] 1) u) ∧ Below w.heap.size w w' :=
  (Multiply_any r v w).mono fun _ _ ⟨⟨q, he, hq⟩, hb⟩ => ⟨⟨_, he, q, rfl, fun i hi => (hq i hi).trans (mul_congr (fun j hj => congrArg (cn .f64) (ag_m9 r j hj).symm) (fun j hj => congrArg (cn .f64) (ag_m9 v j hj).symm) hi)⟩, hb⟩
theorem tim_of {r v R V : Nat → Nat} {q : Nat → Nat} (h : ∀ i, i < 3 → cn .f64 (q i) = tmF (fun j => cn .f64 (agA #[m9 r, m3 v] 0 j)) (fun j => cn .f64 (agA #[m9 r, m3 v] 1 j)) i) (hr : ∀ j, j < 9 → cn .f64 (r j) = R j) (hv : ∀ j, j < 3 → cn .f64 (v j) = V j) : ∀ i, i < 3 → cn .f64 (q i) = tmF R V i := fun i hi =>
  (h i hi).trans (tm_congr (fun j hj => (congrArg (cn .f64) (ag_m9 r j hj)).trans (hr j hj)) (fun j hj => (congrArg (cn .f64) (ag_m3 v j hj)).trans (hv j hj)) hi)
theorem mul_of {r v R V : Nat → Nat} {q : Nat → Nat} (h : ∀ i, i < 9 → cn .f64 (q i) = mulF (fun j => cn .f64 (agA #[m9 r, m9 v] 0 j)) (fun j => cn .f64 (agA #[m9 r, m9 v] 1 j)) i) (hr : ∀ j, j < 9 → cn .f64 (r j) = R j) (hv : ∀ j, j < 9 → cn .f64 (v j) = V j) : ∀ i, i < 9 → cn .f64 (q i) = mulF R V i := fun i hi =>
  (h i hi).trans (mul_congr (fun j hj => (congrArg (cn .f64) (ag_m9 r j hj)).trans (hr j hj)) (fun j hj => (congrArg (cn .f64) (ag_m9 v j hj)).trans (hv j hj)) hi)
/-- What stands: the two spots, the result's zeros, the cones' matrix. -/
structure AdR (w wr : World) (x y u v : Nat) : Prop where
  p : Blk wr w.heap.size [.float .f32 x, .float .f32 y]
  q : Blk wr (w.heap.size + 1) [.float .f32 u, .float .f32 v]
  z : VecD wr (w.heap.size + 2) 9 (fun _ => 0)
  b : Below w.heap.size w wr
theorem AdR.past {w wr wy : World} {x y u v : Nat} (k : AdR w wr x y u v) (h : Below wr.heap.size wr wy) : AdR w wy x y u v := ⟨k.p.past h, k.q.past h, k.z.past h, k.b.trans (h.mono k.b.size)⟩
theorem AdR.far {w wr : World} {x y u v : Nat} (k : AdR w wr x y u v) (q : Addr) (t : Value) (h : w.heap.size + 2 < q.block) : AdR w (wr.setCell q t) x y u v :=
  ⟨k.p.far _ _ (by omega), k.q.far _ _ (by omega), k.z.far _ _ (by omega), k.b.setCell (by omega) _⟩
/-- What stands in the loop: the cones' matrix, the two rows of cones, the diagonal. -/
structure AdL (w wr : World) (x y u v nk pa pb nd : Nat) (kf a b g : Nat → Nat) : Prop where
  r : AdR w wr x y u v
  k : VecD wr nk 9 kf
  a : VecD wr pa 3 a
  b : VecD wr pb 3 b
  d : VecD wr nd 9 g
theorem AdL.past {w wr wy : World} {x y u v nk pa pb nd : Nat} {kf a b g : Nat → Nat} (k : AdL w wr x y u v nk pa pb nd kf a b g) (h : Below wr.heap.size wr wy) : AdL w wy x y u v nk pa pb nd kf a b g :=
  ⟨k.r.past h, k.k.past h, k.a.past h, k.b.past h, k.d.past h⟩
theorem AdL.set {w wr : World} {x y u v nk pa pb nd : Nat} {kf a b g : Nat → Nat} (k : AdL w wr x y u v nk pa pb nd kf a b g) (hl : w.heap.size + 2 < nd) (h1 : nd ≠ nk) (h2 : nd ≠ pa) (h3 : nd ≠ pb) (m : Nat) (hm : m < 9) (z : Nat) : AdL w (wr.setCell ⟨nd, m, none⟩ (.float .f64 z)) x y u v nk pa pb nd kf a b (fun j => if j = m then z else g j) :=
  ⟨k.r.far _ _ hl, k.k.far _ _ h1, k.a.far _ _ h2, k.b.far _ _ h3, k.d.set m z hm⟩
/-- The first m of the diagonal are laid. -/
def DiR (x y u v : Nat) (g : Nat → Nat) (m : Nat) : Prop := ∀ j, j < 9 → cn .f64 (g j) = if j % 4 = 0 ∧ j < 4 * m then diF x y u v j else 0
theorem DiR.next {x y u v m z : Nat} {g : Nat → Nat} (k : DiR x y u v g m) (_ : m < 3) (hz : cn .f64 z = diF x y u v (4 * m)) : DiR x y u v (fun j => if j = 4 * m then z else g j) (m + 1) := fun j hj => by
  by_cases e : j = 4 * m
  · subst e; simp only [if_true]; rw [if_pos ⟨by omega, by omega⟩]; exact hz
  · simp only [if_neg e]; rw [k j hj]
    by_cases c : j % 4 = 0 ∧ j < 4 * m
    · rw [if_pos c, if_pos ⟨c.1, by omega⟩]
    · rw [if_neg c, if_neg (by omega)]
theorem DiR.end {x y u v : Nat} {g : Nat → Nat} (k : DiR x y u v g 3) : ∀ j, j < 9 → cn .f64 (g j) = diF x y u v j := fun j hj => by
  rw [k j hj]
  rcases (show j = 0 ∨ j = 1 ∨ j = 2 ∨ j = 3 ∨ j = 4 ∨ j = 5 ∨ j = 6 ∨ j = 7 ∨ j = 8 by omega) with rfl | rfl | rfl | rfl | rfl | rfl | rfl | rfl | rfl <;> rfl
theorem di_at {x y u v m : Nat} (hm : m < 3) : fop .quo .f64 (coV u v m) (coV x y m) = diF x y u v (4 * m) := by
  rcases (show m = 0 ∨ m = 1 ∨ m = 2 by omega) with rfl | rfl | rfl <;> rfl
theorem zero_cn64 : cn .f64 0 = 0 := by decide +kernel
set_option maxRecDepth 100000 in
set_option maxHeartbeats 6400000 in
theorem Adapt_ok (x y u v : Nat) (w : World) (hx : spoE x y = 0) (hu : spoE u v = 0) (ha : ∀ i, i < 3 → zeroD (coV x y i) = false) (hk : invE kM = 0) : Calls Try.prog 33 #[spV x y, spV u v] w (MatE 0 (adF x y u v) w.heap.size w) := by
  have HSX := Lib.hid hx; have HSU := Lib.hid hu; have HA := Lib.hid ha; have HK := Lib.hid hk
  clear hx hu ha hk
  go_enter Try.func33, Try.ntmps33
  go_upto_region 1 with fail
  refine wp_world (fun W hW => ?_)
  have A0 : AdR w W x y u v := by
    rw [hW]
    exact ⟨((Blk.new _ _ _ _ rfl).alloc _).alloc _, (Blk.new _ _ _ _ (by simp)).alloc _, VecD.of9 (Blk.new _ _ _ _ (by simp)), by (repeat (first | exact Below.refl _ _ | assumption | (refine Below.setCell ?_ (by first | (simp; done) | (simp; omega) | omega) _) | (refine Below.drew ?_) | (refine below_drewN ?_ _) | (refine Below.alloc ?_ (by first | (simp; done) | (simp; omega) | omega) _) | (refine Below.trans ?_ (Below.mono (by assumption) (by first | (simp; done) | (simp; omega) | omega)))))⟩
  have HR0 := Lib.hid A0
  have c0 := A0.p.c 0 _ rfl; have c1 := A0.p.c 1 _ rfl; have c2 := A0.q.c 0 _ rfl; have c3 := A0.q.c 1 _ rfl; have pl := A0.p.lt; have ql := A0.q.lt
  clear hW A0
  go_wp2_with fail
  clear c0 c1 c2 c3 pl ql
  go_loopw [19] (fun s19 wr => ∃ k : Nat, k ≤ 2 ∧ s19 = .int .i64 k ∧ AdR w wr x y u v) (fun s19 _ => 2 - (intOf s19).toNat)
  case atStart => exact ⟨0, by omega, rfl, HR0.out⟩
  case round =>
    obtain ⟨k, hk, rfl, hR⟩ := hrel
    have HR := Lib.hid hR
    clear hR HR0
    by_cases hk2 : k < 2
    · have hk2' : (k : Int) < 2 := by omega
      have ix := idxS2 x y u v k hk2
      have hs : spoE (selK x u k) (selK y v k) = 0 := by
        rcases (show k = 0 ∨ k = 1 by omega) with rfl | rfl
        · exact HSX.out
        · exact HSU.out
      have HS := Lib.hid hs
      clear hs
      generalize selK x u k = xk at *
      generalize selK y v k = yk at *
      go_wp2_with (go_at_call 64; refine (checkSpot_any xk yk _).mono ?_; rintro e w1 ⟨rfl, hb1⟩; rw [HS.out])
      go_roundw
      case rel => exact ⟨k + 1, by omega, by go_num, HR.out.past (Below.trans (by (repeat (first | exact Below.refl _ _ | assumption | (refine Below.setCell ?_ (by first | (simp; done) | (simp; omega) | omega) _) | (refine Below.drew ?_) | (refine below_drewN ?_ _) | (refine Below.alloc ?_ (by first | (simp; done) | (simp; omega) | omega) _) | (refine Below.trans ?_ (Below.mono (by assumption) (by first | (simp; done) | (simp; omega) | omega)))))) (hb1.mono (by simp)))⟩
      case measure => simp [intOf]; omega
    · have h2 : ¬ (k : Int) < 2 := by omega
      have p0 := HR.out.p.c 0 _ rfl; have p1 := HR.out.p.c 1 _ rfl; have q0 := HR.out.q.c 0 _ rfl; have q1 := HR.out.q.c 1 _ rfl; have pl := HR.out.p.lt; have ql := HR.out.q.lt
      go_upto_region 9 with ((with_reducible apply wpList_st9 (r := kM) (VecD.of9 (f := fun _ => 0) (Blk.new _ _ _ _ rfl))); rfl; rfl; rfl; rfl; intro w9 hk9 hs9 hh9 hb9)
      have hbz := hb9 _ _ ((Below.refl _ _).alloc (Nat.le_refl _) _) (Nat.le_refl _)
      have hlt : w.heap.size + 2 < wr.heap.size := HR.out.z.lt
      have H9 := Lib.hid (And.intro (HR.out.past hbz) hk9)
      clear hbz hk9 hs9 hh9 hb9 p0 p1 q0 q1 pl ql HR
      generalize wr.heap.size = nk at *
      obtain ⟨kf, hkf⟩ : ∃ f, f = kM := ⟨_, rfl⟩
      rw [← hkf] at H9
      have HKF : Hid (∀ j, j < 9 → cn .f64 (kf j) = kM j) := Lib.hid (by rw [hkf]; exact cn_kM)
      clear hkf
      have p0 := H9.out.1.p.c 0 _ rfl; have p1 := H9.out.1.p.c 1 _ rfl; have q0 := H9.out.1.q.c 0 _ rfl; have q1 := H9.out.1.q.c 1 _ rfl; have pl := H9.out.1.p.lt; have ql := H9.out.1.q.lt
      refine wp_region_looseM 10 PsA [(8, 10, .cells #[.float .f64 0, .float .f64 0, .float .f64 0] 73), (9, 11, .cells #[.float .f64 0, .float .f64 0, .float .f64 0] 73)] (by kernel_rfl) (by kernel_rfl) (by kernel_rfl) (by intro m hm; simp at hm; rcases hm with rfl | rfl <;> exact ⟨_, rfl, ⟨rfl, rfl, fun ev w => by kernel_rfl⟩⟩) (by intro m hm; simp at hm; rcases hm with rfl | rfl <;> exact of_decide_eq_true (by kernel_rfl)) ?_
      simp only [List.take_succ_cons, List.take_zero, List.drop_succ_cons, List.drop_zero]
      ((with_reducible apply looseM_ld9 (H9.out.2)); rfl; rfl)
      (refine looseM_wanted rfl (fun K hK => ?_); go_simp; refine hK _ ?_; clear hK K)
      refine looseM_wanted rfl (fun K hK => ?_)
      go_simp
      refine ⟨fun z => (xyz_R _ _ z.w).mono ?_, ?_⟩
      · rintro e w' ⟨⟨z', rfl, hz⟩, hb⟩
        exact ⟨_, rfl, psA1.2 hz, hb⟩
      intro z hz
      obtain ⟨ga, rfl, hga⟩ := psA1.1 hz
      refine hK _ ?_
      clear hK K hz
      refine looseM_wanted rfl (fun K hK => ?_)
      go_simp
      refine ⟨fun z => (times_R kf ga z.w).mono ?_, ?_⟩
      · rintro e w' ⟨⟨z', rfl, hz⟩, hb⟩
        exact ⟨_, rfl, psA2.2 hz, hb⟩
      intro z hz
      obtain ⟨a, rfl, hA⟩ := psA2.1 hz
      refine hK _ ?_
      clear hK K hz
      have HAA : Hid (∀ i, i < 3 → cn .f64 (a i) = coV x y i) := Lib.hid (tim_of hA HKF.out hga)
      clear hga hA
      ((with_reducible apply looseM_ld9 (H9.out.2)); rfl; rfl)
      (refine looseM_wanted rfl (fun K hK => ?_); go_simp; refine hK _ ?_; clear hK K)
      refine looseM_wanted rfl (fun K hK => ?_)
      go_simp
      refine ⟨fun z => (xyz_R _ _ z.w).mono ?_, ?_⟩
      · rintro e w' ⟨⟨z', rfl, hz⟩, hb⟩
        exact ⟨_, rfl, psA1.2 hz, hb⟩
      intro z hz
      obtain ⟨gb, rfl, hgb⟩ := psA1.1 hz
      refine hK _ ?_
      clear hK K hz
      refine looseM_wanted rfl (fun K hK => ?_)
      go_simp
      refine ⟨fun z => (times_R kf gb z.w).mono ?_, ?_⟩
      · rintro e w' ⟨⟨z', rfl, hz⟩, hb⟩
        exact ⟨_, rfl, psA2.2 hz, hb⟩
      intro z hz
      obtain ⟨b, rfl, hB⟩ := psA2.1 hz
      refine hK _ ?_
      clear hK K hz
      have HBB : Hid (∀ i, i < 3 → cn .f64 (b i) = coV u v i) := Lib.hid (tim_of hB HKF.out hgb)
      clear hgb hB
      refine looseM_lays (d := 10) (blk := .cells #[.float .f64 0, .float .f64 0, .float .f64 0] 73) ⟨rfl, rfl, fun ev w => by kernel_rfl⟩ (fun pa hpa => ?_)
      refine looseM_lays (d := 11) (blk := .cells #[.float .f64 0, .float .f64 0, .float .f64 0] 73) ⟨rfl, rfl, fun ev w => by kernel_rfl⟩ (fun pb hpb => ?_)
      refine looseM_nil (fun w5 hb5 hg5 hd5 => ?_)
      obtain ⟨pa', e1, hA⟩ := hg5 _ (List.Mem.head _)
      obtain rfl : pa = pa' := by cases e1; rfl
      obtain ⟨pb', e2, hB⟩ := hg5 _ (List.Mem.tail _ (List.Mem.head _))
      obtain rfl : pb = pb' := by cases e2; rfl
      have hab : pb ≠ pa := fun h => hd5 _ (List.Mem.head _) _ (List.Mem.tail _ (List.Mem.head _)) (by decide) (by rw [e1, e2, h])
      clear hg5 hd5 e1 e2
      have GA := VecD.fresh3 hA; have GB := VecD.fresh3 hB
      have R5 := H9.out.1.past hb5; have K5 := H9.out.2.past hb5
      have lA : nk < pa := by have := H9.out.2.lt; omega
      have lB : nk < pb := by have := H9.out.2.lt; omega
      have HR5 := Lib.hid R5; have HK5 := Lib.hid K5; have HGA := Lib.hid GA; have HGB := Lib.hid GB; have HAB := Lib.hid hab
      have g0 := GA.c 0 (by omega); have g1 := GA.c 1 (by omega); have g2 := GA.c 2 (by omega); have gf := GA.f; have gl := GA.lt
      have q0' := GB.c 0 (by omega); have q1' := GB.c 1 (by omega); have q2' := GB.c 2 (by omega); have qf := GB.f; have ql' := GB.lt
      have hba : ¬ pa = pb := fun h => hab h.symm
      have hba' : ¬ pb = pa := hab
      clear hA hB hab hb5 p0 p1 q0 q1 pl ql hpa hpb H9 GA GB R5 K5
      go_upto_region 11 with fail
      refine wp_world (fun U hU => ?_)
      have HU : Hid (AdL w U x y u v nk pa pb w5.heap.size kf a b (fun _ => 0)) := Lib.hid (by
        rw [hU]
        have hn := HAB.out
        have c1 : w.heap.size + 2 < pa := by omega
        have c2 : w.heap.size + 2 < pb := by omega
        refine ⟨?_, ?_, ?_, ?_, ?_⟩
        · exact ((((((HR5.out.far _ _ c1).far _ _ c1).far _ _ c1).far _ _ c2).far _ _ c2).far _ _ c2).past ((Below.refl _ _).alloc (Nat.le_refl _) _)
        · exact ((((((HK5.out.far _ _ (by simp; omega)).far _ _ (by simp; omega)).far _ _ (by simp; omega)).far _ _ (by simp; omega)).far _ _ (by simp; omega)).far _ _ (by simp; omega)).alloc _
        · exact ((((HGA.out.put3 a).far _ _ hn).far _ _ hn).far _ _ hn).alloc _
        · exact ((((HGB.out.far _ _ hn.symm).far _ _ hn.symm).far _ _ hn.symm).put3 b).alloc _
        · exact VecD.of9 (Blk.new _ _ _ _ (by simp [World.setCell])))
      have lD : nk < w5.heap.size := by omega
      have lE : w5.heap.size ≠ pa := by omega
      have lF : w5.heap.size ≠ pb := by omega
      clear hU g0 g1 g2 gf gl q0' q1' q2' qf ql' HR5 HK5 HGA HGB
      generalize w5.heap.size = nd at *
      go_wp2_with fail
      go_loopw [38] (fun s38 wr => ∃ m : Nat, m ≤ 3 ∧ s38 = .int .i64 m ∧ ∃ g, AdL w wr x y u v nk pa pb nd kf a b g ∧ DiR x y u v g m) (fun s38 _ => 3 - (intOf s38).toNat)
      case atStart => exact ⟨0, by omega, rfl, _, HU.out, fun j hj => by rw [if_neg (by omega)]; exact zero_cn64⟩
      case round =>
        obtain ⟨m, hm, rfl, g, hR, hD⟩ := hrel
        have HR := Lib.hid hR; have HD := Lib.hid hD
        clear hR hD HU
        by_cases hm3 : m < 3
        · have hm3' : (m : Int) < 3 := by omega
          have hm0 : (0 : Int) ≤ (m : Int) := by omega
          have a0 := HR.out.a.c m hm3; have al := HR.out.a.lt
          have b0 := HR.out.b.c m hm3; have bl := HR.out.b.lt
          have hz : zeroD (a m) = false := by rw [← zeroD_cn, HAA.out m hm3]; exact HA.out m hm3
          obtain ⟨s, hs⟩ : ∃ s, s = a m := ⟨_, rfl⟩
          obtain ⟨t, ht⟩ : ∃ t, t = b m := ⟨_, rfl⟩
          rw [← hs] at a0 hz
          rw [← ht] at b0
          have HST := Lib.hid (And.intro hs ht)
          clear hs ht
          have hz' : (FloatKind.f64.format.order s 0 == some .eq) = false := hz
          clear hz
          go_upto_region 16 with fail
          have g0 := HR.out.d.c (4 * m) (by omega); have gf := HR.out.d.f; have gl := HR.out.d.lt
          have k1 : (0 : Int) ≤ 4 * (m : Int) := by omega
          have k2 : 4 * (m : Int) < 9 := by omega
          have k3 : (4 * (m : Int)).toNat = 4 * m := by omega
          have k4 : IntKind.i64.wrap (4 * (m : Int)) = 4 * (m : Int) := IntWalk.i64_in _ (by omega)
          refine wp_region_loose 10 (fun _ _ _ => False) (by kernel_rfl) (by kernel_rfl) ?_
          simp only [List.take_succ_cons, List.take_zero, List.drop_succ_cons, List.drop_zero]
          iterate 8 (refine loose_wanted rfl (fun K hK => ?_); go_simp; refine hK _ ?_; clear hK K)
          (first | ((with_reducible apply loose_farith); rfl; rfl; rfl; rfl; intro _ _) | ((with_reducible apply loose_up); rfl; rfl; exact Try.underlying22; exact Try.underlying30; intro _ _))
          (refine loose_wanted rfl (fun K hK => ?_); go_simp; refine hK _ ?_; clear hK K)
          rename_i z hz
          refine loose_nil (fun w6 hb6 => ?_)
          have H6 := Lib.hid (HR.out.past hb6)
          clear hb6 g0 gf gl a0 al b0 bl HR k4
          have g0 := H6.out.d.c (4 * m) (by omega); have gf := H6.out.d.f; have gl := H6.out.d.lt
          go_wp2_with fail
          clear k1 k2 k3
          go_roundw
          case rel => exact ⟨m + 1, by omega, by go_num, _, H6.out.set (by omega) (by omega) lE lF (4 * m) (by omega) z, HD.out.next hm3 (by rw [hz.eq, HST.out.1, HST.out.2, HAA.out m hm3, HBB.out m hm3]; exact di_at hm3)⟩
          case measure => simp [intOf]; omega
        · have hm3' : ¬ (m : Int) < 3 := by omega
          obtain rfl : m = 3 := by omega
          have hI := Inverse_any kf
          rw [invE_congr HKF.out, invF_congr HKF.out, HK.out] at hI
          have HI := Lib.hid hI
          clear hI
          go_upto_region 19 with (first | ((with_reducible apply wpList_ld9 (HR.out.k)); rfl; rfl; rfl) | (go_at_call 35; refine (HI.out _).mono ?_; rintro e w1 ⟨⟨q, rfl, hq⟩, hb1⟩) | ((with_reducible apply wpList_st9 (r := q) (VecD.of9 (f := fun _ => 0) (Blk.new _ _ _ _ rfl))); rfl; rfl; rfl; rfl; intro w9 hk9 hs9 hh9 hb9))
          have hbz := hb9 _ _ (hb1.alloc hb1.size _) hb1.size
          have H9 := Lib.hid (And.intro (HR.out.past hbz) (And.intro hk9 (hq (by first | rfl | trivial))))
          clear hbz hk9 hs9 hh9 hb9 hb1 hq HR HI
          generalize w1.heap.size = nq at *
          go_upto_region 21 with fail
          refine wp_region_loose 5 PsA (by kernel_rfl) (by kernel_rfl) ?_
          simp only [List.take_succ_cons, List.take_zero, List.drop_succ_cons, List.drop_zero]
          ((with_reducible apply loose_ld9 (H9.out.2.1)); rfl; rfl)
          ((with_reducible apply loose_ld9 (H9.out.1.d)); rfl; rfl)
          refine loose_wanted rfl (fun K hK => ?_)
          go_simp
          refine ⟨fun z => (mul_R q g z.w).mono ?_, ?_⟩
          · rintro e w' ⟨⟨z', rfl, hz⟩, hb⟩
            exact ⟨_, rfl, psA3.2 hz, z.h.trans (hb.mono z.h.size)⟩
          intro z hz
          obtain ⟨c, rfl, hC⟩ := psA3.1 hz
          refine hK _ ?_
          clear hK K hz
          ((with_reducible apply loose_ld9 (H9.out.1.k)); rfl; rfl)
          refine loose_wanted rfl (fun K hK => ?_)
          go_simp
          refine ⟨fun z => (mul_R c kf z.w).mono ?_, ?_⟩
          · rintro e w' ⟨⟨z', rfl, hz⟩, hb⟩
            exact ⟨_, rfl, psA3.2 hz, z.h.trans (hb.mono z.h.size)⟩
          intro z hz
          obtain ⟨d, rfl, hD2⟩ := psA3.1 hz
          refine hK _ ?_
          clear hK K hz
          refine loose_nil (fun w6 hb6 => ?_)
          have hc1 := mul_of hC H9.out.2.2 HD.out.end
          have hc2 := mul_of hD2 hc1 HKF.out
          have H6 := Lib.hid (And.intro (H9.out.1.past hb6) hc2)
          clear hb6 H9 hC hD2 hc1 hc2
          go_wp2_with ((with_reducible apply wpList_st9 (r := d) (H6.out.1.r.z)); rfl; rfl; rfl; rfl; intro w9 hk9 hs9 hh9 hb9)
          refine bodyPost_ret (v := .tuple #[m9 d, .int .i64 0]) (results_m9e Try.results33 _ hk9 rfl rfl) rfl ⟨⟨_, rfl, fun _ => H6.out.2⟩, ?_⟩
          exact hb9 _ _ H6.out.1.r.b (by omega)
end Go.Proofs.Ytfmdnibfeckmaaa
