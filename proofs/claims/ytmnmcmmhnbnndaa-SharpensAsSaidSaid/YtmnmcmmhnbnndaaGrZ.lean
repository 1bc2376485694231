/- Division, rounded down: finish.floorDiv, dyeref2.floorOver. No condition. (with: GrB, GrC, GrD, GrE, GrF, GrG, GrH, GrI, LawGr) -/
import Derived.Test.YtmnmcmmhnbnndaaFrD
import Derived.Test.YtmnmcmmhnbnndaaFrF
import Derived.Test.YtmnmcmmhnbnndaaOffB
import Derived.Test.YtmnmcmmhnbnndaaOpenB
import Derived.Deep.RegionHeld3
namespace Go.Proofs.Ytmnmcmmhnbnndaa
open Go.RowKit
theorem tdiv_bd (a : Int) {b : Int} (hb : 1 ≤ b ∧ b ≤ 16) : b * a.tdiv b + a.tmod b = a ∧ -b < a.tmod b ∧ a.tmod b < b ∧ (0 ≤ a → 0 ≤ a.tmod b) ∧ (a ≤ 0 → a.tmod b ≤ 0) := by
  refine ⟨Int.mul_tdiv_add_tmod a b, ?_, ?_, fun h => Int.tmod_nonneg b h, fun h => ?_⟩
  · have := Int.lt_tmod_of_pos a (show 0 < b by omega); omega
  · exact Int.tmod_lt_of_pos a (by omega)
  · have := Int.tmod_nonneg b (show 0 ≤ -a by omega)
    rw [Int.neg_tmod] at this; omega
theorem floor_eq {a b q r : Int} (hb : 1 ≤ b) (h : b * q + r = a) (h0 : 0 ≤ r) (h1 : r < b) : q = a / b := by
  symm
  rw [← h, Int.mul_add_ediv_left _ _ (by omega), Int.ediv_eq_zero_of_lt h0 h1, Int.add_zero]
theorem ediv_rng {a b : Int} (ha : -9223372036854775808 ≤ a ∧ a ≤ 9223372036854775807) (hb : 1 ≤ b) : -9223372036854775808 ≤ a / b ∧ a / b ≤ 9223372036854775807 := by
  rcases Int.le_total 0 a with h | h
  · have h1 := Int.ediv_nonneg h (show 0 ≤ b by omega)
    have h2 := Int.ediv_le_self b h
    omega
  · have h1 : a * b ≤ a := by
      have : 0 ≤ (-a) * (b - 1) := Int.mul_nonneg (by omega) (by omega)
      rw [Int.mul_sub, Int.mul_one, Int.neg_mul] at this
      omega
    have h2 := Int.le_ediv_of_mul_le (show 0 < b by omega) h1
    have h3 := Int.ediv_nonpos_of_nonpos_of_neg h (show 0 < b by omega)
    omega
set_option maxHeartbeats 800000 in
theorem floorDiv_any (a b : Int) (w : World) (ha : -9223372036854775808 ≤ a ∧ a ≤ 9223372036854775807) (hb : 1 ≤ b ∧ b ≤ 16) : Calls Try.prog 199 #[.int .i64 a, .int .i64 b] w fun e w' => e = .returned (.int .i64 (a / b)) ∧ w = w' := by
  obtain ⟨e1, e2, e3, e4, e5⟩ := tdiv_bd a hb
  obtain ⟨b1, b2⟩ := hb
  obtain ⟨a1, a2⟩ := ha
  have H := Lib.hid (And.intro e1 (And.intro e2 (And.intro e3 (And.intro e4 e5)))); clear e1 e2 e3 e4 e5
  go_enter Try.func199, Try.ntmps199
  go_wp2
  · rename_i h
    obtain ⟨e1, e2, e3, e4, e5⟩ := H.out
    have e := floor_eq (a := a) (b := b) (q := a.tdiv b - 1) (r := a.tmod b + b) b1 (by rw [Int.mul_sub, Int.mul_one]; omega) (by omega) (by omega)
    have rg := ediv_rng ⟨a1, a2⟩ b1
    go_ret
    exact ⟨ret_i (by rw [IntWalk.wrap64_in _ (by omega)]; exact e), rfl⟩
  · rename_i h
    obtain ⟨e1, e2, e3, e4, e5⟩ := H.out
    have e := floor_eq (a := a) (b := b) (q := a.tdiv b) (r := a.tmod b) b1 e1 (by omega) e3
    go_ret
    exact ⟨ret_i e, rfl⟩
set_option maxHeartbeats 800000 in
theorem floorOver_any (a b : Int) (w : World) (ha : -9223372036854775808 ≤ a ∧ a ≤ 9223372036854775807) (hb : 1 ≤ b ∧ b ≤ 16) : Calls Try.prog 172 #[.int .i64 a, .int .i64 b] w fun e w' => e = .returned (.int .i64 (a / b)) ∧ w = w' := by
  obtain ⟨e1, e2, e3, e4, e5⟩ := tdiv_bd a hb
  obtain ⟨b1, b2⟩ := hb
  obtain ⟨a1, a2⟩ := ha
  have m1 : -9223372036854775808 ≤ a.tdiv b * b := by rw [Int.mul_comm]; rcases Int.le_total 0 a with h | h <;> omega
  have m2 : a.tdiv b * b ≤ 9223372036854775807 := by rw [Int.mul_comm]; rcases Int.le_total 0 a with h | h <;> omega
  have m3 : a.tdiv b * b = b * a.tdiv b := Int.mul_comm _ _
  have M := Lib.hid m3; clear m3
  have H := Lib.hid (And.intro e1 (And.intro e2 (And.intro e3 (And.intro e4 e5)))); clear e1 e2 e3 e4 e5
  go_enter Try.func172, Try.ntmps172
  go_wp2
  · rename_i h
    obtain ⟨e1, e2, e3, e4, e5⟩ := H.out
    have m3 := M.out
    have e := floor_eq (a := a) (b := b) (q := a.tdiv b - 1) (r := a.tmod b + b) b1 (by rw [Int.mul_sub, Int.mul_one]; omega) (by omega) (by omega)
    have rg := ediv_rng ⟨a1, a2⟩ b1
    go_ret
    exact ⟨ret_i (by rw [IntWalk.wrap64_in _ (by omega)]; exact e), rfl⟩
  · rename_i h
    obtain ⟨e1, e2, e3, e4, e5⟩ := H.out
    have m3 := M.out
    have e := floor_eq (a := a) (b := b) (q := a.tdiv b) (r := a.tmod b) b1 e1 (by omega) e3
    go_ret
    exact ⟨ret_i e, rfl⟩
end Go.Proofs.Ytmnmcmmhnbnndaa

namespace Go.Proofs.Ytmnmcmmhnbnndaa
open Go.RowKit
def gr4 (v : Nat) : Bool := !(FloatKind.f32.format.order v 0 == some .lt) && !(FloatKind.f32.format.order v 1082130432 == some .gt)
def graE (size : Int) (s f : Nat) : Int := if inB size 1 16 then (if allNum [s, f] then (if gr4 s && gr4 f then 0 else 3) else 2) else 3
set_option maxRecDepth 100000 in
set_option maxHeartbeats 1600000 in
theorem CheckGrain_any (seed size : Int) (s f : Nat) (mono : Bool) (w : World) : Calls Try.prog 83 #[.agg #[.int .u32 seed, .int .i64 size, .float .f32 s, .float .f32 f, .bool mono]] w fun e w' => e = .returned (.int .i64 (graE size s f)) ∧ Below w.heap.size w w' := by
  by_cases hs : 1 ≤ size ∧ size ≤ 16
  · have hi : inB size 1 16 = true := inB_t hs
    obtain ⟨s1, s2⟩ := hs
    have hi' := Lib.hid hi; clear hi
    cases hA : allNum [s, f]
    all_goals
     go_enter Try.func83, Try.ntmps83
     go_wp2_with (first | (go_at_call 144; refine (All2_any _ _ _ s f _ (by simp [go_sem]) (by simp [go_sem])).mono ?_; rintro e w' ⟨rfl, rfl⟩))
     all_goals
      go_ret
      refine ⟨ret_i ?_, ?_⟩
      · unfold graE gr4
        rw [hi'.out, hA]
        first | rfl | (simp only [*]; rfl) | (simp [*]; done) | simp_all
      · (repeat (first | exact Below.refl _ _ | assumption | (refine Below.setCell ?_ (by first | (simp; done) | (simp; omega) | omega) _) | (refine Below.drew ?_) | (refine below_drewN ?_ _) | (refine Below.alloc ?_ (by first | (simp; done) | (simp; omega) | omega) _) | (refine Below.trans ?_ (Below.mono (by assumption) (by first | (simp; done) | (simp; omega) | omega)))))
  · have hi : inB size 1 16 = false := inB_f (by omega)
    have hE : graE size s f = 3 := by unfold graE; rw [hi]; rfl
    rw [hE]
    clear hi hE
    by_cases h1 : size < 1
    · go_enter Try.func83, Try.ntmps83
      go_wp2_with fail
      go_ret
      refine ⟨rfl, ?_⟩
      (repeat (first | exact Below.refl _ _ | assumption | (refine Below.setCell ?_ (by first | (simp; done) | (simp; omega) | omega) _) | (refine Below.drew ?_) | (refine below_drewN ?_ _) | (refine Below.alloc ?_ (by first | (simp; done) | (simp; omega) | omega) _) | (refine Below.trans ?_ (Below.mono (by assumption) (by first | (simp; done) | (simp; omega) | omega)))))
    · have h2 : 16 < size := by omega
      go_enter Try.func83, Try.ntmps83
      go_wp2_with fail
      go_ret
      refine ⟨rfl, ?_⟩
      (repeat (first | exact Below.refl _ _ | assumption | (refine Below.setCell ?_ (by first | (simp; done) | (simp; omega) | omega) _) | (refine Below.drew ?_) | (refine below_drewN ?_ _) | (refine Below.alloc ?_ (by first | (simp; done) | (simp; omega) | omega) _) | (refine Below.trans ?_ (Below.mono (by assumption) (by first | (simp; done) | (simp; omega) | omega)))))
end Go.Proofs.Ytmnmcmmhnbnndaa

namespace Go.Proofs.Ytmnmcmmhnbnndaa
open Go.RowKit
theorem tri_low {u v : Nat} (hu : isNum .f32 u = true) (hv : isNum .f32 v = true) : (FloatKind.f32.format.order u v == some .lt) = (!(FloatKind.f32.format.order u v == some .gt) && !(FloatKind.f32.format.order u v == some .eq)) := by
  obtain ⟨o, h1, h2, h3⟩ := ord_some hu hv
  rw [h1, h2, h3]; cases o <;> rfl
theorem tri_high {u v : Nat} (hu : isNum .f32 u = true) (hv : isNum .f32 v = true) : (FloatKind.f32.format.order u v == some .gt) = (!(FloatKind.f32.format.order u v == some .lt) && !(FloatKind.f32.format.order u v == some .eq)) := by
  obtain ⟨o, h1, h2, h3⟩ := ord_some hu hv
  rw [h1, h2, h3]; cases o <;> rfl
theorem two_or {x : Option Ordering} {a b : Ordering} (h : x = some a ∨ x = some b) : (!(x == some a) && !(x == some b)) = false ∧ ((x == some a) || (x == some b)) = true := by
  rcases h with h | h <;> subst h <;> simp
theorem num_4 : isNum .f32 1082130432 = true := by decide +kernel
theorem gr4_eq {v : Nat} (hv : isNum .f32 v = true) : gr4 v = (((FloatKind.f32.format.order v 0 == some .gt) || (FloatKind.f32.format.order v 0 == some .eq)) && ((FloatKind.f32.format.order v 1082130432 == some .lt) || (FloatKind.f32.format.order v 1082130432 == some .eq))) := by
  unfold gr4
  rw [tri_low hv num_01.1, tri_high hv num_4]
  simp
set_option maxRecDepth 100000 in
set_option maxHeartbeats 1600000 in
theorem GrainError_any (seed size : Int) (s f : Nat) (mono : Bool) (w : World) : Calls Try.prog 82 #[.agg #[.int .u32 seed, .int .i64 size, .float .f32 s, .float .f32 f, .bool mono]] w fun e w' => e = .returned (.int .i64 (graE size s f)) ∧ Below w.heap.size w w' := by
  cases hi : inB size 1 16
  case false =>
    have hE : graE size s f = 3 := by unfold graE; rw [hi]; rfl
    rw [hE]
    clear hE
    go_enter Try.func82, Try.ntmps82
    go_wp2_with (first | (go_at_call 21; refine (In_any _ _ _ _).mono ?_; rintro e w' ⟨rfl, rfl⟩))
    go_ret
    refine ⟨rfl, ?_⟩
    (repeat (first | exact Below.refl _ _ | assumption | (refine Below.setCell ?_ (by first | (simp; done) | (simp; omega) | omega) _) | (refine Below.drew ?_) | (refine below_drewN ?_ _) | (refine Below.alloc ?_ (by first | (simp; done) | (simp; omega) | omega) _) | (refine Below.trans ?_ (Below.mono (by assumption) (by first | (simp; done) | (simp; omega) | omega)))))
  case true =>
    have hA : allNum [s, f] = (isNum .f32 s && isNum .f32 f) := by simp [allNum]
    have hE : graE size s f = (if isNum .f32 s && isNum .f32 f then (if gr4 s && gr4 f then 0 else 3) else 2) := by unfold graE; rw [hi, hA]; rfl
    have hE' := Lib.hid hE; clear hE hA
    cases hs : isNum .f32 s <;> cases hf : isNum .f32 f
    case true.true =>
      have g1 := gr4_eq hs
      have g2 := gr4_eq hf
      have G1 := Lib.hid g1; have G2 := Lib.hid g2; clear g1 g2
      go_enter Try.func82, Try.ntmps82
      go_wp2_with (first | (go_at_call 21; refine (In_any _ _ _ _).mono ?_; rintro e w' ⟨rfl, rfl⟩) | (go_at_call 20; refine (When_any _ _ _).mono ?_; rintro e w' ⟨rfl, rfl⟩) | (go_at_call 52; refine (IsNumberR_any _ _).mono ?_; rintro e w' ⟨rfl, m, rfl⟩))
      all_goals
        go_ret
        refine ⟨ret_i ?_, ?_⟩
        · rw [hE'.out, hs, hf, G1.out, G2.out]
          first | rfl | (simp only [*]; rfl) | (simp [*]; done) | (rename_i k1 k2 k3; obtain ⟨x1, y1⟩ := two_or k1; obtain ⟨x2, y2⟩ := two_or k2; obtain ⟨x3, y3⟩ := two_or k3; rw [x1, x2, x3, y1, y2, y3]; generalize (FloatKind.f32.format.order f 1082130432 == some .lt) = X; generalize (FloatKind.f32.format.order f 1082130432 == some .eq) = Y; cases X <;> cases Y <;> rfl)
        · (repeat (first | exact Below.refl _ _ | assumption | (refine Below.setCell ?_ (by first | (simp; done) | (simp; omega) | omega) _) | (refine Below.drew ?_) | (refine below_drewN ?_ _) | (refine Below.alloc ?_ (by first | (simp; done) | (simp; omega) | omega) _) | (refine Below.trans ?_ (Below.mono (by assumption) (by first | (simp; done) | (simp; omega) | omega)))))
    all_goals
      go_enter Try.func82, Try.ntmps82
      go_wp2_with (first | (go_at_call 21; refine (In_any _ _ _ _).mono ?_; rintro e w' ⟨rfl, rfl⟩) | (go_at_call 52; refine (IsNumberR_any _ _).mono ?_; rintro e w' ⟨rfl, m, rfl⟩))
      go_ret
      refine ⟨ret_i (by rw [hE'.out, hs, hf]; rfl), ?_⟩
      (repeat (first | exact Below.refl _ _ | assumption | (refine Below.setCell ?_ (by first | (simp; done) | (simp; omega) | omega) _) | (refine Below.drew ?_) | (refine below_drewN ?_ _) | (refine Below.alloc ?_ (by first | (simp; done) | (simp; omega) | omega) _) | (refine Below.trans ?_ (Below.mono (by assumption) (by first | (simp; done) | (simp; omega) | omega)))))
end Go.Proofs.Ytmnmcmmhnbnndaa

namespace Go.Proofs.Ytmnmcmmhnbnndaa
open Go.RowKit
/-- The noise of four hashes. -/
def uniF (sd a b c n : Int) : Nat := unitF (hashZ sd a b (wrap64 (wrap64 (4 * c) + n)))
def noiF (sd a b c : Int) : Nat := fop .sub .f32 (fop .mul .f32 (fop .add .f32 (fop .add .f32 (uniF sd a b c 0) (uniF sd a b c 1)) (fop .add .f32 (uniF sd a b c 2) (uniF sd a b c 3))) 1056964608) 1065353216
/-- A value with grain. -/
def grnF (sd a b c : Int) (s f v : Nat) : Nat :=
  fop .add .f32 v (fop .mul .f32 (fop .mul .f32 (noiF sd a b c) s) (limF (fop .sub .f32 1065353216 (fop .mul .f32 f v)) 0 1065353216))
theorem limF_FR {r s : Nat} (h : FR .f32 r s) (lo hi : Nat) : limF r lo hi = limF s lo hi := by
  have e : cn .f32 s = cn .f32 r := by rw [← h.eq, cn_cn]
  unfold limF; rw [ord_FR h, ord_FR h, e]
theorem grn_FR {sd a b c : Int} {s f v r1 r2 r3 r4 r5 r6 r7 r8 r9 r10 : Nat} (h1 : FR .f32 r1 (fop .add .f32 (cn .f32 (unitF (hashZ sd a b (wrap64 (wrap64 (4 * c)))))) (cn .f32 (unitF (hashZ sd a b (wrap64 (wrap64 (4 * c) + 1)))))))
    (h2 : FR .f32 r2 (fop .add .f32 (cn .f32 (unitF (hashZ sd a b (wrap64 (wrap64 (4 * c) + 2))))) (cn .f32 (unitF (hashZ sd a b (wrap64 (wrap64 (4 * c) + 3)))))))
    (h3 : FR .f32 r3 (fop .add .f32 (cn .f32 r1) (cn .f32 r2))) (h4 : FR .f32 r4 (fop .mul .f32 (cn .f32 r3) (cn .f32 1056964608))) (h5 : FR .f32 r5 (fop .sub .f32 (cn .f32 r4) (cn .f32 1065353216)))
    (h6 : FR .f32 r6 (fop .mul .f32 (cn .f32 f) (cn .f32 v))) (h7 : FR .f32 r7 (fop .sub .f32 (cn .f32 1065353216) (cn .f32 r6))) (h8 : FR .f32 r8 (fop .mul .f32 (cn .f32 r5) (cn .f32 s)))
    (h9 : FR .f32 r9 (fop .mul .f32 (cn .f32 r8) (cn .f32 (limF r7 0 1065353216)))) (h10 : FR .f32 r10 (fop .add .f32 (cn .f32 v) (cn .f32 r9))) : FR .f32 r10 (grnF sd a b c s f v) := by
  have e0 : wrap64 (wrap64 (4 * c) + 0) = wrap64 (wrap64 (4 * c)) := by rw [Int.add_zero]
  rw [h6.eq] at h7
  rw [limF_FR h7, h8.eq, h5.eq, h4.eq, h3.eq, h2.eq, h1.eq] at h9
  rw [h9.eq] at h10
  simp only [fop_cn_left, fop_cn_right] at h10
  unfold grnF noiF uniF
  rw [e0]
  exact h10
set_option maxRecDepth 100000 in
set_option maxHeartbeats 1600000 in
theorem grained1_walk (seed : Int) (s f : Nat) (mono : Bool) (num a b : Int) (pg pn pa pb : Nat) (c : Int) (v : Nat) (w : World)
    (g0 : w.cell? ⟨pg, 0, none⟩ = some (.int .u32 seed)) (g2 : w.cell? ⟨pg, 2, none⟩ = some (.float .f32 s)) (g3 : w.cell? ⟨pg, 3, none⟩ = some (.float .f32 f)) (g4 : w.cell? ⟨pg, 4, none⟩ = some (.bool mono))
    (hn : w.cell? ⟨pn, 0, none⟩ = some (.int .i64 num)) (ha : w.cell? ⟨pa, 0, none⟩ = some (.int .i64 a)) (hb : w.cell? ⟨pb, 0, none⟩ = some (.int .i64 b)) :
    Calls Try.prog 200 #[.int .i64 c, .float .f32 v, .pointer (some ⟨pg, 0, none⟩), .pointer (some ⟨pn, 0, none⟩), .pointer (some ⟨pa, 0, none⟩), .pointer (some ⟨pb, 0, none⟩)] w fun e w' =>
      (∃ r, e = .returned (.float .f32 r) ∧ FR .f32 r (grnF (bits .xor .u32 seed (num % 4294967296)) a b (if mono then 0 else c) s f v)) ∧ Below w.heap.size w w' := by
  have l1 := cell_lt g0; have l2 := cell_lt hn; have l3 := cell_lt ha; have l4 := cell_lt hb
  simp only at l1 l2 l3 l4
  have hb0 := fun n => hashZ_bd (bits .xor .u32 seed (num % 4294967296)) a b n
  cases mono
  · go_enter Try.func200, Try.ntmps200
    go_wp2
    refine wp_loop_rounds 5 ?_
    go_wp2_with (first | simp only [rounds_succ] | (go_at_call 117; refine (Hash_any _ _ _ _ _).mono ?_; rintro e w' ⟨rfl, rfl⟩) | (go_at_call 116; refine (Unit_any _ _ (hb0 _).1 (hb0 _).2).mono ?_; rintro e w' ⟨m, rfl, rfl⟩) | (go_at_call 150; refine (Limit_any _ _ _ _).mono ?_; rintro e w' ⟨rfl, rfl⟩) | ((with_reducible apply wpList_farith); rfl; rfl; rfl; intro _ _ _) | ((with_reducible apply wpList_up); rfl; exact Try.underlying38; exact Try.underlying51; intro _ _ _))
    rename_i _ _ _ _ a1 _ _ a2 _ _ a3 _ _ a4 _ _ a5 _ _ a6 _ _ a7 _ _ a8 _ _ a9 _ _ a10
    have R := grn_FR a1 a2 a3 a4 a5 a6 a7 a8 a9 a10
    go_ret
    refine ⟨⟨_, rfl, R⟩, ?_⟩
    (repeat (first | exact Below.refl _ _ | assumption | (refine Below.setCell ?_ (by first | (simp; done) | (simp; omega) | omega) _) | (refine Below.drew ?_) | (refine below_drewN ?_ _) | (refine Below.alloc ?_ (by first | (simp; done) | (simp; omega) | omega) _) | (refine Below.trans ?_ (Below.mono (by assumption) (by first | (simp; done) | (simp; omega) | omega)))))
  · have q : wrap64 (wrap64 (4 * 0)) = 0 ∧ wrap64 (wrap64 (4 * 0) + 1) = 1 ∧ wrap64 (wrap64 (4 * 0) + 2) = 2 ∧ wrap64 (wrap64 (4 * 0) + 3) = 3 := by decide +kernel
    have Q := Lib.hid q; clear q
    go_enter Try.func200, Try.ntmps200
    go_wp2
    refine wp_loop_rounds 5 ?_
    go_wp2_with (first | simp only [rounds_succ] | (go_at_call 117; refine (Hash_any _ _ _ _ _).mono ?_; rintro e w' ⟨rfl, rfl⟩) | (go_at_call 116; refine (Unit_any _ _ (hb0 _).1 (hb0 _).2).mono ?_; rintro e w' ⟨m, rfl, rfl⟩) | (go_at_call 150; refine (Limit_any _ _ _ _).mono ?_; rintro e w' ⟨rfl, rfl⟩) | ((with_reducible apply wpList_farith); rfl; rfl; rfl; intro _ _ _) | ((with_reducible apply wpList_up); rfl; exact Try.underlying38; exact Try.underlying51; intro _ _ _))
    rename_i _ _ _ _ a1 _ _ a2 _ _ a3 _ _ a4 _ _ a5 _ _ a6 _ _ a7 _ _ a8 _ _ a9 _ _ a10
    obtain ⟨q0, q1, q2, q3⟩ := Q.out
    have R := grn_FR (c := 0) (by rw [q0, q1]; exact a1) (by rw [q2, q3]; exact a2) a3 a4 a5 a6 a7 a8 a9 a10
    go_ret
    refine ⟨⟨_, rfl, R⟩, ?_⟩
    (repeat (first | exact Below.refl _ _ | assumption | (refine Below.setCell ?_ (by first | (simp; done) | (simp; omega) | omega) _) | (refine Below.drew ?_) | (refine below_drewN ?_ _) | (refine Below.alloc ?_ (by first | (simp; done) | (simp; omega) | omega) _) | (refine Below.trans ?_ (Below.mono (by assumption) (by first | (simp; done) | (simp; omega) | omega)))))
end Go.Proofs.Ytmnmcmmhnbnndaa

namespace Go.Proofs.Ytmnmcmmhnbnndaa
open Go.RowKit
/-- The channel whose noise is taken. -/
def chanZ (mono : Bool) (c : Int) : Int := if mono then 0 else c
def FdPsi (size : Int) (args : Array Value) (u : Value) : Prop := ∃ a : Int, args = #[.int .i64 a, .int .i64 size] ∧ u = .int .i64 (a / size)
theorem fd_own {size a : Int} {u : Value} (h : FdPsi size #[.int .i64 a, .int .i64 size] u) : u = .int .i64 (a / size) := by
  obtain ⟨b, h1, rfl⟩ := h
  simp at h1; rw [h1]
set_option maxRecDepth 100000 in
set_option maxHeartbeats 1600000 in
/-- finish.grained, where the place is right. -/
theorem grained_any (seed size : Int) (s f : Nat) (mono : Bool) (num x y : Int) (p0 p1 p2 p3 : Nat) (w : World) (hs : 1 ≤ size ∧ size ≤ 16) (hx : -9223372036854775808 ≤ x ∧ x ≤ 9223372036854775807) (hy : -9223372036854775808 ≤ y ∧ y ≤ 9223372036854775807)
    (h0 : p0 < 2 ^ FloatKind.f32.format.width) (h1 : p1 < 2 ^ FloatKind.f32.format.width) (h2 : p2 < 2 ^ FloatKind.f32.format.width) :
    Calls Try.prog 170 #[.agg #[.int .u32 seed, .int .i64 size, .float .f32 s, .float .f32 f, .bool mono], .int .i64 num, .int .i64 x, .int .i64 y, .agg #[.float .f32 p0, .float .f32 p1, .float .f32 p2, .float .f32 p3]] w fun e w' =>
      e = .returned (.agg #[.float .f32 (grnF (bits .xor .u32 seed (num % 4294967296)) (x / size) (y / size) (chanZ mono 0) s f p0), .float .f32 (grnF (bits .xor .u32 seed (num % 4294967296)) (x / size) (y / size) (chanZ mono 1) s f p1), .float .f32 (grnF (bits .xor .u32 seed (num % 4294967296)) (x / size) (y / size) (chanZ mono 2) s f p2), .float .f32 (cn .f32 p3)]) ∧ Below w.heap.size w w' := by
  have hs' := Lib.hid hs; have hx' := Lib.hid hx; have hy' := Lib.hid hy; have h0' := Lib.hid h0; have h1' := Lib.hid h1; have h2' := Lib.hid h2
  clear hs hx hy h0 h1 h2
  go_enter Try.func170, Try.ntmps170
  go_wp2_with fail
  obtain ⟨W, hW⟩ : ∃ W, W = (((w.alloc (.cells #[.int .u32 seed, .int .i64 size, .float .f32 s, .float .f32 f, .bool mono] 113)).alloc (.cells #[.int .i64 num] 3)).alloc (.cells #[.float .f32 p0, .float .f32 p1, .float .f32 p2, .float .f32 p3] 55)).alloc (.cells #[.float .f32 0, .float .f32 0, .float .f32 0, .float .f32 0] 55) := ⟨_, rfl⟩
  have c0 : W.cell? ⟨w.heap.size, 0, none⟩ = some (.int .u32 seed) := by rw [hW]; simp [go_sem]
  have c1 : W.cell? ⟨w.heap.size, 1, none⟩ = some (.int .i64 size) := by rw [hW]; simp [go_sem]
  have c2 : W.cell? ⟨w.heap.size, 2, none⟩ = some (.float .f32 s) := by rw [hW]; simp [go_sem]
  have c3 : W.cell? ⟨w.heap.size, 3, none⟩ = some (.float .f32 f) := by rw [hW]; simp [go_sem]
  have c4 : W.cell? ⟨w.heap.size, 4, none⟩ = some (.bool mono) := by rw [hW]; simp [go_sem]
  have n0 : W.cell? ⟨w.heap.size + 1, 0, none⟩ = some (.int .i64 num) := by rw [hW]; simp [go_sem]
  have P0 : Pix4 W (w.heap.size + 1 + 1) p0 p1 p2 p3 := by rw [hW]; exact ⟨by simp [go_sem], by simp [go_sem], by simp [go_sem], by simp [go_sem], fun o => by simp [go_sem]⟩
  have R0 : Pix4 W (w.heap.size + 1 + 1 + 1) 0 0 0 0 := by rw [hW]; exact ⟨by simp [go_sem], by simp [go_sem], by simp [go_sem], by simp [go_sem], fun o => by simp [go_sem]⟩
  have B0 : Below w.heap.size w W := by rw [hW]; (repeat (first | exact Below.refl _ _ | assumption | (refine Below.setCell ?_ (by first | (simp; done) | (simp; omega) | omega) _) | (refine Below.drew ?_) | (refine below_drewN ?_ _) | (refine Below.alloc ?_ (by first | (simp; done) | (simp; omega) | omega) _) | (refine Below.trans ?_ (Below.mono (by assumption) (by first | (simp; done) | (simp; omega) | omega)))))
  have sW : W.heap.size = w.heap.size + 1 + 1 + 1 + 1 := by rw [hW]; simp
  rw [← hW]
  clear hW
  have CC := Lib.hid (And.intro c0 (And.intro c2 (And.intro c3 (And.intro c4 n0))))
  have PP := Lib.hid P0; have RR := Lib.hid R0
  have w0 : w.heap.size < W.heap.size := by omega
  have SW := Lib.hid sW; clear sW
  clear c0 c2 c3 c4 n0 P0 R0
  refine wp_region_looseM 10 (fun _ args u => FdPsi size args u) [(8, 11, .cells #[.int .i64 0] 3), (9, 12, .cells #[.int .i64 0] 3)] (by kernel_rfl) (by kernel_rfl) (by kernel_rfl) (by intro m hm; simp at hm; rcases hm with rfl | rfl <;> exact ⟨_, rfl, ⟨rfl, rfl, fun ev w => by kernel_rfl⟩⟩) (by intro m hm; simp at hm; rcases hm with rfl | rfl <;> exact of_decide_eq_true (by kernel_rfl)) ?_
  simp only [List.take_succ_cons, List.take_zero, List.drop_succ_cons, List.drop_zero]
  iterate 3 (refine looseM_wanted rfl (fun K hK => ?_); go_simp; refine hK _ ?_; clear hK K)
  refine looseM_wanted rfl (fun K1 hK => ?_)
  go_simp
  refine ⟨fun p => (floorDiv_any _ _ p.w hx'.out hs'.out).mono ?_, ?_⟩
  · rintro e w' ⟨rfl, rfl⟩
    exact ⟨_, rfl, ⟨_, rfl, rfl⟩, Below.refl _ _⟩
  intro u hu
  obtain rfl := fd_own hu
  refine hK _ ?_
  clear hK K1 hu
  iterate 3 (refine looseM_wanted rfl (fun K hK => ?_); go_simp; refine hK _ ?_; clear hK K)
  refine looseM_wanted rfl (fun K1 hK => ?_)
  go_simp
  refine ⟨fun p => (floorDiv_any _ _ p.w hy'.out hs'.out).mono ?_, ?_⟩
  · rintro e w' ⟨rfl, rfl⟩
    exact ⟨_, rfl, ⟨_, rfl, rfl⟩, Below.refl _ _⟩
  intro u hu
  obtain rfl := fd_own hu
  refine hK _ ?_
  clear hK K1 hu
  refine looseM_lays (d := 11) (blk := .cells #[.int .i64 0] 3) ⟨rfl, rfl, fun ev w => by kernel_rfl⟩ (fun ga hga => ?_)
  refine looseM_lays (d := 12) (blk := .cells #[.int .i64 0] 3) ⟨rfl, rfl, fun ev w => by kernel_rfl⟩ (fun gb hgb => ?_)
  refine looseM_nil (fun w2 hb2 hg2 hne2 => ?_)
  obtain ⟨ga', e1, hA⟩ := hg2 _ (List.Mem.head _)
  obtain rfl : ga = ga' := by cases e1; rfl
  obtain ⟨gb', e2, hB⟩ := hg2 _ (List.Mem.tail _ (List.Mem.head _))
  obtain rfl : gb = gb' := by cases e2; rfl
  have hab : gb ≠ ga := fun h => hne2 _ (List.Mem.head _) _ (List.Mem.tail _ (List.Mem.head _)) (by decide) (by rw [e1, e2, h])
  clear hg2 hne2 e1 e2
  have A0 : w2.cell? ⟨ga, 0, none⟩ = some (.int .i64 0) := by simp [World.cell?, hA]
  have A1 : w2.frozen? ⟨ga, 0, none⟩ = false := by simp [World.frozen?, hA]
  have B1 : w2.cell? ⟨gb, 0, none⟩ = some (.int .i64 0) := by simp [World.cell?, hB]
  have B2 : w2.frozen? ⟨gb, 0, none⟩ = false := by simp [World.frozen?, hB]
  have sW := SW.out
  have P2 := PP.out.below hb2 (by omega)
  have R2 := RR.out.below hb2 (by omega)
  have BB := Lib.hid (B0.trans (hb2.mono (by omega)))
  obtain ⟨c0, c2, c3, c4, n0⟩ := CC.out
  have D0 := (hb2.cell (p := ⟨w.heap.size, 0, none⟩) w0).trans c0
  have D2 := (hb2.cell (p := ⟨w.heap.size, 2, none⟩) w0).trans c2
  have D3 := (hb2.cell (p := ⟨w.heap.size, 3, none⟩) w0).trans c3
  have D4 := (hb2.cell (p := ⟨w.heap.size, 4, none⟩) w0).trans c4
  have E0 := (hb2.cell (p := ⟨w.heap.size + 1, 0, none⟩) (by show w.heap.size + 1 < _; omega)).trans n0
  have DD := Lib.hid (And.intro D0 (And.intro D2 (And.intro D3 (And.intro D4 E0))))
  have hs2 := hb2.size
  clear c0 c1 c2 c3 c4 n0 D0 D2 D3 D4 E0 hb2 CC PP RR B0 hA hB
  have PP := Lib.hid P2; have RR := Lib.hid R2
  obtain ⟨p0', p1', p2', p3', -⟩ := P2
  clear R2
  go_wp2_with fail
  obtain ⟨W3, hW3⟩ : ∃ W3, W3 = (w2.setCell ⟨ga, 0, none⟩ (.int .i64 (x / size))).setCell ⟨gb, 0, none⟩ (.int .i64 (y / size)) := ⟨_, rfl⟩
  rw [← hW3]
  have s3 : W3.heap.size = w2.heap.size := by rw [hW3]; simp
  have F : ∀ n o, n < W.heap.size → W3.cell? ⟨n, o, none⟩ = w2.cell? ⟨n, o, none⟩ := fun n o hn => by
    rw [hW3, World.cell?_setCell_other _ _ _ _ (by first | (simp; done) | (simp; omega) | omega), World.cell?_setCell_other _ _ _ _ (by first | (simp; done) | (simp; omega) | omega)]
  obtain ⟨D0, D2, D3, D4, E0⟩ := DD.out
  have g0 := (F w.heap.size 0 w0).trans D0
  have g2 := (F w.heap.size 2 w0).trans D2
  have g3 := (F w.heap.size 3 w0).trans D3
  have g4 := (F w.heap.size 4 w0).trans D4
  have gn := (F (w.heap.size + 1) 0 (by omega)).trans E0
  have gga : W3.cell? ⟨ga, 0, none⟩ = some (.int .i64 (x / size)) := by rw [hW3, World.cell?_setCell_other _ _ _ _ (by first | (simp; done) | (simp; omega) | omega)]; exact World.cell?_setCell_same _ _ _ A0
  have ggb : W3.cell? ⟨gb, 0, none⟩ = some (.int .i64 (y / size)) := by rw [hW3]; exact World.cell?_setCell_same _ _ _ (by rw [World.cell?_setCell_other _ _ _ _ (by first | (simp; done) | (simp; omega) | omega)]; exact B1)
  have R3 : Pix4 W3 (w.heap.size + 1 + 1 + 1) 0 0 0 0 := by rw [hW3]; exact (RR.out.far _ _ (by first | (simp; done) | (simp; omega) | omega)).far _ _ (by first | (simp; done) | (simp; omega) | omega)
  have B3 : Below w.heap.size w W3 := by rw [hW3]; exact (BB.out.setCell (by first | (simp; done) | (simp; omega) | omega) _).setCell (by first | (simp; done) | (simp; omega) | omega) _
  have la := cell_lt gga
  have lb := cell_lt ggb
  simp only at la lb
  clear hW3 DD D0 D2 D3 D4 E0 A0 A1 B1 B2 RR PP p0' p1' p2' p3' F
  refine (three_any _ _ (fun c v => grnF (bits .xor .u32 seed (num % 4294967296)) (x / size) (y / size) (chanZ mono c) s f v) p0 p1 p2 p3 _ h0'.out h1'.out h2'.out (body_enters Try.func200 (by kernel_rfl) rfl) (fun c v w' hb' hv => ?_)).mono ?_
  · refine (grained1_walk seed s f mono num (x / size) (y / size) w.heap.size (w.heap.size + 1) ga gb c v w' ((hb'.cell (p := ⟨w.heap.size, 0, none⟩) (by show w.heap.size < _; omega)).trans g0) ((hb'.cell (p := ⟨w.heap.size, 2, none⟩) (by show w.heap.size < _; omega)).trans g2) ((hb'.cell (p := ⟨w.heap.size, 3, none⟩) (by show w.heap.size < _; omega)).trans g3) ((hb'.cell (p := ⟨w.heap.size, 4, none⟩) (by show w.heap.size < _; omega)).trans g4)
      ((hb'.cell (p := ⟨w.heap.size + 1, 0, none⟩) (by show w.heap.size + 1 < _; omega)).trans gn) ((hb'.cell (p := ⟨ga, 0, none⟩) la).trans gga) ((hb'.cell (p := ⟨gb, 0, none⟩) lb).trans ggb)).mono ?_
    rintro e w'' ⟨⟨r, rfl, hr⟩, hb⟩
    exact ⟨r, rfl, by unfold chanZ; exact hr, hb⟩
  · rintro e w4 ⟨rfl, hb4⟩
    obtain ⟨G0, hG0⟩ : ∃ G0, G0 = grnF (bits .xor .u32 seed (num % 4294967296)) (x / size) (y / size) (chanZ mono 0) s f p0 := ⟨_, rfl⟩
    rw [← hG0]
    have HG0 := Lib.hid hG0; clear hG0
    obtain ⟨G1, hG1⟩ : ∃ G1, G1 = grnF (bits .xor .u32 seed (num % 4294967296)) (x / size) (y / size) (chanZ mono 1) s f p1 := ⟨_, rfl⟩
    rw [← hG1]
    have HG1 := Lib.hid hG1; clear hG1
    obtain ⟨G2, hG2⟩ : ∃ G2, G2 = grnF (bits .xor .u32 seed (num % 4294967296)) (x / size) (y / size) (chanZ mono 2) s f p2 := ⟨_, rfl⟩
    rw [← hG2]
    have HG2 := Lib.hid hG2; clear hG2
    have R4 := R3.below hb4 (by omega)
    have B4 := B3.trans (hb4.mono (by omega))
    clear hb4 R3 B3 g0 g2 g3 g4 gn gga ggb
    obtain ⟨d0, d1, d2, d3, df⟩ := R4
    go_wp2_with fail
    refine bodyPost_ret (v := .agg #[.float .f32 G0, .float .f32 G1, .float .f32 G2, .float .f32 (cn .f32 p3)]) (by simp [results, Try.results170, go_sem, d0, d1, d2, d3]) rfl ⟨by rw [HG0.out, HG1.out, HG2.out], ?_⟩
    exact (((B4.setCell (by first | (simp; done) | (simp; omega) | omega) _).setCell (by first | (simp; done) | (simp; omega) | omega) _).setCell (by first | (simp; done) | (simp; omega) | omega) _).setCell (by first | (simp; done) | (simp; omega) | omega) _
end Go.Proofs.Ytmnmcmmhnbnndaa

namespace Go.Proofs.Ytmnmcmmhnbnndaa
open Go.RowKit
/-- The error of a place. -/
def plaE (x y : Int) : Int := if -1048576 ≤ x ∧ x ≤ 1048576 ∧ -1048576 ≤ y ∧ y ≤ 1048576 then 0 else 5
theorem graE_size {size : Int} {s f : Nat} (h : graE size s f = 0) : 1 ≤ size ∧ size ≤ 16 := by
  unfold graE at h
  cases hi : inB size 1 16 with
  | true => exact inB_iff.1 hi
  | false => rw [hi] at h; simp at h
/-- A pixel with grain. -/
def grnP (sd a b : Int) (mono : Bool) (s f : Nat) (p : Nat → Nat) : Nat → Nat
  | 0 => grnF sd a b (chanZ mono 0) s f (p 0)
  | 1 => grnF sd a b (chanZ mono 1) s f (p 1)
  | 2 => grnF sd a b (chanZ mono 2) s f (p 2)
  | _ => cn .f32 (p 3)
set_option maxRecDepth 100000 in
set_option maxHeartbeats 1600000 in
theorem Grained_any (seed size : Int) (s f : Nat) (mono : Bool) (num x y : Int) (p : Nat → Nat) (w : World) (hx : -9223372036854775808 ≤ x ∧ x ≤ 9223372036854775807) (hy : -9223372036854775808 ≤ y ∧ y ≤ 9223372036854775807)
    (hp : ∀ c, c < 4 → p c < 2 ^ FloatKind.f32.format.width) :
    Calls Try.prog 80 #[.agg #[.int .u32 seed, .int .i64 size, .float .f32 s, .float .f32 f, .bool mono], .int .i64 num, .int .i64 x, .int .i64 y, .agg #[.float .f32 (p 0), .float .f32 (p 1), .float .f32 (p 2), .float .f32 (p 3)]] w fun e w' =>
      (∃ q : Nat → Nat, e = .returned (.tuple #[.agg #[.float .f32 (q 0), .float .f32 (q 1), .float .f32 (q 2), .float .f32 (q 3)], .int .i64 (firstE (graE size s f) (plaE x y))]) ∧ (firstE (graE size s f) (plaE x y) ≠ 0 → q = fun _ => 0) ∧
        (firstE (graE size s f) (plaE x y) = 0 → q = grnP (bits .xor .u32 seed (num % 4294967296)) (x / size) (y / size) mono s f p)) ∧ Below w.heap.size w w' := by
  by_cases hE : graE size s f = 0
  · have hsz := graE_size hE
    by_cases hpl : -1048576 ≤ x ∧ x ≤ 1048576 ∧ -1048576 ≤ y ∧ y ≤ 1048576
    · have eW : firstE (graE size s f) (plaE x y) = 0 := by unfold plaE; rw [hE, if_pos hpl]; rfl
      rw [eW]
      have h0 := hp 0 (by omega); have h1 := hp 1 (by omega); have h2 := hp 2 (by omega)
      have H := Lib.hid (And.intro hsz (And.intro hx (And.intro hy (And.intro h0 (And.intro h1 h2)))))
      obtain ⟨x1, x2, y1, y2⟩ := hpl
      clear eW hsz hx hy h0 h1 h2 hp
      go_enter Try.func80, Try.ntmps80
      go_wp2_with (first | (go_at_call 83; refine (CheckGrain_any _ _ _ _ _ _).mono ?_; rintro e w1 ⟨rfl, hb1⟩; obtain ⟨hc1, hf1, hs1⟩ := bcell hb1; simp at hs1; have hq0 : w.heap.size < w1.heap.size := (by omega); have hq1 : w.heap.size + 1 < w1.heap.size := (by omega); have hq2 : w.heap.size + 1 + 1 < w1.heap.size := (by omega); rw [hE]))
      have R1 : Pix4 w1 (w.heap.size + 1 + 1) 0 0 0 0 := by
        refine Pix4.below (n := w.heap.size + 1 + 1 + 1) (W := ((w.alloc (.cells #[.int .u32 seed, .int .i64 size, .float .f32 s, .float .f32 f, .bool mono] 113)).alloc (.cells #[.float .f32 (p 0), .float .f32 (p 1), .float .f32 (p 2), .float .f32 (p 3)] 55)).alloc (.cells #[.float .f32 0, .float .f32 0, .float .f32 0, .float .f32 0] 55)) ⟨by simp [go_sem], by simp [go_sem], by simp [go_sem], by simp [go_sem], fun o => by simp [go_sem]⟩ (by simpa using hb1) (by omega)
      have B1 : Below w.heap.size w w1 := by (repeat (first | exact Below.refl _ _ | assumption | (refine Below.setCell ?_ (by first | (simp; done) | (simp; omega) | omega) _) | (refine Below.drew ?_) | (refine below_drewN ?_ _) | (refine Below.alloc ?_ (by first | (simp; done) | (simp; omega) | omega) _) | (refine Below.trans ?_ (Below.mono (by assumption) (by first | (simp; done) | (simp; omega) | omega)))))
      clear hc1 hf1 hb1
      refine (grained_any seed size s f mono num x y _ _ _ _ w1 H.out.1 H.out.2.1 H.out.2.2.1 H.out.2.2.2.1 H.out.2.2.2.2.1 H.out.2.2.2.2.2).mono ?_
      rintro e w2 ⟨he, hb2⟩
      obtain ⟨q, hq⟩ : ∃ q, q = grnP (bits .xor .u32 seed (num % 4294967296)) (x / size) (y / size) mono s f p := ⟨_, rfl⟩
      have he2 : e = .returned (.agg #[.float .f32 (q 0), .float .f32 (q 1), .float .f32 (q 2), .float .f32 (q 3)]) := by rw [he, hq]; rfl
      clear he
      subst he2
      have HQ := Lib.hid hq; clear hq
      have R2 := R1.below hb2 (by omega)
      have B2 := B1.trans (hb2.mono (by omega))
      clear R1 B1 hb2
      obtain ⟨d0, d1, d2, d3, df⟩ := R2
      go_wp2_with fail
      refine bodyPost_ret (v := .tuple #[.agg #[.float .f32 (q 0), .float .f32 (q 1), .float .f32 (q 2), .float .f32 (q 3)], .int .i64 0]) (by simp [results, Try.results80, go_sem, d0, d1, d2, d3]) rfl ⟨⟨q, rfl, fun h => absurd rfl h, fun _ => HQ.out⟩, ?_⟩
      exact (((B2.setCell (by first | (simp; done) | (simp; omega) | omega) _).setCell (by first | (simp; done) | (simp; omega) | omega) _).setCell (by first | (simp; done) | (simp; omega) | omega) _).setCell (by first | (simp; done) | (simp; omega) | omega) _
    · have eW : firstE (graE size s f) (plaE x y) = 5 := by unfold plaE; rw [hE, if_neg hpl]; rfl
      rw [eW]
      have hcase : x < -1048576 ∨ (-1048576 ≤ x ∧ 1048576 < x) ∨ (-1048576 ≤ x ∧ x ≤ 1048576 ∧ y < -1048576) ∨ (-1048576 ≤ x ∧ x ≤ 1048576 ∧ -1048576 ≤ y ∧ 1048576 < y) := by omega
      clear eW hsz hx hy hp hpl
      rcases hcase with k1 | ⟨k1, k2⟩ | ⟨k1, k2, k3⟩ | ⟨k1, k2, k3, k4⟩
      all_goals
        go_enter Try.func80, Try.ntmps80
        go_wp2_with (first | (go_at_call 83; refine (CheckGrain_any _ _ _ _ _ _).mono ?_; rintro e w1 ⟨rfl, hb1⟩; obtain ⟨hc1, hf1, hs1⟩ := bcell hb1; simp at hs1; have hq0 : w.heap.size < w1.heap.size := (by omega); have hq1 : w.heap.size + 1 < w1.heap.size := (by omega); have hq2 : w.heap.size + 1 + 1 < w1.heap.size := (by omega); rw [hE]))
        refine bodyPost_ret (v := .tuple #[.agg #[.float .f32 0, .float .f32 0, .float .f32 0, .float .f32 0], .int .i64 5]) (by simp [results, Try.results80, go_sem, *]) rfl ⟨⟨fun _ => 0, rfl, fun _ => rfl, fun h => absurd h (by decide)⟩, ?_⟩
        (repeat (first | exact Below.refl _ _ | assumption | (refine Below.setCell ?_ (by first | (simp; done) | (simp; omega) | omega) _) | (refine Below.drew ?_) | (refine below_drewN ?_ _) | (refine Below.alloc ?_ (by first | (simp; done) | (simp; omega) | omega) _) | (refine Below.trans ?_ (Below.mono (by assumption) (by first | (simp; done) | (simp; omega) | omega)))))
  · have eW : firstE (graE size s f) (plaE x y) = graE size s f := firstE_of _ hE
    rw [eW]
    have hc : (graE size s f != 0) = true := by simpa using hE
    have hE' := Lib.hid hE; clear hE eW hx hy hp
    go_enter Try.func80, Try.ntmps80
    go_wp2_with (first | (go_at_call 83; refine (CheckGrain_any _ _ _ _ _ _).mono ?_; rintro e w1 ⟨rfl, hb1⟩; obtain ⟨hc1, hf1, hs1⟩ := bcell hb1; simp at hs1; have hq0 : w.heap.size < w1.heap.size := (by omega); have hq1 : w.heap.size + 1 < w1.heap.size := (by omega); have hq2 : w.heap.size + 1 + 1 < w1.heap.size := (by omega)))
    refine bodyPost_ret (v := .tuple #[.agg #[.float .f32 0, .float .f32 0, .float .f32 0, .float .f32 0], .int .i64 (graE size s f)]) (by simp [results, Try.results80, go_sem, *]) rfl ⟨⟨fun _ => 0, rfl, fun _ => rfl, fun h => absurd h hE'.out⟩, ?_⟩
    (repeat (first | exact Below.refl _ _ | assumption | (refine Below.setCell ?_ (by first | (simp; done) | (simp; omega) | omega) _) | (refine Below.drew ?_) | (refine below_drewN ?_ _) | (refine Below.alloc ?_ (by first | (simp; done) | (simp; omega) | omega) _) | (refine Below.trans ?_ (Below.mono (by assumption) (by first | (simp; done) | (simp; omega) | omega)))))
end Go.Proofs.Ytmnmcmmhnbnndaa

namespace Go.Proofs.Ytmnmcmmhnbnndaa
open Go.RowKit
/-- What the calls of one hash hand back. -/
def GoPsi (size : Int) (f : FuncId) (args : Array Value) (u : Value) : Prop :=
  (f = 172 ∧ ∃ a : Int, args = #[.int .i64 a, .int .i64 size] ∧ u = .int .i64 (a / size)) ∨
  (f = 119 ∧ ∃ s x y n : Int, args = #[.int .u32 s, .int .i64 x, .int .i64 y, .int .i64 n] ∧ u = .int .u32 (hashZ s x y n)) ∨
  (f = 118 ∧ ∃ h : Int, args = #[.int .u32 h] ∧ u = .float .f32 (unitF h))
theorem go_fl {size a : Int} {u : Value} (h : GoPsi size 172 #[.int .i64 a, .int .i64 size] u) : u = .int .i64 (a / size) := by
  rcases h with ⟨-, b, h1, rfl⟩ | ⟨h, -⟩ | ⟨h, -⟩
  · simp at h1; rw [h1]
  · exact absurd h (by decide)
  · exact absurd h (by decide)
theorem go_ha {size s x y n : Int} {u : Value} (h : GoPsi size 119 #[.int .u32 s, .int .i64 x, .int .i64 y, .int .i64 n] u) : u = .int .u32 (hashZ s x y n) := by
  rcases h with ⟨h, -⟩ | ⟨-, s', x', y', n', h1, rfl⟩ | ⟨h, -⟩
  · exact absurd h (by decide)
  · simp at h1; obtain ⟨rfl, rfl, rfl, rfl⟩ := h1; rfl
  · exact absurd h (by decide)
theorem go_un {size hh : Int} {u : Value} (h : GoPsi size 118 #[.int .u32 hh] u) : u = .float .f32 (unitF hh) := by
  rcases h with ⟨h, -⟩ | ⟨h, -⟩ | ⟨-, h', h1, rfl⟩
  · exact absurd h (by decide)
  · exact absurd h (by decide)
  · simp at h1; rw [h1]
def LiPsi (args : Array Value) (u : Value) : Prop := ∃ v, args = #[.float .f32 v, .float .f32 0, .float .f32 1065353216] ∧ u = .float .f32 (limF v 0 1065353216)
theorem li_own {v : Nat} {u : Value} (h : LiPsi #[.float .f32 v, .float .f32 0, .float .f32 1065353216] u) : u = .float .f32 (limF v 0 1065353216) := by
  obtain ⟨v', h1, rfl⟩ := h
  simp at h1; rw [h1]
def FxPsi (args : Array Value) (u : Value) : Prop := ∃ v, args = #[.float .f32 v] ∧ u = .float .f32 (cn .f32 v)
theorem fx_own {v : Nat} {u : Value} (h : FxPsi #[.float .f32 v] u) : u = .float .f32 (cn .f32 v) := by
  obtain ⟨v', h1, rfl⟩ := h
  simp at h1; rw [h1]
/-- A block of four singles. -/
theorem row4 (w : World) (a b c d : Nat) (t : TypeId) : (w.alloc (.cells #[.float .f32 a, .float .f32 b, .float .f32 c, .float .f32 d] t)).rowIs w.heap.size t 4 (fun j => .float .f32 (pick4 a b c d j)) :=
  World.rowIs_alloc w #[.float .f32 a, .float .f32 b, .float .f32 c, .float .f32 d] t _ (fun i hi => by
    have hi : i < 4 := hi
    rcases (show i = 0 ∨ i = 1 ∨ i = 2 ∨ i = 3 by omega) with rfl | rfl | rfl | rfl <;> rfl)
/-- Of the document's pixel with grain, what stands behind c channels. -/
def grnK (G : Nat → Nat) (c : Nat) (j : Nat) : Value := .float .f32 (if j < c then G j else if j = 3 then G 3 else 0)
theorem uni_f {sd a b : Int} {c n : Nat} (hc : c < 3) (hn : n < 4) : uniF sd a b (chanZ false c) n = unitF (hashZ sd a b (4 * (c : Int) + n)) := by
  unfold uniF chanZ
  rw [if_neg (by decide), IntWalk.wrap64_in (4 * (c : Int)) (by omega), IntWalk.wrap64_in _ (by omega)]
theorem uni_t {sd a b : Int} {c n : Nat} (_ : c < 3) (hn : n < 4) : uniF sd a b (chanZ true c) n = unitF (hashZ sd a b n) := by
  unfold uniF chanZ
  have e : wrap64 (4 * 0) = 0 := by decide +kernel
  rw [if_pos rfl, e, Int.zero_add, IntWalk.wrap64_in _ (by omega)]
theorem grnP_lt {sd a b : Int} {mono : Bool} {s f : Nat} {p : Nat → Nat} {c : Nat} (h : c < 3) : grnP sd a b mono s f p c = grnF sd a b (chanZ mono c) s f (p c) := by
  rcases (show c = 0 ∨ c = 1 ∨ c = 2 by omega) with rfl | rfl | rfl <;> rfl
theorem grn_FR2 {sd a b c : Int} {s f v r1 r2 r3 r4 r5 r6 r7 r8 r9 r10 : Nat} (h1 : FR .f32 r1 (fop .add .f32 (cn .f32 (uniF sd a b c 0)) (cn .f32 (uniF sd a b c 1))))
    (h2 : FR .f32 r2 (fop .add .f32 (cn .f32 (uniF sd a b c 2)) (cn .f32 (uniF sd a b c 3))))
    (h3 : FR .f32 r3 (fop .add .f32 (cn .f32 r1) (cn .f32 r2))) (h4 : FR .f32 r4 (fop .mul .f32 (cn .f32 r3) (cn .f32 1056964608))) (h5 : FR .f32 r5 (fop .sub .f32 (cn .f32 r4) (cn .f32 1065353216)))
    (h6 : FR .f32 r6 (fop .mul .f32 (cn .f32 f) (cn .f32 v))) (h7 : FR .f32 r7 (fop .sub .f32 (cn .f32 1065353216) (cn .f32 r6))) (h8 : FR .f32 r8 (fop .mul .f32 (cn .f32 r5) (cn .f32 s)))
    (h9 : FR .f32 r9 (fop .mul .f32 (cn .f32 r8) (cn .f32 (limF r7 0 1065353216)))) (h10 : FR .f32 r10 (fop .add .f32 (cn .f32 v) (cn .f32 r9))) : cn .f32 r10 = grnF sd a b c s f v := by
  rw [h6.eq] at h7
  rw [limF_FR h7, h8.eq, h5.eq, h4.eq, h3.eq, h2.eq, h1.eq] at h9
  rw [h9.eq] at h10
  simp only [fop_cn_left, fop_cn_right] at h10
  unfold grnF noiF
  exact h10.eq
set_option maxRecDepth 100000 in
set_option maxHeartbeats 1600000 in
theorem GrainedOf_false (seed size : Int) (s f : Nat) (num x y : Int) (p : Nat → Nat) (w : World) (hs : 1 ≤ size ∧ size ≤ 16) (hx : -9223372036854775808 ≤ x ∧ x ≤ 9223372036854775807) (hy : -9223372036854775808 ≤ y ∧ y ≤ 9223372036854775807) :
    Calls Try.prog 85 #[.agg #[.int .u32 seed, .int .i64 size, .float .f32 s, .float .f32 f, .bool false], .int .i64 num, .int .i64 x, .int .i64 y, .agg #[.float .f32 (p 0), .float .f32 (p 1), .float .f32 (p 2), .float .f32 (p 3)]] w fun e w' =>
      (∃ q : Nat → Nat, e = .returned (.agg #[.float .f32 (q 0), .float .f32 (q 1), .float .f32 (q 2), .float .f32 (q 3)]) ∧ q = grnP (bits .xor .u32 seed (num % 4294967296)) (x / size) (y / size) false s f p) ∧ Below w.heap.size w w' := by
  have hs' := Lib.hid hs; have hx' := Lib.hid hx; have hy' := Lib.hid hy
  clear hs hx hy
  obtain ⟨sd, hsd⟩ : ∃ sd, sd = bits .xor .u32 seed (num % 4294967296) := ⟨_, rfl⟩
  rw [← hsd]
  have esd := hsd.symm; clear hsd
  go_enter Try.func85, Try.ntmps85
  go_wp2_with (first | (go_at_call 55; refine (Fix_any _ _).mono ?_; rintro e w' ⟨rfl, rfl⟩))
  obtain ⟨G, hG⟩ : ∃ G, G = grnP sd (x / size) (y / size) false s f p := ⟨_, rfl⟩
  have G3 : cn .f32 (p 3) = G 3 := by rw [hG]; rfl
  have HG := Lib.hid hG; clear hG
  obtain ⟨W, hW⟩ : ∃ W, W = (((w.alloc (.cells #[.int .u32 seed, .int .i64 size, .float .f32 s, .float .f32 f, .bool false] 113)).alloc (.cells #[.float .f32 (p 0), .float .f32 (p 1), .float .f32 (p 2), .float .f32 (p 3)] 55)).alloc (.cells #[.float .f32 0, .float .f32 0, .float .f32 0, .float .f32 0] 55)).alloc (.cells #[.float .f32 0, .float .f32 0, .float .f32 0, .float .f32 (cn .f32 (p 3))] 55) := ⟨_, rfl⟩
  have c0 : W.cell? ⟨w.heap.size, 0, none⟩ = some (.int .u32 seed) := by rw [hW]; simp [go_sem]
  have c1 : W.cell? ⟨w.heap.size, 1, none⟩ = some (.int .i64 size) := by rw [hW]; simp [go_sem]
  have c2 : W.cell? ⟨w.heap.size, 2, none⟩ = some (.float .f32 s) := by rw [hW]; simp [go_sem]
  have c3 : W.cell? ⟨w.heap.size, 3, none⟩ = some (.float .f32 f) := by rw [hW]; simp [go_sem]
  have c4 : W.cell? ⟨w.heap.size, 4, none⟩ = some (.bool false) := by rw [hW]; simp [go_sem]
  have P0 : W.rowIs (w.heap.size + 1) 55 4 (fun j => .float .f32 (pick4 (p 0) (p 1) (p 2) (p 3) j)) := by
    rw [hW]
    have := ((row4 (w.alloc (.cells #[.int .u32 seed, .int .i64 size, .float .f32 s, .float .f32 f, .bool false] 113)) (p 0) (p 1) (p 2) (p 3) 55).alloc (.cells #[.float .f32 0, .float .f32 0, .float .f32 0, .float .f32 0] 55)).alloc (.cells #[.float .f32 0, .float .f32 0, .float .f32 0, .float .f32 (cn .f32 (p 3))] 55)
    simpa using this
  have P1 : W.rowIs (w.heap.size + 1) 55 4 (fun j => .float .f32 (p j)) := P0.congr (fun i hi => by rcases (show i = 0 ∨ i = 1 ∨ i = 2 ∨ i = 3 by omega) with rfl | rfl | rfl | rfl <;> rfl)
  have Z0 : Pix4 W (w.heap.size + 1 + 1) 0 0 0 0 := by rw [hW]; exact ⟨by simp [go_sem], by simp [go_sem], by simp [go_sem], by simp [go_sem], fun o => by simp [go_sem]⟩
  have Q0 : W.rowIs (w.heap.size + 1 + 1 + 1) 55 4 (grnK G 0) := by
    have h := row4 (((w.alloc (.cells #[.int .u32 seed, .int .i64 size, .float .f32 s, .float .f32 f, .bool false] 113)).alloc (.cells #[.float .f32 (p 0), .float .f32 (p 1), .float .f32 (p 2), .float .f32 (p 3)] 55)).alloc (.cells #[.float .f32 0, .float .f32 0, .float .f32 0, .float .f32 0] 55)) 0 0 0 (cn .f32 (p 3)) 55
    rw [← hW] at h
    simp only [World.size_alloc] at h
    exact h.congr (fun i hi => by rcases (show i = 0 ∨ i = 1 ∨ i = 2 ∨ i = 3 by omega) with rfl | rfl | rfl | rfl <;> simp [pick4, grnK, G3])
  have B0 : Below w.heap.size w W := by rw [hW]; (repeat (first | exact Below.refl _ _ | assumption | (refine Below.setCell ?_ (by first | (simp; done) | (simp; omega) | omega) _) | (refine Below.drew ?_) | (refine below_drewN ?_ _) | (refine Below.alloc ?_ (by first | (simp; done) | (simp; omega) | omega) _) | (refine Below.trans ?_ (Below.mono (by assumption) (by first | (simp; done) | (simp; omega) | omega)))))
  have sW : W.heap.size = w.heap.size + 1 + 1 + 1 + 1 := by rw [hW]; simp
  rw [← hW]
  have CC := Lib.hid (And.intro c0 (And.intro c1 (And.intro c2 (And.intro c3 c4))))
  have SW := Lib.hid sW; have PP := Lib.hid P1; have ZZ := Lib.hid Z0; have BB := Lib.hid B0; have QQ := Lib.hid Q0
  clear hW c0 c1 c2 c3 c4 P0 P1 Z0 Q0 B0 sW G3
  go_loopw [22] (fun s22 wr => ∃ c : Nat, c ≤ 3 ∧ s22 = .int .i64 c ∧ wr.rowIs (w.heap.size + 1 + 1 + 1) 55 4 (grnK G c) ∧ W.grownBy wr (some (w.heap.size + 1 + 1 + 1))) (fun i _ => 3 - (intOf i).toNat)
  case atStart => exact ⟨0, by omega, rfl, QQ.out, World.grownBy.refl _ _⟩
  case round =>
    obtain ⟨c, hc3, rfl, hq, hgr⟩ := hrel
    have sW := SW.out
    have bk : ∀ b, b < w.heap.size + 1 + 1 + 1 → wr.heap[b]? = W.heap[b]? := fun b hb => hgr.block b (by omega) (by simp; omega)
    obtain ⟨c0, c1, c2, c3, c4⟩ := CC.out
    have d0 := (World.cell?_of_block (a := ⟨w.heap.size, 0, none⟩) (bk w.heap.size (by omega))).trans c0
    have d1 := (World.cell?_of_block (a := ⟨w.heap.size, 1, none⟩) (bk w.heap.size (by omega))).trans c1
    have d2 := (World.cell?_of_block (a := ⟨w.heap.size, 2, none⟩) (bk w.heap.size (by omega))).trans c2
    have d3 := (World.cell?_of_block (a := ⟨w.heap.size, 3, none⟩) (bk w.heap.size (by omega))).trans c3
    have d4 := (World.cell?_of_block (a := ⟨w.heap.size, 4, none⟩) (bk w.heap.size (by omega))).trans c4
    have P2 := PP.out.of_block (bk (w.heap.size + 1) (by omega))
    have hsr := hgr.size
    have wl : w.heap.size < wr.heap.size := by omega
    clear c0 c1 c2 c3 c4
    by_cases hc : c < 3
    · have pc := P2.cell (show c < 4 by omega)
      have HQ := Lib.hid hq; have HGR := Lib.hid hgr; have DD := Lib.hid (And.intro d0 (And.intro d1 (And.intro d2 d3))); have P3 := Lib.hid P2
      clear hq hgr bk P2
      have hci : (c : Int) < 3 := by omega
      go_wp2_with fail
      obtain ⟨V, hV⟩ : ∃ V, V = wr.alloc (.cells #[.float .f32 0, .float .f32 0, .float .f32 0, .float .f32 0] 54) := ⟨_, rfl⟩
      rw [← hV]
      have U0 : V.rowIs wr.heap.size 54 4 (fun _ => .float .f32 0) := by
        rw [hV]; exact (row4 wr 0 0 0 0 54).congr (fun i hi => by rcases (show i = 0 ∨ i = 1 ∨ i = 2 ∨ i = 3 by omega) with rfl | rfl | rfl | rfl <;> rfl)
      have BV : Below wr.heap.size wr V := by rw [hV]; (repeat (first | exact Below.refl _ _ | assumption | (refine Below.setCell ?_ (by first | (simp; done) | (simp; omega) | omega) _) | (refine Below.drew ?_) | (refine below_drewN ?_ _) | (refine Below.alloc ?_ (by first | (simp; done) | (simp; omega) | omega) _) | (refine Below.trans ?_ (Below.mono (by assumption) (by first | (simp; done) | (simp; omega) | omega)))))
      have sV : V.heap.size = wr.heap.size + 1 := by rw [hV]; simp
      have UU := Lib.hid U0; have BVH := Lib.hid BV; have SV := Lib.hid sV
      clear hV U0 BV sV d0 d1 d2 d3 d4 pc
      obtain ⟨wo, rfl⟩ : ∃ wo : World, wo = wr := ⟨_, rfl⟩
      go_loopw [28] (fun s28 wr => ∃ n : Nat, n ≤ 4 ∧ s28 = .int .i64 n ∧ wr.rowIs wo.heap.size 54 4 (fun j => .float .f32 (if j < n then uniF sd (x / size) (y / size) (chanZ false c) j else 0)) ∧ V.grownBy wr (some wo.heap.size)) (fun i _ => 4 - (intOf i).toNat)
      case atStart => exact ⟨0, by omega, rfl, UU.out.congr (fun j _ => by simp), World.grownBy.refl _ _⟩
      case round =>
        obtain ⟨n, hn4, rfl, hu, hgt⟩ := hrel
        have sV := SV.out
        have hst := hgt.size
        have bk2 : ∀ b, b < wo.heap.size → wr.heap[b]? = wo.heap[b]? := fun b hb => (hgt.block b (by omega) (by simp; omega)).trans (BVH.out.block b hb)
        obtain ⟨c0, c1, c2, c3⟩ := DD.out
        have d0 := (World.cell?_of_block (a := ⟨w.heap.size, 0, none⟩) (bk2 w.heap.size wl)).trans c0
        have d1 := (World.cell?_of_block (a := ⟨w.heap.size, 1, none⟩) (bk2 w.heap.size wl)).trans c1
        have d2 := (World.cell?_of_block (a := ⟨w.heap.size, 2, none⟩) (bk2 w.heap.size wl)).trans c2
        have d3 := (World.cell?_of_block (a := ⟨w.heap.size, 3, none⟩) (bk2 w.heap.size wl)).trans c3
        have wtl : w.heap.size < wr.heap.size := by omega
        have utl : wo.heap.size < wr.heap.size := by omega
        have HU := Lib.hid hu; have HGT := Lib.hid hgt
        clear c0 c1 c2 c3
        by_cases hn : n < 4
        · have hni : (n : Int) < 4 := by omega
          have w4 : IntKind.i64.wrap (4 * (c : Int)) = 4 * (c : Int) := by rw [IntKind.wrap_i64]; omega
          have w5 : IntKind.i64.wrap (4 * (c : Int) + n) = 4 * (c : Int) + n := by rw [IntKind.wrap_i64]; omega
          have w6 : IntKind.i64.wrap (n : Int) = n := by rw [IntKind.wrap_i64]; omega
          clear hu hgt bk2
          go_wp2_with fail
          refine wp_region_loose 21 (GoPsi size) (by kernel_rfl) (by kernel_rfl) ?_
          simp only [List.take_succ_cons, List.take_zero, List.drop_succ_cons, List.drop_zero]
          iterate 9 (refine loose_wanted rfl (fun K hK => ?_); go_simp; refine hK _ ?_; clear hK K)
          refine loose_wanted rfl (fun K1 hK => ?_)
          go_simp
          refine ⟨fun p => (floorOver_any _ _ p.w hx'.out hs'.out).mono ?_, ?_⟩
          · rintro e w' ⟨rfl, rfl⟩
            exact ⟨_, rfl, .inl ⟨rfl, _, rfl, rfl⟩, p.h⟩
          intro u hu
          obtain rfl := go_fl hu
          refine hK _ ?_
          clear hK K1 hu
          iterate 3 (refine loose_wanted rfl (fun K hK => ?_); go_simp; refine hK _ ?_; clear hK K)
          refine loose_wanted rfl (fun K1 hK => ?_)
          go_simp
          refine ⟨fun p => (floorOver_any _ _ p.w hy'.out hs'.out).mono ?_, ?_⟩
          · rintro e w' ⟨rfl, rfl⟩
            exact ⟨_, rfl, .inl ⟨rfl, _, rfl, rfl⟩, p.h⟩
          intro u hu
          obtain rfl := go_fl hu
          refine hK _ ?_
          clear hK K1 hu
          iterate 4 (refine loose_wanted rfl (fun K hK => ?_); go_simp; refine hK _ ?_; clear hK K)
          refine loose_wanted rfl (fun K1 hK => ?_)
          go_simp
          refine ⟨fun p => (HashOf_any _ _ _ _ p.w).mono ?_, ?_⟩
          · rintro e w' ⟨rfl, hb⟩
            exact ⟨_, rfl, .inr (.inl ⟨rfl, _, _, _, _, rfl, rfl⟩), p.h.trans (hb.mono p.h.size)⟩
          intro u hu
          obtain rfl := go_ha hu
          refine hK _ ?_
          clear hK K1 hu
          refine loose_wanted rfl (fun K1 hK => ?_)
          go_simp
          refine ⟨fun p => (UnitOf_any _ p.w (hashZ_bd _ _ _ _).1 (hashZ_bd _ _ _ _).2).mono ?_, ?_⟩
          · rintro e w' ⟨m, rfl, rfl⟩
            exact ⟨_, rfl, .inr (.inr ⟨rfl, _, rfl, rfl⟩), below_drewN p.h m⟩
          intro u hu
          obtain rfl := go_un hu
          refine hK _ ?_
          clear hK K1 hu
          iterate 1 (refine loose_wanted rfl (fun K hK => ?_); go_simp; refine hK _ ?_; clear hK K)
          refine loose_nil (fun w5 hb5 => ?_)
          have hR5 := HU.out.of_block (hb5.block wo.heap.size utl)
          have hG5 : V.grownBy w5 (some wo.heap.size) := grown_past HGT.out hb5
          have x5 : w5.cell? ⟨wo.heap.size, n, none⟩ = some (.float .f32 0) := by have := hR5.cell hn; rw [this]; simp
          have y5 : w5.frozen? ⟨wo.heap.size, n, none⟩ = false := hR5.frozen _
          have HR5 := Lib.hid hR5; have HG5 := Lib.hid hG5
          clear hR5 hG5 hb5
          go_wp2_with fail
          go_roundw
          case rel =>
            refine ⟨n + 1, by omega, by go_num, (HR5.out.set n _).congr (fun j hj => ?_), grown_set HG5.out _ _⟩
            by_cases hjk : j = n
            · subst hjk
              simp [uni_f (sd := sd) (a := x / size) (b := y / size) hc hn]
            · simp only [hjk, if_false]
              by_cases h : j < n
              · rw [if_pos h, if_pos (by omega)]
              · rw [if_neg h, if_neg (by omega)]
          case measure => simp [intOf]; omega
        · have hne : n = 4 := by omega
          subst hne
          have u0 := hu.cell (show 0 < 4 by omega)
          have u1 := hu.cell (show 1 < 4 by omega)
          have u2 := hu.cell (show 2 < 4 by omega)
          have u3 := hu.cell (show 3 < 4 by omega)
          have pc := (P3.out.of_block (bk2 (w.heap.size + 1) (by omega))).cell (show c < 4 by omega)
          have QR := HQ.out.of_block (bk2 (w.heap.size + 1 + 1 + 1) (by omega))
          have GR : W.grownBy wr (some (w.heap.size + 1 + 1 + 1)) := grown_past HGR.out ((BVH.out.grown hgt (by omega) (by intro j hj; cases hj; omega)))
          have HQR := Lib.hid QR; have HG2 := Lib.hid GR
          simp at u0 u1 u2 u3
          have pl : w.heap.size + 1 < wr.heap.size := by omega
          have ql : w.heap.size + 1 + 1 + 1 < wr.heap.size := by omega
          clear hu hgt bk2 QR GR d0 d1
          obtain ⟨pv, hpv⟩ : ∃ pv, pv = p c := ⟨_, rfl⟩
          rw [← hpv] at pc
          have HPV := Lib.hid hpv; clear hpv
          go_wp2_with (first | ((with_reducible apply wpList_farith); rfl; rfl; rfl; intro _ _ _) | ((with_reducible apply wpList_up); rfl; exact Try.underlying38; exact Try.underlying51; intro _ _ _))
          rename_i a1 _ _ a2 _ _ a3 _ _ a4 _ _ a5 _ _
          have A := Lib.hid (And.intro a1 (And.intro a2 (And.intro a3 (And.intro a4 a5))))
          clear a1 a2 a3 a4 a5
          generalize hW4 : wr.drewN _ = W4
          have e2 : W4.cell? ⟨w.heap.size, 2, none⟩ = some (.float .f32 s) := by rw [← hW4]; exact d2
          have e3 : W4.cell? ⟨w.heap.size, 3, none⟩ = some (.float .f32 f) := by rw [← hW4]; exact d3
          have ep : W4.cell? ⟨w.heap.size + 1, c, none⟩ = some (.float .f32 pv) := by rw [← hW4]; exact pc
          have QR : W4.rowIs (w.heap.size + 1 + 1 + 1) 55 4 (grnK G c) := by rw [← hW4]; exact HQR.out
          have GR : W.grownBy W4 (some (w.heap.size + 1 + 1 + 1)) := grown_past HG2.out (by rw [← hW4]; exact below_drewN (Below.refl _ _) _)
          have eq : W4.heap.size = wr.heap.size := by rw [← hW4]; simp
          have l0 : w.heap.size < W4.heap.size := by omega
          have l1 : w.heap.size + 1 < W4.heap.size := by omega
          have l3 : w.heap.size + 1 + 1 + 1 < W4.heap.size := by omega
          have HQ4 := Lib.hid QR; have HG4 := Lib.hid GR
          have E := Lib.hid (And.intro e2 ep)
          clear hW4 d2 d3 pc HQR HG2 QR GR eq u0 u1 u2 u3 wtl utl pl ql hst
          have cz : (0 : Int) ≤ (c : Int) := by omega
          have c4i : (c : Int) < 4 := by omega
          refine wp_region_loose 8 (fun _ args u => LiPsi args u) (by kernel_rfl) (by kernel_rfl) ?_
          simp only [List.take_succ_cons, List.take_zero, List.drop_succ_cons, List.drop_zero]
          iterate 5 (refine loose_wanted rfl (fun K hK => ?_); go_simp; refine hK _ ?_; clear hK K)
          (first | ((with_reducible apply loose_farith); rfl; rfl; rfl; rfl; intro _ _) | ((with_reducible apply loose_up); rfl; rfl; exact Try.underlying38; exact Try.underlying51; intro _ _))
          (first | ((with_reducible apply loose_farith); rfl; rfl; rfl; rfl; intro _ _) | ((with_reducible apply loose_up); rfl; rfl; exact Try.underlying38; exact Try.underlying51; intro _ _))
          rename_i a6 _ a7
          refine loose_wanted rfl (fun K1 hK => ?_)
          go_simp
          refine ⟨fun p => (LimitOf_any _ _ _ p.w).mono ?_, ?_⟩
          · rintro e w' ⟨rfl, rfl⟩
            exact ⟨_, rfl, ⟨_, rfl, rfl⟩, p.h⟩
          intro u hu
          obtain rfl := li_own hu
          refine hK _ ?_
          clear hK K1 hu
          refine loose_nil (fun w5 hb5 => ?_)
          clear e2 e3 ep
          have hlw := hb5.size
          have e2 := (hb5.cell (p := ⟨w.heap.size, 2, none⟩) l0).trans (E.out.1)
          have ep := (hb5.cell (p := ⟨w.heap.size + 1, c, none⟩) l1).trans (E.out.2)
          have QR := HQ4.out.of_block (hb5.block _ l3)
          have GR : W.grownBy w5 (some (w.heap.size + 1 + 1 + 1)) := grown_past HG4.out hb5
          have m0 : w.heap.size < w5.heap.size := by omega
          have m1 : w.heap.size + 1 < w5.heap.size := by omega
          have m3 : w.heap.size + 1 + 1 + 1 < w5.heap.size := by omega
          clear HQ4 HG4 hb5 l0 l1 l3 hlw E
          have HQ4 := Lib.hid QR; have HG4 := Lib.hid GR
          clear QR GR
          go_wp2_with fail
          refine wp_region_loose 13 (fun _ args u => FxPsi args u) (by kernel_rfl) (by kernel_rfl) ?_
          simp only [List.take_succ_cons, List.take_zero, List.drop_succ_cons, List.drop_zero]
          iterate 7 (refine loose_wanted rfl (fun K hK => ?_); go_simp; refine hK _ ?_; clear hK K)
          (first | ((with_reducible apply loose_farith); rfl; rfl; rfl; rfl; intro _ _) | ((with_reducible apply loose_up); rfl; rfl; exact Try.underlying38; exact Try.underlying51; intro _ _))
          iterate 1 (refine loose_wanted rfl (fun K hK => ?_); go_simp; refine hK _ ?_; clear hK K)
          (first | ((with_reducible apply loose_farith); rfl; rfl; rfl; rfl; intro _ _) | ((with_reducible apply loose_up); rfl; rfl; exact Try.underlying38; exact Try.underlying51; intro _ _))
          (first | ((with_reducible apply loose_farith); rfl; rfl; rfl; rfl; intro _ _) | ((with_reducible apply loose_up); rfl; rfl; exact Try.underlying38; exact Try.underlying51; intro _ _))
          rename_i a8 _ a9 _ a10
          refine loose_wanted rfl (fun K1 hK => ?_)
          go_simp
          refine ⟨fun p => (Fix_any _ p.w).mono ?_, ?_⟩
          · rintro e w' ⟨rfl, rfl⟩
            exact ⟨_, rfl, ⟨_, rfl, rfl⟩, p.h⟩
          intro u hu
          obtain rfl := fx_own hu
          refine hK _ ?_
          clear hK K1 hu
          iterate 1 (refine loose_wanted rfl (fun K hK => ?_); go_simp; refine hK _ ?_; clear hK K)
          refine loose_nil (fun w6 hb6 => ?_)
          obtain ⟨a1, a2, a3, a4, a5⟩ := A.out
          have RV : cn .f32 _ = G c := (grn_FR2 a1 a2 a3 a4 a5 a6 a7 a8 a9 a10).trans (by rw [HG.out, grnP_lt hc, HPV.out])
          clear a1 a2 a3 a4 a5 a6 a7 a8 a9 a10 A e2 ep
          have QR := HQ4.out.of_block (hb6.block _ m3)
          have GR : W.grownBy w6 (some (w.heap.size + 1 + 1 + 1)) := grown_past HG4.out hb6
          have x6 : w6.cell? ⟨w.heap.size + 1 + 1 + 1, c, none⟩ = some (.float .f32 0) := by
            have := QR.cell (show c < 4 by omega)
            rw [this]; unfold grnK; rw [if_neg (by omega), if_neg (by omega)]
          have y6 : w6.frozen? ⟨w.heap.size + 1 + 1 + 1, c, none⟩ = false := QR.frozen _
          have HQ6 := Lib.hid QR; have HG6 := Lib.hid GR
          clear QR GR hb6 HQ4 HG4
          go_wp2_with fail
          go_roundw
          case rel =>
            refine ⟨c + 1, by omega, by go_num, (HQ6.out.set c _).congr (fun j hj => ?_), grown_set HG6.out _ _⟩
            unfold grnK
            by_cases hjk : j = c
            · subst hjk
              rw [if_pos rfl, if_pos (by omega)]
            · rw [if_neg hjk]
              by_cases h : j < c
              · rw [if_pos h, if_pos (by omega)]
              · rw [if_neg h, if_neg (show ¬ j < c + 1 by omega)]
          case measure => simp [intOf]; omega
    · have hce : c = 3 := by omega
      subst hce
      have q0 := hq.cell (show 0 < 4 by omega)
      have q1 := hq.cell (show 1 < 4 by omega)
      have q2 := hq.cell (show 2 < 4 by omega)
      have q3 := hq.cell (show 3 < 4 by omega)
      simp [grnK] at q0 q1 q2 q3
      have Z1 : Pix4 wr (w.heap.size + 1 + 1) 0 0 0 0 := by
        have h := ZZ.out
        have bb := bk (w.heap.size + 1 + 1) (by omega)
        exact ⟨(World.cell?_of_block bb).trans h.c0, (World.cell?_of_block bb).trans h.c1, (World.cell?_of_block bb).trans h.c2, (World.cell?_of_block bb).trans h.c3, fun o => (World.frozen?_of_block bb).trans (h.f o)⟩
      have B1 : Below w.heap.size w wr := BB.out.grown hgr (by omega) (by intro j hj; cases hj; omega)
      clear hq hgr bk P2 d0 d1 d2 d3 d4
      obtain ⟨z0, z1, z2, z3, zf⟩ := Z1
      go_wp2_with fail
      refine bodyPost_ret (v := .agg #[.float .f32 (G 0), .float .f32 (G 1), .float .f32 (G 2), .float .f32 (G 3)]) (by simp [results, Try.results85, go_sem, z0, z1, z2, z3]) rfl ⟨⟨G, rfl, HG.out⟩, ?_⟩
      exact (((B1.setCell (by first | (simp; done) | (simp; omega) | omega) _).setCell (by first | (simp; done) | (simp; omega) | omega) _).setCell (by first | (simp; done) | (simp; omega) | omega) _).setCell (by first | (simp; done) | (simp; omega) | omega) _
set_option maxRecDepth 100000 in
set_option maxHeartbeats 1600000 in
theorem GrainedOf_true (seed size : Int) (s f : Nat) (num x y : Int) (p : Nat → Nat) (w : World) (hs : 1 ≤ size ∧ size ≤ 16) (hx : -9223372036854775808 ≤ x ∧ x ≤ 9223372036854775807) (hy : -9223372036854775808 ≤ y ∧ y ≤ 9223372036854775807) :
    Calls Try.prog 85 #[.agg #[.int .u32 seed, .int .i64 size, .float .f32 s, .float .f32 f, .bool true], .int .i64 num, .int .i64 x, .int .i64 y, .agg #[.float .f32 (p 0), .float .f32 (p 1), .float .f32 (p 2), .float .f32 (p 3)]] w fun e w' =>
      (∃ q : Nat → Nat, e = .returned (.agg #[.float .f32 (q 0), .float .f32 (q 1), .float .f32 (q 2), .float .f32 (q 3)]) ∧ q = grnP (bits .xor .u32 seed (num % 4294967296)) (x / size) (y / size) true s f p) ∧ Below w.heap.size w w' := by
  have hs' := Lib.hid hs; have hx' := Lib.hid hx; have hy' := Lib.hid hy
  clear hs hx hy
  obtain ⟨sd, hsd⟩ : ∃ sd, sd = bits .xor .u32 seed (num % 4294967296) := ⟨_, rfl⟩
  rw [← hsd]
  have esd := hsd.symm; clear hsd
  go_enter Try.func85, Try.ntmps85
  go_wp2_with (first | (go_at_call 55; refine (Fix_any _ _).mono ?_; rintro e w' ⟨rfl, rfl⟩))
  obtain ⟨G, hG⟩ : ∃ G, G = grnP sd (x / size) (y / size) true s f p := ⟨_, rfl⟩
  have G3 : cn .f32 (p 3) = G 3 := by rw [hG]; rfl
  have HG := Lib.hid hG; clear hG
  obtain ⟨W, hW⟩ : ∃ W, W = (((w.alloc (.cells #[.int .u32 seed, .int .i64 size, .float .f32 s, .float .f32 f, .bool true] 113)).alloc (.cells #[.float .f32 (p 0), .float .f32 (p 1), .float .f32 (p 2), .float .f32 (p 3)] 55)).alloc (.cells #[.float .f32 0, .float .f32 0, .float .f32 0, .float .f32 0] 55)).alloc (.cells #[.float .f32 0, .float .f32 0, .float .f32 0, .float .f32 (cn .f32 (p 3))] 55) := ⟨_, rfl⟩
  have c0 : W.cell? ⟨w.heap.size, 0, none⟩ = some (.int .u32 seed) := by rw [hW]; simp [go_sem]
  have c1 : W.cell? ⟨w.heap.size, 1, none⟩ = some (.int .i64 size) := by rw [hW]; simp [go_sem]
  have c2 : W.cell? ⟨w.heap.size, 2, none⟩ = some (.float .f32 s) := by rw [hW]; simp [go_sem]
  have c3 : W.cell? ⟨w.heap.size, 3, none⟩ = some (.float .f32 f) := by rw [hW]; simp [go_sem]
  have c4 : W.cell? ⟨w.heap.size, 4, none⟩ = some (.bool true) := by rw [hW]; simp [go_sem]
  have P0 : W.rowIs (w.heap.size + 1) 55 4 (fun j => .float .f32 (pick4 (p 0) (p 1) (p 2) (p 3) j)) := by
    rw [hW]
    have := ((row4 (w.alloc (.cells #[.int .u32 seed, .int .i64 size, .float .f32 s, .float .f32 f, .bool true] 113)) (p 0) (p 1) (p 2) (p 3) 55).alloc (.cells #[.float .f32 0, .float .f32 0, .float .f32 0, .float .f32 0] 55)).alloc (.cells #[.float .f32 0, .float .f32 0, .float .f32 0, .float .f32 (cn .f32 (p 3))] 55)
    simpa using this
  have P1 : W.rowIs (w.heap.size + 1) 55 4 (fun j => .float .f32 (p j)) := P0.congr (fun i hi => by rcases (show i = 0 ∨ i = 1 ∨ i = 2 ∨ i = 3 by omega) with rfl | rfl | rfl | rfl <;> rfl)
  have Z0 : Pix4 W (w.heap.size + 1 + 1) 0 0 0 0 := by rw [hW]; exact ⟨by simp [go_sem], by simp [go_sem], by simp [go_sem], by simp [go_sem], fun o => by simp [go_sem]⟩
  have Q0 : W.rowIs (w.heap.size + 1 + 1 + 1) 55 4 (grnK G 0) := by
    have h := row4 (((w.alloc (.cells #[.int .u32 seed, .int .i64 size, .float .f32 s, .float .f32 f, .bool true] 113)).alloc (.cells #[.float .f32 (p 0), .float .f32 (p 1), .float .f32 (p 2), .float .f32 (p 3)] 55)).alloc (.cells #[.float .f32 0, .float .f32 0, .float .f32 0, .float .f32 0] 55)) 0 0 0 (cn .f32 (p 3)) 55
    rw [← hW] at h
    simp only [World.size_alloc] at h
    exact h.congr (fun i hi => by rcases (show i = 0 ∨ i = 1 ∨ i = 2 ∨ i = 3 by omega) with rfl | rfl | rfl | rfl <;> simp [pick4, grnK, G3])
  have B0 : Below w.heap.size w W := by rw [hW]; (repeat (first | exact Below.refl _ _ | assumption | (refine Below.setCell ?_ (by first | (simp; done) | (simp; omega) | omega) _) | (refine Below.drew ?_) | (refine below_drewN ?_ _) | (refine Below.alloc ?_ (by first | (simp; done) | (simp; omega) | omega) _) | (refine Below.trans ?_ (Below.mono (by assumption) (by first | (simp; done) | (simp; omega) | omega)))))
  have sW : W.heap.size = w.heap.size + 1 + 1 + 1 + 1 := by rw [hW]; simp
  rw [← hW]
  have CC := Lib.hid (And.intro c0 (And.intro c1 (And.intro c2 (And.intro c3 c4))))
  have SW := Lib.hid sW; have PP := Lib.hid P1; have ZZ := Lib.hid Z0; have BB := Lib.hid B0; have QQ := Lib.hid Q0
  clear hW c0 c1 c2 c3 c4 P0 P1 Z0 Q0 B0 sW G3
  go_loopw [22] (fun s22 wr => ∃ c : Nat, c ≤ 3 ∧ s22 = .int .i64 c ∧ wr.rowIs (w.heap.size + 1 + 1 + 1) 55 4 (grnK G c) ∧ W.grownBy wr (some (w.heap.size + 1 + 1 + 1))) (fun i _ => 3 - (intOf i).toNat)
  case atStart => exact ⟨0, by omega, rfl, QQ.out, World.grownBy.refl _ _⟩
  case round =>
    obtain ⟨c, hc3, rfl, hq, hgr⟩ := hrel
    have sW := SW.out
    have bk : ∀ b, b < w.heap.size + 1 + 1 + 1 → wr.heap[b]? = W.heap[b]? := fun b hb => hgr.block b (by omega) (by simp; omega)
    obtain ⟨c0, c1, c2, c3, c4⟩ := CC.out
    have d0 := (World.cell?_of_block (a := ⟨w.heap.size, 0, none⟩) (bk w.heap.size (by omega))).trans c0
    have d1 := (World.cell?_of_block (a := ⟨w.heap.size, 1, none⟩) (bk w.heap.size (by omega))).trans c1
    have d2 := (World.cell?_of_block (a := ⟨w.heap.size, 2, none⟩) (bk w.heap.size (by omega))).trans c2
    have d3 := (World.cell?_of_block (a := ⟨w.heap.size, 3, none⟩) (bk w.heap.size (by omega))).trans c3
    have d4 := (World.cell?_of_block (a := ⟨w.heap.size, 4, none⟩) (bk w.heap.size (by omega))).trans c4
    have P2 := PP.out.of_block (bk (w.heap.size + 1) (by omega))
    have hsr := hgr.size
    have wl : w.heap.size < wr.heap.size := by omega
    clear c0 c1 c2 c3 c4
    by_cases hc : c < 3
    · have pc := P2.cell (show c < 4 by omega)
      have HQ := Lib.hid hq; have HGR := Lib.hid hgr; have DD := Lib.hid (And.intro d0 (And.intro d1 (And.intro d2 d3))); have P3 := Lib.hid P2
      clear hq hgr bk P2
      have hci : (c : Int) < 3 := by omega
      go_wp2_with fail
      obtain ⟨V, hV⟩ : ∃ V, V = wr.alloc (.cells #[.float .f32 0, .float .f32 0, .float .f32 0, .float .f32 0] 54) := ⟨_, rfl⟩
      rw [← hV]
      have U0 : V.rowIs wr.heap.size 54 4 (fun _ => .float .f32 0) := by
        rw [hV]; exact (row4 wr 0 0 0 0 54).congr (fun i hi => by rcases (show i = 0 ∨ i = 1 ∨ i = 2 ∨ i = 3 by omega) with rfl | rfl | rfl | rfl <;> rfl)
      have BV : Below wr.heap.size wr V := by rw [hV]; (repeat (first | exact Below.refl _ _ | assumption | (refine Below.setCell ?_ (by first | (simp; done) | (simp; omega) | omega) _) | (refine Below.drew ?_) | (refine below_drewN ?_ _) | (refine Below.alloc ?_ (by first | (simp; done) | (simp; omega) | omega) _) | (refine Below.trans ?_ (Below.mono (by assumption) (by first | (simp; done) | (simp; omega) | omega)))))
      have sV : V.heap.size = wr.heap.size + 1 := by rw [hV]; simp
      have UU := Lib.hid U0; have BVH := Lib.hid BV; have SV := Lib.hid sV
      clear hV U0 BV sV d0 d1 d2 d3 d4 pc
      obtain ⟨wo, rfl⟩ : ∃ wo : World, wo = wr := ⟨_, rfl⟩
      go_loopw [28] (fun s28 wr => ∃ n : Nat, n ≤ 4 ∧ s28 = .int .i64 n ∧ wr.rowIs wo.heap.size 54 4 (fun j => .float .f32 (if j < n then uniF sd (x / size) (y / size) (chanZ true c) j else 0)) ∧ V.grownBy wr (some wo.heap.size)) (fun i _ => 4 - (intOf i).toNat)
      case atStart => exact ⟨0, by omega, rfl, UU.out.congr (fun j _ => by simp), World.grownBy.refl _ _⟩
      case round =>
        obtain ⟨n, hn4, rfl, hu, hgt⟩ := hrel
        have sV := SV.out
        have hst := hgt.size
        have bk2 : ∀ b, b < wo.heap.size → wr.heap[b]? = wo.heap[b]? := fun b hb => (hgt.block b (by omega) (by simp; omega)).trans (BVH.out.block b hb)
        obtain ⟨c0, c1, c2, c3⟩ := DD.out
        have d0 := (World.cell?_of_block (a := ⟨w.heap.size, 0, none⟩) (bk2 w.heap.size wl)).trans c0
        have d1 := (World.cell?_of_block (a := ⟨w.heap.size, 1, none⟩) (bk2 w.heap.size wl)).trans c1
        have d2 := (World.cell?_of_block (a := ⟨w.heap.size, 2, none⟩) (bk2 w.heap.size wl)).trans c2
        have d3 := (World.cell?_of_block (a := ⟨w.heap.size, 3, none⟩) (bk2 w.heap.size wl)).trans c3
        have wtl : w.heap.size < wr.heap.size := by omega
        have utl : wo.heap.size < wr.heap.size := by omega
        have HU := Lib.hid hu; have HGT := Lib.hid hgt
        clear c0 c1 c2 c3
        by_cases hn : n < 4
        · have hni : (n : Int) < 4 := by omega
          have w4 : IntKind.i64.wrap (4 * (c : Int)) = 4 * (c : Int) := by rw [IntKind.wrap_i64]; omega
          have w5 : IntKind.i64.wrap (4 * (c : Int) + n) = 4 * (c : Int) + n := by rw [IntKind.wrap_i64]; omega
          have w6 : IntKind.i64.wrap (n : Int) = n := by rw [IntKind.wrap_i64]; omega
          clear hu hgt bk2
          go_wp2_with fail
          refine wp_region_loose 21 (GoPsi size) (by kernel_rfl) (by kernel_rfl) ?_
          simp only [List.take_succ_cons, List.take_zero, List.drop_succ_cons, List.drop_zero]
          iterate 9 (refine loose_wanted rfl (fun K hK => ?_); go_simp; refine hK _ ?_; clear hK K)
          refine loose_wanted rfl (fun K1 hK => ?_)
          go_simp
          refine ⟨fun p => (floorOver_any _ _ p.w hx'.out hs'.out).mono ?_, ?_⟩
          · rintro e w' ⟨rfl, rfl⟩
            exact ⟨_, rfl, .inl ⟨rfl, _, rfl, rfl⟩, p.h⟩
          intro u hu
          obtain rfl := go_fl hu
          refine hK _ ?_
          clear hK K1 hu
          iterate 3 (refine loose_wanted rfl (fun K hK => ?_); go_simp; refine hK _ ?_; clear hK K)
          refine loose_wanted rfl (fun K1 hK => ?_)
          go_simp
          refine ⟨fun p => (floorOver_any _ _ p.w hy'.out hs'.out).mono ?_, ?_⟩
          · rintro e w' ⟨rfl, rfl⟩
            exact ⟨_, rfl, .inl ⟨rfl, _, rfl, rfl⟩, p.h⟩
          intro u hu
          obtain rfl := go_fl hu
          refine hK _ ?_
          clear hK K1 hu
          iterate 4 (refine loose_wanted rfl (fun K hK => ?_); go_simp; refine hK _ ?_; clear hK K)
          refine loose_wanted rfl (fun K1 hK => ?_)
          go_simp
          refine ⟨fun p => (HashOf_any _ _ _ _ p.w).mono ?_, ?_⟩
          · rintro e w' ⟨rfl, hb⟩
            exact ⟨_, rfl, .inr (.inl ⟨rfl, _, _, _, _, rfl, rfl⟩), p.h.trans (hb.mono p.h.size)⟩
          intro u hu
          obtain rfl := go_ha hu
          refine hK _ ?_
          clear hK K1 hu
          refine loose_wanted rfl (fun K1 hK => ?_)
          go_simp
          refine ⟨fun p => (UnitOf_any _ p.w (hashZ_bd _ _ _ _).1 (hashZ_bd _ _ _ _).2).mono ?_, ?_⟩
          · rintro e w' ⟨m, rfl, rfl⟩
            exact ⟨_, rfl, .inr (.inr ⟨rfl, _, rfl, rfl⟩), below_drewN p.h m⟩
          intro u hu
          obtain rfl := go_un hu
          refine hK _ ?_
          clear hK K1 hu
          iterate 1 (refine loose_wanted rfl (fun K hK => ?_); go_simp; refine hK _ ?_; clear hK K)
          refine loose_nil (fun w5 hb5 => ?_)
          have hR5 := HU.out.of_block (hb5.block wo.heap.size utl)
          have hG5 : V.grownBy w5 (some wo.heap.size) := grown_past HGT.out hb5
          have x5 : w5.cell? ⟨wo.heap.size, n, none⟩ = some (.float .f32 0) := by have := hR5.cell hn; rw [this]; simp
          have y5 : w5.frozen? ⟨wo.heap.size, n, none⟩ = false := hR5.frozen _
          have HR5 := Lib.hid hR5; have HG5 := Lib.hid hG5
          clear hR5 hG5 hb5
          go_wp2_with fail
          go_roundw
          case rel =>
            refine ⟨n + 1, by omega, by go_num, (HR5.out.set n _).congr (fun j hj => ?_), grown_set HG5.out _ _⟩
            by_cases hjk : j = n
            · subst hjk
              simp [uni_t (sd := sd) (a := x / size) (b := y / size) hc hn]
            · simp only [hjk, if_false]
              by_cases h : j < n
              · rw [if_pos h, if_pos (by omega)]
              · rw [if_neg h, if_neg (by omega)]
          case measure => simp [intOf]; omega
        · have hne : n = 4 := by omega
          subst hne
          have u0 := hu.cell (show 0 < 4 by omega)
          have u1 := hu.cell (show 1 < 4 by omega)
          have u2 := hu.cell (show 2 < 4 by omega)
          have u3 := hu.cell (show 3 < 4 by omega)
          have pc := (P3.out.of_block (bk2 (w.heap.size + 1) (by omega))).cell (show c < 4 by omega)
          have QR := HQ.out.of_block (bk2 (w.heap.size + 1 + 1 + 1) (by omega))
          have GR : W.grownBy wr (some (w.heap.size + 1 + 1 + 1)) := grown_past HGR.out ((BVH.out.grown hgt (by omega) (by intro j hj; cases hj; omega)))
          have HQR := Lib.hid QR; have HG2 := Lib.hid GR
          simp at u0 u1 u2 u3
          have pl : w.heap.size + 1 < wr.heap.size := by omega
          have ql : w.heap.size + 1 + 1 + 1 < wr.heap.size := by omega
          clear hu hgt bk2 QR GR d0 d1
          obtain ⟨pv, hpv⟩ : ∃ pv, pv = p c := ⟨_, rfl⟩
          rw [← hpv] at pc
          have HPV := Lib.hid hpv; clear hpv
          go_wp2_with (first | ((with_reducible apply wpList_farith); rfl; rfl; rfl; intro _ _ _) | ((with_reducible apply wpList_up); rfl; exact Try.underlying38; exact Try.underlying51; intro _ _ _))
          rename_i a1 _ _ a2 _ _ a3 _ _ a4 _ _ a5 _ _
          have A := Lib.hid (And.intro a1 (And.intro a2 (And.intro a3 (And.intro a4 a5))))
          clear a1 a2 a3 a4 a5
          generalize hW4 : wr.drewN _ = W4
          have e2 : W4.cell? ⟨w.heap.size, 2, none⟩ = some (.float .f32 s) := by rw [← hW4]; exact d2
          have e3 : W4.cell? ⟨w.heap.size, 3, none⟩ = some (.float .f32 f) := by rw [← hW4]; exact d3
          have ep : W4.cell? ⟨w.heap.size + 1, c, none⟩ = some (.float .f32 pv) := by rw [← hW4]; exact pc
          have QR : W4.rowIs (w.heap.size + 1 + 1 + 1) 55 4 (grnK G c) := by rw [← hW4]; exact HQR.out
          have GR : W.grownBy W4 (some (w.heap.size + 1 + 1 + 1)) := grown_past HG2.out (by rw [← hW4]; exact below_drewN (Below.refl _ _) _)
          have eq : W4.heap.size = wr.heap.size := by rw [← hW4]; simp
          have l0 : w.heap.size < W4.heap.size := by omega
          have l1 : w.heap.size + 1 < W4.heap.size := by omega
          have l3 : w.heap.size + 1 + 1 + 1 < W4.heap.size := by omega
          have HQ4 := Lib.hid QR; have HG4 := Lib.hid GR
          have E := Lib.hid (And.intro e2 ep)
          clear hW4 d2 d3 pc HQR HG2 QR GR eq u0 u1 u2 u3 wtl utl pl ql hst
          have cz : (0 : Int) ≤ (c : Int) := by omega
          have c4i : (c : Int) < 4 := by omega
          refine wp_region_loose 8 (fun _ args u => LiPsi args u) (by kernel_rfl) (by kernel_rfl) ?_
          simp only [List.take_succ_cons, List.take_zero, List.drop_succ_cons, List.drop_zero]
          iterate 5 (refine loose_wanted rfl (fun K hK => ?_); go_simp; refine hK _ ?_; clear hK K)
          (first | ((with_reducible apply loose_farith); rfl; rfl; rfl; rfl; intro _ _) | ((with_reducible apply loose_up); rfl; rfl; exact Try.underlying38; exact Try.underlying51; intro _ _))
          (first | ((with_reducible apply loose_farith); rfl; rfl; rfl; rfl; intro _ _) | ((with_reducible apply loose_up); rfl; rfl; exact Try.underlying38; exact Try.underlying51; intro _ _))
          rename_i a6 _ a7
          refine loose_wanted rfl (fun K1 hK => ?_)
          go_simp
          refine ⟨fun p => (LimitOf_any _ _ _ p.w).mono ?_, ?_⟩
          · rintro e w' ⟨rfl, rfl⟩
            exact ⟨_, rfl, ⟨_, rfl, rfl⟩, p.h⟩
          intro u hu
          obtain rfl := li_own hu
          refine hK _ ?_
          clear hK K1 hu
          refine loose_nil (fun w5 hb5 => ?_)
          clear e2 e3 ep
          have hlw := hb5.size
          have e2 := (hb5.cell (p := ⟨w.heap.size, 2, none⟩) l0).trans (E.out.1)
          have ep := (hb5.cell (p := ⟨w.heap.size + 1, c, none⟩) l1).trans (E.out.2)
          have QR := HQ4.out.of_block (hb5.block _ l3)
          have GR : W.grownBy w5 (some (w.heap.size + 1 + 1 + 1)) := grown_past HG4.out hb5
          have m0 : w.heap.size < w5.heap.size := by omega
          have m1 : w.heap.size + 1 < w5.heap.size := by omega
          have m3 : w.heap.size + 1 + 1 + 1 < w5.heap.size := by omega
          clear HQ4 HG4 hb5 l0 l1 l3 hlw E
          have HQ4 := Lib.hid QR; have HG4 := Lib.hid GR
          clear QR GR
          go_wp2_with fail
          refine wp_region_loose 13 (fun _ args u => FxPsi args u) (by kernel_rfl) (by kernel_rfl) ?_
          simp only [List.take_succ_cons, List.take_zero, List.drop_succ_cons, List.drop_zero]
          iterate 7 (refine loose_wanted rfl (fun K hK => ?_); go_simp; refine hK _ ?_; clear hK K)
          (first | ((with_reducible apply loose_farith); rfl; rfl; rfl; rfl; intro _ _) | ((with_reducible apply loose_up); rfl; rfl; exact Try.underlying38; exact Try.underlying51; intro _ _))
          iterate 1 (refine loose_wanted rfl (fun K hK => ?_); go_simp; refine hK _ ?_; clear hK K)
          (first | ((with_reducible apply loose_farith); rfl; rfl; rfl; rfl; intro _ _) | ((with_reducible apply loose_up); rfl; rfl; exact Try.underlying38; exact Try.underlying51; intro _ _))
          (first | ((with_reducible apply loose_farith); rfl; rfl; rfl; rfl; intro _ _) | ((with_reducible apply loose_up); rfl; rfl; exact Try.underlying38; exact Try.underlying51; intro _ _))
          rename_i a8 _ a9 _ a10
          refine loose_wanted rfl (fun K1 hK => ?_)
          go_simp
          refine ⟨fun p => (Fix_any _ p.w).mono ?_, ?_⟩
          · rintro e w' ⟨rfl, rfl⟩
            exact ⟨_, rfl, ⟨_, rfl, rfl⟩, p.h⟩
          intro u hu
          obtain rfl := fx_own hu
          refine hK _ ?_
          clear hK K1 hu
          iterate 1 (refine loose_wanted rfl (fun K hK => ?_); go_simp; refine hK _ ?_; clear hK K)
          refine loose_nil (fun w6 hb6 => ?_)
          obtain ⟨a1, a2, a3, a4, a5⟩ := A.out
          have RV : cn .f32 _ = G c := (grn_FR2 a1 a2 a3 a4 a5 a6 a7 a8 a9 a10).trans (by rw [HG.out, grnP_lt hc, HPV.out])
          clear a1 a2 a3 a4 a5 a6 a7 a8 a9 a10 A e2 ep
          have QR := HQ4.out.of_block (hb6.block _ m3)
          have GR : W.grownBy w6 (some (w.heap.size + 1 + 1 + 1)) := grown_past HG4.out hb6
          have x6 : w6.cell? ⟨w.heap.size + 1 + 1 + 1, c, none⟩ = some (.float .f32 0) := by
            have := QR.cell (show c < 4 by omega)
            rw [this]; unfold grnK; rw [if_neg (by omega), if_neg (by omega)]
          have y6 : w6.frozen? ⟨w.heap.size + 1 + 1 + 1, c, none⟩ = false := QR.frozen _
          have HQ6 := Lib.hid QR; have HG6 := Lib.hid GR
          clear QR GR hb6 HQ4 HG4
          go_wp2_with fail
          go_roundw
          case rel =>
            refine ⟨c + 1, by omega, by go_num, (HQ6.out.set c _).congr (fun j hj => ?_), grown_set HG6.out _ _⟩
            unfold grnK
            by_cases hjk : j = c
            · subst hjk
              rw [if_pos rfl, if_pos (by omega)]
            · rw [if_neg hjk]
              by_cases h : j < c
              · rw [if_pos h, if_pos (by omega)]
              · rw [if_neg h, if_neg (show ¬ j < c + 1 by omega)]
          case measure => simp [intOf]; omega
    · have hce : c = 3 := by omega
      subst hce
      have q0 := hq.cell (show 0 < 4 by omega)
      have q1 := hq.cell (show 1 < 4 by omega)
      have q2 := hq.cell (show 2 < 4 by omega)
      have q3 := hq.cell (show 3 < 4 by omega)
      simp [grnK] at q0 q1 q2 q3
      have Z1 : Pix4 wr (w.heap.size + 1 + 1) 0 0 0 0 := by
        have h := ZZ.out
        have bb := bk (w.heap.size + 1 + 1) (by omega)
        exact ⟨(World.cell?_of_block bb).trans h.c0, (World.cell?_of_block bb).trans h.c1, (World.cell?_of_block bb).trans h.c2, (World.cell?_of_block bb).trans h.c3, fun o => (World.frozen?_of_block bb).trans (h.f o)⟩
      have B1 : Below w.heap.size w wr := BB.out.grown hgr (by omega) (by intro j hj; cases hj; omega)
      clear hq hgr bk P2 d0 d1 d2 d3 d4
      obtain ⟨z0, z1, z2, z3, zf⟩ := Z1
      go_wp2_with fail
      refine bodyPost_ret (v := .agg #[.float .f32 (G 0), .float .f32 (G 1), .float .f32 (G 2), .float .f32 (G 3)]) (by simp [results, Try.results85, go_sem, z0, z1, z2, z3]) rfl ⟨⟨G, rfl, HG.out⟩, ?_⟩
      exact (((B1.setCell (by first | (simp; done) | (simp; omega) | omega) _).setCell (by first | (simp; done) | (simp; omega) | omega) _).setCell (by first | (simp; done) | (simp; omega) | omega) _).setCell (by first | (simp; done) | (simp; omega) | omega) _
theorem GrainedOf_any (seed size : Int) (s f : Nat) (mono : Bool) (num x y : Int) (p : Nat → Nat) (w : World) (hs : 1 ≤ size ∧ size ≤ 16) (hx : -9223372036854775808 ≤ x ∧ x ≤ 9223372036854775807) (hy : -9223372036854775808 ≤ y ∧ y ≤ 9223372036854775807) :
    Calls Try.prog 85 #[.agg #[.int .u32 seed, .int .i64 size, .float .f32 s, .float .f32 f, .bool mono], .int .i64 num, .int .i64 x, .int .i64 y, .agg #[.float .f32 (p 0), .float .f32 (p 1), .float .f32 (p 2), .float .f32 (p 3)]] w fun e w' =>
      (∃ q : Nat → Nat, e = .returned (.agg #[.float .f32 (q 0), .float .f32 (q 1), .float .f32 (q 2), .float .f32 (q 3)]) ∧ q = grnP (bits .xor .u32 seed (num % 4294967296)) (x / size) (y / size) mono s f p) ∧ Below w.heap.size w w' := by
  cases mono
  · exact GrainedOf_false seed size s f num x y p w hs hx hy
  · exact GrainedOf_true seed size s f num x y p w hs hx hy
end Go.Proofs.Ytmnmcmmhnbnndaa

namespace Go.Proofs.Ytmnmcmmhnbnndaa
open Go.RowKit
/-- Frames' errors come first. -/
theorem fraErr_ok {x y v h : Int} {len : Nat} (he : fraErr x y v h len = 0) : regErr x y v h = 0 ∧ (len : Int) = 4 * v * h := by
  unfold fraErr at he
  by_cases h1 : regErr x y v h = 0
  · rw [if_pos h1] at he
    by_cases h2 : (len : Int) = 4 * v * h
    · exact ⟨h1, h2⟩
    · rw [if_neg h2] at he; cases he
  · rw [if_neg h1] at he; exact absurd he h1
theorem place_in {x v : Int} {k : Nat} {h y : Int} (r1 : 1 ≤ v) (r2 : v ≤ 256) (r4 : h ≤ 256) (r7 : -1048576 ≤ x) (r8 : x ≤ 1048576 - v) (r9 : -1048576 ≤ y) (r10 : y ≤ 1048576 - h) (hk : (k : Int) < v * h) :
    (-9223372036854775808 ≤ x + (k : Int) % v ∧ x + (k : Int) % v ≤ 9223372036854775807) ∧ (-9223372036854775808 ≤ y + (k : Int) / v ∧ y + (k : Int) / v ≤ 9223372036854775807) := by
  have m0 : 0 ≤ (k : Int) % v := Int.emod_nonneg _ (by omega)
  have m1 : (k : Int) % v < v := Int.emod_lt_of_pos _ (by omega)
  have m2 : 0 ≤ (k : Int) / v := Int.ediv_nonneg (by omega) (by omega)
  have m3 : (k : Int) / v < h := Int.ediv_lt_of_lt_mul (by omega) (by rw [Int.mul_comm]; exact hk)
  omega
/-- A frame with grain, pixel by pixel. -/
def grnG (sd x y v size : Int) (mono : Bool) (s f : Nat) (fs : Nat → Nat) (k : Nat) : Nat → Nat := grnP sd ((x + (k : Int) % v) / size) ((y + (k : Int) / v) / size) mono s f (fun c => fs (4 * k + c))
theorem grnP_cn {sd a b : Int} {mono : Bool} {s f : Nat} {p : Nat → Nat} {c : Nat} : cn .f32 (grnP sd a b mono s f p c) = grnP sd a b mono s f p c := by
  unfold grnP
  split
  · exact cn_fop _ _ _ _
  · exact cn_fop _ _ _ _
  · exact cn_fop _ _ _ _
  · exact cn_cn _ _
set_option maxRecDepth 100000 in
set_option maxHeartbeats 1600000 in
theorem Grain_closure (seed size : Int) (s f : Nat) (mono : Bool) (num x y : Int) (p : Nat → Nat) (pg pn : Nat) (w : World) (hs : 1 ≤ size ∧ size ≤ 16) (hx : -9223372036854775808 ≤ x ∧ x ≤ 9223372036854775807) (hy : -9223372036854775808 ≤ y ∧ y ≤ 9223372036854775807)
    (hp : ∀ c, c < 4 → p c < 2 ^ FloatKind.f32.format.width)
    (g0 : w.cell? ⟨pg, 0, none⟩ = some (.int .u32 seed)) (g1 : w.cell? ⟨pg, 1, none⟩ = some (.int .i64 size)) (g2 : w.cell? ⟨pg, 2, none⟩ = some (.float .f32 s)) (g3 : w.cell? ⟨pg, 3, none⟩ = some (.float .f32 f)) (g4 : w.cell? ⟨pg, 4, none⟩ = some (.bool mono))
    (hn : w.cell? ⟨pn, 0, none⟩ = some (.int .i64 num)) :
    Calls Try.prog 171 #[.int .i64 x, .int .i64 y, .agg #[.float .f32 (p 0), .float .f32 (p 1), .float .f32 (p 2), .float .f32 (p 3)], .pointer (some ⟨pg, 0, none⟩), .pointer (some ⟨pn, 0, none⟩)] w fun e w' =>
      (∃ q : Nat → Nat, e = .returned (.agg #[.float .f32 (q 0), .float .f32 (q 1), .float .f32 (q 2), .float .f32 (q 3)]) ∧ q = grnP (bits .xor .u32 seed (num % 4294967296)) (x / size) (y / size) mono s f p) ∧ Below w.heap.size w w' := by
  have h0 := hp 0 (by omega); have h1 := hp 1 (by omega); have h2 := hp 2 (by omega)
  have H := Lib.hid (And.intro hs (And.intro hx (And.intro hy (And.intro h0 (And.intro h1 h2)))))
  have lg := cell_lt g0; have ln := cell_lt hn
  simp only at lg ln
  clear hs hx hy h0 h1 h2 hp
  go_enter Try.func171, Try.ntmps171
  go_wp2_with fail
  obtain ⟨W, hW⟩ : ∃ W, W = (w.alloc (.cells #[.float .f32 (p 0), .float .f32 (p 1), .float .f32 (p 2), .float .f32 (p 3)] 55)).alloc (.cells #[.float .f32 0, .float .f32 0, .float .f32 0, .float .f32 0] 55) := ⟨_, rfl⟩
  have R1 : Pix4 W (w.heap.size + 1) 0 0 0 0 := by rw [hW]; exact ⟨by simp [go_sem], by simp [go_sem], by simp [go_sem], by simp [go_sem], fun o => by simp [go_sem]⟩
  have B1 : Below w.heap.size w W := by rw [hW]; (repeat (first | exact Below.refl _ _ | assumption | (refine Below.setCell ?_ (by first | (simp; done) | (simp; omega) | omega) _) | (refine Below.drew ?_) | (refine below_drewN ?_ _) | (refine Below.alloc ?_ (by first | (simp; done) | (simp; omega) | omega) _) | (refine Below.trans ?_ (Below.mono (by assumption) (by first | (simp; done) | (simp; omega) | omega)))))
  have sW : W.heap.size = w.heap.size + 1 + 1 := by rw [hW]; simp
  rw [← hW]
  clear hW
  refine (grained_any seed size s f mono num x y _ _ _ _ W H.out.1 H.out.2.1 H.out.2.2.1 H.out.2.2.2.1 H.out.2.2.2.2.1 H.out.2.2.2.2.2).mono ?_
  rintro e w2 ⟨he, hb2⟩
  obtain ⟨q, hq⟩ : ∃ q, q = grnP (bits .xor .u32 seed (num % 4294967296)) (x / size) (y / size) mono s f p := ⟨_, rfl⟩
  have he2 : e = .returned (.agg #[.float .f32 (q 0), .float .f32 (q 1), .float .f32 (q 2), .float .f32 (q 3)]) := by rw [he, hq]; rfl
  clear he
  subst he2
  have HQ := Lib.hid hq; clear hq
  have R2 := R1.below hb2 (by omega)
  have B2 := B1.trans (hb2.mono (by omega))
  clear R1 B1 hb2 g0 g1 g2 g3 g4 hn
  obtain ⟨d0, d1, d2, d3, df⟩ := R2
  go_wp2_with fail
  refine bodyPost_ret (v := .agg #[.float .f32 (q 0), .float .f32 (q 1), .float .f32 (q 2), .float .f32 (q 3)]) (by simp [results, Try.results171, go_sem, d0, d1, d2, d3]) rfl ⟨⟨q, rfl, HQ.out⟩, ?_⟩
  exact (((B2.setCell (by first | (simp; done) | (simp; omega) | omega) _).setCell (by first | (simp; done) | (simp; omega) | omega) _).setCell (by first | (simp; done) | (simp; omega) | omega) _).setCell (by first | (simp; done) | (simp; omega) | omega) _
set_option maxRecDepth 100000 in
set_option maxHeartbeats 1600000 in
theorem Grain_yes (x y v h : Int) (b off n cap : Nat) (fs : Nat → Nat) (seed size : Int) (s f : Nat) (mono : Bool) (num : Int) (w : World) (he : fraErr x y v h n = 0) (hE : graE size s f = 0) (hcap : n ≤ cap) (hcb : cap ≤ 9223372036854775807)
    (hcell : ∀ i, i < n → w.cell? ⟨b, off + i, none⟩ = some (.float .f32 (fs i))) (hfs : ∀ i, i < n → fs i < 2 ^ FloatKind.f32.format.width) :
    Calls Try.prog 81 #[.agg #[.int .i64 x, .int .i64 y, .int .i64 v, .int .i64 h, .slice (some ⟨b, off, none⟩) n cap], .agg #[.int .u32 seed, .int .i64 size, .float .f32 s, .float .f32 f, .bool mono], .int .i64 num] w fun e w' =>
      (∃ g, e = .returned (.tuple #[.agg #[.int .i64 x, .int .i64 y, .int .i64 v, .int .i64 h, .slice (some ⟨g, 0, none⟩) n n], .int .i64 0]) ∧ w.heap.size ≤ g ∧ g < w'.heap.size ∧ ∀ i, i < n → w'.cell? ⟨g, i, none⟩ = some (.float .f32 (grnG (bits .xor .u32 seed (num % 4294967296)) x y v size mono s f fs (i / 4) (i % 4)))) ∧ Below w.heap.size w w' := by
  obtain ⟨hr, hl⟩ := fraErr_ok he
  obtain ⟨r1, r2, r3, r4, r5, r6, r7, r8, r9, r10⟩ := regErr_ok hr
  have hs := graE_size hE
  have hn0 : 0 < n := by have : 4 ≤ 4 * v * h := by { rw [Int.mul_assoc]; omega }; omega
  have hbw : b < w.heap.size := cell_lt (hcell 0 hn0)
  have HC := Lib.hid (And.intro hcell hfs)
  have HR := Lib.hid (And.intro hr (And.intro hl (And.intro hcap (And.intro hcb hs))))
  have HP := Lib.hid (And.intro r1 (And.intro r2 (And.intro r4 (And.intro r7 (And.intro r8 (And.intro r9 r10))))))
  clear hcell hfs hr hl hcap hcb hs r1 r2 r3 r4 r5 r6 r7 r8 r9 r10
  go_enter Try.func81, Try.ntmps81
  go_wp2_with (first | (go_at_call 160; refine (FCheck_any _ _ _ _ _ _ _ _).mono ?_; rintro e w1 ⟨rfl, hb1⟩; obtain ⟨hc1, hf1, hs1⟩ := bcell hb1; simp at hs1; have hq0 : w.heap.size < w1.heap.size := (by omega); have hq1 : w.heap.size + 1 < w1.heap.size := (by omega); have hq2 : w.heap.size + 1 + 1 < w1.heap.size := (by omega); have hq3 : w.heap.size + 1 + 1 + 1 < w1.heap.size := (by omega); rw [he]) | (go_at_call 83; refine (CheckGrain_any _ _ _ _ _ _).mono ?_; rintro e w2 ⟨rfl, hb2⟩; obtain ⟨hc2, hf2, hs2⟩ := bcell hb2; have hq0' : w.heap.size < w2.heap.size := (by omega); have hq1' : w.heap.size + 1 < w2.heap.size := (by omega); have hq2' : w.heap.size + 1 + 1 < w2.heap.size := (by omega); have hq3' : w.heap.size + 1 + 1 + 1 < w2.heap.size := (by omega); rw [hE]))
  have B2 : Below w.heap.size w w2 := by (repeat (first | exact Below.refl _ _ | assumption | (refine Below.setCell ?_ (by first | (simp; done) | (simp; omega) | omega) _) | (refine Below.drew ?_) | (refine below_drewN ?_ _) | (refine Below.alloc ?_ (by first | (simp; done) | (simp; omega) | omega) _) | (refine Below.trans ?_ (Below.mono (by assumption) (by first | (simp; done) | (simp; omega) | omega)))))
  have g0 : w2.cell? ⟨w.heap.size + 1, 0, none⟩ = some (.int .u32 seed) := by rw [hc2 _ _ hq1, hc1 _ _ (by first | (simp; done) | (simp; omega) | omega)]; simp [go_sem]
  have g1 : w2.cell? ⟨w.heap.size + 1, 1, none⟩ = some (.int .i64 size) := by rw [hc2 _ _ hq1, hc1 _ _ (by first | (simp; done) | (simp; omega) | omega)]; simp [go_sem]
  have g2 : w2.cell? ⟨w.heap.size + 1, 2, none⟩ = some (.float .f32 s) := by rw [hc2 _ _ hq1, hc1 _ _ (by first | (simp; done) | (simp; omega) | omega)]; simp [go_sem]
  have g3 : w2.cell? ⟨w.heap.size + 1, 3, none⟩ = some (.float .f32 f) := by rw [hc2 _ _ hq1, hc1 _ _ (by first | (simp; done) | (simp; omega) | omega)]; simp [go_sem]
  have g4 : w2.cell? ⟨w.heap.size + 1, 4, none⟩ = some (.bool mono) := by rw [hc2 _ _ hq1, hc1 _ _ (by first | (simp; done) | (simp; omega) | omega)]; simp [go_sem]
  have gn : w2.cell? ⟨w.heap.size + 1 + 1, 0, none⟩ = some (.int .i64 num) := by rw [hc2 _ _ hq2, hc1 _ _ (by first | (simp; done) | (simp; omega) | omega)]; simp [go_sem]
  have ZF : FrameC w2 (w.heap.size + 1 + 1 + 1) 0 0 0 0 (.slice none 0 0) := by
    refine ⟨?_, ?_, ?_, ?_, ?_, fun o => ?_⟩
    all_goals first | (rw [hc2 _ _ hq3, hc1 _ _ (by first | (simp; done) | (simp; omega) | omega)]; simp [go_sem]; done) | (rw [hf2 _ _ hq3, hf1 _ _ (by first | (simp; done) | (simp; omega) | omega)]; simp [go_sem]; done)
  obtain ⟨hr, hl, hcap, hcb, hs⟩ := HR.out
  clear hc1 hf1 hc2 hf2 hb1 hb2
  refine (mapped_any 171 #[.pointer (some ⟨w.heap.size + 1, 0, none⟩), .pointer (some ⟨w.heap.size + 1 + 1, 0, none⟩)] x y v h b off n cap fs (grnG (bits .xor .u32 seed (num % 4294967296)) x y v size mono s f fs) w2 hr hl hcap hcb (fun i hi => (B2.cell (p := ⟨b, off + i, none⟩) hbw).trans (HC.out.1 i hi)) (body_enters Try.func171 (by kernel_rfl) rfl) (fun k w' hk hb' => ?_)).mono ?_
  · obtain ⟨r1, r2, r4, r7, r8, r9, r10⟩ := HP.out
    have hkv : (k : Int) < v * h := by have h1 := hl; rw [Int.mul_assoc] at h1; omega
    obtain ⟨px, py⟩ := place_in (x := x) (y := y) r1 r2 r4 r7 r8 r9 r10 hkv
    refine (Grain_closure seed size s f mono num (x + (k : Int) % v) (y + (k : Int) / v) (fun c => fs (4 * k + c)) (w.heap.size + 1) (w.heap.size + 1 + 1) w' hs px py (fun c hc => HC.out.2 _ (by omega)) ((hb'.cell (p := ⟨w.heap.size + 1, 0, none⟩) hq1').trans g0) ((hb'.cell (p := ⟨w.heap.size + 1, 1, none⟩) hq1').trans g1) ((hb'.cell (p := ⟨w.heap.size + 1, 2, none⟩) hq1').trans g2) ((hb'.cell (p := ⟨w.heap.size + 1, 3, none⟩) hq1').trans g3) ((hb'.cell (p := ⟨w.heap.size + 1, 4, none⟩) hq1').trans g4) ((hb'.cell (p := ⟨w.heap.size + 1 + 1, 0, none⟩) hq2').trans gn)).mono ?_
    rintro e w'' ⟨⟨q, rfl, hq⟩, hb⟩
    exact ⟨⟨q, rfl, fun c _ => by rw [hq]; exact grnP_cn⟩, hb⟩
  · rintro e w3 ⟨g, rfl, hg, hgc, hb3⟩
    have Z3 := ZF.below hb3 hq3'
    have B3 := B2.trans (hb3.mono (by omega))
    have hgl : g < w3.heap.size := cell_lt (hgc 0 hn0)
    have HG := Lib.hid hgc
    clear hgc hb3 ZF B2 g0 g1 g2 g3 g4 gn
    obtain ⟨z0, z1, z2, z3, z4, zf⟩ := Z3
    go_wp2_with fail
    refine bodyPost_ret (v := .tuple #[.agg #[.int .i64 x, .int .i64 y, .int .i64 v, .int .i64 h, .slice (some ⟨g, 0, none⟩) n n], .int .i64 0]) (by simp [results, Try.results81, go_sem, z0, z1, z2, z3, z4]) rfl ⟨⟨g, rfl, by omega, by simp; omega, fun i hi => ?_⟩, ?_⟩
    · rw [← HG.out i hi]
      simp [go_sem]
    · exact ((((B3.setCell (by first | (simp; done) | (simp; omega) | omega) _).setCell (by first | (simp; done) | (simp; omega) | omega) _).setCell (by first | (simp; done) | (simp; omega) | omega) _).setCell (by first | (simp; done) | (simp; omega) | omega) _).setCell (by first | (simp; done) | (simp; omega) | omega) _
set_option maxRecDepth 100000 in
set_option maxHeartbeats 1600000 in
theorem Grain_no (x y v h : Int) (a : Option Addr) (n cap : Nat) (seed size : Int) (s f : Nat) (mono : Bool) (num : Int) (w : World) (hE : firstE (fraErr x y v h n) (graE size s f) ≠ 0) :
    Calls Try.prog 81 #[.agg #[.int .i64 x, .int .i64 y, .int .i64 v, .int .i64 h, .slice a n cap], .agg #[.int .u32 seed, .int .i64 size, .float .f32 s, .float .f32 f, .bool mono], .int .i64 num] w fun e w' =>
      e = .returned (.tuple #[.agg #[.int .i64 0, .int .i64 0, .int .i64 0, .int .i64 0, .slice none 0 0], .int .i64 (firstE (fraErr x y v h n) (graE size s f))]) ∧ Below w.heap.size w w' := by
  by_cases he : fraErr x y v h n = 0
  · have eW : firstE (fraErr x y v h n) (graE size s f) = graE size s f := by rw [he]; rfl
    rw [eW] at hE ⊢
    have hc : (graE size s f != 0) = true := by simpa using hE
    clear hE eW
    go_enter Try.func81, Try.ntmps81
    go_wp2_with (first | (go_at_call 160; refine (FCheck_any _ _ _ _ _ _ _ _).mono ?_; rintro e w1 ⟨rfl, hb1⟩; obtain ⟨hc1, hf1, hs1⟩ := bcell hb1; simp at hs1; have hq0 : w.heap.size < w1.heap.size := (by omega); have hq1 : w.heap.size + 1 < w1.heap.size := (by omega); have hq2 : w.heap.size + 1 + 1 < w1.heap.size := (by omega); have hq3 : w.heap.size + 1 + 1 + 1 < w1.heap.size := (by omega); rw [he]) | (go_at_call 83; refine (CheckGrain_any _ _ _ _ _ _).mono ?_; rintro e w2 ⟨rfl, hb2⟩; obtain ⟨hc2, hf2, hs2⟩ := bcell hb2; have hq3' : w.heap.size + 1 + 1 + 1 < w2.heap.size := (by omega)))
    refine bodyPost_ret (v := .tuple #[.agg #[.int .i64 0, .int .i64 0, .int .i64 0, .int .i64 0, .slice none 0 0], .int .i64 (graE size s f)]) (by simp [results, Try.results81, go_sem, *]) rfl ⟨rfl, ?_⟩
    (repeat (first | exact Below.refl _ _ | assumption | (refine Below.setCell ?_ (by first | (simp; done) | (simp; omega) | omega) _) | (refine Below.drew ?_) | (refine below_drewN ?_ _) | (refine Below.alloc ?_ (by first | (simp; done) | (simp; omega) | omega) _) | (refine Below.trans ?_ (Below.mono (by assumption) (by first | (simp; done) | (simp; omega) | omega)))))
  · have eW : firstE (fraErr x y v h n) (graE size s f) = fraErr x y v h n := firstE_of _ he
    rw [eW]
    have hc : (fraErr x y v h n != 0) = true := by simpa using he
    clear hE eW he
    go_enter Try.func81, Try.ntmps81
    go_wp2_with (first | (go_at_call 160; refine (FCheck_any _ _ _ _ _ _ _ _).mono ?_; rintro e w1 ⟨rfl, hb1⟩; obtain ⟨hc1, hf1, hs1⟩ := bcell hb1; simp at hs1; have hq3 : w.heap.size + 1 + 1 + 1 < w1.heap.size := (by omega)))
    refine bodyPost_ret (v := .tuple #[.agg #[.int .i64 0, .int .i64 0, .int .i64 0, .int .i64 0, .slice none 0 0], .int .i64 (fraErr x y v h n)]) (by simp [results, Try.results81, go_sem, *]) rfl ⟨rfl, ?_⟩
    (repeat (first | exact Below.refl _ _ | assumption | (refine Below.setCell ?_ (by first | (simp; done) | (simp; omega) | omega) _) | (refine Below.drew ?_) | (refine below_drewN ?_ _) | (refine Below.alloc ?_ (by first | (simp; done) | (simp; omega) | omega) _) | (refine Below.trans ?_ (Below.mono (by assumption) (by first | (simp; done) | (simp; omega) | omega)))))
end Go.Proofs.Ytmnmcmmhnbnndaa

namespace Go.Proofs.Ytmnmcmmhnbnndaa
open Go.RowKit
def PixPsi (g g' : Nat → Nat) (f : FuncId) (_ : Array Value) (u : Value) : Prop :=
  (f = 72 ∧ u = .agg #[.float .f32 (g 0), .float .f32 (g 1), .float .f32 (g 2), .float .f32 (g 3)]) ∨ (f ≠ 72 ∧ u = .agg #[.float .f32 (g' 0), .float .f32 (g' 1), .float .f32 (g' 2), .float .f32 (g' 3)])
theorem pix_at {g g' : Nat → Nat} {args : Array Value} {u : Value} (h : PixPsi g g' 72 args u) : u = .agg #[.float .f32 (g 0), .float .f32 (g 1), .float .f32 (g 2), .float .f32 (g 3)] := by
  rcases h with ⟨-, h⟩ | ⟨h, -⟩
  · exact h
  · exact absurd rfl h
theorem pix_of {f : FuncId} (hf : f ≠ 72) {g g' : Nat → Nat} {args : Array Value} {u : Value} (h : PixPsi g g' f args u) : u = .agg #[.float .f32 (g' 0), .float .f32 (g' 1), .float .f32 (g' 2), .float .f32 (g' 3)] := by
  rcases h with ⟨h, -⟩ | ⟨-, h⟩
  · exact absurd h hf
  · exact h
/-- Where the pixel of a place stands. -/
theorem spot_in {x y v h : Int} {i j : Nat} (r1 : 1 ≤ v) (hi : (i : Int) < v) (hj : (j : Int) < h) : 4 * ((y + (j : Int) - y) * v + (x + (i : Int)) - x) = ((4 * (v.toNat * j + i) : Nat) : Int) ∧ (((v.toNat * j + i : Nat) : Int) % v = i) ∧ (((v.toNat * j + i : Nat) : Int) / v = j) ∧ ((v.toNat * j + i : Nat) : Int) < v * h := by
  obtain ⟨V, rfl⟩ : ∃ V : Nat, v = V := ⟨v.toNat, by omega⟩
  obtain ⟨H, rfl⟩ : ∃ H : Nat, h = H := ⟨h.toNat, by omega⟩
  have e1 : y + (j : Int) - y = j := by omega
  have e2 : (j : Int) * (V : Int) = (V : Int) * j := Int.mul_comm _ _
  simp only [Int.toNat_natCast]
  refine ⟨?_, ?_, ?_, ?_⟩
  · rw [e1, e2]; simp only [Int.natCast_mul, Int.natCast_add]; generalize (V : Int) * (j : Int) = z; simp; omega
  · rw [Int.natCast_add, Int.natCast_mul, Int.mul_add_emod_self_left]; exact Int.emod_eq_of_lt (by omega) hi
  · rw [Int.natCast_add, Int.natCast_mul, Int.mul_add_ediv_left _ _ (by omega), Int.ediv_eq_zero_of_lt (by omega) hi, Int.add_zero]
  · have h1 : V * (j + 1) ≤ V * H := Nat.mul_le_mul_left V (by omega)
    have h2 : V * j + i < V * H := by rw [Nat.mul_add] at h1; omega
    have h3 := Int.ofNat_lt.2 h2
    rw [Int.natCast_mul V H] at h3
    exact h3
set_option maxRecDepth 100000 in
set_option maxHeartbeats 1600000 in
theorem gl_closure (x y v h : Int) (b off n cap : Nat) (fs : Nat → Nat) (seed size : Int) (s f : Nat) (mono : Bool) (num : Int) (pg pn pf : Nat) (i j : Nat) (w : World) (hr : regErr x y v h = 0) (hl : (n : Int) = 4 * v * h) (hcap : n ≤ cap) (hcb : cap ≤ 9223372036854775807) (hs : 1 ≤ size ∧ size ≤ 16)
    (hi : (i : Int) < v) (hj : (j : Int) < h)
    (hcell : ∀ k, k < n → w.cell? ⟨b, off + k, none⟩ = some (.float .f32 (fs k)))
    (g0 : w.cell? ⟨pg, 0, none⟩ = some (.int .u32 seed)) (g1 : w.cell? ⟨pg, 1, none⟩ = some (.int .i64 size)) (g2 : w.cell? ⟨pg, 2, none⟩ = some (.float .f32 s)) (g3 : w.cell? ⟨pg, 3, none⟩ = some (.float .f32 f)) (g4 : w.cell? ⟨pg, 4, none⟩ = some (.bool mono))
    (hn : w.cell? ⟨pn, 0, none⟩ = some (.int .i64 num)) (hF : FrameC w pf x y v h (.slice (some ⟨b, off, none⟩) n cap)) :
    Calls Try.prog 86 #[.int .i64 (x + i), .int .i64 (y + j), .pointer (some ⟨pg, 0, none⟩), .pointer (some ⟨pn, 0, none⟩), .pointer (some ⟨pf, 0, none⟩)] w fun e w' =>
      (∃ q : Nat → Nat, e = .returned (.agg #[.float .f32 (q 0), .float .f32 (q 1), .float .f32 (q 2), .float .f32 (q 3)]) ∧ q = grnG (bits .xor .u32 seed (num % 4294967296)) x y v size mono s f fs (v.toNat * j + i)) ∧ Below w.heap.size w w' := by
  obtain ⟨r1, r2, r3, r4, r5, r6, r7, r8, r9, r10⟩ := regErr_ok hr
  obtain ⟨k1, k2, k3, k4⟩ := spot_in (x := x) (y := y) (h := h) r1 hi hj
  obtain ⟨K, hK⟩ : ∃ K, K = v.toNat * j + i := ⟨_, rfl⟩
  rw [← hK] at k1 k2 k3 k4 ⊢
  have hKn : 4 * K + 4 ≤ n := by rw [Int.mul_assoc] at hl; omega
  obtain ⟨q, hq⟩ : ∃ q, q = grnG (bits .xor .u32 seed (num % 4294967296)) x y v size mono s f fs K := ⟨_, rfl⟩
  rw [← hq]
  have HQ := Lib.hid hq
  have ex : (x + (i : Int)) / size = (x + (K : Int) % v) / size := by rw [k2]
  have ey : (y + (j : Int)) / size = (y + (K : Int) / v) / size := by rw [k3]
  have C0 := hcell (4 * K) (by omega)
  have C1 := hcell (4 * K + 1) (by omega)
  have C2 := hcell (4 * K + 2) (by omega)
  have C3 := hcell (4 * K + 3) (by omega)
  have hPA : ∀ p : Past (w.alloc (.cells #[.float .f32 0, .float .f32 0, .float .f32 0, .float .f32 0] 55)), Calls Try.prog 72 #[.agg #[.int .i64 x, .int .i64 y, .int .i64 v, .int .i64 h, .slice (some ⟨b, off, none⟩) n cap], .int .i64 (x + i), .int .i64 (y + j)] p.w fun e w' => e = .returned (.agg #[.float .f32 (fs (4 * K)), .float .f32 (fs (4 * K + 1)), .float .f32 (fs (4 * K + 2)), .float .f32 (fs (4 * K + 3))]) ∧ Below p.w.heap.size p.w w' := fun p => by
    have hb := Below.trans ((Below.refl w.heap.size w).alloc (Nat.le_refl _) _) (p.h.mono (by simp))
    have hbw : b < w.heap.size := cell_lt C0
    exact PixelAt_in x y v h b off n cap (x + i) (y + j) (4 * K) _ _ _ _ p.w hr hl (by omega) (by omega) k1 hKn hcap hcb ((hb.cell (p := ⟨b, off + 4 * K, none⟩) hbw).trans C0) ((hb.cell (p := ⟨b, off + 4 * K + 1, none⟩) hbw).trans C1) ((hb.cell (p := ⟨b, off + 4 * K + 2, none⟩) hbw).trans C2) ((hb.cell (p := ⟨b, off + 4 * K + 3, none⟩) hbw).trans C3)
  have HPA := Lib.hid hPA
  have hGO : ∀ p : World, Calls Try.prog 85 #[.agg #[.int .u32 seed, .int .i64 size, .float .f32 s, .float .f32 f, .bool mono], .int .i64 num, .int .i64 (x + i), .int .i64 (y + j), .agg #[.float .f32 (fs (4 * K)), .float .f32 (fs (4 * K + 1)), .float .f32 (fs (4 * K + 2)), .float .f32 (fs (4 * K + 3))]] p fun e w' => (∃ q' : Nat → Nat, e = .returned (.agg #[.float .f32 (q' 0), .float .f32 (q' 1), .float .f32 (q' 2), .float .f32 (q' 3)]) ∧ q' = q) ∧ Below p.heap.size p w' := fun p => by
    refine (GrainedOf_any seed size s f mono num (x + i) (y + j) (fun c => fs (4 * K + c)) p hs (by omega) (by omega)).mono ?_
    rintro e w' ⟨⟨q', rfl, hq'⟩, hb⟩
    exact ⟨⟨q', rfl, by rw [hq', hq, ex, ey]; rfl⟩, hb⟩
  have HGO := Lib.hid hGO
  have lg := cell_lt g0; have ln := cell_lt hn; have lf := hF.lt
  simp only at lg ln
  obtain ⟨f0, f1, f2, f3, f4, -⟩ := hF
  clear hr hl hcap hcb hs hcell hPA hGO ex ey hq C0 C1 C2 C3 k1 k2 k3 k4 hK r1 r2 r3 r4 r5 r6 r7 r8 r9 r10 hi hj hKn
  generalize fs (4 * K) = v0 at *
  generalize fs (4 * K + 1) = v1 at *
  generalize fs (4 * K + 2) = v2 at *
  generalize fs (4 * K + 3) = v3 at *
  go_enter Try.func86, Try.ntmps86
  go_wp2_with fail
  obtain ⟨W, hW⟩ : ∃ W, W = w.alloc (.cells #[.float .f32 0, .float .f32 0, .float .f32 0, .float .f32 0] 55) := ⟨_, rfl⟩
  have B0 : Below w.heap.size w W := by rw [hW]; (repeat (first | exact Below.refl _ _ | assumption | (refine Below.setCell ?_ (by first | (simp; done) | (simp; omega) | omega) _) | (refine Below.drew ?_) | (refine below_drewN ?_ _) | (refine Below.alloc ?_ (by first | (simp; done) | (simp; omega) | omega) _) | (refine Below.trans ?_ (Below.mono (by assumption) (by first | (simp; done) | (simp; omega) | omega)))))
  have R0 : Pix4 W w.heap.size 0 0 0 0 := by rw [hW]; exact Pix4.new w 0 0 0 0 _
  have sW : W.heap.size = w.heap.size + 1 := by rw [hW]; simp
  rw [← hW] at HPA ⊢
  have F : ∀ a o, a < w.heap.size → W.cell? ⟨a, o, none⟩ = w.cell? ⟨a, o, none⟩ := fun a o ha => B0.cell (p := ⟨a, o, none⟩) ha
  rw [← F pg _ lg] at g0 g1 g2 g3 g4
  rw [← F pn _ ln] at hn
  rw [← F pf _ lf] at f0 f1 f2 f3 f4
  have l1 : pg < W.heap.size := by omega
  have l2 : pn < W.heap.size := by omega
  have l3 : pf < W.heap.size := by omega
  have R := Lib.hid R0; have B := Lib.hid B0; have S := Lib.hid sW
  clear F hW R0 B0 sW lg ln lf
  refine wp_region_loose 9 (PixPsi (pick4 v0 v1 v2 v3) q) (by kernel_rfl) (by kernel_rfl) ?_
  simp only [List.take_succ_cons, List.take_zero, List.drop_succ_cons, List.drop_zero]
  iterate 7 (refine loose_wanted rfl (fun K hK => ?_); go_simp; refine hK _ ?_; clear hK K)
  refine loose_wanted rfl (fun K1 hK => ?_)
  go_simp
  refine ⟨fun p => (HPA.out p).mono ?_, ?_⟩
  · rintro e w' ⟨rfl, hb⟩
    exact ⟨_, rfl, .inl ⟨rfl, rfl⟩, p.h.trans (hb.mono p.h.size)⟩
  intro u hu
  obtain rfl := pix_at hu
  refine hK _ ?_
  clear hK K1 hu
  simp only [pick4]
  refine loose_wanted rfl (fun K1 hK => ?_)
  go_simp
  refine ⟨fun p => (HGO.out p.w).mono ?_, ?_⟩
  · rintro e w' ⟨⟨q', rfl, rfl⟩, hb⟩
    exact ⟨_, rfl, .inr ⟨by decide, rfl⟩, p.h.trans (hb.mono p.h.size)⟩
  intro u hu
  obtain rfl := pix_of (by decide) hu
  refine hK _ ?_
  clear hK K1 hu
  refine loose_nil (fun w5 hb5 => ?_)
  have s := S.out
  have R5 := R.out.below hb5 (by omega)
  have B5 := B.out.trans (hb5.mono (by omega))
  clear hb5 g0 g1 g2 g3 g4 hn f0 f1 f2 f3 f4
  obtain ⟨d0, d1, d2, d3, df⟩ := R5
  go_wp2_with fail
  refine bodyPost_ret (v := .agg #[.float .f32 (q 0), .float .f32 (q 1), .float .f32 (q 2), .float .f32 (q 3)]) (by simp [results, Try.results86, go_sem, d0, d1, d2, d3]) rfl ⟨⟨q, rfl, rfl⟩, ?_⟩
  exact (((B5.setCell (by first | (simp; done) | (simp; omega) | omega) _).setCell (by first | (simp; done) | (simp; omega) | omega) _).setCell (by first | (simp; done) | (simp; omega) | omega) _).setCell (by first | (simp; done) | (simp; omega) | omega) _
end Go.Proofs.Ytmnmcmmhnbnndaa

namespace Go.Proofs.Ytmnmcmmhnbnndaa
open Go.RowKit
set_option maxHeartbeats 800000 in
theorem few_any (x y v h : Int) (a : Option Addr) (n cap : Nat) (w : World) : Calls Try.prog 73 #[.agg #[.int .i64 x, .int .i64 y, .int .i64 v, .int .i64 h, .slice a n cap]] w fun e w' => e = .returned (.bool (decide ((n : Int) ≤ 400))) ∧ Below w.heap.size w w' := by
  go_enter Try.func73, Try.ntmps73
  go_wp2
  go_ret
  refine ⟨rfl, ?_⟩
  (repeat (first | exact Below.refl _ _ | assumption | (refine Below.setCell ?_ (by first | (simp; done) | (simp; omega) | omega) _) | (refine Below.drew ?_) | (refine below_drewN ?_ _) | (refine Below.alloc ?_ (by first | (simp; done) | (simp; omega) | omega) _) | (refine Below.trans ?_ (Below.mono (by assumption) (by first | (simp; done) | (simp; omega) | omega)))))
set_option maxHeartbeats 800000 in
theorem placed_any (x y : Int) (w : World) : Calls Try.prog 84 #[.int .i64 x, .int .i64 y] w fun e w' => e = .returned (.int .i64 (plaE x y)) ∧ w = w' := by
  have e : plaE x y = whenE (!inB x (-1048576) 1048576 || !inB y (-1048576) 1048576) 5 := by
    unfold plaE
    by_cases hx : -1048576 ≤ x ∧ x ≤ 1048576
    · by_cases hy : -1048576 ≤ y ∧ y ≤ 1048576
      · rw [if_pos ⟨hx.1, hx.2, hy.1, hy.2⟩, inB_t hx, inB_t hy]; rfl
      · rw [if_neg (fun h => hy ⟨h.2.2.1, h.2.2.2⟩), inB_t hx, inB_f (by omega)]; rfl
    · rw [if_neg (fun h => hx ⟨h.1, h.2.1⟩), inB_f (by omega)]; cases inB y (-1048576) 1048576 <;> rfl
  rw [e]
  clear e
  cases hA : inB x (-1048576) 1048576
  all_goals
    go_enter Try.func84, Try.ntmps84
    go_wp2_with (first | (go_at_call 21; refine (In_any _ _ _ _).mono ?_; rintro e w' ⟨rfl, rfl⟩) | (go_at_call 20; refine (When_any _ _ _).mono ?_; rintro e w' ⟨rfl, rfl⟩))
    go_ret
    exact ⟨by first | rfl | simp, rfl⟩
theorem wp_named {P : Program} {c : Code} {Q : Exit → Act → World → Prop} {a : Act} {w : World} (h : ∀ W, W = w → c.wp P Q a W) : c.wp P Q a w := h w rfl
def GrPsi (g : Nat → Nat) (f : FuncId) (_ : Array Value) (u : Value) : Prop :=
  (f = 85 ∧ u = .agg #[.float .f32 (g 0), .float .f32 (g 1), .float .f32 (g 2), .float .f32 (g 3)]) ∨ (f ≠ 85 ∧ u = .bool true)
theorem gr_psi1 {g : Nat → Nat} {args : Array Value} {u : Value} (h : GrPsi g 85 args u) : u = .agg #[.float .f32 (g 0), .float .f32 (g 1), .float .f32 (g 2), .float .f32 (g 3)] := by
  rcases h with ⟨-, h⟩ | ⟨h, -⟩
  · exact h
  · exact absurd rfl h
theorem gr_psi2 {g : Nat → Nat} {args : Array Value} {u : Value} (h : GrPsi g 39 args u) : u = .bool true := by
  rcases h with ⟨h, -⟩ | ⟨-, h⟩
  · exact absurd h (by decide)
  · exact h
/-- The grain's variable. -/
structure GrnC (w : World) (n : Nat) (seed size : Int) (s f : Nat) (mono : Bool) : Prop where
  c0 : w.cell? ⟨n, 0, none⟩ = some (.int .u32 seed)
  c1 : w.cell? ⟨n, 1, none⟩ = some (.int .i64 size)
  c2 : w.cell? ⟨n, 2, none⟩ = some (.float .f32 s)
  c3 : w.cell? ⟨n, 3, none⟩ = some (.float .f32 f)
  c4 : w.cell? ⟨n, 4, none⟩ = some (.bool mono)
theorem GrnC.below {W w : World} {m n : Nat} {seed size : Int} {s f : Nat} {mono : Bool} (k : GrnC W n seed size s f mono) (hb : Below m W w) (hn : n < m) : GrnC w n seed size s f mono :=
  ⟨(hb.cell (p := ⟨n, 0, none⟩) hn).trans k.c0, (hb.cell (p := ⟨n, 1, none⟩) hn).trans k.c1, (hb.cell (p := ⟨n, 2, none⟩) hn).trans k.c2, (hb.cell (p := ⟨n, 3, none⟩) hn).trans k.c3, (hb.cell (p := ⟨n, 4, none⟩) hn).trans k.c4⟩
/-- What stands of the statement's variables. -/
structure GrSt (w wx : World) (seed size : Int) (s f : Nat) (mono : Bool) (num : Int) (p q : Nat → Nat) (x y v h : Int) (sl : Value) (qb hb : Nat) (x' y' v' h' : Int) (sl' : Value) : Prop where
  g : GrnC wx w.heap.size seed size s f mono
  n : wx.cell? ⟨w.heap.size + 1, 0, none⟩ = some (.int .i64 num)
  p : Pix4 wx (w.heap.size + 1 + 1) (p 0) (p 1) (p 2) (p 3)
  f : FrameC wx (w.heap.size + 1 + 1 + 1) x y v h sl
  q : Pix4 wx qb (q 0) (q 1) (q 2) (q 3)
  h : FrameC wx hb x' y' v' h' sl'
  l : w.heap.size + 1 + 1 + 1 < wx.heap.size ∧ qb < wx.heap.size ∧ hb < wx.heap.size
  b : Below w.heap.size w wx
theorem GrSt.past {w wx wy : World} {seed size : Int} {s f : Nat} {mono : Bool} {num : Int} {p q : Nat → Nat} {x y v h : Int} {sl : Value} {qb hb : Nat} {x' y' v' h' : Int} {sl' : Value} (k : GrSt w wx seed size s f mono num p q x y v h sl qb hb x' y' v' h' sl') (hw : Below wx.heap.size wx wy) : GrSt w wy seed size s f mono num p q x y v h sl qb hb x' y' v' h' sl' :=
  have l := k.l
  have z := hw.size
  ⟨k.g.below hw (by omega), (hw.cell (p := ⟨w.heap.size + 1, 0, none⟩) (by show w.heap.size + 1 < _; omega)).trans k.n, k.p.below hw (by omega), k.f.below hw (by omega), k.q.below hw (by omega), k.h.below hw (by omega), ⟨by omega, by omega, by omega⟩, k.b.trans (hw.mono (by omega))⟩
set_option maxRecDepth 100000 in
set_option maxHeartbeats 4000000 in
theorem gr_no (seed size : Int) (s f : Nat) (mono : Bool) (num px py : Int) (p : Nat → Nat) (x y v h : Int) (a : Option Addr) (len cap : Nat) (w : World)
    (hpx : -9223372036854775808 ≤ px ∧ px ≤ 9223372036854775807) (hpy : -9223372036854775808 ≤ py ∧ py ≤ 9223372036854775807) (hp : ∀ c, c < 4 → p c < 2 ^ FloatKind.f32.format.width)
    (hx : -9223372036854775808 ≤ x ∧ x ≤ 9223372036854775807) (hy : -9223372036854775808 ≤ y ∧ y ≤ 9223372036854775807) (hW : firstE (fraErr x y v h len) (graE size s f) ≠ 0) :
    Calls Try.prog 12 #[.agg #[.int .u32 seed, .int .i64 size, .float .f32 s, .float .f32 f, .bool mono], .int .i64 num, .int .i64 px, .int .i64 py, .agg #[.float .f32 (p 0), .float .f32 (p 1), .float .f32 (p 2), .float .f32 (p 3)], .agg #[.int .i64 x, .int .i64 y, .int .i64 v, .int .i64 h, .slice a len cap]] w fun e w' => e = .returned (.bool true) ∧ Below w.heap.size w w' := by
  have HX := Lib.hid (And.intro hpx (And.intro hpy (And.intro hp (And.intro hx hy))))
  clear hpx hpy hp hx hy
  · go_enter Try.func12, Try.ntmps12
    have hWb : (firstE (fraErr x y v h len) (graE size s f) != 0) = true := by simpa using hW
    go_upto_region 3 with (first | (go_at_call 80; refine (Grained_any _ _ _ _ _ _ _ _ p _ HX.out.1 HX.out.2.1 HX.out.2.2.1).mono ?_; rintro e w1 ⟨⟨q, rfl, hq0, hq1⟩, hb1⟩; obtain ⟨hc1, hf1, hs1⟩ := bcell hb1; simp at hs1; have z0 : w.heap.size < w1.heap.size := (by omega); have z1 : w.heap.size + 1 < w1.heap.size := (by omega); have z2 : w.heap.size + 1 + 1 < w1.heap.size := (by omega); have z3 : w.heap.size + 1 + 1 + 1 < w1.heap.size := (by omega)) | (go_at_call 81; refine (Grain_no _ _ _ _ _ _ _ _ _ _ _ _ _ _ hW).mono ?_; rintro e w2 ⟨rfl, hb2⟩))
    obtain ⟨V, hV⟩ : ∃ V, V = w2.alloc (.cells #[.int .i64 0, .int .i64 0, .int .i64 0, .int .i64 0, .slice none 0 0] 27) := ⟨_, rfl⟩
    have S : GrSt w V seed size s f mono num p q x y v h (.slice a len cap) w1.heap.size w2.heap.size 0 0 0 0 (.slice none 0 0) := by
      rw [hV]
      have sz := hb2.size
      simp at sz
      have bb2 : Below (w1.heap.size + 1) (w1.alloc (.cells #[.float .f32 (q 0), .float .f32 (q 1), .float .f32 (q 2), .float .f32 (q 3)] 55)) (w2.alloc (.cells #[.int .i64 0, .int .i64 0, .int .i64 0, .int .i64 0, .slice none 0 0] 27)) := (by simpa using hb2 : Below (w1.heap.size + 1) _ w2).alloc (by omega) _
      have bb1 : Below (w.heap.size + 1 + 1 + 1 + 1) _ (w2.alloc (.cells #[.int .i64 0, .int .i64 0, .int .i64 0, .int .i64 0, .slice none 0 0] 27)) := ((by simpa using hb1 : Below (w.heap.size + 1 + 1 + 1 + 1) _ w1).alloc (by omega) _).trans (bb2.mono (by omega))
      refine ⟨GrnC.below ⟨by simp [go_sem], by simp [go_sem], by simp [go_sem], by simp [go_sem], by simp [go_sem]⟩ bb1 (by omega), (bb1.cell (p := ⟨w.heap.size + 1, 0, none⟩) (by show w.heap.size + 1 < _; omega)).trans (by simp [go_sem]), Pix4.below ⟨by simp [go_sem], by simp [go_sem], by simp [go_sem], by simp [go_sem], fun o => by simp [go_sem]⟩ bb1 (by omega), FrameC.below ⟨by simp [go_sem], by simp [go_sem], by simp [go_sem], by simp [go_sem], by simp [go_sem], fun o => by simp [go_sem]⟩ bb1 (by omega),
        Pix4.below (Pix4.new w1 _ _ _ _ _) bb2 (by omega), ⟨by simp [go_sem], by simp [go_sem], by simp [go_sem], by simp [go_sem], by simp [go_sem], fun o => by simp [go_sem]⟩, ⟨by simp; omega, by simp; omega, by simp⟩, ?_⟩
      exact Below.trans (((((Below.refl _ _).alloc (Nat.le_refl _) _).alloc (by simp) _).alloc (by simp; omega) _).alloc (by simp; omega) _) (bb1.mono (by omega))
    rw [← hV]
    clear hV hc1 hf1 hb1 hb2 z0 z1 z2 z3 hs1
    generalize w1.heap.size = qb at *
    generalize w2.heap.size = hh at *
    have SS := Lib.hid S
    obtain ⟨⟨g0, g1, g2, g3, g4⟩, gn, ⟨p0, p1, p2, p3, -⟩, ⟨f0, f1, f2, f3, f4, -⟩, ⟨q0, q1, q2, q3, -⟩, ⟨h0, h1, h2, h3, h4, -⟩, ⟨l1, l2, l3⟩, -⟩ := S
    have l4 : w.heap.size < V.heap.size := by omega
    have l5 : w.heap.size + 1 < V.heap.size := by omega
    have l6 : w.heap.size + 1 + 1 < V.heap.size := by omega
    have HQ := Lib.hid (And.intro hq0 hq1)
    have HW := Lib.hid hW
    clear hq0 hq1 hW
    go_upto_region 7 with (first | (go_at_call 22; refine (finishes_any _).mono ?_; rintro e w' ⟨n, rfl, rfl⟩) | (go_at_call 82; refine (GrainError_any _ _ _ _ _ _).mono ?_; rintro e w3 ⟨rfl, hb3⟩; obtain ⟨hc3, hf3, hs3⟩ := bcell hb3) | (go_at_call 83; refine (CheckGrain_any _ _ _ _ _ _).mono ?_; rintro e w4 ⟨rfl, hb4⟩; obtain ⟨hc4, hf4, hs4⟩ := bcell hb4; simp at hs4) | (go_at_call 84; refine (placed_any _ _ _).mono ?_; rintro e w' ⟨rfl, rfl⟩) | (go_at_call 18; refine (First2_new _ _ _ _ _ (heap_new _ _ _ (by simp))).mono ?_; rintro e w' ⟨rfl, rfl⟩))
    go_cut [82] from 52 to 81 (fun s82 wx => s82 = .bool false ∧ Below V.heap.size V wx)
    case first =>
      have ze := pix_zero
      refine wp_named (fun Wc hWc => ?_)
      have BC : Below V.heap.size V Wc := by rw [hWc]; (repeat (first | exact Below.refl _ _ | assumption | (refine Below.setCell ?_ (by first | (simp; done) | (simp; omega) | omega) _) | (refine Below.drew ?_) | (refine below_drewN ?_ _) | (refine Below.alloc ?_ (by first | (simp; done) | (simp; omega) | omega) _) | (refine Below.trans ?_ (Below.mono (by assumption) (by first | (simp; done) | (simp; omega) | omega)))))
      clear hWc hc3 hf3 hc4 hf4 hb3 hb4 hs3 hs4
      have SC := SS.out.past BC
      clear g0 g1 g2 g3 g4 gn p0 p1 p2 p3 f0 f1 f2 f3 f4 q0 q1 q2 q3 h0 h1 h2 h3 h4 l1 l2 l3 l4 l5 l6
      obtain ⟨⟨g0, g1, g2, g3, g4⟩, gn, ⟨p0, p1, p2, p3, -⟩, ⟨f0, f1, f2, f3, f4, -⟩, ⟨q0, q1, q2, q3, -⟩, ⟨h0, h1, h2, h3, h4, -⟩, ⟨l1, l2, l3⟩, -⟩ := SC
      have l4 : w.heap.size < Wc.heap.size := by omega
      have l5 : w.heap.size + 1 < Wc.heap.size := by omega
      have l6 : w.heap.size + 1 + 1 < Wc.heap.size := by omega
      obtain ⟨hq0, hq1⟩ := HQ.out
      obtain ⟨G, hG⟩ : ∃ G, G = grnP (bits .xor .u32 seed (num % 4294967296)) (px / size) (py / size) mono s f p := ⟨_, rfl⟩
      rw [← hG] at hq1
      have HG := Lib.hid hG; clear hG
      by_cases hW1 : firstE (graE size s f) (plaE px py) = 0
      · obtain rfl := hq1 hW1
        have hE : graE size s f = 0 := by
          by_cases h : graE size s f = 0
          · exact h
          · rw [firstE_of _ h] at hW1; exact hW1
        have HS := Lib.hid (graE_size hE)
        have n1 : (firstE (graE size s f) (plaE px py) == 0) = true := by simpa using hW1
        have n2 : (firstE (graE size s f) (plaE px py) != 0) = false := by simpa using hW1
        generalize firstE (graE size s f) (plaE px py) = E1 at *
        clear hq0 hq1 hW1 hE
        refine wp_region_loose 30 (GrPsi q) (by kernel_rfl) (by kernel_rfl) ?_
        simp only [List.take_succ_cons, List.take_zero, List.drop_succ_cons, List.drop_zero]
        iterate 3 (refine loose_wanted rfl (fun K hK => ?_); go_simp; refine hK _ ?_; clear hK K)
        iterate 8 ((with_reducible refine loose_pass (by kernel_rfl) (fun K hK => ?_)); go_simp; refine hK _ ?_; clear hK K)
        iterate 14 (refine loose_wanted rfl (fun K hK => ?_); go_simp; refine hK _ ?_; clear hK K)
        refine loose_wanted rfl (fun K hK => ?_)
        go_simp
        refine ⟨fun p' => (GrainedOf_any seed size s f mono num px py p p'.w HS.out HX.out.1 HX.out.2.1).mono ?_, ?_⟩
        · rintro e w' ⟨⟨q', rfl, hq'⟩, hb⟩
          rw [← HG.out] at hq'
          subst hq'
          exact ⟨_, rfl, .inl ⟨rfl, rfl⟩, p'.h.trans (hb.mono p'.h.size)⟩
        intro u hu
        obtain rfl := gr_psi1 hu
        refine hK _ ?_
        clear hK K hu
        refine loose_wanted rfl (fun K hK => ?_)
        go_simp
        refine ⟨fun p' => (samePixel_any _ _ _ _ _ _ _ _ p'.w).mono ?_, ?_⟩
        · rintro e w' ⟨rfl, hb⟩
          exact ⟨_, rfl, .inr ⟨by decide, by simp⟩, p'.h.trans (hb.mono p'.h.size)⟩
        intro u hu
        obtain rfl := gr_psi2 hu
        refine hK _ ?_
        clear hK K hu
        iterate 3 (refine loose_wanted rfl (fun K hK => ?_); go_simp; refine hK _ ?_; clear hK K)
        refine loose_nil (fun w5 hb5 => ?_)
        go_wp2_with fail
        go_meet
        exact ⟨rfl, BC.trans (hb5.mono BC.size)⟩
      · obtain rfl := hq0 hW1
        have n1 : (firstE (graE size s f) (plaE px py) == 0) = false := by simpa using hW1
        have n2 : (firstE (graE size s f) (plaE px py) != 0) = true := by simpa using hW1
        generalize firstE (graE size s f) (plaE px py) = E1 at *
        clear hq0 hq1 hW1
        refine wp_region_loose 30 (GrPsi G) (by kernel_rfl) (by kernel_rfl) ?_
        simp only [List.take_succ_cons, List.take_zero, List.drop_succ_cons, List.drop_zero]
        iterate 16 (refine loose_wanted rfl (fun K hK => ?_); go_simp; refine hK _ ?_; clear hK K)
        iterate 13 ((with_reducible refine loose_pass (by kernel_rfl) (fun K hK => ?_)); go_simp; refine hK _ ?_; clear hK K)
        iterate 1 (refine loose_wanted rfl (fun K hK => ?_); go_simp; refine hK _ ?_; clear hK K)
        refine loose_nil (fun w5 hb5 => ?_)
        go_wp2_with fail
        go_meet
        exact ⟨rfl, BC.trans (hb5.mono BC.size)⟩
    case rest =>
      obtain ⟨rfl, B⟩ := hcut
      have SC := SS.out.past B
      clear g0 g1 g2 g3 g4 gn p0 p1 p2 p3 f0 f1 f2 f3 f4 q0 q1 q2 q3 h0 h1 h2 h3 h4 l1 l2 l3 l4 l5 l6 hc3 hf3 hc4 hf4 hb3 hb4 hs3 hs4 B
      obtain ⟨-, -, -, ⟨f0, f1, f2, f3, f4, -⟩, -, ⟨h0, h1, h2, h3, h4, -⟩, ⟨l1, -, l3⟩, BW⟩ := SC
      go_wp2_with (first | (go_at_call 70; refine (FrameError_any _ _ _ _ _ _ _ _ HX.out.2.2.2.1 HX.out.2.2.2.2).mono ?_; rintro e w6 ⟨rfl, hb6⟩; obtain ⟨hc6, hf6, hs6⟩ := bcell hb6; have l1' : w.heap.size + 1 + 1 + 1 < w6.heap.size := (by omega); have l3' : hh < w6.heap.size := (by omega)) | (go_at_call 18; refine (First2_new _ _ _ _ _ (heap_new _ _ _ (by simp))).mono ?_; rintro e w' ⟨rfl, rfl⟩) | (go_at_call 23; refine (none_any _ _ _ _ _ _ _ _).mono ?_; rintro e w7 ⟨rfl, hb7⟩; have hs7 := hb7.size; simp at hs7))
      go_ret
      refine ⟨ret_b (by simp), ?_⟩
      (repeat (first | exact Below.refl _ _ | assumption | (refine Below.setCell ?_ (by first | (simp; done) | (simp; omega) | omega) _) | (refine Below.drew ?_) | (refine below_drewN ?_ _) | (refine Below.alloc ?_ (by first | (simp; done) | (simp; omega) | omega) _) | (refine Below.trans ?_ (Below.mono (by assumption) (by first | (simp; done) | (simp; omega) | omega)))))
end Go.Proofs.Ytmnmcmmhnbnndaa
