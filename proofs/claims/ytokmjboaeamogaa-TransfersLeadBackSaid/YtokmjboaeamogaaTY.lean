/- Single operations by bounds; the curve of a quotient, walked. Conditions: what each theorem names. (with: TfE) -/
import Derived.Test.YtokmjboaeamogaaTX
import Derived.Test.YtokmjboaeamogaaZmF
import Derived.Test.YtokmjboaeamogaaBG
namespace Go.Proofs.Ytokmjboaeamogaa
open Go Go.RowKit
theorem add32 {x y : Nat} (B : Rat) (hx : isNum .f32 x = true) (hy : isNum .f32 y = true) (hB : (2 : Rat) ^ (-101 : Int) ≤ B) (hB2 : B < (2 : Rat) ^ (99 : Int)) (h1 : -B ≤ val .f32 x + val .f32 y) (h2 : val .f32 x + val .f32 y ≤ B) :
    isNum .f32 (fop .add .f32 x y) = true ∧ Nr (val .f32 (fop .add .f32 x y)) (val .f32 x + val .f32 y) (B * eQ) := by
  obtain ⟨a, b⟩ := wide64 hB2 h1 h2
  have h := fop_add_num hx hy 99 (by decide) (by decide) a b
  exact ⟨h.num, rn_bd h hB hB2 h1 h2⟩
theorem sub32 {x y : Nat} (B : Rat) (hx : isNum .f32 x = true) (hy : isNum .f32 y = true) (hB : (2 : Rat) ^ (-101 : Int) ≤ B) (hB2 : B < (2 : Rat) ^ (99 : Int)) (h1 : -B ≤ val .f32 x - val .f32 y) (h2 : val .f32 x - val .f32 y ≤ B) :
    isNum .f32 (fop .sub .f32 x y) = true ∧ Nr (val .f32 (fop .sub .f32 x y)) (val .f32 x - val .f32 y) (B * eQ) := by
  obtain ⟨a, b⟩ := wide64 hB2 h1 h2
  have h := fop_sub_num hx hy 99 (by decide) (by decide) a b
  exact ⟨h.num, rn_bd h hB hB2 h1 h2⟩
theorem mul32 {x y : Nat} (B : Rat) (hx : isNum .f32 x = true) (hy : isNum .f32 y = true) (hB : (2 : Rat) ^ (-101 : Int) ≤ B) (hB2 : B < (2 : Rat) ^ (99 : Int)) (h1 : -B ≤ val .f32 x * val .f32 y) (h2 : val .f32 x * val .f32 y ≤ B) :
    isNum .f32 (fop .mul .f32 x y) = true ∧ Nr (val .f32 (fop .mul .f32 x y)) (val .f32 x * val .f32 y) (B * eQ) := by
  obtain ⟨a, b⟩ := wide64 hB2 h1 h2
  have h := fop_mul_num hx hy 99 (by decide) (by decide) a b
  exact ⟨h.num, rn_bd h hB hB2 h1 h2⟩
theorem quo32 {x y : Nat} {q : Rat} (B : Rat) (hx : isNum .f32 x = true) (hy : isNum .f32 y = true) (hy0 : val .f32 y ≠ 0) (hq : q * val .f32 y = val .f32 x) (hB : (2 : Rat) ^ (-101 : Int) ≤ B) (hB2 : B < (2 : Rat) ^ (99 : Int)) (h1 : -B ≤ q) (h2 : q ≤ B) :
    isNum .f32 (fop .quo .f32 x y) = true ∧ Nr (val .f32 (fop .quo .f32 x y)) q (B * (2 * eQ)) := by
  obtain ⟨a, b⟩ := wide64 hB2 h1 h2
  have h := fop_quo_num hx hy hy0 hq 99 (by decide) (by decide) a b
  have n := rq_bd h hB hB2 h1 h2
  refine ⟨h.num, ?_⟩
  unfold Nr eQ at *
  constructor <;> grind
theorem flt32 {op : BinOp} {x y r : Nat} (hx : isNum .f32 x = true) (hy : isNum .f32 y = true) (h : fop op .f32 x y = r) (hr : isNum .f32 r = true) : fop op .f32 (cn .f32 x) (cn .f32 y) = r ∧ isN .f32 r = false := by
  have c : ∀ b, isNum .f32 b = true → cn .f32 b = b := fun b hb => by unfold cn; rw [isNum_not_nan hb]; rfl
  rw [c x hx, c y hy]
  exact ⟨h, isNum_not_nan hr⟩
theorem cn_num {k : FloatKind} {b : Nat} (hb : isNum k b = true) : cn k b = b := by unfold cn; rw [isNum_not_nan hb]; rfl
/-- What the curve of a quotient gives, step by step. -/
structure QuoC (A v s q u ww m n x : Nat) : Prop where
  f1 : fop .add .f32 (cn .f32 v) (cn .f32 A) = s
  n1 : isN .f32 s = false
  f2 : fop .quo .f32 (cn .f32 v) (cn .f32 s) = q
  n2 : isN .f32 q = false
  f3 : fop .add .f32 (cn .f32 1065353216) (cn .f32 A) = u
  n3 : isN .f32 u = false
  f4 : fop .mul .f32 (cn .f32 q) (cn .f32 u) = ww
  n4 : isN .f32 ww = false
  c4 : cn .f32 ww = ww
  f5 : fop .mul .f32 (cn .f32 ww) (cn .f32 A) = m
  n5 : isN .f32 m = false
  f6 : fop .sub .f32 (cn .f32 u) (cn .f32 ww) = n
  n6 : isN .f32 n = false
  f7 : fop .quo .f32 (cn .f32 m) (cn .f32 n) = x
  n7 : isN .f32 x = false
  c7 : cn .f32 x = x
theorem one32 : isNum .f32 1065353216 = true ∧ val .f32 1065353216 = 1 := by decide +kernel
theorem quo_codes (A v : Nat) (hA : isNum .f32 A = true) (hv : isNum .f32 v = true) (v0 : 0 ≤ val .f32 v) (v1 : val .f32 v ≤ 1) (a0 : 1 / 64 ≤ val .f32 A) (a1 : val .f32 A ≤ 64) :
    ∃ s q u ww m n x, QuoC A v s q u ww m n x ∧ isNum .f32 x = true ∧ Nr (val .f32 x) (val .f32 v) (1 / 8192) := by
  obtain ⟨o1, o2⟩ := one32
  have sm : (2 : Rat) ^ (-101 : Int) ≤ 1 / 1000 := by decide +kernel
  have bg : (1000 : Rat) < (2 : Rat) ^ (99 : Int) := by decide +kernel
  have e24 : eQ = 1 / 16777216 := rfl
  obtain ⟨vv, hvv⟩ : ∃ vv, vv = val .f32 v := ⟨_, rfl⟩
  obtain ⟨aa, haa⟩ : ∃ aa, aa = val .f32 A := ⟨_, rfl⟩
  rw [← hvv] at v0 v1 ⊢
  rw [← haa] at a0 a1
  obtain ⟨n1, r1⟩ := add32 (x := v) (y := A) (vv + aa) hv hA (by grind) (by grind) (by rw [← hvv, ← haa]; grind) (by rw [← hvv, ← haa]; grind)
  rw [← hvv, ← haa] at r1
  obtain ⟨s, hs⟩ : ∃ s, s = fop .add .f32 v A := ⟨_, rfl⟩
  rw [← hs] at n1 r1
  obtain ⟨n3, r3⟩ := add32 (x := 1065353216) (y := A) (1 + aa) o1 hA (by grind) (by grind) (by rw [o2, ← haa]; grind) (by rw [o2, ← haa]; grind)
  rw [o2, ← haa] at r3
  obtain ⟨u, hu⟩ : ∃ u, u = fop .add .f32 1065353216 A := ⟨_, rfl⟩
  rw [← hu] at n3 r3
  have s0 : 0 < val .f32 s := by unfold Nr at r1; rw [e24] at r1; grind
  obtain ⟨q0, hq0⟩ : ∃ q0, q0 * val .f32 s = vv := ⟨vv / val .f32 s, Rat.div_mul_cancel (by grind)⟩
  obtain ⟨-, p1, p2⟩ := quo_a v0 a0 (by unfold Nr at *; rw [e24] at *; grind) hq0
  obtain ⟨n2, r2⟩ := quo32 (x := v) (y := s) (q := q0) (3 / 2) hv n1 (by grind) (by rw [hq0, hvv]) (by grind) (by grind) (by grind) (by grind)
  obtain ⟨q, hq⟩ : ∃ q, q = fop .quo .f32 v s := ⟨_, rfl⟩
  rw [← hq] at n2 r2
  have r2' : Nr (val .f32 q) q0 (3 * eQ) := by unfold Nr at *; rw [e24] at *; grind
  obtain ⟨g1, g2⟩ := mul_in (x := val .f32 q) (y := val .f32 u) (b := 10002 / 10000) (c := 10001 / 10000 * (1 + aa)) (by unfold Nr at r2'; rw [e24] at r2'; grind) (by unfold Nr at r2'; rw [e24] at r2'; grind) (by unfold Nr at r3; rw [e24] at r3; grind) (by unfold Nr at r3; rw [e24] at r3; grind)
  obtain ⟨n4, r4⟩ := mul32 (x := q) (y := u) (2 * (1 + aa)) n2 n3 (by grind) (by grind) (by grind) (by grind)
  obtain ⟨ww, hw⟩ : ∃ ww, ww = fop .mul .f32 q u := ⟨_, rfl⟩
  rw [← hw] at n4 r4
  obtain ⟨-, w0, w1, hg, -⟩ := quo_b v0 v1 a0 a1 r1 hq0 r2' r3 r4
  have wA1 : val .f32 ww * aa ≤ 1001 / 1000 * aa := Rat.mul_le_mul_of_nonneg_right w1 (by grind)
  have wA0 : -(1 / 10000) * aa ≤ val .f32 ww * aa := Rat.mul_le_mul_of_nonneg_right w0 (by grind)
  obtain ⟨n5, r5⟩ := mul32 (x := ww) (y := A) (2 * aa) n4 hA (by grind) (by grind) (by rw [← haa]; grind) (by rw [← haa]; grind)
  rw [← haa] at r5
  obtain ⟨m, hm⟩ : ∃ m, m = fop .mul .f32 ww A := ⟨_, rfl⟩
  rw [← hm] at n5 r5
  have uB : val .f32 u ≤ 70 := by unfold Nr at r3; rw [e24] at r3; grind
  obtain ⟨n6, r6⟩ := sub32 (x := u) (y := ww) (val .f32 u - val .f32 ww) n3 n4 (by grind) (by grind) (by grind) (by grind)
  obtain ⟨n, hn⟩ : ∃ n, n = fop .sub .f32 u ww := ⟨_, rfl⟩
  rw [← hn] at n6 r6
  have nn0 : val .f32 n ≠ 0 := by unfold Nr at r6; rw [e24] at r6; grind
  obtain ⟨x0, hx0⟩ : ∃ x0, x0 * val .f32 n = val .f32 m := ⟨val .f32 m / val .f32 n, Rat.div_mul_cancel nn0⟩
  obtain ⟨-, x1, x2, x3⟩ := quo_c v0 v1 a0 a1 r1 hq0 r2' r3 r4 r5 r6 hx0
  obtain ⟨n7, r7⟩ := quo32 (x := m) (y := n) (q := x0) 2 n5 n6 nn0 hx0 (by grind) (by grind) (by grind) (by grind)
  obtain ⟨x, hx⟩ : ∃ x, x = fop .quo .f32 m n := ⟨_, rfl⟩
  rw [← hx] at n7 r7
  refine ⟨s, q, u, ww, m, n, x, ⟨(flt32 hv hA hs.symm n1).1, isNum_not_nan n1, (flt32 hv n1 hq.symm n2).1, isNum_not_nan n2, (flt32 o1 hA hu.symm n3).1, isNum_not_nan n3, (flt32 n2 n3 hw.symm n4).1, isNum_not_nan n4, cn_num n4, (flt32 n4 hA hm.symm n5).1, isNum_not_nan n5, (flt32 n3 n4 hn.symm n6).1, isNum_not_nan n6, (flt32 n5 n6 hx.symm n7).1, isNum_not_nan n7, cn_num n7⟩, n7, ?_⟩
  unfold Nr at *
  rw [e24] at r7
  constructor <;> grind
section
variable {A b c v s q u ww m n x : Nat}
theorem encoder_5 (w : World) : Calls Try.prog 17 #[trV 5 A b c] w fun e w' => e = .returned (.func (.func 33) #[] #[.pointer (some ⟨w.heap.size, 0, none⟩)]) ∧ Below w.heap.size w w' ∧ Blk w' w.heap.size [.int .i64 5, .float .f32 A, .float .f32 b, .float .f32 c] := by
  go_enter Try.func17, Try.ntmps17
  go_wp2_with fail
  go_ret
  exact ⟨rfl, by (repeat (first | exact Below.refl _ _ | assumption | (refine Below.setCell ?_ (by first | (simp; done) | (simp; omega) | omega) _) | (refine Below.drew ?_) | (refine below_drewN ?_ _) | (refine Below.alloc ?_ (by first | (simp; done) | (simp; omega) | omega) _) | (refine Below.trans ?_ (Below.mono (by assumption) (by first | (simp; done) | (simp; omega) | omega))))), Blk.new _ _ _ _ rfl⟩
theorem encB_5 (h : QuoC A v s q u ww m n x) (g : Nat) (w : World) (hb : Blk w g [.int .i64 5, .float .f32 A, .float .f32 b, .float .f32 c]) : Calls Try.prog 33 #[.float .f32 v, .pointer (some ⟨g, 0, none⟩)] w fun e w' => e = .returned (.float .f32 ww) ∧ Below w.heap.size w w' := by
  obtain ⟨f1, n1, f2, n2, f3, n3, f4, n4, -, -, -, -, -, -, -, -⟩ := h
  have b1 := hb.c 1 _ rfl; have bl := hb.lt
  clear hb
  go_enter Try.func33, Try.ntmps33
  go_wp2_with (first | ((with_reducible apply wpList_flit); rfl; rfl; rfl; assumption; (first | assumption | (decide +kernel)); intro _))
  go_ret
  exact ⟨rfl, by (repeat (first | exact Below.refl _ _ | assumption | (refine Below.setCell ?_ (by first | (simp; done) | (simp; omega) | omega) _) | (refine Below.drew ?_) | (refine below_drewN ?_ _) | (refine Below.alloc ?_ (by first | (simp; done) | (simp; omega) | omega) _) | (refine Below.trans ?_ (Below.mono (by assumption) (by first | (simp; done) | (simp; omega) | omega)))))⟩
theorem Encode_5 (h : QuoC A v s q u ww m n x) (w : World) (hE : trE 5 A b c = 0) : Calls Try.prog 6 #[trV 5 A b c, .float .f32 v] w fun e w' => e = .returned (.tuple #[.float .f32 ww, .int .i64 0]) ∧ Below w.heap.size w w' := by
  have HC := Lib.hid (fun w => CheckTransfer_any 5 A b c w)
  rw [hE] at HC
  have HQ := Lib.hid h
  have c4 := h.c4
  clear h hE
  go_enter Try.func6, Try.ntmps6
  go_wp2_with (first | (go_at_call 16; refine (Clean_any _ _).mono ?_; rintro e w' ⟨rfl, rfl⟩) | (go_at_call 15; refine (HC.out _).mono ?_; rintro e w1 ⟨rfl, hb1⟩; have k1 : Blk w1 w.heap.size [.int .i64 5, .float .f32 A, .float .f32 b, .float .f32 c] := (Blk.new _ _ _ _ rfl).past hb1; have k10 := k1.c 0 _ rfl; have k11 := k1.c 1 _ rfl; have k12 := k1.c 2 _ rfl; have k13 := k1.c 3 _ rfl; have k1l := k1.lt; have hbA : Below w.heap.size w w1 := Below.trans (by (repeat (first | exact Below.refl _ _ | assumption | (refine Below.setCell ?_ (by first | (simp; done) | (simp; omega) | omega) _) | (refine Below.drew ?_) | (refine below_drewN ?_ _) | (refine Below.alloc ?_ (by first | (simp; done) | (simp; omega) | omega) _) | (refine Below.trans ?_ (Below.mono (by assumption) (by first | (simp; done) | (simp; omega) | omega)))))) (hb1.mono (by simp)); clear k1 hb1) | (go_at_call 17; refine (encoder_5 _).mono ?_; rintro e w2 ⟨rfl, hb2, hk2⟩) | (go_at_call 33; refine (encB_5 HQ.out _ _ hk2).mono ?_; rintro e w3 ⟨rfl, hb3⟩))
  go_ret2
  exact ⟨rfl, hbA.trans ((hb2.trans (hb3.mono hb2.size)).mono hbA.size)⟩
theorem decoder_5 (h : QuoC A v s q u ww m n x) (w : World) : Calls Try.prog 18 #[trV 5 A b c] w fun e w' => ∃ g, e = .returned (.func (.func 39) #[] #[.pointer (some ⟨w.heap.size, 0, none⟩), .pointer (some ⟨g, 0, none⟩)]) ∧ Below w.heap.size w w' ∧ Blk w' w.heap.size [.int .i64 5, .float .f32 A, .float .f32 b, .float .f32 c] ∧ Blk w' g [.float .f32 u] := by
  obtain ⟨-, -, -, -, f3, n3, -, -, -, -, -, -, -, -, -, -⟩ := h
  go_enter Try.func18, Try.ntmps18
  go_wp2_with (first | ((with_reducible apply wpList_flit); rfl; rfl; rfl; assumption; (first | assumption | (decide +kernel)); intro _))
  go_ret
  exact ⟨_, rfl, by (repeat (first | exact Below.refl _ _ | assumption | (refine Below.setCell ?_ (by first | (simp; done) | (simp; omega) | omega) _) | (refine Below.drew ?_) | (refine below_drewN ?_ _) | (refine Below.alloc ?_ (by first | (simp; done) | (simp; omega) | omega) _) | (refine Below.trans ?_ (Below.mono (by assumption) (by first | (simp; done) | (simp; omega) | omega))))), (Blk.new _ _ _ _ rfl).past (by (repeat (first | exact Below.refl _ _ | assumption | (refine Below.setCell ?_ (by first | (simp; done) | (simp; omega) | omega) _) | (refine Below.drew ?_) | (refine below_drewN ?_ _) | (refine Below.alloc ?_ (by first | (simp; done) | (simp; omega) | omega) _) | (refine Below.trans ?_ (Below.mono (by assumption) (by first | (simp; done) | (simp; omega) | omega)))))), Blk.new _ _ _ _ (by first | rfl | simp)⟩
theorem decB_5 (h : QuoC A v s q u ww m n x) (g g2 : Nat) (w : World) (hb : Blk w g [.int .i64 5, .float .f32 A, .float .f32 b, .float .f32 c]) (hb2 : Blk w g2 [.float .f32 u]) : Calls Try.prog 39 #[.float .f32 ww, .pointer (some ⟨g, 0, none⟩), .pointer (some ⟨g2, 0, none⟩)] w fun e w' => e = .returned (.float .f32 x) ∧ Below w.heap.size w w' := by
  obtain ⟨-, -, -, -, -, -, -, -, -, f5, n5, f6, n6, f7, n7, -⟩ := h
  have b1 := hb.c 1 _ rfl; have bl := hb.lt
  have b2 := hb2.c 0 _ rfl; have bl2 := hb2.lt
  clear hb hb2
  go_enter Try.func39, Try.ntmps39
  go_wp2_with (first | ((with_reducible apply wpList_flit); rfl; rfl; rfl; assumption; (first | assumption | (decide +kernel)); intro _))
  go_ret
  exact ⟨rfl, by (repeat (first | exact Below.refl _ _ | assumption | (refine Below.setCell ?_ (by first | (simp; done) | (simp; omega) | omega) _) | (refine Below.drew ?_) | (refine below_drewN ?_ _) | (refine Below.alloc ?_ (by first | (simp; done) | (simp; omega) | omega) _) | (refine Below.trans ?_ (Below.mono (by assumption) (by first | (simp; done) | (simp; omega) | omega)))))⟩
theorem Decode_5 (h : QuoC A v s q u ww m n x) (w : World) (hE : trE 5 A b c = 0) : Calls Try.prog 7 #[trV 5 A b c, .float .f32 ww] w fun e w' => e = .returned (.tuple #[.float .f32 x, .int .i64 0]) ∧ Below w.heap.size w w' := by
  have HC := Lib.hid (fun w => CheckTransfer_any 5 A b c w)
  rw [hE] at HC
  have HQ := Lib.hid h
  have c7 := h.c7
  clear h hE
  go_enter Try.func7, Try.ntmps7
  go_wp2_with (first | (go_at_call 16; refine (Clean_any _ _).mono ?_; rintro e w' ⟨rfl, rfl⟩) | (go_at_call 15; refine (HC.out _).mono ?_; rintro e w1 ⟨rfl, hb1⟩; have k1 : Blk w1 w.heap.size [.int .i64 5, .float .f32 A, .float .f32 b, .float .f32 c] := (Blk.new _ _ _ _ rfl).past hb1; have k10 := k1.c 0 _ rfl; have k11 := k1.c 1 _ rfl; have k12 := k1.c 2 _ rfl; have k13 := k1.c 3 _ rfl; have k1l := k1.lt; have hbA : Below w.heap.size w w1 := Below.trans (by (repeat (first | exact Below.refl _ _ | assumption | (refine Below.setCell ?_ (by first | (simp; done) | (simp; omega) | omega) _) | (refine Below.drew ?_) | (refine below_drewN ?_ _) | (refine Below.alloc ?_ (by first | (simp; done) | (simp; omega) | omega) _) | (refine Below.trans ?_ (Below.mono (by assumption) (by first | (simp; done) | (simp; omega) | omega)))))) (hb1.mono (by simp)); clear k1 hb1) | (go_at_call 18; refine (decoder_5 HQ.out _).mono ?_; rintro e w2 ⟨g2, rfl, hb2, hk2, hk3⟩) | (go_at_call 39; refine (decB_5 HQ.out _ _ _ hk2 hk3).mono ?_; rintro e w3 ⟨rfl, hb3⟩))
  go_ret2
  exact ⟨rfl, hbA.trans ((hb2.trans (hb3.mono hb2.size)).mono hbA.size)⟩
end
end Go.Proofs.Ytokmjboaeamogaa

namespace Go.Proofs.Ytokmjboaeamogaa
open Go Go.RowKit
section
variable {A b c v : Nat}
theorem encoder_1 (w : World) : Calls Try.prog 17 #[trV 1 A b c] w fun e w' => e = .returned (.func (.func 34) #[] #[]) ∧ Below w.heap.size w w' := by
  go_enter Try.func17, Try.ntmps17
  go_wp2_with fail
  go_ret
  exact ⟨rfl, by (repeat (first | exact Below.refl _ _ | assumption | (refine Below.setCell ?_ (by first | (simp; done) | (simp; omega) | omega) _) | (refine Below.drew ?_) | (refine below_drewN ?_ _) | (refine Below.alloc ?_ (by first | (simp; done) | (simp; omega) | omega) _) | (refine Below.trans ?_ (Below.mono (by assumption) (by first | (simp; done) | (simp; omega) | omega)))))⟩
theorem decoder_1 (w : World) : Calls Try.prog 18 #[trV 1 A b c] w fun e w' => e = .returned (.func (.func 40) #[] #[]) ∧ Below w.heap.size w w' := by
  go_enter Try.func18, Try.ntmps18
  go_wp2_with fail
  go_ret
  exact ⟨rfl, by (repeat (first | exact Below.refl _ _ | assumption | (refine Below.setCell ?_ (by first | (simp; done) | (simp; omega) | omega) _) | (refine Below.drew ?_) | (refine below_drewN ?_ _) | (refine Below.alloc ?_ (by first | (simp; done) | (simp; omega) | omega) _) | (refine Below.trans ?_ (Below.mono (by assumption) (by first | (simp; done) | (simp; omega) | omega)))))⟩
theorem encB_1 (w : World) : Calls Try.prog 34 #[.float .f32 v] w fun e w' => e = .returned (.float .f32 v) ∧ Below w.heap.size w w' := by
  go_enter Try.func34, Try.ntmps34
  go_wp2_with fail
  go_ret
  exact ⟨rfl, by (repeat (first | exact Below.refl _ _ | assumption | (refine Below.setCell ?_ (by first | (simp; done) | (simp; omega) | omega) _) | (refine Below.drew ?_) | (refine below_drewN ?_ _) | (refine Below.alloc ?_ (by first | (simp; done) | (simp; omega) | omega) _) | (refine Below.trans ?_ (Below.mono (by assumption) (by first | (simp; done) | (simp; omega) | omega)))))⟩
theorem decB_1 (w : World) : Calls Try.prog 40 #[.float .f32 v] w fun e w' => e = .returned (.float .f32 v) ∧ Below w.heap.size w w' := by
  go_enter Try.func40, Try.ntmps40
  go_wp2_with fail
  go_ret
  exact ⟨rfl, by (repeat (first | exact Below.refl _ _ | assumption | (refine Below.setCell ?_ (by first | (simp; done) | (simp; omega) | omega) _) | (refine Below.drew ?_) | (refine below_drewN ?_ _) | (refine Below.alloc ?_ (by first | (simp; done) | (simp; omega) | omega) _) | (refine Below.trans ?_ (Below.mono (by assumption) (by first | (simp; done) | (simp; omega) | omega)))))⟩
theorem Encode_1 (c4 : cn .f32 v = v) (w : World) (hE : trE 1 A b c = 0) : Calls Try.prog 6 #[trV 1 A b c, .float .f32 v] w fun e w' => e = .returned (.tuple #[.float .f32 v, .int .i64 0]) ∧ Below w.heap.size w w' := by
  have HC := Lib.hid (fun w => CheckTransfer_any 1 A b c w)
  rw [hE] at HC
  clear hE
  go_enter Try.func6, Try.ntmps6
  go_wp2_with (first | (go_at_call 16; refine (Clean_any _ _).mono ?_; rintro e w' ⟨rfl, rfl⟩) | (go_at_call 15; refine (HC.out _).mono ?_; rintro e w1 ⟨rfl, hb1⟩; have k1 : Blk w1 w.heap.size [.int .i64 1, .float .f32 A, .float .f32 b, .float .f32 c] := (Blk.new _ _ _ _ rfl).past hb1; have k10 := k1.c 0 _ rfl; have k11 := k1.c 1 _ rfl; have k12 := k1.c 2 _ rfl; have k13 := k1.c 3 _ rfl; have k1l := k1.lt; have hbA : Below w.heap.size w w1 := Below.trans (by (repeat (first | exact Below.refl _ _ | assumption | (refine Below.setCell ?_ (by first | (simp; done) | (simp; omega) | omega) _) | (refine Below.drew ?_) | (refine below_drewN ?_ _) | (refine Below.alloc ?_ (by first | (simp; done) | (simp; omega) | omega) _) | (refine Below.trans ?_ (Below.mono (by assumption) (by first | (simp; done) | (simp; omega) | omega)))))) (hb1.mono (by simp)); clear k1 hb1) | (go_at_call 17; refine (encoder_1 _).mono ?_; rintro e w2 ⟨rfl, hb2⟩) | (go_at_call 34; refine (encB_1 _).mono ?_; rintro e w3 ⟨rfl, hb3⟩))
  go_ret2
  exact ⟨rfl, hbA.trans ((hb2.trans (hb3.mono hb2.size)).mono hbA.size)⟩
theorem Decode_1 (c4 : cn .f32 v = v) (w : World) (hE : trE 1 A b c = 0) : Calls Try.prog 7 #[trV 1 A b c, .float .f32 v] w fun e w' => e = .returned (.tuple #[.float .f32 v, .int .i64 0]) ∧ Below w.heap.size w w' := by
  have HC := Lib.hid (fun w => CheckTransfer_any 1 A b c w)
  rw [hE] at HC
  clear hE
  go_enter Try.func7, Try.ntmps7
  go_wp2_with (first | (go_at_call 16; refine (Clean_any _ _).mono ?_; rintro e w' ⟨rfl, rfl⟩) | (go_at_call 15; refine (HC.out _).mono ?_; rintro e w1 ⟨rfl, hb1⟩; have k1 : Blk w1 w.heap.size [.int .i64 1, .float .f32 A, .float .f32 b, .float .f32 c] := (Blk.new _ _ _ _ rfl).past hb1; have k10 := k1.c 0 _ rfl; have k11 := k1.c 1 _ rfl; have k12 := k1.c 2 _ rfl; have k13 := k1.c 3 _ rfl; have k1l := k1.lt; have hbA : Below w.heap.size w w1 := Below.trans (by (repeat (first | exact Below.refl _ _ | assumption | (refine Below.setCell ?_ (by first | (simp; done) | (simp; omega) | omega) _) | (refine Below.drew ?_) | (refine below_drewN ?_ _) | (refine Below.alloc ?_ (by first | (simp; done) | (simp; omega) | omega) _) | (refine Below.trans ?_ (Below.mono (by assumption) (by first | (simp; done) | (simp; omega) | omega)))))) (hb1.mono (by simp)); clear k1 hb1) | (go_at_call 18; refine (decoder_1 _).mono ?_; rintro e w2 ⟨rfl, hb2⟩) | (go_at_call 40; refine (decB_1 _).mono ?_; rintro e w3 ⟨rfl, hb3⟩))
  go_ret2
  exact ⟨rfl, hbA.trans ((hb2.trans (hb3.mono hb2.size)).mono hbA.size)⟩
end
end Go.Proofs.Ytokmjboaeamogaa
