/- dyelaw2.TransfersLeadBack returns true for every input. No condition. -/
import Derived.Test.YtokmjboaeamogaaTZ
import Derived.Test.YtokmjboaeamogaaZmG
import Derived.Test.YtokmjboaeamogaaHueA
import Derived.Test.YtokmjboaeamogaaPiL
namespace Go.Proofs.Ytokmjboaeamogaa
open Go Go.RowKit
theorem in_num {v : Nat} (h1 : ((FloatKind.f32.format.order v 0 == some .gt) || (FloatKind.f32.format.order v 0 == some .eq)) = true) (h2 : ((FloatKind.f32.format.order v 1065353216 == some .lt) || (FloatKind.f32.format.order v 1065353216 == some .eq)) = true) : isNum .f32 v = true ∧ 0 ≤ val .f32 v ∧ val .f32 v ≤ 1 := by
  have hn : isN .f32 v = false := by
    cases h : isN .f32 v with
    | false => rfl
    | true => rw [ord_nan_l 0 h] at h1; cases h1
  have z : isNum .f32 0 = true := by decide +kernel
  obtain ⟨no, vo⟩ := one32
  have k0 : key FloatKind.f32.format 0 = 0 := by decide +kernel
  have k1 : key FloatKind.f32.format 1065353216 = 1065353216 := by decide +kernel
  have km : key FloatKind.f32.format 2139095039 = 2139095039 := by decide +kernel
  have kn : key FloatKind.f32.format 4286578687 = -2139095039 := by decide +kernel
  rw [ord_gt hn (isNum_not_nan z), ord_eq hn (isNum_not_nan z), k0, Bool.or_eq_true, decide_eq_true_eq, decide_eq_true_eq] at h1
  rw [ord_lt hn (isNum_not_nan no), ord_eq hn (isNum_not_nan no), k1, Bool.or_eq_true, decide_eq_true_eq, decide_eq_true_eq] at h2
  have hnum : isNum .f32 v = true := by
    rw [isNum_code, ord_self_eq, hn, ord_gt hn (by decide +kernel), ord_lt hn (by decide +kernel), km, kn, decide_eq_false (by omega), decide_eq_false (by omega)]
    rfl
  refine ⟨hnum, ?_, ?_⟩
  · have := val_le_key.2 (show key FloatKind.f32.format 0 ≤ key FloatKind.f32.format v by rw [k0]; omega)
    rw [show val .f32 0 = 0 by decide +kernel] at this
    exact this
  · have := val_le_key.2 (show key FloatKind.f32.format v ≤ key FloatKind.f32.format 1065353216 by rw [k1]; omega)
    rw [vo] at this
    exact this
theorem lv_farithT {P : Program} {op : BinOp} (ho : arith op = true) (t : TypeId) (k : FloatKind) (x y : Nat) (hn : isN k (fop op k x y) = false) (w : World) :
    (binOp op t (.float k x) (.float k y)).run P w = .ok (.float k (fop op k x y)) w := by
  have e : binOp op t (.float k x) (.float k y) = Op.floatArith op k x y := by
    cases op <;> simp only [arith] at ho <;> first | (cases ho; done) | (simp [binOp])
  rw [e, floatArith_of ho]
  cases h : floatBits op k x y with
  | some r =>
    have e2 : fop op k x y = r := by simp [fop, h]
    rw [e2]; rfl
  | none =>
    exfalso
    have e2 : fop op k x y = nanOf k := by simp [fop, h]
    rw [e2] at hn
    revert hn
    cases k <;> decide +kernel
theorem lv_upT {P : Program} {s d : TypeId} (hs : P.underlying s = some (.float .f32)) (hd : P.underlying d = some (.float .f64)) {b : Nat} (hn : isNum .f32 b = true) (w : World) :
    (convert s d (.float .f32 b)).run P w = .ok (.float .f64 (fcv .f32 .f64 b)) w := by
  have e : (Conv.floatToFloat .f32 b .f64).run P w = .ok (.float .f64 (fcv .f32 .f64 b)) w := by
    obtain ⟨m, j, hdc, -, -, -⟩ := decode_num hn
    have ho := ovf_up b
    have hi : isN .f32 b = false := isNum_not_nan hn
    unfold Conv.floatToFloat
    rw [if_neg (by decide), hdc]
    have hov : (FloatKind.f64.decode (FloatKind.f64.encode (.number (sgn FloatKind.f32.format b) m j))).isInfinity = false := by
      unfold ovf at ho; rw [hdc] at ho; exact ho
    simp only [hov]
    rw [fcv_dec hi hdc]
    generalize FloatKind.f64.encode (.number (sgn FloatKind.f32.format b) m j) = X
    rfl
  simp only [convert_ff hs hd, e]
/-- What the walk asks of two numbers that are near. -/
theorem near_facts {v x : Nat} (hv : isNum .f32 v = true) (h : NearV v x) :
    ∃ P U D, (∀ w, (convert 22 30 (.float .f32 x)).run Try.prog w = .ok (.float .f64 P) w) ∧ (∀ w, (convert 22 30 (.float .f32 v)).run Try.prog w = .ok (.float .f64 U) w) ∧ (∀ t w, (binOp .sub t (.float .f64 P) (.float .f64 U)).run Try.prog w = .ok (.float .f64 D) w) ∧ ∀ r, isNum .f64 r = true → val .f64 r = 1 / 4096 → (FloatKind.f64.format.order (absF D) r == some .lt) = true := by
  obtain ⟨nx, hx⟩ := h
  obtain ⟨a1, a2⟩ := up_val32 nx
  obtain ⟨b1, b2⟩ := up_val32 hv
  unfold Nr at hx
  obtain ⟨nD, rD⟩ := sub64 (x := fcv .f32 .f64 x) (y := fcv .f32 .f64 v) 2 a1 b1 (by decide +kernel) (by decide +kernel) (by rw [a2, b2]; grind) (by rw [a2, b2]; grind)
  rw [a2, b2] at rD
  unfold Nr uQ at rD
  refine ⟨_, _, _, lv_upT Try.underlying22 Try.underlying30 nx, lv_upT Try.underlying22 Try.underlying30 hv, fun t w => lv_farithT rfl t .f64 _ _ (isNum_not_nan nD) w, fun r hr vr => ?_⟩
  obtain ⟨n2, e⟩ := abs_both (fop_lt .sub .f64 _ _) nD
  rw [ord_lt (isNum_not_nan n2) (isNum_not_nan hr), decide_eq_true_eq]
  refine val_lt_key.1 ?_
  rw [vr]
  rcases e with e | e <;> rw [e] <;> grind
theorem Ldexp_m12 (w : World) : Calls Try.prog 9 #[.float .f64 4607182418800017408, .int .i64 (-12)] w fun e w' => ∃ r, e = .returned (.float .f64 r) ∧ (isNum .f64 r = true ∧ val .f64 r = 1 / 4096) ∧ ∃ m, w' = w.drewN m := by
  refine (Ldexp_val (b := 4607182418800017408) (-12) w (by decide +kernel) (by decide +kernel) (by decide +kernel) (by decide) (by decide) (by decide)).mono ?_
  rintro e w' ⟨r, rfl, ⟨h1, -, h2⟩, hm⟩
  refine ⟨r, rfl, ⟨h1, ?_⟩, hm⟩
  rw [h2, one64.2]
  decide +kernel
set_option maxHeartbeats 3200000 in
theorem tb_no (k : Int) (A b c v : Nat) (w : World) (h : trE k A b c ≠ 0 ∨ (trE k A b c = 0 ∧ k = 3) ∨ (trE k A b c = 0 ∧ k ≠ 3 ∧ ((FloatKind.f32.format.order v 0 == some .gt) || (FloatKind.f32.format.order v 0 == some .eq)) = false) ∨ (trE k A b c = 0 ∧ k ≠ 3 ∧ ((FloatKind.f32.format.order v 0 == some .gt) || (FloatKind.f32.format.order v 0 == some .eq)) = true ∧ ((FloatKind.f32.format.order v 1065353216 == some .lt) || (FloatKind.f32.format.order v 1065353216 == some .eq)) = false)) :
    Calls Try.prog 3 #[trV k A b c, .float .f32 v] w fun e w' => e = .returned (.bool true) ∧ Below w.heap.size w w' := by
  have HT := Lib.hid (fun w => TransferError_any k A b c w)
  obtain ⟨E, hE⟩ : ∃ E, E = trE k A b c := ⟨_, rfl⟩
  rw [← hE] at HT h
  clear hE
  rcases h with h | ⟨rfl, h3⟩ | ⟨rfl, h3, h4⟩ | ⟨rfl, h3, h4, h5⟩
  · have hb : (E != 0) = true := by simpa using h
    go_enter Try.func3, Try.ntmps3
    go_upto_region 2 with (first | (go_at_call 4; refine (colours_any _).mono ?_; rintro e w1 ⟨rfl, hb1⟩; have hk0 : Blk w1 w.heap.size [.int .i64 k, .float .f32 A, .float .f32 b, .float .f32 c] := (Blk.new _ _ _ _ rfl).past hb1; have hb0 : Below w.heap.size w w1 := Below.trans (by (repeat (first | exact Below.refl _ _ | assumption | (refine Below.setCell ?_ (by first | (simp; done) | (simp; omega) | omega) _) | (refine Below.drew ?_) | (refine below_drewN ?_ _) | (refine Below.alloc ?_ (by first | (simp; done) | (simp; omega) | omega) _) | (refine Below.trans ?_ (Below.mono (by assumption) (by first | (simp; done) | (simp; omega) | omega)))))) (hb1.mono (by simp)); have k00 := hk0.c 0 _ rfl; have k01 := hk0.c 1 _ rfl; have k02 := hk0.c 2 _ rfl; have k03 := hk0.c 3 _ rfl; have k0l := hk0.lt; clear hb1) | (go_at_call 5; refine (HT.out _).mono ?_; rintro e w2 ⟨rfl, hb2⟩; have hk1 := hk0.past hb2; have hbA : Below w.heap.size w w2 := hb0.trans (hb2.mono hb0.size); have k10 := hk1.c 0 _ rfl; have k11 := hk1.c 1 _ rfl; have k12 := hk1.c 2 _ rfl; have k13 := hk1.c 3 _ rfl; have k1l := hk1.lt; clear hb2 hb0 hk0 k00 k01 k02 k03 k0l))
    go_wp2_with (first | (go_at_call 4; refine (colours_any _).mono ?_; rintro e w5 ⟨rfl, hb5⟩))
    go_ret
    exact ⟨rfl, hbA.trans (hb5.mono hbA.size)⟩
  · have hb : (k == 3) = true := by simpa using h3
    clear h3
    go_enter Try.func3, Try.ntmps3
    go_upto_region 2 with (first | (go_at_call 4; refine (colours_any _).mono ?_; rintro e w1 ⟨rfl, hb1⟩; have hk0 : Blk w1 w.heap.size [.int .i64 k, .float .f32 A, .float .f32 b, .float .f32 c] := (Blk.new _ _ _ _ rfl).past hb1; have hb0 : Below w.heap.size w w1 := Below.trans (by (repeat (first | exact Below.refl _ _ | assumption | (refine Below.setCell ?_ (by first | (simp; done) | (simp; omega) | omega) _) | (refine Below.drew ?_) | (refine below_drewN ?_ _) | (refine Below.alloc ?_ (by first | (simp; done) | (simp; omega) | omega) _) | (refine Below.trans ?_ (Below.mono (by assumption) (by first | (simp; done) | (simp; omega) | omega)))))) (hb1.mono (by simp)); have k00 := hk0.c 0 _ rfl; have k01 := hk0.c 1 _ rfl; have k02 := hk0.c 2 _ rfl; have k03 := hk0.c 3 _ rfl; have k0l := hk0.lt; clear hb1) | (go_at_call 5; refine (HT.out _).mono ?_; rintro e w2 ⟨rfl, hb2⟩; have hk1 := hk0.past hb2; have hbA : Below w.heap.size w w2 := hb0.trans (hb2.mono hb0.size); have k10 := hk1.c 0 _ rfl; have k11 := hk1.c 1 _ rfl; have k12 := hk1.c 2 _ rfl; have k13 := hk1.c 3 _ rfl; have k1l := hk1.lt; clear hb2 hb0 hk0 k00 k01 k02 k03 k0l))
    go_wp2_with (first | (go_at_call 4; refine (colours_any _).mono ?_; rintro e w5 ⟨rfl, hb5⟩))
    go_ret
    exact ⟨rfl, hbA.trans (hb5.mono hbA.size)⟩
  · have hb : (k == 3) = false := by simpa using h3
    clear h3
    go_enter Try.func3, Try.ntmps3
    go_upto_region 2 with (first | (go_at_call 4; refine (colours_any _).mono ?_; rintro e w1 ⟨rfl, hb1⟩; have hk0 : Blk w1 w.heap.size [.int .i64 k, .float .f32 A, .float .f32 b, .float .f32 c] := (Blk.new _ _ _ _ rfl).past hb1; have hb0 : Below w.heap.size w w1 := Below.trans (by (repeat (first | exact Below.refl _ _ | assumption | (refine Below.setCell ?_ (by first | (simp; done) | (simp; omega) | omega) _) | (refine Below.drew ?_) | (refine below_drewN ?_ _) | (refine Below.alloc ?_ (by first | (simp; done) | (simp; omega) | omega) _) | (refine Below.trans ?_ (Below.mono (by assumption) (by first | (simp; done) | (simp; omega) | omega)))))) (hb1.mono (by simp)); have k00 := hk0.c 0 _ rfl; have k01 := hk0.c 1 _ rfl; have k02 := hk0.c 2 _ rfl; have k03 := hk0.c 3 _ rfl; have k0l := hk0.lt; clear hb1) | (go_at_call 5; refine (HT.out _).mono ?_; rintro e w2 ⟨rfl, hb2⟩; have hk1 := hk0.past hb2; have hbA : Below w.heap.size w w2 := hb0.trans (hb2.mono hb0.size); have k10 := hk1.c 0 _ rfl; have k11 := hk1.c 1 _ rfl; have k12 := hk1.c 2 _ rfl; have k13 := hk1.c 3 _ rfl; have k1l := hk1.lt; clear hb2 hb0 hk0 k00 k01 k02 k03 k0l))
    go_wp2_with (first | (go_at_call 4; refine (colours_any _).mono ?_; rintro e w5 ⟨rfl, hb5⟩))
    go_ret
    exact ⟨rfl, hbA.trans (hb5.mono hbA.size)⟩
  · have hb : (k == 3) = false := by simpa using h3
    clear h3
    go_enter Try.func3, Try.ntmps3
    go_upto_region 2 with (first | (go_at_call 4; refine (colours_any _).mono ?_; rintro e w1 ⟨rfl, hb1⟩; have hk0 : Blk w1 w.heap.size [.int .i64 k, .float .f32 A, .float .f32 b, .float .f32 c] := (Blk.new _ _ _ _ rfl).past hb1; have hb0 : Below w.heap.size w w1 := Below.trans (by (repeat (first | exact Below.refl _ _ | assumption | (refine Below.setCell ?_ (by first | (simp; done) | (simp; omega) | omega) _) | (refine Below.drew ?_) | (refine below_drewN ?_ _) | (refine Below.alloc ?_ (by first | (simp; done) | (simp; omega) | omega) _) | (refine Below.trans ?_ (Below.mono (by assumption) (by first | (simp; done) | (simp; omega) | omega)))))) (hb1.mono (by simp)); have k00 := hk0.c 0 _ rfl; have k01 := hk0.c 1 _ rfl; have k02 := hk0.c 2 _ rfl; have k03 := hk0.c 3 _ rfl; have k0l := hk0.lt; clear hb1) | (go_at_call 5; refine (HT.out _).mono ?_; rintro e w2 ⟨rfl, hb2⟩; have hk1 := hk0.past hb2; have hbA : Below w.heap.size w w2 := hb0.trans (hb2.mono hb0.size); have k10 := hk1.c 0 _ rfl; have k11 := hk1.c 1 _ rfl; have k12 := hk1.c 2 _ rfl; have k13 := hk1.c 3 _ rfl; have k1l := hk1.lt; clear hb2 hb0 hk0 k00 k01 k02 k03 k0l))
    go_wp2_with (first | (go_at_call 4; refine (colours_any _).mono ?_; rintro e w5 ⟨rfl, hb5⟩))
    go_ret
    exact ⟨rfl, hbA.trans (hb5.mono hbA.size)⟩
set_option maxHeartbeats 3200000 in
theorem tb_yes (k : Int) (A b c v : Nat) (w : World) (hE : trE k A b c = 0) (hk : k ≠ 3) (h4 : ((FloatKind.f32.format.order v 0 == some .gt) || (FloatKind.f32.format.order v 0 == some .eq)) = true) (h5 : ((FloatKind.f32.format.order v 1065353216 == some .lt) || (FloatKind.f32.format.order v 1065353216 == some .eq)) = true) :
    Calls Try.prog 3 #[trV k A b c, .float .f32 v] w fun e w' => e = .returned (.bool true) ∧ Below w.heap.size w w' := by
  have HT := Lib.hid (fun w => TransferError_any k A b c w)
  obtain ⟨hv, v0, v1⟩ := in_num h4 h5
  obtain ⟨S, HEn, HDe⟩ := enc_dec k A b c v hE hk hv v0 v1
  replace HEn := Lib.hid HEn; replace HDe := Lib.hid HDe
  have HN := Lib.hid (fun (x : Nat) (h : NearV v x) => near_facts hv h)
  have hb : (k == 3) = false := by simpa using hk
  rw [hE] at HT
  clear hE hv v0 v1
  go_enter Try.func3, Try.ntmps3
  go_wp2_with (first | (go_at_call 4; refine (colours_any _).mono ?_; rintro e w1 ⟨rfl, hb1⟩; have hk0 : Blk w1 w.heap.size [.int .i64 k, .float .f32 A, .float .f32 b, .float .f32 c] := (Blk.new _ _ _ _ rfl).past hb1; have hb0 : Below w.heap.size w w1 := Below.trans (by (repeat (first | exact Below.refl _ _ | assumption | (refine Below.setCell ?_ (by first | (simp; done) | (simp; omega) | omega) _) | (refine Below.drew ?_) | (refine below_drewN ?_ _) | (refine Below.alloc ?_ (by first | (simp; done) | (simp; omega) | omega) _) | (refine Below.trans ?_ (Below.mono (by assumption) (by first | (simp; done) | (simp; omega) | omega)))))) (hb1.mono (by simp)); have k00 := hk0.c 0 _ rfl; have k01 := hk0.c 1 _ rfl; have k02 := hk0.c 2 _ rfl; have k03 := hk0.c 3 _ rfl; have k0l := hk0.lt; clear hb1) | (go_at_call 5; refine (HT.out _).mono ?_; rintro e w2 ⟨rfl, hb2⟩; have hk1 := hk0.past hb2; have hbA : Below w.heap.size w w2 := hb0.trans (hb2.mono hb0.size); have k10 := hk1.c 0 _ rfl; have k11 := hk1.c 1 _ rfl; have k12 := hk1.c 2 _ rfl; have k13 := hk1.c 3 _ rfl; have k1l := hk1.lt; clear hb2 hb0 hk0 k00 k01 k02 k03 k0l) | ((with_reducible apply wpList_clit); rfl; exact Try.underlying30; exact Try.underlying22; decide; (with_reducible assumption); (with_reducible assumption); (with_reducible assumption); intro _) | ((with_reducible apply wpList_clit); rfl; exact Try.underlying22; exact Try.underlying30; decide; (with_reducible assumption); (with_reducible assumption); (with_reducible assumption); intro _) | ((with_reducible apply wpList_flit); rfl; rfl; rfl; assumption; (first | assumption | (decide +kernel)); intro _) | (go_at_call 6; refine (HEn.out _).mono ?_; rintro e w3 ⟨⟨r, rfl, hr⟩, hb3⟩; have hbB : Below w.heap.size w w3 := hbA.trans (hb3.mono hbA.size); have k20 := (hk1.past (hb3)).c 0 _ rfl; have k21 := (hk1.past (hb3)).c 1 _ rfl; have k22 := (hk1.past (hb3)).c 2 _ rfl; have k23 := (hk1.past (hb3)).c 3 _ rfl; have k2l := (hk1.past (hb3)).lt; replace hr := Lib.hid hr; clear hb3 hk1 k10 k11 k12 k13 k1l) | (go_at_call 7; refine (HDe.out _ hr.out _).mono ?_; rintro e w4 ⟨⟨x, rfl, hx⟩, hb4⟩; have hbC : Below w.heap.size w w4 := hbB.trans (hb4.mono hbB.size); obtain ⟨P, U, D, y1, y2, y3, hD⟩ := HN.out x hx; replace hD := Lib.hid hD; clear hb4 hx) | (go_at_call 8; refine (Abs_any _ _).mono ?_; rintro e w' ⟨rfl, rfl⟩) | (go_at_call 9; refine (Ldexp_m12 _).mono ?_; rintro e w' ⟨r2, rfl, ⟨z1, z2⟩, m, rfl⟩; have hlt := hD.out r2 z1 z2; clear z1 z2))
  go_ret
  exact ⟨rfl, by (repeat (first | exact Below.refl _ _ | assumption | (refine Below.setCell ?_ (by first | (simp; done) | (simp; omega) | omega) _) | (refine Below.drew ?_) | (refine below_drewN ?_ _) | (refine Below.alloc ?_ (by first | (simp; done) | (simp; omega) | omega) _) | (refine Below.trans ?_ (Below.mono (by assumption) (by first | (simp; done) | (simp; omega) | omega)))))⟩
theorem tb_walk (k : Int) (A b c v : Nat) (w : World) (_ : IntKind.i64.min ≤ k ∧ k ≤ IntKind.i64.max) (_ : A < 2 ^ FloatKind.f32.format.width) (_ : b < 2 ^ FloatKind.f32.format.width) (_ : c < 2 ^ FloatKind.f32.format.width) (_ : v < 2 ^ FloatKind.f32.format.width) :
    Calls Try.prog 3 #[.agg #[.int .i64 k, .float .f32 A, .float .f32 b, .float .f32 c], .float .f32 v] w fun e w' => e = .returned (.bool true) ∧ Below w.heap.size w w' := by
  by_cases hE : trE k A b c = 0
  · by_cases hk : k = 3
    · exact tb_no k A b c v w (.inr (.inl ⟨hE, hk⟩))
    · cases h4 : ((FloatKind.f32.format.order v 0 == some .gt) || (FloatKind.f32.format.order v 0 == some .eq)) with
      | false => exact tb_no k A b c v w (.inr (.inr (.inl ⟨hE, hk, h4⟩)))
      | true =>
        cases h5 : ((FloatKind.f32.format.order v 1065353216 == some .lt) || (FloatKind.f32.format.order v 1065353216 == some .eq)) with
        | false => exact tb_no k A b c v w (.inr (.inr (.inr ⟨hE, hk, h4, h5⟩)))
        | true => exact tb_yes k A b c v w hE hk h4 h5
  · exact tb_no k A b c v w (.inl hE)
end Go.Proofs.Ytokmjboaeamogaa
