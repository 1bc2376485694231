/- What is wrong with grain, in the document: dyeref2.GrainError. No condition. (with: GrD, GrE, GrF, GrH, ShA, AbsA, ShB, ThreeC, ShC, ShD) -/
import Derived.Test.YtbaocallhnehfaaGreatDoorQA
import Derived.Test.YtbaocallhnehfaaGreatDoorBG
import Derived.Test.YtbaocallhnehfaaGreatDoorBD
import Derived.Test.YtbaocallhnehfaaGreatDoorBO
import Derived.BigQuiet
import Derived.Deep.QuietTactic
import Derived.Test.YtbaocallhnehfaaGreatDoorBH
import Derived.Test.YtbaocallhnehfaaGreatDoorBE
namespace Go.Proofs.YtbaocallhnehfaaGreatDoor
open Go.RowKit
theorem tri_low {u v : Nat} (hu : isNum .f32 u = true) (hv : isNum .f32 v = true) : (FloatKind.f32.format.order u v == some .lt) = (!(FloatKind.f32.format.order u v == some .gt) && !(FloatKind.f32.format.order u v == some .eq)) := by
  obtain ⟨o, h1, h2, h3⟩ := ord_some hu hv
  rw [h1, h2, h3]; cases o <;> rfl
theorem tri_high {u v : Nat} (hu : isNum .f32 u = true) (hv : isNum .f32 v = true) : (FloatKind.f32.format.order u v == some .gt) = (!(FloatKind.f32.format.order u v == some .lt) && !(FloatKind.f32.format.order u v == some .eq)) := by
  obtain ⟨o, h1, h2, h3⟩ := ord_some hu hv
  rw [h1, h2, h3]; cases o <;> rfl
theorem two_or {x : Option Ordering} {a b : Ordering} (h : x = some a ∨ x = some b) : (!(x == some a) && !(x == some b)) = false ∧ ((x == some a) || (x == some b)) = true := by
  rcases h with h | h <;> subst h <;> simp
theorem num_4 : isNum .f32 1082130432 = true := by decide +kernel
theorem gr4_eq {v : Nat} (hv : isNum .f32 v = true) : gr4 v = (((FloatKind.f32.format.order v 0 == some .gt) || (FloatKind.f32.format.order v 0 == some .eq)) && ((FloatKind.f32.format.order v 1082130432 == some .lt) || (FloatKind.f32.format.order v 1082130432 == some .eq))) := by
  unfold gr4
  rw [tri_low hv num_01.1, tri_high hv num_4]
  simp
set_option maxRecDepth 100000 in
set_option maxHeartbeats 1600000 in
theorem GrainError_any (seed size : Int) (s f : Nat) (mono : Bool) (w : World) : Calls Tryz.prog 40 #[.agg #[.int .u32 seed, .int .i64 size, .float .f32 s, .float .f32 f, .bool mono]] w fun e w' => e = .returned (.int .i64 (graE size s f)) ∧ Below w.heap.size w w' := by
  cases hi : inB size 1 16
  case false =>
    have hE : graE size s f = 3 := by unfold graE; rw [hi]; rfl
    rw [hE]
    clear hE
    go_enter Tryz.func40, Tryz.ntmps40
    go_wp2_with (first | (go_at_call 38; refine (In_any _ _ _ _).mono ?_; rintro e w' ⟨rfl, rfl⟩))
    go_ret
    refine ⟨rfl, ?_⟩
    (repeat (first | exact Below.refl _ _ | assumption | (refine Below.setCell ?_ (by first | (simp; done) | (simp; omega) | omega) _) | (refine Below.drew ?_) | (refine below_drewN ?_ _) | (refine Below.alloc ?_ (by first | (simp; done) | (simp; omega) | omega) _) | (refine Below.trans ?_ (Below.mono (by assumption) (by first | (simp; done) | (simp; omega) | omega)))))
  case true =>
    have hA : allNum [s, f] = (isNum .f32 s && isNum .f32 f) := by simp [allNum]
    have hE : graE size s f = (if isNum .f32 s && isNum .f32 f then (if gr4 s && gr4 f then 0 else 3) else 2) := by unfold graE; rw [hi, hA]; rfl
    have hE' := Lib.hid hE; clear hE hA
    cases hs : isNum .f32 s <;> cases hf : isNum .f32 f
    case true.true =>
      have g1 := gr4_eq hs
      have g2 := gr4_eq hf
      have G1 := Lib.hid g1; have G2 := Lib.hid g2; clear g1 g2
      go_enter Tryz.func40, Tryz.ntmps40
      go_wp2_with (first | (go_at_call 38; refine (In_any _ _ _ _).mono ?_; rintro e w' ⟨rfl, rfl⟩) | (go_at_call 18; refine (When_any _ _ _).mono ?_; rintro e w' ⟨rfl, rfl⟩) | (go_at_call 37; refine (IsNumberR_any _ _).mono ?_; rintro e w' ⟨rfl, m, rfl⟩))
      all_goals
        go_ret
        refine ⟨ret_i ?_, ?_⟩
        · rw [hE'.out, hs, hf, G1.out, G2.out]
          first | rfl | (simp only [*]; rfl) | (simp [*]; done) | (rename_i k1 k2 k3; obtain ⟨x1, y1⟩ := two_or k1; obtain ⟨x2, y2⟩ := two_or k2; obtain ⟨x3, y3⟩ := two_or k3; rw [x1, x2, x3, y1, y2, y3]; generalize (FloatKind.f32.format.order f 1082130432 == some .lt) = X; generalize (FloatKind.f32.format.order f 1082130432 == some .eq) = Y; cases X <;> cases Y <;> rfl)
        · (repeat (first | exact Below.refl _ _ | assumption | (refine Below.setCell ?_ (by first | (simp; done) | (simp; omega) | omega) _) | (refine Below.drew ?_) | (refine below_drewN ?_ _) | (refine Below.alloc ?_ (by first | (simp; done) | (simp; omega) | omega) _) | (refine Below.trans ?_ (Below.mono (by assumption) (by first | (simp; done) | (simp; omega) | omega)))))
    all_goals
      go_enter Tryz.func40, Tryz.ntmps40
      go_wp2_with (first | (go_at_call 38; refine (In_any _ _ _ _).mono ?_; rintro e w' ⟨rfl, rfl⟩) | (go_at_call 37; refine (IsNumberR_any _ _).mono ?_; rintro e w' ⟨rfl, m, rfl⟩))
      go_ret
      refine ⟨ret_i (by rw [hE'.out, hs, hf]; rfl), ?_⟩
      (repeat (first | exact Below.refl _ _ | assumption | (refine Below.setCell ?_ (by first | (simp; done) | (simp; omega) | omega) _) | (refine Below.drew ?_) | (refine below_drewN ?_ _) | (refine Below.alloc ?_ (by first | (simp; done) | (simp; omega) | omega) _) | (refine Below.trans ?_ (Below.mono (by assumption) (by first | (simp; done) | (simp; omega) | omega)))))
end Go.Proofs.YtbaocallhnehfaaGreatDoor

namespace Go.Proofs.YtbaocallhnehfaaGreatDoor
open Go.RowKit
/-- The noise of four hashes. -/
def uniF (sd a b c n : Int) : Nat := unitF (hashZ sd a b (wrap64 (wrap64 (4 * c) + n)))
def noiF (sd a b c : Int) : Nat := fop .sub .f32 (fop .mul .f32 (fop .add .f32 (fop .add .f32 (uniF sd a b c 0) (uniF sd a b c 1)) (fop .add .f32 (uniF sd a b c 2) (uniF sd a b c 3))) 1056964608) 1065353216
/-- A value with grain. -/
def grnF (sd a b c : Int) (s f v : Nat) : Nat :=
  fop .add .f32 v (fop .mul .f32 (fop .mul .f32 (noiF sd a b c) s) (limF (fop .sub .f32 1065353216 (fop .mul .f32 f v)) 0 1065353216))
end Go.Proofs.YtbaocallhnehfaaGreatDoor

namespace Go.Proofs.YtbaocallhnehfaaGreatDoor
open Go.RowKit
/-- The channel whose noise is taken. -/
def chanZ (mono : Bool) (c : Int) : Int := if mono then 0 else c
def FdPsi (size : Int) (args : Array Value) (u : Value) : Prop := ∃ a : Int, args = #[.int .i64 a, .int .i64 size] ∧ u = .int .i64 (a / size)
end Go.Proofs.YtbaocallhnehfaaGreatDoor

namespace Go.Proofs.YtbaocallhnehfaaGreatDoor
open Go.RowKit
/-- The error of a place. -/
def plaE (x y : Int) : Int := if -1048576 ≤ x ∧ x ≤ 1048576 ∧ -1048576 ≤ y ∧ y ≤ 1048576 then 0 else 5
/-- A pixel with grain. -/
def grnP (sd a b : Int) (mono : Bool) (s f : Nat) (p : Nat → Nat) : Nat → Nat
  | 0 => grnF sd a b (chanZ mono 0) s f (p 0)
  | 1 => grnF sd a b (chanZ mono 1) s f (p 1)
  | 2 => grnF sd a b (chanZ mono 2) s f (p 2)
  | _ => cn .f32 (p 3)
end Go.Proofs.YtbaocallhnehfaaGreatDoor

namespace Go.Proofs.YtbaocallhnehfaaGreatDoor
open Go.RowKit
/-- A frame with grain, pixel by pixel. -/
def grnG (sd x y v size : Int) (mono : Bool) (s f : Nat) (fs : Nat → Nat) (k : Nat) : Nat → Nat := grnP sd ((x + (k : Int) % v) / size) ((y + (k : Int) / v) / size) mono s f (fun c => fs (4 * k + c))
end Go.Proofs.YtbaocallhnehfaaGreatDoor

namespace Go.Proofs.YtbaocallhnehfaaGreatDoor
open Go.RowKit
/-- Where a place lies within n places, or the nearest one. -/
def clampI (a n : Int) : Int := if a < 0 then 0 else if n - 1 < a then n - 1 else a
theorem clampI_bd {a n : Int} (hn : 1 ≤ n) : 0 ≤ clampI a n ∧ clampI a n ≤ n - 1 := by
  unfold clampI; split
  · omega
  · split <;> omega
/-- The number of the single of a place. -/
def spotI (x y v h px py : Int) : Int := 4 * (clampI (py - y) h * v + clampI (px - x) v)
theorem spotI_bd {x y v h px py : Int} (r1 : 1 ≤ v) (r3 : 1 ≤ h) {n : Nat} (hl : (n : Int) = 4 * v * h) : 0 ≤ spotI x y v h px py ∧ spotI x y v h px py + 4 ≤ n := by
  obtain ⟨a1, a2⟩ := clampI_bd (a := px - x) r1
  obtain ⟨b1, b2⟩ := clampI_bd (a := py - y) r3
  unfold spotI
  have m0 : 0 ≤ clampI (py - y) h * v := Int.mul_nonneg b1 (by omega)
  have m1 : clampI (py - y) h * v ≤ (h - 1) * v := Int.mul_le_mul_of_nonneg_right b2 (by omega)
  have e : (h - 1) * v = v * h - v := by rw [Int.sub_mul, Int.mul_comm h v]; omega
  rw [Int.mul_assoc] at hl
  omega
set_option maxRecDepth 100000 in
set_option maxHeartbeats 1600000 in
theorem at_any (x y v h : Int) (b off n cap : Nat) (fs : Nat → Nat) (px py c : Int) (pf : Nat) (w : World) (hr : regErr x y v h = 0) (hl : (n : Int) = 4 * v * h) (hcap : n ≤ cap) (hcb : cap ≤ 9223372036854775807)
    (hpx : -4000000 ≤ px ∧ px ≤ 4000000) (hpy : -4000000 ≤ py ∧ py ≤ 4000000) (hc : 0 ≤ c ∧ c ≤ 3)
    (hF : FrameC w pf x y v h (.slice (some ⟨b, off, none⟩) n cap)) (hcell : ∀ i, i < n → w.cell? ⟨b, off + i, none⟩ = some (.float .f32 (fs i))) :
    Calls Tryz.prog 93 #[.int .i64 px, .int .i64 py, .int .i64 c, .pointer (some ⟨pf, 0, none⟩)] w fun e w' => e = .returned (.float .f32 (fs (spotI x y v h px py + c).toNat)) ∧ Below w.heap.size w w' := by
  obtain ⟨r1, r2, r3, r4, r5, r6, r7, r8, r9, r10⟩ := regErr_ok hr
  obtain ⟨s1, s2⟩ := spotI_bd (x := x) (y := y) (px := px) (py := py) r1 r3 hl
  obtain ⟨a1, a2⟩ := clampI_bd (a := px - x) r1
  obtain ⟨b1, b2⟩ := clampI_bd (a := py - y) r3
  obtain ⟨A, hA⟩ : ∃ A, A = clampI (px - x) v := ⟨_, rfl⟩
  obtain ⟨B, hB⟩ : ∃ B, B = clampI (py - y) h := ⟨_, rfl⟩
  have C := hcell (spotI x y v h px py + c).toNat (by omega)
  have hpfl := hF.lt
  have hbl : b < w.heap.size := cell_lt C
  obtain ⟨f0, f1, f2, f3, f4, -⟩ := hF
  have HS := Lib.hid (And.intro s1 s2)
  unfold spotI at s1 s2 C ⊢
  rw [← hA, ← hB] at s1 s2 C ⊢
  rw [← hA] at a1 a2
  rw [← hB] at b1 b2
  have m1 : 0 ≤ B * v := Int.mul_nonneg b1 (by omega)
  have m2 : B * v ≤ 256 * 256 := Int.mul_le_mul (by omega) r2 (by omega) (by omega)
  obtain ⟨x1, x2⟩ := hpx
  obtain ⟨y1, y2⟩ := hpy
  obtain ⟨c1, c2⟩ := hc
  have HAB := Lib.hid (And.intro hA hB)
  have e1 : (if v - 1 < (if px - x < 0 then 0 else px - x) then v - 1 else (if px - x < 0 then 0 else px - x)) = A := by
    rw [hA]; unfold clampI
    by_cases k : px - x < 0
    · rw [if_pos k, if_pos k, if_neg (by omega)]
    · rw [if_neg k, if_neg k]
  have e2 : (if h - 1 < (if py - y < 0 then 0 else py - y) then h - 1 else (if py - y < 0 then 0 else py - y)) = B := by
    rw [hB]; unfold clampI
    by_cases k : py - y < 0
    · rw [if_pos k, if_pos k, if_neg (by omega)]
    · rw [if_neg k, if_neg k]
  have E1 := Lib.hid e1; have E2 := Lib.hid e2; clear e1 e2
  clear hcell hr r5 r6 hA hB
  go_enter Tryz.func93, Tryz.ntmps93
  go_wp2_with fail
  go_quiet (fail)
  have e1 := E1.out; have e2 := E2.out
  simp only [e1, e2]
  have j0 := HS.out
  unfold spotI at j0
  rw [← HAB.out.1, ← HAB.out.2] at j0
  obtain ⟨j1, j2⟩ := j0
  have i0 : (0 : Int) ≤ 4 * (B * v + A) + c := by omega
  have i1 : 4 * (B * v + A) + c < (n : Int) := by omega
  clear e1 e2 E1 E2 HAB HS
  generalize hBv : B * v = Z at *
  go_wp2_with fail
  all_goals
    go_ret
    exact ⟨rfl, by (repeat (first | exact Below.refl _ _ | assumption | (refine Below.setCell ?_ (by first | (simp; done) | (simp; omega) | omega) _) | (refine Below.drew ?_) | (refine below_drewN ?_ _) | (refine Below.alloc ?_ (by first | (simp; done) | (simp; omega) | omega) _) | (refine Below.trans ?_ (Below.mono (by assumption) (by first | (simp; done) | (simp; omega) | omega)))))⟩
end Go.Proofs.YtbaocallhnehfaaGreatDoor

namespace Go.Proofs.YtbaocallhnehfaaGreatDoor
open Go Go.RowKit
def absF (b : Nat) : Nat := (bits .andNot .u64 (b : Int) 9223372036854775808).toNat
set_option maxHeartbeats 800000 in
theorem Abs_any (b : Nat) (w : World) : Calls Tryz.prog 122 #[.float .f64 b] w fun e w' => e = .returned (.float .f64 (absF b)) ∧ w = w' := by
  go_enter Tryz.func122, Tryz.ntmps122
  go_wp2
  go_ret
  exact ⟨rfl, rfl⟩
theorem andNot_top (x : Nat) (hx : x < 2 ^ 64) : bits .andNot .u64 (x : Int) 9223372036854775808 = ((x % 2 ^ 63 : Nat) : Int) := by
  have e : (BitVec.ofInt 64 (x : Int) &&& ~~~ BitVec.ofInt 64 9223372036854775808).toNat = x % 2 ^ 63 := by
    have h1 : (~~~ BitVec.ofInt 64 9223372036854775808).toNat = 2 ^ 63 - 1 := by decide
    rw [BitVec.toNat_and, h1, Nat.and_two_pow_sub_one_eq_mod, BitVec.ofInt_natCast, BitVec.toNat_ofNat, Nat.mod_eq_of_lt hx]
  have h : x % 2 ^ 63 < 2 ^ 63 := Nat.mod_lt _ (by decide)
  show IntKind.u64.wrap (((BitVec.ofInt 64 (x : Int) &&& ~~~ BitVec.ofInt 64 9223372036854775808).toNat : Nat) : Int) = _
  rw [e, IntKind.wrap_u64]
  omega
theorem absF_eq {r : Nat} (hr : r < 2 ^ FloatKind.f64.format.width) : absF r = r % 2 ^ 63 := by
  have hr : r < 2 ^ 64 := hr
  unfold absF; rw [andNot_top r hr]; rfl
theorem sw64 : FloatKind.f64.format.signWeight = 2 ^ 63 := by decide
theorem abs_rung {r : Nat} (hr : r < 2 ^ FloatKind.f64.format.width) : rung FloatKind.f64.format (absF r) = rung FloatKind.f64.format r ∧ key FloatKind.f64.format (absF r) = (rung FloatKind.f64.format r : Int) := by
  rw [absF_eq hr]
  unfold key sgn rung
  rw [sw64]
  have h : r % 2 ^ 63 < 2 ^ 63 := Nat.mod_lt _ (by decide)
  rw [Nat.mod_eq_of_lt h, Nat.div_eq_of_lt h]
  exact ⟨rfl, rfl⟩
/-- The magnitude of a single, one NaN for all. -/
def absN (x : Nat) : Nat := if isN .f32 x then 2143289344 else x % 2147483648
theorem absN_cn (x : Nat) : absN (cn .f32 x) = absN x := by
  by_cases h : isN .f32 x = true
  · unfold absN; rw [isN_cn, h]; rfl
  · rw [cn_of_not (by simpa using h)]
theorem word_eq {x y : Nat} (hx : x < 2 ^ FloatKind.f32.format.width) (hs : sgn FloatKind.f32.format x = false) (hr : rung FloatKind.f32.format x = rung FloatKind.f32.format y) : x = y % 2147483648 := by
  have hx : x < 4294967296 := hx
  have e : ∀ y, rung FloatKind.f32.format y = y % 2147483648 := fun _ => rfl
  rw [e, e] at hr
  have h2 : (x / 2147483648 % 2 == 1) = false := hs
  simp only [beq_eq_false_iff_ne] at h2
  omega
theorem mag_back {v r : Nat} (hv : v < 2 ^ FloatKind.f32.format.width) (h1 : FR .f64 r (fcv .f32 .f64 (cn .f32 v))) : (isNum .f64 (absF r) = true → ovf .f64 .f32 (absF r) = false) ∧ fcv .f64 .f32 (absF r) = absN v := by
  rw [fcv_cn] at h1
  obtain ⟨a1, a2⟩ := abs_rung h1.lt
  cases hN : isN .f32 v with
  | true =>
    have hr : isN .f64 r = true := by rw [← isN_cn, h1.eq, isN_fcv]; exact hN
    have ha : isN .f64 (absF r) = true := by rw [isN_rung, a1, ← isN_rung]; exact hr
    refine ⟨fun h => (by rw [isNum_not_nan h] at ha; cases ha), ?_⟩
    unfold absN fcv; rw [hN, ha]; exact nan32
  | false =>
    have e : r = fcv .f32 .f64 v := FR.exact h1 (by rw [isN_fcv]; exact hN)
    have eN : absN v = v % 2147483648 := by unfold absN; rw [hN]; rfl
    rw [eN]
    cases hn : isNum .f32 v with
    | true =>
      obtain ⟨u1, u2, u3⟩ := up_exact hn
      have n1 : isNum .f64 (absF r) = true := by unfold isNum; rw [a1, e]; exact u1
      obtain ⟨m, p, hd, hm, -, -⟩ := decode_num n1
      obtain ⟨m', e', -, hm', hb', he'⟩ := decode_num hn
      rw [a1, e, u3, ← hm'] at hm
      obtain ⟨x1, x2, x3⟩ := nearest_val .f32 (sgn FloatKind.f64.format (absF r)) m p m' e' hm hb' he' (by rw [hm']; exact (vq_lt_iff _).2 (by unfold isNum at hn; simpa using hn))
      have hf : fcv .f64 .f32 (absF r) = FloatKind.f32.encode (.number (sgn FloatKind.f64.format (absF r)) m p) := fcv_dec (isNum_not_nan n1) hd
      have hs : sgn FloatKind.f64.format (absF r) = false := by
        rw [absF_eq h1.lt]
        have h : r % 2 ^ 63 < 2 ^ 63 := Nat.mod_lt _ (by decide)
        unfold sgn; rw [sw64, Nat.div_eq_of_lt h]; rfl
      refine ⟨fun _ => ?_, ?_⟩
      · obtain ⟨s, a, b, hnn⟩ := isNum_decode.1 x1
        unfold ovf; rw [hd, hnn]; rfl
      · rw [hf]
        refine word_eq (encode_lt _ _) (by rw [x2]; exact hs) (vq_inj FloatKind.f32.format ?_)
        rw [x3, hm']
    | false =>
      have h : v < 4294967296 := hv
      rw [isN_rung] at hN
      unfold isNum at hn
      rw [f32_ir] at hN hn
      have er : rung FloatKind.f32.format v = v % 2147483648 := rfl
      rw [er] at hN hn
      simp only [decide_eq_false_iff_not] at hN hn
      subst e
      rcases (show v = 2139095040 ∨ v = 4286578688 by omega) with rfl | rfl
      · refine ⟨?_, ?_⟩ <;> decide +kernel
      · refine ⟨?_, ?_⟩ <;> decide +kernel
end Go.Proofs.YtbaocallhnehfaaGreatDoor

namespace Go.Proofs.YtbaocallhnehfaaGreatDoor
open Go.RowKit
/-- The sum of the first neighbours, k and one of them. -/
def shP (T : Int → Int → Nat) (px py : Int) : Nat → Nat
  | 0 => T (px - 1) (py - 1)
  | k + 1 => fop .add .f32 (shP T px py k) (T (px - 1 + ((k + 1 : Nat) : Int) % 3) (py - 1 + ((k + 1 : Nat) : Int) / 3))
/-- The sum of nine neighbours. -/
def shS (T : Int → Int → Nat) (px py : Int) : Nat := shP T px py 8
/-- A value moved away from its neighbours. -/
def shD (S v : Nat) : Nat := fop .sub .f32 v (fop .quo .f32 S 1091567616)
def shF (S least amount v : Nat) : Nat := if (FloatKind.f32.format.order (absN (shD S v)) least == some .lt) = true then cn .f32 v else fop .add .f32 v (fop .mul .f32 (shD S v) amount)
set_option maxHeartbeats 800000 in
theorem Abs32_any (v : Nat) (w : World) (hv : v < 2 ^ FloatKind.f32.format.width) : Calls Tryz.prog 96 #[.float .f32 v] w fun e w' => e = .returned (.float .f32 (absN v)) ∧ ∃ m, w' = w.drewN m := by
  have hv' := Lib.hid hv; clear hv
  go_enter Tryz.func96, Tryz.ntmps96
  go_wp2_with (first | ((with_reducible apply wpList_up); rfl; exact Tryz.underlying41; exact Tryz.underlying157; intro r n hr; obtain ⟨ho, hb⟩ := mag_back hv'.out hr) | (go_at_call 122; refine (Abs_any _ _).mono ?_; rintro e w' ⟨rfl, rfl⟩) | ((with_reducible apply wpList_down); rfl; exact Tryz.underlying157; exact Tryz.underlying41; exact ho; intro t n2 ht) | (go_at_call 116; refine (Clean_any _ _).mono ?_; rintro e w' ⟨rfl, rfl⟩))
  go_ret
  exact ⟨ret_f (by rw [ht.eq, hb]), _, rfl⟩
theorem absN_FR {r s : Nat} (h : FR .f32 r s) : absN r = absN s := by rw [← h.eq, absN_cn]
theorem shD_FR {S r v r1 r2 : Nat} (h : cn .f32 r = cn .f32 S) (h1 : FR .f32 r1 (fop .quo .f32 (cn .f32 r) (cn .f32 1091567616))) (h2 : FR .f32 r2 (fop .sub .f32 (cn .f32 v) (cn .f32 r1))) : FR .f32 r2 (shD S v) := by
  rw [h1.eq, h] at h2
  simp only [fop_cn_left, fop_cn_right] at h2
  exact h2
theorem shF_lt {S r v r1 r2 least amount : Nat} (h : cn .f32 r = cn .f32 S) (h1 : FR .f32 r1 (fop .quo .f32 (cn .f32 r) (cn .f32 1091567616))) (h2 : FR .f32 r2 (fop .sub .f32 (cn .f32 v) (cn .f32 r1)))
    (hl : (FloatKind.f32.format.order (absN r2) least == some .lt) = true) : shF S least amount v = cn .f32 v := by
  unfold shF
  rw [← absN_FR (shD_FR h h1 h2), if_pos hl]
theorem shF_ge {S r v r1 r2 r3 r4 least amount : Nat} (h : cn .f32 r = cn .f32 S) (h1 : FR .f32 r1 (fop .quo .f32 (cn .f32 r) (cn .f32 1091567616))) (h2 : FR .f32 r2 (fop .sub .f32 (cn .f32 v) (cn .f32 r1)))
    (hl : (FloatKind.f32.format.order (absN r2) least == some .lt) = false) (h3 : FR .f32 r3 (fop .mul .f32 (cn .f32 r2) (cn .f32 amount))) (h4 : FR .f32 r4 (fop .add .f32 (cn .f32 v) (cn .f32 r3))) : FR .f32 r4 (shF S least amount v) := by
  have hd := shD_FR h h1 h2
  unfold shF
  rw [← absN_FR hd, if_neg (by rw [hl]; decide)]
  rw [h3.eq, hd.eq] at h4
  simp only [fop_cn_left, fop_cn_right] at h4
  exact h4
/-- The cells that the inner closure holds. -/
structure ShC (w : World) (pat px py pl pa pf : Nat) (X Y : Int) (least amount : Nat) : Prop where
  at' : w.cell? ⟨pat, 0, none⟩ = some (.func (.func 93) #[] #[.pointer (some ⟨pf, 0, none⟩)])
  cx : w.cell? ⟨px, 0, none⟩ = some (.int .i64 X)
  cy : w.cell? ⟨py, 0, none⟩ = some (.int .i64 Y)
  cl : w.cell? ⟨pl, 0, none⟩ = some (.float .f32 least)
  ca : w.cell? ⟨pa, 0, none⟩ = some (.float .f32 amount)
theorem ShC.below {w w' : World} {pat px py pl pa pf : Nat} {X Y : Int} {least amount : Nat} (h : ShC w pat px py pl pa pf X Y least amount) {m : Nat} (hb : Below m w w') (hm : w.heap.size ≤ m) : ShC w' pat px py pl pa pf X Y least amount := by
  obtain ⟨h1, h2, h3, h4, h5⟩ := h
  have l1 := cell_lt h1; have l2 := cell_lt h2; have l3 := cell_lt h3; have l4 := cell_lt h4; have l5 := cell_lt h5
  simp only at l1 l2 l3 l4 l5
  exact ⟨(hb.cell (p := ⟨pat, 0, none⟩) (by show pat < m; omega)).trans h1, (hb.cell (p := ⟨px, 0, none⟩) (by show px < m; omega)).trans h2, (hb.cell (p := ⟨py, 0, none⟩) (by show py < m; omega)).trans h3, (hb.cell (p := ⟨pl, 0, none⟩) (by show pl < m; omega)).trans h4, (hb.cell (p := ⟨pa, 0, none⟩) (by show pa < m; omega)).trans h5⟩
set_option maxRecDepth 100000 in
set_option maxHeartbeats 1600000 in
theorem sh_inner (T : Int → Int → Nat) (c X Y : Int) (v least amount : Nat) (pat px py pl pa pf : Nat) (w : World) (hX : -2000000 ≤ X ∧ X ≤ 2000000) (hY : -2000000 ≤ Y ∧ Y ≤ 2000000) (hv : v < 2 ^ FloatKind.f32.format.width)
    (hC : ShC w pat px py pl pa pf X Y least amount)
    (hat : ∀ a b w', Below w.heap.size w w' → (-4000000 ≤ a ∧ a ≤ 4000000) → (-4000000 ≤ b ∧ b ≤ 4000000) → Calls Tryz.prog 93 #[.int .i64 a, .int .i64 b, .int .i64 c, .pointer (some ⟨pf, 0, none⟩)] w' fun e w'' => e = .returned (.float .f32 (T a b)) ∧ Below w'.heap.size w' w'') :
    Calls Tryz.prog 95 #[.int .i64 c, .float .f32 v, .pointer (some ⟨pat, 0, none⟩), .pointer (some ⟨px, 0, none⟩), .pointer (some ⟨py, 0, none⟩), .pointer (some ⟨pl, 0, none⟩), .pointer (some ⟨pa, 0, none⟩)] w fun e w' =>
      (∃ r, e = .returned (.float .f32 r) ∧ FR .f32 r (shF (shS T X Y) least amount v)) ∧ Below w.heap.size w w' := by
  have HA := Lib.hid hat
  have HV := Lib.hid hv
  have HC := Lib.hid hC
  clear hat hv
  obtain ⟨c1, c2, c3, c4, c5⟩ := hC
  clear c4 c5
  have B := Below.refl w.heap.size w
  go_enter Tryz.func95, Tryz.ntmps95
  go_wp2_with fail
  refine (HA.out _ _ _ B (by omega) (by omega)).mono ?_
  rintro e w1 ⟨rfl, hb⟩
  have B1 := B.trans (hb.mono B.size)
  clear B hb c1 c2 c3
  obtain ⟨c1, c2, c3, -, -⟩ := HC.out.below B1 (Nat.le_refl _)
  have HB := Lib.hid B1; clear B1
  go_wp2_with fail
  go_loopw [10, 11] (fun s i wr => ∃ k r : Nat, k ≤ 8 ∧ i = .int .i64 (k + 1 : Nat) ∧ s = .float .f32 r ∧ cn .f32 r = cn .f32 (shP T X Y k) ∧ Below w.heap.size w wr) (fun s i _ => 9 - (intOf i).toNat)
  case atStart => exact ⟨0, _, by omega, rfl, rfl, rfl, HB.out⟩
  case round =>
    obtain ⟨k, r, hk, rfl, rfl, hr, hB⟩ := hrel
    obtain ⟨c1, c2, c3, c4, c5⟩ := HC.out.below hB (Nat.le_refl _)
    by_cases hk8 : k < 8
    · have d1 : ((k + 1 : Nat) : Int).tmod 3 = ((k + 1 : Nat) : Int) % 3 := Int.tmod_eq_emod_of_nonneg (by omega)
      have d2 : ((k + 1 : Nat) : Int).tdiv 3 = ((k + 1 : Nat) : Int) / 3 := Int.tdiv_eq_ediv_of_nonneg (by omega)
      clear c4 c5
      have HQ := Lib.hid (And.intro hr hB); clear hr hB
      go_wp2_with fail
      refine (HA.out _ _ _ HQ.out.2 (by omega) (by omega)).mono ?_
      rintro e w2 ⟨rfl, hb⟩
      have B2 := HQ.out.2.trans (hb.mono HQ.out.2.size)
      have hr := HQ.out.1
      clear c1 c2 c3 hb HQ
      have HB2 := Lib.hid B2; have HR2 := Lib.hid hr; clear B2 hr
      go_wp2_with (first | ((with_reducible apply wpList_farith); rfl; rfl; rfl; intro _ _ _) | ((with_reducible apply wpList_up); rfl; exact Tryz.underlying41; exact Tryz.underlying157; intro _ _ _))
      rename_i a1
      rename_i a1
      have hB2 := HB2.out
      refine ⟨⟨k + 1, _, by omega, by simp, rfl, ?_, by (repeat (first | exact Below.refl _ _ | assumption | (refine Below.setCell ?_ (by first | (simp; done) | (simp; omega) | omega) _) | (refine Below.drew ?_) | (refine below_drewN ?_ _) | (refine Below.alloc ?_ (by first | (simp; done) | (simp; omega) | omega) _) | (refine Below.trans ?_ (Below.mono (by assumption) (by first | (simp; done) | (simp; omega) | omega)))))⟩, by simp [intOf]; omega⟩
      rw [a1.eq]
      unfold shP
      rw [cn_fop, fop_cn_left, fop_cn_right, ← fop_cn_left, HR2.out, fop_cn_left]
      simp
    · obtain rfl : k = 8 := by omega
      have HQ := Lib.hid (And.intro hr hB); clear hr hB
      clear c1 c2 c3
      go_wp2_with (first | ((with_reducible apply wpList_farith); rfl; rfl; rfl; intro _ _ _) | ((with_reducible apply wpList_up); rfl; exact Tryz.underlying41; exact Tryz.underlying157; intro _ _ _))
      rename_i r1 n1 a1 r2 n2 a2 _ _ _ _
      have HB' : Below w.heap.size w (wr.drewN (n1 + n2)) := by have := HQ.out.2; (repeat (first | exact Below.refl _ _ | assumption | (refine Below.setCell ?_ (by first | (simp; done) | (simp; omega) | omega) _) | (refine Below.drew ?_) | (refine below_drewN ?_ _) | (refine Below.alloc ?_ (by first | (simp; done) | (simp; omega) | omega) _) | (refine Below.trans ?_ (Below.mono (by assumption) (by first | (simp; done) | (simp; omega) | omega)))))
      have hr := Lib.hid HQ.out.1
      clear HQ c4 c5
      generalize wr.drewN (n1 + n2) = W at *
      have c4 := (HC.out.below HB' (Nat.le_refl _)).cl
      have l4 := cell_lt c4; simp only at l4
      refine wp_region_loose 3 (fun _ _ u => u = .float .f32 (absN r2)) (by kernel_rfl) (by kernel_rfl) ?_
      simp only [List.take_succ_cons, List.take_zero, List.drop_succ_cons, List.drop_zero]
      (refine loose_wanted rfl (fun K hK => ?_); go_simp; refine hK _ ?_; clear hK K)
      refine loose_wanted rfl (fun K1 hK => ?_)
      go_simp
      refine ⟨fun p => (Abs32_any _ _ a2.lt).mono ?_, ?_⟩
      · rintro e w' ⟨rfl, m, rfl⟩
        exact ⟨_, rfl, rfl, by have := p.h; (repeat (first | exact Below.refl _ _ | assumption | (refine Below.setCell ?_ (by first | (simp; done) | (simp; omega) | omega) _) | (refine Below.drew ?_) | (refine below_drewN ?_ _) | (refine Below.alloc ?_ (by first | (simp; done) | (simp; omega) | omega) _) | (refine Below.trans ?_ (Below.mono (by assumption) (by first | (simp; done) | (simp; omega) | omega)))))⟩
      refine hK _ ?_
      clear hK K1
      iterate 1 (refine loose_wanted rfl (fun K hK => ?_); go_simp; refine hK _ ?_; clear hK K)
      refine loose_nil (fun w5 hb5 => ?_)
      have B5 := HB'.trans (hb5.mono HB'.size)
      have ca := HC.out.below B5 (Nat.le_refl _)
      have c5 := ca.ca
      clear ca c4
      go_wp2_with (first | ((with_reducible apply wpList_farith); rfl; rfl; rfl; intro _ _ _) | ((with_reducible apply wpList_up); rfl; exact Tryz.underlying41; exact Tryz.underlying157; intro _ _ _))
      all_goals
        have h8 := hr.out
        clear c5 hr hb5 l4 HB' HA HC HB
      · go_ret
        rename_i hl
        exact ⟨⟨v, rfl, by rw [shF_lt (S := shS T X Y) h8 a1 a2 hl]; exact FR.refl HV.out⟩, by (repeat (first | exact Below.refl _ _ | assumption | (refine Below.setCell ?_ (by first | (simp; done) | (simp; omega) | omega) _) | (refine Below.drew ?_) | (refine below_drewN ?_ _) | (refine Below.alloc ?_ (by first | (simp; done) | (simp; omega) | omega) _) | (refine Below.trans ?_ (Below.mono (by assumption) (by first | (simp; done) | (simp; omega) | omega)))))⟩
      · go_ret
        rename_i hl _ _ a3 _ _ a4
        exact ⟨⟨_, rfl, shF_ge (S := shS T X Y) h8 a1 a2 hl a3 a4⟩, by (repeat (first | exact Below.refl _ _ | assumption | (refine Below.setCell ?_ (by first | (simp; done) | (simp; omega) | omega) _) | (refine Below.drew ?_) | (refine below_drewN ?_ _) | (refine Below.alloc ?_ (by first | (simp; done) | (simp; omega) | omega) _) | (refine Below.trans ?_ (Below.mono (by assumption) (by first | (simp; done) | (simp; omega) | omega)))))⟩
end Go.Proofs.YtbaocallhnehfaaGreatDoor

namespace Go.Proofs.YtbaocallhnehfaaGreatDoor
open Go.RowKit
set_option maxRecDepth 100000 in
set_option maxHeartbeats 800000 in
theorem three_in (K : Nat) (caps : Array Value) (g : Int → Nat → Nat) (p0 p1 p2 p3 : Nat) (w : World) (h0 : p0 < 2 ^ FloatKind.f32.format.width) (h1 : p1 < 2 ^ FloatKind.f32.format.width) (h2 : p2 < 2 ^ FloatKind.f32.format.width)
    (hent : ∀ args w, (callFunc K args).run Tryz.prog w = .ok (.enter K args) w)
    (hk : ∀ c v w', (0 ≤ c ∧ c ≤ 2) → Below w.heap.size w w' → v < 2 ^ FloatKind.f32.format.width → Calls Tryz.prog K (#[.int .i64 c, .float .f32 v] ++ caps) w' fun e w'' => ∃ r, e = .returned (.float .f32 r) ∧ FR .f32 r (g c v) ∧ Below w'.heap.size w' w'') :
    Calls Tryz.prog 87 #[.agg #[.float .f32 p0, .float .f32 p1, .float .f32 p2, .float .f32 p3], .func (.func K) #[] caps] w fun e w' =>
      e = .returned (.agg #[.float .f32 (g 0 p0), .float .f32 (g 1 p1), .float .f32 (g 2 p2), .float .f32 (cn .f32 p3)]) ∧ Below w.heap.size w w' := by
  have hk' := Lib.hid hk; clear hk
  have h0' := Lib.hid h0; clear h0
  have h1' := Lib.hid h1; clear h1
  have h2' := Lib.hid h2; clear h2
  go_enter Tryz.func87, Tryz.ntmps87
  go_wp2
  refine wp_loop_rounds 4 ?_
  go_wp2_with (simp only [rounds_succ])
  refine (hk'.out _ _ _ (by decide) ?_ h0'.out).mono ?_
  · (repeat (first | exact Below.refl _ _ | assumption | (refine Below.setCell ?_ (by first | (simp; done) | (simp; omega) | omega) _) | (refine Below.drew ?_) | (refine below_drewN ?_ _) | (refine Below.alloc ?_ (by first | (simp; done) | (simp; omega) | omega) _) | (refine Below.trans ?_ (Below.mono (by assumption) (by first | (simp; done) | (simp; omega) | omega)))))
  rintro e w1 ⟨r0, rfl, hr0, hb0⟩
  have e0 := hr0.eq
  have hs := hb0.size
  simp at hs
  have q0 : w.heap.size < w1.heap.size := by omega
  have qq0 : w.heap.size + 1 < w1.heap.size := by omega
  have P1 : Pix4 w1 w.heap.size p0 p1 p2 p3 := ((Pix4.new w p0 p1 p2 p3 _).below (Below.alloc (Below.refl (w.heap.size + 1) _) (by simp) _) (by omega)).below hb0 (by simp; omega)
  have R1 : Pix4 w1 (w.heap.size + 1) 0 0 0 0 := (by have := Pix4.new (w.alloc (.cells #[.float .f32 p0, .float .f32 p1, .float .f32 p2, .float .f32 p3] 109)) 0 0 0 0 109; simpa using this : Pix4 _ (w.heap.size + 1) 0 0 0 0).below hb0 (by simp)
  have B1 : Below w.heap.size w w1 := by (repeat (first | exact Below.refl _ _ | assumption | (refine Below.setCell ?_ (by first | (simp; done) | (simp; omega) | omega) _) | (refine Below.drew ?_) | (refine below_drewN ?_ _) | (refine Below.alloc ?_ (by first | (simp; done) | (simp; omega) | omega) _) | (refine Below.trans ?_ (Below.mono (by assumption) (by first | (simp; done) | (simp; omega) | omega)))))
  clear hb0
  have hP1 := Lib.hid P1; have hR1 := Lib.hid R1
  obtain ⟨c0, c1, c2, c3, pf⟩ := P1
  obtain ⟨d0, d1, d2, d3, rf⟩ := R1
  clear hs
  go_wp2_with (first | simp only [rounds_succ] | (go_at_call 116; refine (Clean_any _ _).mono ?_; rintro e w' ⟨rfl, rfl⟩))
  refine (hk'.out _ _ _ (by decide) ?_ h1'.out).mono ?_
  · (repeat (first | exact Below.refl _ _ | assumption | (refine Below.setCell ?_ (by first | (simp; done) | (simp; omega) | omega) _) | (refine Below.drew ?_) | (refine below_drewN ?_ _) | (refine Below.alloc ?_ (by first | (simp; done) | (simp; omega) | omega) _) | (refine Below.trans ?_ (Below.mono (by assumption) (by first | (simp; done) | (simp; omega) | omega)))))
  rintro e w2 ⟨r1, rfl, hr1, hb1⟩
  have e1 := hr1.eq
  have hs := hb1.size
  simp at hs
  have q1 : w.heap.size < w2.heap.size := by omega
  have qq1 : w.heap.size + 1 < w2.heap.size := by omega
  have P2 : Pix4 w2 w.heap.size (g 0 p0) p1 p2 p3 := (hP1.out.set0 _).below hb1 (by simpa using q0)
  have R2 : Pix4 w2 (w.heap.size + 1) 0 0 0 0 := (hR1.out.far _ _ (by simp)).below hb1 (by simpa using qq0)
  clear hP1 hR1 c0 c1 c2 c3 pf d0 d1 d2 d3 rf
  have B2 : Below w.heap.size w w2 := by (repeat (first | exact Below.refl _ _ | assumption | (refine Below.setCell ?_ (by first | (simp; done) | (simp; omega) | omega) _) | (refine Below.drew ?_) | (refine below_drewN ?_ _) | (refine Below.alloc ?_ (by first | (simp; done) | (simp; omega) | omega) _) | (refine Below.trans ?_ (Below.mono (by assumption) (by first | (simp; done) | (simp; omega) | omega)))))
  clear hb1
  have hP2 := Lib.hid P2; have hR2 := Lib.hid R2
  obtain ⟨c0, c1, c2, c3, pf⟩ := P2
  obtain ⟨d0, d1, d2, d3, rf⟩ := R2
  clear hs
  go_wp2_with (first | simp only [rounds_succ] | (go_at_call 116; refine (Clean_any _ _).mono ?_; rintro e w' ⟨rfl, rfl⟩))
  refine (hk'.out _ _ _ (by decide) ?_ h2'.out).mono ?_
  · (repeat (first | exact Below.refl _ _ | assumption | (refine Below.setCell ?_ (by first | (simp; done) | (simp; omega) | omega) _) | (refine Below.drew ?_) | (refine below_drewN ?_ _) | (refine Below.alloc ?_ (by first | (simp; done) | (simp; omega) | omega) _) | (refine Below.trans ?_ (Below.mono (by assumption) (by first | (simp; done) | (simp; omega) | omega)))))
  rintro e w3 ⟨r2, rfl, hr2, hb2⟩
  have e2 := hr2.eq
  have hs := hb2.size
  simp at hs
  have q2 : w.heap.size < w3.heap.size := by omega
  have qq2 : w.heap.size + 1 < w3.heap.size := by omega
  have P3 : Pix4 w3 w.heap.size (g 0 p0) (g 1 p1) p2 p3 := (hP2.out.set1 _).below hb2 (by simpa using q1)
  have R3 : Pix4 w3 (w.heap.size + 1) 0 0 0 0 := (hR2.out.far _ _ (by simp)).below hb2 (by simpa using qq1)
  clear hP2 hR2 c0 c1 c2 c3 pf d0 d1 d2 d3 rf
  have B3 : Below w.heap.size w w3 := by (repeat (first | exact Below.refl _ _ | assumption | (refine Below.setCell ?_ (by first | (simp; done) | (simp; omega) | omega) _) | (refine Below.drew ?_) | (refine below_drewN ?_ _) | (refine Below.alloc ?_ (by first | (simp; done) | (simp; omega) | omega) _) | (refine Below.trans ?_ (Below.mono (by assumption) (by first | (simp; done) | (simp; omega) | omega)))))
  clear hb2
  have hP3 := Lib.hid P3; have hR3 := Lib.hid R3
  obtain ⟨c0, c1, c2, c3, pf⟩ := P3
  obtain ⟨d0, d1, d2, d3, rf⟩ := R3
  clear hs
  go_wp2_with (first | simp only [rounds_succ] | (go_at_call 116; refine (Clean_any _ _).mono ?_; rintro e w' ⟨rfl, rfl⟩))
  refine bodyPost_ret (v := .agg #[.float .f32 (g 0 p0), .float .f32 (g 1 p1), .float .f32 (g 2 p2), .float .f32 (cn .f32 p3)]) ?_ rfl ⟨rfl, ?_⟩
  · simp [results, Tryz.results87, go_sem, *]
  · exact (((((B3.setCell (by simp) _).setCell (by simp) _).setCell (by simp) _).setCell (by simp) _).setCell (by simp) _).setCell (by simp) _
end Go.Proofs.YtbaocallhnehfaaGreatDoor

namespace Go.Proofs.YtbaocallhnehfaaGreatDoor
open Go.RowKit
/-- The single that is read at a place, by channel. -/
def shT (x y v h : Int) (fs : Nat → Nat) (c a b : Int) : Nat := fs (spotI x y v h a b + c).toNat
/-- A sharp pixel. -/
def shP4 (x y v h : Int) (fs : Nat → Nat) (X Y : Int) (least amount : Nat) (p : Nat → Nat) : Nat → Nat := fun c =>
  if c < 3 then shF (shS (shT x y v h fs c) X Y) least amount (p c) else cn .f32 (p c)
theorem shF_cn {S l a v : Nat} : cn .f32 (shF S l a v) = shF S l a v := by
  unfold shF; split
  · exact cn_cn _ _
  · exact cn_fop _ _ _ _
theorem shP4_cn {x y v h : Int} {fs : Nat → Nat} {X Y : Int} {l a : Nat} {p : Nat → Nat} {c : Nat} : cn .f32 (shP4 x y v h fs X Y l a p c) = shP4 x y v h fs X Y l a p c := by
  unfold shP4; split
  · exact shF_cn
  · exact cn_cn _ _
set_option maxRecDepth 100000 in
set_option maxHeartbeats 1600000 in
theorem Sharpen_closure (x y v h : Int) (b off n cap : Nat) (fs : Nat → Nat) (X Y : Int) (least amount : Nat) (p : Nat → Nat) (pat pl pa pf : Nat) (w : World) (hr : regErr x y v h = 0) (hl : (n : Int) = 4 * v * h) (hcap : n ≤ cap) (hcb : cap ≤ 9223372036854775807)
    (hX : -2000000 ≤ X ∧ X ≤ 2000000) (hY : -2000000 ≤ Y ∧ Y ≤ 2000000) (hp : ∀ c, c < 4 → p c < 2 ^ FloatKind.f32.format.width)
    (hF : FrameC w pf x y v h (.slice (some ⟨b, off, none⟩) n cap)) (hcell : ∀ i, i < n → w.cell? ⟨b, off + i, none⟩ = some (.float .f32 (fs i)))
    (g0 : w.cell? ⟨pat, 0, none⟩ = some (.func (.func 93) #[] #[.pointer (some ⟨pf, 0, none⟩)])) (g1 : w.cell? ⟨pl, 0, none⟩ = some (.float .f32 least)) (g2 : w.cell? ⟨pa, 0, none⟩ = some (.float .f32 amount)) :
    Calls Tryz.prog 94 #[.int .i64 X, .int .i64 Y, .agg #[.float .f32 (p 0), .float .f32 (p 1), .float .f32 (p 2), .float .f32 (p 3)], .pointer (some ⟨pat, 0, none⟩), .pointer (some ⟨pl, 0, none⟩), .pointer (some ⟨pa, 0, none⟩)] w fun e w' =>
      (∃ q : Nat → Nat, e = .returned (.agg #[.float .f32 (q 0), .float .f32 (q 1), .float .f32 (q 2), .float .f32 (q 3)]) ∧ q = shP4 x y v h fs X Y least amount p) ∧ Below w.heap.size w w' := by
  have h0 := hp 0 (by omega); have h1 := hp 1 (by omega); have h2 := hp 2 (by omega)
  have H := Lib.hid (And.intro h0 (And.intro h1 h2))
  have l0 := cell_lt g0; have l1 := cell_lt g1; have l2 := cell_lt g2
  simp only at l0 l1 l2
  have hn0 : 0 < n := by
    obtain ⟨r1, r2, r3, r4, r5, r6, r7, r8, r9, r10⟩ := regErr_ok hr
    have : 4 ≤ 4 * v * h := by { rw [Int.mul_assoc]; omega }
    omega
  have hbw : b < w.heap.size := cell_lt (hcell 0 hn0)
  have hAT : ∀ c : Int, (0 ≤ c ∧ c ≤ 3) → ∀ a b' w', Below w.heap.size w w' → (-4000000 ≤ a ∧ a ≤ 4000000) → (-4000000 ≤ b' ∧ b' ≤ 4000000) → Calls Tryz.prog 93 #[.int .i64 a, .int .i64 b', .int .i64 c, .pointer (some ⟨pf, 0, none⟩)] w' fun e w'' => e = .returned (.float .f32 (shT x y v h fs c a b')) ∧ Below w'.heap.size w' w'' := fun c hc a b' w' hb ha hb' =>
    at_any x y v h b off n cap fs a b' c pf w' hr hl hcap hcb ha hb' hc (hF.below hb hF.lt) (fun i hi => (hb.cell (p := ⟨b, off + i, none⟩) hbw).trans (hcell i hi))
  have HAT := Lib.hid hAT
  clear h0 h1 h2 hp hAT hcell hF hr hl hcap hcb hn0 hbw
  have HX := Lib.hid (And.intro hX hY); clear hX hY
  go_enter Tryz.func94, Tryz.ntmps94
  go_wp2_with fail
  obtain ⟨W, hW⟩ : ∃ W, W = (((w.alloc (.cells #[.int .i64 X] 3)).alloc (.cells #[.int .i64 Y] 3)).alloc (.cells #[.float .f32 (p 0), .float .f32 (p 1), .float .f32 (p 2), .float .f32 (p 3)] 109)).alloc (.cells #[.float .f32 0, .float .f32 0, .float .f32 0, .float .f32 0] 109) := ⟨_, rfl⟩
  have R1 : Pix4 W (w.heap.size + 1 + 1 + 1) 0 0 0 0 := by rw [hW]; exact ⟨by simp [go_sem], by simp [go_sem], by simp [go_sem], by simp [go_sem], fun o => by simp [go_sem]⟩
  have B1 : Below w.heap.size w W := by rw [hW]; (repeat (first | exact Below.refl _ _ | assumption | (refine Below.setCell ?_ (by first | (simp; done) | (simp; omega) | omega) _) | (refine Below.drew ?_) | (refine below_drewN ?_ _) | (refine Below.alloc ?_ (by first | (simp; done) | (simp; omega) | omega) _) | (refine Below.trans ?_ (Below.mono (by assumption) (by first | (simp; done) | (simp; omega) | omega)))))
  have sW : W.heap.size = w.heap.size + 1 + 1 + 1 + 1 := by rw [hW]; simp
  have x0 : W.cell? ⟨w.heap.size, 0, none⟩ = some (.int .i64 X) := by rw [hW]; simp [go_sem]
  have y0 : W.cell? ⟨w.heap.size + 1, 0, none⟩ = some (.int .i64 Y) := by rw [hW]; simp [go_sem]
  have HS : ShC W pat w.heap.size (w.heap.size + 1) pl pa pf X Y least amount := ⟨(B1.cell (p := ⟨pat, 0, none⟩) l0).trans g0, x0, y0, (B1.cell (p := ⟨pl, 0, none⟩) l1).trans g1, (B1.cell (p := ⟨pa, 0, none⟩) l2).trans g2⟩
  rw [← hW]
  clear hW x0 y0 g0 g1 g2
  refine (three_in _ _ (fun c u => shF (shS (shT x y v h fs c) X Y) least amount u) (p 0) (p 1) (p 2) (p 3) W H.out.1 H.out.2.1 H.out.2.2 (body_enters Tryz.func95 (by kernel_rfl) rfl) (fun c u w' hc hb' hu => ?_)).mono ?_
  · refine (sh_inner (shT x y v h fs c) c X Y u least amount pat w.heap.size (w.heap.size + 1) pl pa pf w' HX.out.1 HX.out.2 hu (HS.below hb' (Nat.le_refl _)) (fun a b' w'' hb'' ha hb2 => HAT.out c (by omega) a b' w'' ((B1.trans (hb'.mono B1.size)).trans (hb''.mono (by have := hb'.size; omega))) ha hb2)).mono ?_
    rintro e w'' ⟨⟨r, rfl, hr⟩, hb⟩
    exact ⟨r, rfl, hr, hb⟩
  rintro e w2 ⟨he, hb2⟩
  obtain ⟨q, hq⟩ : ∃ q, q = shP4 x y v h fs X Y least amount p := ⟨_, rfl⟩
  have he2 : e = .returned (.agg #[.float .f32 (q 0), .float .f32 (q 1), .float .f32 (q 2), .float .f32 (q 3)]) := by rw [he, hq]; rfl
  clear he
  subst he2
  have HQ := Lib.hid hq; clear hq
  have R2 := R1.below hb2 (by omega)
  have B2 := B1.trans (hb2.mono (by omega))
  clear R1 B1 hb2 HS
  obtain ⟨d0, d1, d2, d3, df⟩ := R2
  go_wp2_with fail
  refine bodyPost_ret (v := .agg #[.float .f32 (q 0), .float .f32 (q 1), .float .f32 (q 2), .float .f32 (q 3)]) (by simp [results, Tryz.results94, go_sem, d0, d1, d2, d3]) rfl ⟨⟨q, rfl, HQ.out⟩, ?_⟩
  exact (((B2.setCell (by first | (simp; done) | (simp; omega) | omega) _).setCell (by first | (simp; done) | (simp; omega) | omega) _).setCell (by first | (simp; done) | (simp; omega) | omega) _).setCell (by first | (simp; done) | (simp; omega) | omega) _
end Go.Proofs.YtbaocallhnehfaaGreatDoor

namespace Go.Proofs.YtbaocallhnehfaaGreatDoor
open Go.RowKit
/-- A closure is stored as any value of one cell. -/
@[go_sem] theorem run_store_func {P : Program} (w : World) (a : Addr) (m : Mode) (f : Fn) (ts : Array Value) (caps : Array Value) : (store a (.func f ts caps) m).run P w = stored P w a (.func f ts caps) m := run_store P w a _ m rfl
theorem calls_named {P : Program} {f : FuncId} {args : Array Value} {w : World} {Q : Ending → World → Prop} (h : ∀ W, W = w → Calls P f args W Q) : Calls P f args w Q := h w rfl
/-- What is wrong with an amount and a least. -/
def shBad (amount least : Nat) : Bool := ((FloatKind.f32.format.order amount 0 == some .lt) || (FloatKind.f32.format.order amount 1098907648 == some .gt)) || (FloatKind.f32.format.order least 0 == some .lt)
def shE (amount least : Nat) : Int := if allNum [amount, least] then (if shBad amount least then 3 else 0) else 2
theorem shE_ok {amount least : Nat} (h : shE amount least = 0) : allNum [amount, least] = true ∧ shBad amount least = false := by
  unfold shE at h
  cases h1 : allNum [amount, least]
  · rw [h1] at h; cases h
  · rw [h1, if_pos rfl] at h
    cases h2 : shBad amount least
    · exact ⟨rfl, rfl⟩
    · rw [h2, if_pos rfl] at h; cases h
/-- A sharp frame, pixel by pixel. -/
def shG (x y v h : Int) (fs : Nat → Nat) (least amount : Nat) (k : Nat) : Nat → Nat := shP4 x y v h fs (x + (k : Int) % v) (y + (k : Int) / v) least amount (fun c => fs (4 * k + c))
theorem bad_ok {amount least : Nat} (h : shBad amount least = false) : (FloatKind.f32.format.order amount 0 == some .lt) = false ∧ (FloatKind.f32.format.order amount 1098907648 == some .gt) = false ∧ (FloatKind.f32.format.order least 0 == some .lt) = false := by
  unfold shBad at h
  simp only [Bool.or_eq_false_iff] at h
  exact ⟨h.1.1, h.1.2, h.2⟩
set_option maxRecDepth 100000 in
set_option maxHeartbeats 1600000 in
theorem Sharpen_yes (x y v h : Int) (b off n cap : Nat) (fs : Nat → Nat) (amount least : Nat) (w : World) (he : fraErr x y v h n = 0) (hE : shE amount least = 0) (hcap : n ≤ cap) (hcb : cap ≤ 9223372036854775807)
    (hcell : ∀ i, i < n → w.cell? ⟨b, off + i, none⟩ = some (.float .f32 (fs i))) (hfs : ∀ i, i < n → fs i < 2 ^ FloatKind.f32.format.width) :
    Calls Tryz.prog 64 #[.agg #[.int .i64 x, .int .i64 y, .int .i64 v, .int .i64 h, .slice (some ⟨b, off, none⟩) n cap], .float .f32 amount, .float .f32 least] w fun e w' =>
      (∃ g, e = .returned (.tuple #[.agg #[.int .i64 x, .int .i64 y, .int .i64 v, .int .i64 h, .slice (some ⟨g, 0, none⟩) n n], .int .i64 0]) ∧ w.heap.size ≤ g ∧ g < w'.heap.size ∧ ∀ i, i < n → w'.cell? ⟨g, i, none⟩ = some (.float .f32 (shG x y v h fs least amount (i / 4) (i % 4)))) ∧ Below w.heap.size w w' := by
  obtain ⟨hr, hl⟩ := fraErr_ok he
  obtain ⟨r1, r2, r3, r4, r5, r6, r7, r8, r9, r10⟩ := regErr_ok hr
  obtain ⟨hA, hB⟩ := shE_ok hE
  obtain ⟨z1, z2, z3⟩ := bad_ok hB
  have hn0 : 0 < n := by have : 4 ≤ 4 * v * h := by { rw [Int.mul_assoc]; omega }; omega
  have hbw : b < w.heap.size := cell_lt (hcell 0 hn0)
  have HC := Lib.hid (And.intro hcell hfs)
  have HR := Lib.hid (And.intro hr (And.intro hl (And.intro hcap hcb)))
  have HP := Lib.hid (And.intro r1 (And.intro r2 (And.intro r3 (And.intro r4 (And.intro r7 (And.intro r8 (And.intro r9 r10)))))))
  clear hcell hfs hr hl hcap hcb hB hE r1 r2 r3 r4 r5 r6 r7 r8 r9 r10
  go_enter Tryz.func64, Tryz.ntmps64
  go_wp2_with (first | (go_at_call 89; refine (FCheck_any _ _ _ _ _ _ _ _).mono ?_; rintro e w1 ⟨rfl, hb1⟩; obtain ⟨hc1, hf1, hs1⟩ := bcell hb1; simp at hs1; have hq0 : w.heap.size < w1.heap.size := (by omega); have hq1 : w.heap.size + 1 < w1.heap.size := (by omega); have hq2 : w.heap.size + 1 + 1 < w1.heap.size := (by omega); have hq3 : w.heap.size + 1 + 1 + 1 < w1.heap.size := (by omega); rw [he]) | (go_at_call 54; refine (All2_any _ _ _ amount least _ (by simp [go_sem]) (by simp [go_sem])).mono ?_; rintro e w' ⟨rfl, rfl⟩))
  refine calls_named (fun W hW => ?_)
  have B2 : Below w.heap.size w W := by rw [hW]; (repeat (first | exact Below.refl _ _ | assumption | (refine Below.setCell ?_ (by first | (simp; done) | (simp; omega) | omega) _) | (refine Below.drew ?_) | (refine below_drewN ?_ _) | (refine Below.alloc ?_ (by first | (simp; done) | (simp; omega) | omega) _) | (refine Below.trans ?_ (Below.mono (by assumption) (by first | (simp; done) | (simp; omega) | omega)))))
  have sW : W.heap.size = w1.heap.size + 1 + 1 := by rw [hW]; simp
  have B3 : Below w1.heap.size w1 W := by rw [hW]; (repeat (first | exact Below.refl _ _ | assumption | (refine Below.setCell ?_ (by first | (simp; done) | (simp; omega) | omega) _) | (refine Below.drew ?_) | (refine below_drewN ?_ _) | (refine Below.alloc ?_ (by first | (simp; done) | (simp; omega) | omega) _) | (refine Below.trans ?_ (Below.mono (by assumption) (by first | (simp; done) | (simp; omega) | omega)))))
  have ZF1 : FrameC w1 (w.heap.size + 1 + 1 + 1) 0 0 0 0 (.slice none 0 0) := FrameC.below (by exact ⟨by simp [go_sem], by simp [go_sem], by simp [go_sem], by simp [go_sem], by simp [go_sem], fun o => by simp [go_sem]⟩) hb1 (by simp)
  have ZF := ZF1.below B3 hq3
  have FF1 : FrameC w1 w.heap.size x y v h (.slice (some ⟨b, off, none⟩) n cap) := FrameC.below (by exact ⟨by simp [go_sem], by simp [go_sem], by simp [go_sem], by simp [go_sem], by simp [go_sem], fun o => by simp [go_sem]⟩) hb1 (by simp; omega)
  have FF := FF1.below B3 hq0
  have g1 : W.cell? ⟨w.heap.size + 1, 0, none⟩ = some (.float .f32 amount) := by rw [B3.cell (p := ⟨w.heap.size + 1, 0, none⟩) hq1, hc1 _ _ (by first | (simp; done) | (simp; omega) | omega)]; simp [go_sem]
  have g2 : W.cell? ⟨w.heap.size + 1 + 1, 0, none⟩ = some (.float .f32 least) := by rw [B3.cell (p := ⟨w.heap.size + 1 + 1, 0, none⟩) hq2, hc1 _ _ (by first | (simp; done) | (simp; omega) | omega)]; simp [go_sem]
  have g0 : W.cell? ⟨w1.heap.size + 1, 0, none⟩ = some (.func (.func 93) #[] #[.pointer (some ⟨w.heap.size, 0, none⟩)]) := by rw [hW]; simp [go_sem]
  obtain ⟨hr, hl, hcap, hcb⟩ := HR.out
  clear hc1 hf1 hb1 hW ZF1 FF1 B3
  have fl := FF.lt
  have l1 : w1.heap.size + 1 < W.heap.size := by omega
  have l2 : w.heap.size + 1 < W.heap.size := by omega
  have l3 : w.heap.size + 1 + 1 < W.heap.size := by omega
  refine (mapped_any 94 #[.pointer (some ⟨w1.heap.size + 1, 0, none⟩), .pointer (some ⟨w.heap.size + 1 + 1, 0, none⟩), .pointer (some ⟨w.heap.size + 1, 0, none⟩)] x y v h b off n cap fs (shG x y v h fs least amount) W hr hl hcap hcb (fun i hi => (B2.cell (p := ⟨b, off + i, none⟩) hbw).trans (HC.out.1 i hi)) (body_enters Tryz.func94 (by kernel_rfl) rfl) (fun k w' hk hb' => ?_)).mono ?_
  · obtain ⟨r1, r2, r3, r4, r7, r8, r9, r10⟩ := HP.out
    have hkv : (k : Int) < v * h := by have h1 := hl; rw [Int.mul_assoc] at h1; omega
    have m0 : 0 ≤ (k : Int) % v := Int.emod_nonneg _ (by omega)
    have m1 : (k : Int) % v < v := Int.emod_lt_of_pos _ (by omega)
    have m2 : 0 ≤ (k : Int) / v := Int.ediv_nonneg (by omega) (by omega)
    have m3 : (k : Int) / v < h := Int.ediv_lt_of_lt_mul (by omega) (by rw [Int.mul_comm]; exact hkv)
    refine (Sharpen_closure x y v h b off n cap fs (x + (k : Int) % v) (y + (k : Int) / v) least amount (fun c => fs (4 * k + c)) (w1.heap.size + 1) (w.heap.size + 1 + 1) (w.heap.size + 1) w.heap.size w' hr hl hcap hcb (by omega) (by omega) (fun c hc => HC.out.2 _ (by omega)) (FF.below hb' fl) (fun i hi => ((B2.trans (hb'.mono B2.size)).cell (p := ⟨b, off + i, none⟩) hbw).trans (HC.out.1 i hi)) ((hb'.cell (p := ⟨w1.heap.size + 1, 0, none⟩) l1).trans g0) ((hb'.cell (p := ⟨w.heap.size + 1 + 1, 0, none⟩) l3).trans g2) ((hb'.cell (p := ⟨w.heap.size + 1, 0, none⟩) l2).trans g1)).mono ?_
    rintro e w'' ⟨⟨q, rfl, hq⟩, hb⟩
    exact ⟨⟨q, rfl, fun c _ => by rw [hq]; exact shP4_cn⟩, hb⟩
  · rintro e w3 ⟨g, rfl, hg, hgc, hb3⟩
    have Z3 := ZF.below hb3 (by omega)
    have B4 := B2.trans (hb3.mono (by omega))
    have hgl : g < w3.heap.size := cell_lt (hgc 0 hn0)
    have HG := Lib.hid hgc
    clear hgc hb3 ZF B2 g0 g1 g2 FF
    obtain ⟨z0, z1, z2, z3, z4, zf⟩ := Z3
    go_wp2_with fail
    refine bodyPost_ret (v := .tuple #[.agg #[.int .i64 x, .int .i64 y, .int .i64 v, .int .i64 h, .slice (some ⟨g, 0, none⟩) n n], .int .i64 0]) (by simp [results, Tryz.results64, go_sem, z0, z1, z2, z3, z4]) rfl ⟨⟨g, rfl, by omega, by simp; omega, fun i hi => ?_⟩, ?_⟩
    · rw [← HG.out i hi]
      simp [go_sem]
    · exact ((((B4.setCell (by first | (simp; done) | (simp; omega) | omega) _).setCell (by first | (simp; done) | (simp; omega) | omega) _).setCell (by first | (simp; done) | (simp; omega) | omega) _).setCell (by first | (simp; done) | (simp; omega) | omega) _).setCell (by first | (simp; done) | (simp; omega) | omega) _
end Go.Proofs.YtbaocallhnehfaaGreatDoor
