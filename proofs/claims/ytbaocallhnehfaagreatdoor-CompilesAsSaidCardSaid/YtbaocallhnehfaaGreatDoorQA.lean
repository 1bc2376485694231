/- What is wrong with a tone curve: finish.CheckTone and dyeref2.ToneError. No condition. (with: PgB, GrA, GrB, SqA, VgA, VgB, VgC, VgD) -/
import Derived.Test.YtbaocallhnehfaaGreatDoorBE
import Derived.Test.YtbaocallhnehfaaGreatDoorBG
import Derived.Test.YtbaocallhnehfaaGreatDoorBD
import Derived.Test.YtbaocallhnehfaaGreatDoorBA
import Derived.Test.YtbaocallhnehfaaGreatDoorBH
namespace Go.Proofs.YtbaocallhnehfaaGreatDoor
open Go Go.RowKit
def geO (a c : Nat) : Bool := FloatKind.f32.format.order a c == some .gt || FloatKind.f32.format.order a c == some .eq
def leO (a c : Nat) : Bool := FloatKind.f32.format.order a c == some .lt || FloatKind.f32.format.order a c == some .eq
def toneR (kind : Int) (a b : Nat) : Bool :=
  if kind = 1 then geO a 1056964608 && leO a 1148846080 && (FloatKind.f32.format.order b 0 == some .eq)
  else if kind = 2 then geO a 0 && (FloatKind.f32.format.order a b == some .lt) && leO b 1148846080
  else geO a 1048576000 && leO a 1098907648 && geO b 0 && leO b 1065353216
/-- What is wrong with a tone curve. -/
def toneE (kind : Int) (a b : Nat) : Int := if inB kind 1 3 then (if allNum [a, b] then (if toneR kind a b then 0 else 3) else 2) else 1
set_option maxRecDepth 100000 in
set_option maxHeartbeats 1600000 in
theorem CheckTone_any (kind : Int) (a b : Nat) (w : World) : Calls Tryz.prog 56 #[.agg #[.int .i64 kind, .float .f32 a, .float .f32 b]] w fun e w' => e = .returned (.int .i64 (toneE kind a b)) ∧ Below w.heap.size w w' := by
  by_cases hk : kind = 1 ∨ kind = 2 ∨ kind = 3
  · rcases hk with rfl | rfl | rfl
    all_goals
      cases hA : allNum [a, b]
      all_goals
        go_enter Tryz.func56, Tryz.ntmps56
        go_wp2_with (first | (go_at_call 54; refine (All2_any _ _ _ a b _ (by simp [go_sem]) (by simp [go_sem])).mono ?_; rintro e w' ⟨rfl, rfl⟩))
        all_goals
          go_ret
          refine ⟨ret_i ?_, by (repeat (first | exact Below.refl _ _ | assumption | (refine Below.setCell ?_ (by first | (simp; done) | (simp; omega) | omega) _) | (refine Below.drew ?_) | (refine below_drewN ?_ _) | (refine Below.alloc ?_ (by first | (simp; done) | (simp; omega) | omega) _) | (refine Below.trans ?_ (Below.mono (by assumption) (by first | (simp; done) | (simp; omega) | omega)))))⟩
          first | (simp_all [toneE, toneR, geO, leO, inB]; done) | (simp_all [toneE, toneR, geO, leO, inB]; grind)
  · have h1 : ¬ kind = 1 := fun e => hk (.inl e)
    have h2 : ¬ kind = 2 := fun e => hk (.inr (.inl e))
    have h3 : ¬ kind = 3 := fun e => hk (.inr (.inr e))
    have hE : toneE kind a b = 1 := by unfold toneE; rw [inB_f (by omega)]; rfl
    rw [hE]
    clear hE hk
    go_enter Tryz.func56, Tryz.ntmps56
    go_wp2_with fail
    go_ret
    exact ⟨rfl, by (repeat (first | exact Below.refl _ _ | assumption | (refine Below.setCell ?_ (by first | (simp; done) | (simp; omega) | omega) _) | (refine Below.drew ?_) | (refine below_drewN ?_ _) | (refine Below.alloc ?_ (by first | (simp; done) | (simp; omega) | omega) _) | (refine Below.trans ?_ (Below.mono (by assumption) (by first | (simp; done) | (simp; omega) | omega)))))⟩
set_option maxRecDepth 100000 in
set_option maxHeartbeats 1600000 in
theorem ToneError_any (kind : Int) (a b : Nat) (w : World) : Calls Tryz.prog 39 #[.agg #[.int .i64 kind, .float .f32 a, .float .f32 b]] w fun e w' => e = .returned (.int .i64 (toneE kind a b)) ∧ Below w.heap.size w w' := by
  have hA : allNum [a, b] = (isNum .f32 a && isNum .f32 b) := by simp [allNum]
  by_cases hk : kind = 1 ∨ kind = 2 ∨ kind = 3
  · have hin : inB kind 1 3 = true := inB_t (by omega)
    have HIN := Lib.hid hin
    rcases hk with rfl | rfl | rfl
    all_goals
      cases hs : isNum .f32 a <;> cases hf : isNum .f32 b
      all_goals
        go_enter Tryz.func39, Tryz.ntmps39
        go_wp2_with (first | (go_at_call 38; refine (In_any _ _ _ _).mono ?_; rintro e w' ⟨rfl, rfl⟩) | (go_at_call 18; refine (When_any _ _ _).mono ?_; rintro e w' ⟨rfl, rfl⟩) | (go_at_call 37; refine (IsNumberR_any _ _).mono ?_; rintro e w' ⟨rfl, m, rfl⟩))
        all_goals
          go_ret
          refine ⟨ret_i ?_, by (repeat (first | exact Below.refl _ _ | assumption | (refine Below.setCell ?_ (by first | (simp; done) | (simp; omega) | omega) _) | (refine Below.drew ?_) | (refine below_drewN ?_ _) | (refine Below.alloc ?_ (by first | (simp; done) | (simp; omega) | omega) _) | (refine Below.trans ?_ (Below.mono (by assumption) (by first | (simp; done) | (simp; omega) | omega)))))⟩
          first | (simp_all [toneE, toneR, geO, leO, inB, whenE]; done) | (simp_all [toneE, toneR, geO, leO, inB, whenE]; grind)
  · have hin : inB kind 1 3 = false := inB_f (by omega)
    have hE : toneE kind a b = 1 := by unfold toneE; rw [hin]; rfl
    rw [hE]
    clear hE hk
    go_enter Tryz.func39, Tryz.ntmps39
    go_wp2_with (first | (go_at_call 38; refine (In_any _ _ _ _).mono ?_; rintro e w' ⟨rfl, rfl⟩))
    go_ret
    exact ⟨rfl, by (repeat (first | exact Below.refl _ _ | assumption | (refine Below.setCell ?_ (by first | (simp; done) | (simp; omega) | omega) _) | (refine Below.drew ?_) | (refine below_drewN ?_ _) | (refine Below.alloc ?_ (by first | (simp; done) | (simp; omega) | omega) _) | (refine Below.trans ?_ (Below.mono (by assumption) (by first | (simp; done) | (simp; omega) | omega)))))⟩
end Go.Proofs.YtbaocallhnehfaaGreatDoor

namespace Go.Proofs.YtbaocallhnehfaaGreatDoor
open Go Go.RowKit
/-- What is wrong with a ramp. -/
def rampE (lo hi so : Nat) : Int := if allNum [lo, hi, so] then (if FloatKind.f32.format.order lo hi == some .gt then 8 else if FloatKind.f32.format.order so 0 == some .lt then 3 else 0) else 2
set_option maxRecDepth 100000 in
set_option maxHeartbeats 1600000 in
theorem CheckRamp_any (lo hi so : Nat) (w : World) : Calls Tryz.prog 43 #[.agg #[.float .f32 lo, .float .f32 hi, .float .f32 so]] w fun e w' => e = .returned (.int .i64 (rampE lo hi so)) ∧ Below w.heap.size w w' := by
  cases hA : allNum [lo, hi, so]
  all_goals
    go_enter Tryz.func43, Tryz.ntmps43
    go_wp2_with (first | (go_at_call 54; refine (All3_any _ _ _ lo hi so _ (by simp [go_sem]) (by simp [go_sem]) (by simp [go_sem])).mono ?_; rintro e w' ⟨rfl, rfl⟩))
    all_goals
      go_ret
      refine ⟨ret_i ?_, by (repeat (first | exact Below.refl _ _ | assumption | (refine Below.setCell ?_ (by first | (simp; done) | (simp; omega) | omega) _) | (refine Below.drew ?_) | (refine below_drewN ?_ _) | (refine Below.alloc ?_ (by first | (simp; done) | (simp; omega) | omega) _) | (refine Below.trans ?_ (Below.mono (by assumption) (by first | (simp; done) | (simp; omega) | omega)))))⟩
      simp_all [rampE]
def hueB (c h s : Nat) : Bool := !(geO c 0 && FloatKind.f32.format.order c 1065353216 == some .lt) || (FloatKind.f32.format.order h 0 == some .lt) || (FloatKind.f32.format.order h 1056964608 == some .gt) || (FloatKind.f32.format.order s 0 == some .lt) || (FloatKind.f32.format.order s 1056964608 == some .gt)
/-- What is wrong with a hue key. -/
def hueE (c h s : Nat) (r1 r2 : Int) : Int := if allNum [c, h, s] then (if hueB c h s then 3 else if r1 = 0 then r2 else r1) else 2
set_option maxRecDepth 100000 in
set_option maxHeartbeats 3200000 in
theorem CheckHue_any (c h s a0 a1 a2 b0 b1 b2 : Nat) (w : World) : Calls Tryz.prog 45 #[.agg #[.float .f32 c, .float .f32 h, .float .f32 s, .float .f32 a0, .float .f32 a1, .float .f32 a2, .float .f32 b0, .float .f32 b1, .float .f32 b2]] w fun e w' => e = .returned (.int .i64 (hueE c h s (rampE a0 a1 a2) (rampE b0 b1 b2))) ∧ Below w.heap.size w w' := by
  have HR1 : Hid (∀ w', Calls Tryz.prog 43 #[.agg #[.float .f32 a0, .float .f32 a1, .float .f32 a2]] w' fun e w'' => e = .returned (.int .i64 (rampE a0 a1 a2)) ∧ Below w'.heap.size w' w'') := Lib.hid (CheckRamp_any a0 a1 a2)
  have HR2 : Hid (∀ w', Calls Tryz.prog 43 #[.agg #[.float .f32 b0, .float .f32 b1, .float .f32 b2]] w' fun e w'' => e = .returned (.int .i64 (rampE b0 b1 b2)) ∧ Below w'.heap.size w' w'') := Lib.hid (CheckRamp_any b0 b1 b2)
  generalize rampE a0 a1 a2 = R1 at *
  generalize rampE b0 b1 b2 = R2 at *
  cases hA : allNum [c, h, s]
  case false =>
    have hE : hueE c h s R1 R2 = 2 := by unfold hueE; rw [hA]; rfl
    rw [hE]
    go_enter Tryz.func45, Tryz.ntmps45
    go_wp2_with (first | (go_at_call 54; refine (All3_any _ _ _ c h s _ (by simp [go_sem]) (by simp [go_sem]) (by simp [go_sem])).mono ?_; rintro e w' ⟨rfl, rfl⟩))
    go_ret
    exact ⟨rfl, ((Below.refl _ _).alloc (Nat.le_refl _) _).alloc (by simp) _⟩
  case true =>
    have HE : Hid (hueE c h s R1 R2 = if hueB c h s then 3 else if R1 = 0 then R2 else R1) := Lib.hid (by unfold hueE; rw [hA]; rfl)
    have HA := Lib.hid hA
    cases hB : hueB c h s
    case true =>
      have hE : hueE c h s R1 R2 = 3 := by rw [HE.out, hB]; rfl
      rw [hE]
      have HB := Lib.hid hB
      clear hE HE HR1 HR2 hB
      go_enter Tryz.func45, Tryz.ntmps45
      go_upto_region 3 with (first | (go_at_call 54; refine (All3_any _ _ _ c h s _ (by simp [go_sem]) (by simp [go_sem]) (by simp [go_sem])).mono ?_; rintro e w' ⟨rfl, rfl⟩; rw [HA.out]))
      refine wp_world (fun W hW => ?_)
      have HW : Hid (Below w.heap.size w W) := Lib.hid (by rw [hW]; exact ((Below.refl _ _).alloc (Nat.le_refl _) _).alloc (by simp) _)
      have hk : Blk W w.heap.size [.float .f32 c, .float .f32 h, .float .f32 s, .float .f32 a0, .float .f32 a1, .float .f32 a2, .float .f32 b0, .float .f32 b1, .float .f32 b2] := by rw [hW]; exact (Blk.new _ _ _ _ rfl).alloc _
      have m0 := hk.c 0 _ rfl; have m1 := hk.c 1 _ rfl; have m2 := hk.c 2 _ rfl; have ml := hk.lt
      clear hW hk hA
      go_wp2_with fail
      all_goals
        first
        | (refine bodyPost_ret (results_tmp Tryz.results45 _ _ _) rfl ?_; exact ⟨rfl, HW.out⟩)
        | (exfalso; have h0 := HB.out; unfold hueB geO at h0; simp_all; done)
        | (exfalso; have h0 := HB.out; unfold hueB geO at h0; grind)
    case false =>
      have HE2 := Lib.hid (show hueE c h s R1 R2 = if R1 = 0 then R2 else R1 by rw [HE.out, hB]; rfl)
      have hB' := hB
      unfold hueB geO at hB'
      simp only [Bool.or_eq_false_iff, Bool.not_eq_false', Bool.and_eq_true, Bool.or_eq_true, beq_iff_eq, beq_eq_false_iff_ne, ne_eq] at hB'
      obtain ⟨⟨⟨⟨⟨p1, p2⟩, p3⟩, p4⟩, p5⟩, p6⟩ := hB'
      have q1 : (FloatKind.f32.format.order c 0 == some .gt || FloatKind.f32.format.order c 0 == some .eq) = true := by simpa using p1
      have q2 : (FloatKind.f32.format.order c 1065353216 == some .lt) = true := by simpa using p2
      have q3 : (FloatKind.f32.format.order h 0 == some .lt) = false := by simpa using p3
      have q4 : (FloatKind.f32.format.order h 1056964608 == some .gt) = false := by simpa using p4
      have q5 : (FloatKind.f32.format.order s 0 == some .lt) = false := by simpa using p5
      have q6 : (FloatKind.f32.format.order s 1056964608 == some .gt) = false := by simpa using p6
      clear HE hB
      go_enter Tryz.func45, Tryz.ntmps45
      go_upto_region 3 with (first | (go_at_call 54; refine (All3_any _ _ _ c h s _ (by simp [go_sem]) (by simp [go_sem]) (by simp [go_sem])).mono ?_; rintro e w' ⟨rfl, rfl⟩; rw [HA.out]))
      refine wp_world (fun W hW => ?_)
      have hk : Blk W w.heap.size [.float .f32 c, .float .f32 h, .float .f32 s, .float .f32 a0, .float .f32 a1, .float .f32 a2, .float .f32 b0, .float .f32 b1, .float .f32 b2] := by rw [hW]; exact (Blk.new _ _ _ _ rfl).alloc _
      have HW : Hid (Below w.heap.size w W ∧ Blk W w.heap.size [.float .f32 c, .float .f32 h, .float .f32 s, .float .f32 a0, .float .f32 a1, .float .f32 a2, .float .f32 b0, .float .f32 b1, .float .f32 b2]) := Lib.hid ⟨by rw [hW]; exact ((Below.refl _ _).alloc (Nat.le_refl _) _).alloc (by simp) _, hk⟩
      have m0 := hk.c 0 _ rfl; have m1 := hk.c 1 _ rfl; have m2 := hk.c 2 _ rfl; have m3 := hk.c 3 _ rfl; have m4 := hk.c 4 _ rfl; have m5 := hk.c 5 _ rfl; have ml := hk.lt
      clear hW hk hA
      go_upto_region 6 with (go_at_call 43; refine (HR1.out _).mono ?_; rintro e w1 ⟨rfl, hb1⟩; replace HW := Lib.hid (And.intro (HW.out.1.trans (hb1.mono HW.out.1.size)) (HW.out.2.past hb1)); clear hb1 m0 m1 m2 m3 m4 m5 ml)
      have m6 := HW.out.2.c 6 _ rfl; have m7 := HW.out.2.c 7 _ rfl; have m8 := HW.out.2.c 8 _ rfl; have ml := HW.out.2.lt
      by_cases hr : R1 = 0
      · have hr' : (R1 != 0) = false := by simpa using hr
        go_wp2_with (go_at_call 43; refine (HR2.out _).mono ?_; rintro e w2 ⟨rfl, hb2⟩)
        refine bodyPost_ret (results_tmp Tryz.results45 _ _ _) rfl ?_
        exact ⟨by rw [HE2.out, if_pos hr]; rfl, HW.out.1.trans (hb2.mono HW.out.1.size)⟩
      · have hr' : (R1 != 0) = true := by simpa using hr
        go_wp2_with fail
        refine bodyPost_ret (results_tmp Tryz.results45 _ _ _) rfl ?_
        exact ⟨by rw [HE2.out, if_neg hr]; rfl, HW.out.1⟩
end Go.Proofs.YtbaocallhnehfaaGreatDoor

namespace Go.Proofs.YtbaocallhnehfaaGreatDoor
open Go.RowKit
end Go.Proofs.YtbaocallhnehfaaGreatDoor

namespace Go.Proofs.YtbaocallhnehfaaGreatDoor
open Go.RowKit
def gr4 (v : Nat) : Bool := !(FloatKind.f32.format.order v 0 == some .lt) && !(FloatKind.f32.format.order v 1082130432 == some .gt)
def graE (size : Int) (s f : Nat) : Int := if inB size 1 16 then (if allNum [s, f] then (if gr4 s && gr4 f then 0 else 3) else 2) else 3
set_option maxRecDepth 100000 in
set_option maxHeartbeats 1600000 in
theorem CheckGrain_any (seed size : Int) (s f : Nat) (mono : Bool) (w : World) : Calls Tryz.prog 59 #[.agg #[.int .u32 seed, .int .i64 size, .float .f32 s, .float .f32 f, .bool mono]] w fun e w' => e = .returned (.int .i64 (graE size s f)) ∧ Below w.heap.size w w' := by
  by_cases hs : 1 ≤ size ∧ size ≤ 16
  · have hi : inB size 1 16 = true := inB_t hs
    obtain ⟨s1, s2⟩ := hs
    have hi' := Lib.hid hi; clear hi
    cases hA : allNum [s, f]
    all_goals
     go_enter Tryz.func59, Tryz.ntmps59
     go_wp2_with (first | (go_at_call 54; refine (All2_any _ _ _ s f _ (by simp [go_sem]) (by simp [go_sem])).mono ?_; rintro e w' ⟨rfl, rfl⟩))
     all_goals
      go_ret
      refine ⟨ret_i ?_, ?_⟩
      · unfold graE gr4
        rw [hi'.out, hA]
        first | rfl | (simp only [*]; rfl) | (simp [*]; done) | simp_all
      · (repeat (first | exact Below.refl _ _ | assumption | (refine Below.setCell ?_ (by first | (simp; done) | (simp; omega) | omega) _) | (refine Below.drew ?_) | (refine below_drewN ?_ _) | (refine Below.alloc ?_ (by first | (simp; done) | (simp; omega) | omega) _) | (refine Below.trans ?_ (Below.mono (by assumption) (by first | (simp; done) | (simp; omega) | omega)))))
  · have hi : inB size 1 16 = false := inB_f (by omega)
    have hE : graE size s f = 3 := by unfold graE; rw [hi]; rfl
    rw [hE]
    clear hi hE
    by_cases h1 : size < 1
    · go_enter Tryz.func59, Tryz.ntmps59
      go_wp2_with fail
      go_ret
      refine ⟨rfl, ?_⟩
      (repeat (first | exact Below.refl _ _ | assumption | (refine Below.setCell ?_ (by first | (simp; done) | (simp; omega) | omega) _) | (refine Below.drew ?_) | (refine below_drewN ?_ _) | (refine Below.alloc ?_ (by first | (simp; done) | (simp; omega) | omega) _) | (refine Below.trans ?_ (Below.mono (by assumption) (by first | (simp; done) | (simp; omega) | omega)))))
    · have h2 : 16 < size := by omega
      go_enter Tryz.func59, Tryz.ntmps59
      go_wp2_with fail
      go_ret
      refine ⟨rfl, ?_⟩
      (repeat (first | exact Below.refl _ _ | assumption | (refine Below.setCell ?_ (by first | (simp; done) | (simp; omega) | omega) _) | (refine Below.drew ?_) | (refine below_drewN ?_ _) | (refine Below.alloc ?_ (by first | (simp; done) | (simp; omega) | omega) _) | (refine Below.trans ?_ (Below.mono (by assumption) (by first | (simp; done) | (simp; omega) | omega)))))
end Go.Proofs.YtbaocallhnehfaaGreatDoor

namespace Go.Proofs.YtbaocallhnehfaaGreatDoor
open Go Go.RowKit
theorem rootFrom_sq (n : Nat) : ∀ todo root : Nat, root * root ≤ n → Ieee.Datum.rootFrom n todo root * Ieee.Datum.rootFrom n todo root ≤ n
  | 0, root, h => h
  | todo + 1, root, h => by
    unfold Ieee.Datum.rootFrom
    by_cases k : (root + 1 <<< todo) * (root + 1 <<< todo) ≤ n
    · simp only [if_pos k]; exact rootFrom_sq n todo _ k
    · simp only [if_neg k]; exact rootFrom_sq n todo _ h
theorem sq_lt {a b : Rat} (hb : 0 ≤ b) (h : a * a < b * b) : a < b := by
  by_cases h0 : a < b
  · exact h0
  · have h1 : b ≤ a := by grind
    have h2 := Rat.mul_le_mul_of_nonneg_left h1 hb
    have h3 := Rat.mul_le_mul_of_nonneg_right h1 (by grind : (0 : Rat) ≤ a)
    grind
theorem root_bd {m digits : Nat} {i K : Int} {s t : Bool} {mag : Nat} {place : Int} (h : (Ieee.Datum.number s m i).root digits = some (.number t mag place)) (hv : (m : Rat) * (2 : Rat) ^ i < (2 : Rat) ^ (K + K)) :
    (mag : Rat) * (2 : Rat) ^ place < (2 : Rat) ^ (K + 1) := by
  by_cases hm : m = 0
  · simp only [Ieee.Datum.root, if_pos hm] at h
    cases h
    subst hm
    have := zp_pos (K + 1)
    simpa using this
  · by_cases hs : s = true
    · simp only [Ieee.Datum.root, if_neg hm, if_pos hs] at h; cases h
    · simp only [Ieee.Datum.root, if_neg hm, if_neg hs] at h
      obtain ⟨more, hmore⟩ : ∃ more, more = 2 * digits - m.log2 + ((i - ((2 * digits - m.log2 : Nat) : Int)) % 2).toNat := ⟨_, rfl⟩
      rw [← hmore] at h
      obtain ⟨H, hH⟩ : ∃ H : Int, i = H + H + more := ⟨(i - more) / 2, by omega⟩
      obtain ⟨whole, hw⟩ : ∃ whole, whole = Ieee.Datum.rootFrom (m <<< more) ((m <<< more).log2 / 2 + 1) 0 := ⟨_, rfl⟩
      rw [← hw] at h
      have hsq : whole * whole ≤ m <<< more := by rw [hw]; exact rootFrom_sq _ _ _ (Nat.zero_le _)
      have hHe : (i - (more : Int)) / 2 - 1 = H - 1 := by omega
      rw [hHe] at h
      have hb : ((whole * whole != m <<< more) : Bool).toNat ≤ 1 := Bool.toNat_le _
      generalize ((whole * whole != m <<< more) : Bool).toNat = b at *
      cases h
      rw [Nat.shiftLeft_eq] at hsq
      have hsq' : (whole : Rat) * (whole : Rat) ≤ (m : Rat) * ((2 ^ more : Nat) : Rat) := by
        rw [← Rat.natCast_mul, ← Rat.natCast_mul]; exact Rat.natCast_le_natCast.2 hsq
      have e1 : (m : Rat) * (2 : Rat) ^ i = (m : Rat) * ((2 ^ more : Nat) : Rat) * ((2 : Rat) ^ H * (2 : Rat) ^ H) := by
        rw [← zp_nat, ← zp_add, Rat.mul_assoc, ← zp_add]; congr 2; omega
      have p0 := zp_pos H
      have pK := zp_pos K
      have e2 : (2 : Rat) ^ (K + K) = (2 : Rat) ^ K * (2 : Rat) ^ K := zp_add K K
      have e3 : (2 : Rat) ^ (K + 1) = (2 : Rat) ^ K * 2 := by rw [zp_add]; rfl
      have e4 : (2 : Rat) ^ H = (2 : Rat) ^ (H - 1) * 2 := by
        have := zp_add (H - 1) 1; rw [show H - 1 + 1 = H by omega] at this; rw [this]; rfl
      have hHH : (0 : Rat) ≤ (2 : Rat) ^ H * (2 : Rat) ^ H := Rat.mul_nonneg (Rat.le_of_lt p0) (Rat.le_of_lt p0)
      have f1 : ((whole : Rat) * (2 : Rat) ^ H) * ((whole : Rat) * (2 : Rat) ^ H) < (2 : Rat) ^ K * (2 : Rat) ^ K := by
        have := Rat.mul_le_mul_of_nonneg_right hsq' hHH
        grind
      have g1 := sq_lt (Rat.le_of_lt pK) f1
      have hn1 : (1 : Rat) ≤ (m : Rat) * ((2 ^ more : Nat) : Rat) := by
        rw [← Rat.natCast_mul]
        exact Rat.natCast_le_natCast.2 (Nat.mul_pos (by omega) (Nat.two_pow_pos _))
      have f2 : (2 : Rat) ^ H * (2 : Rat) ^ H < (2 : Rat) ^ K * (2 : Rat) ^ K := by
        have := Rat.mul_le_mul_of_nonneg_right hn1 hHH
        grind
      have g2 := sq_lt (Rat.le_of_lt pK) f2
      have hb' : (b : Rat) ≤ 1 := by exact_mod_cast hb
      have h5 := Rat.mul_le_mul_of_nonneg_right hb' (Rat.le_of_lt (zp_pos (H - 1)))
      rw [Rat.natCast_add, Rat.natCast_mul, e3]
      rw [e4] at g1 g2
      have : ((2 : Nat) : Rat) = 2 := rfl
      grind
theorem sqrt_fit {x : Nat} (hb : isNum .f64 x = true → vq FloatKind.f64.format (rung FloatKind.f64.format x) < (2 : Rat) ^ (128 : Int)) (hn : isNum .f64 (fsqrt x) = true) : ovf .f64 .f32 (fsqrt x) = false := by
  obtain ⟨s, m, e, hd⟩ : ∃ s m e, FloatKind.f64.decode x = .number s m e := by
    cases hc : FloatKind.f64.decode x with
    | number s m e => exact ⟨s, m, e, rfl⟩
    | nan s t =>
      exfalso
      have hd' : FloatKind.f64.format.read x = .nan s t := hc
      have : fsqrt x = nanOf .f64 := by unfold fsqrt Ieee.Format.sqrt; rw [hd']; rfl
      rw [this] at hn; revert hn; decide +kernel
    | infinity s =>
      exfalso
      have hd' : FloatKind.f64.format.read x = .infinity s := hc
      have : fsqrt x = nanOf .f64 ∨ fsqrt x = FloatKind.f64.format.write (.infinity false) := by
        unfold fsqrt Ieee.Format.sqrt; rw [hd']; cases s
        · exact .inr rfl
        · exact .inl rfl
      rcases this with h | h <;> (rw [h] at hn; revert hn; decide +kernel)
  have hx : isNum .f64 x = true := isNum_decode.2 ⟨s, m, e, hd⟩
  obtain ⟨m', e', hd2, hv, -, -⟩ := decode_num hx
  rw [hd] at hd2
  cases hd2
  have hlt := hb hx
  rw [← hv] at hlt
  have hd' : FloatKind.f64.format.read x = .number (sgn FloatKind.f64.format x) m e := hd
  have key : ∃ t mag place, fsqrt x = FloatKind.f64.format.nearest t mag place ∧ (mag : Rat) * (2 : Rat) ^ place < (2 : Rat) ^ (65 : Int) := by
    cases hr : (Ieee.Datum.number (sgn FloatKind.f64.format x) m e).root (FloatKind.f64.format.fractionBits + 2) with
    | none =>
      exfalso
      have : fsqrt x = nanOf .f64 := by unfold fsqrt Ieee.Format.sqrt; rw [hd', hr]; rfl
      rw [this] at hn; revert hn; decide +kernel
    | some d =>
      have hf : fsqrt x = FloatKind.f64.format.write d := by unfold fsqrt Ieee.Format.sqrt; rw [hd', hr]; rfl
      cases d with
      | number t mag place => exact ⟨t, mag, place, hf, root_bd (K := 64) hr hlt⟩
      | nan t u => exact absurd (root_not_nan hr) (by simp [Ieee.Datum.isNaN])
      | infinity t =>
        exfalso
        rw [hf] at hn; revert hn; cases t <;> decide +kernel
  obtain ⟨t, mag, place, hf, hm⟩ := key
  obtain ⟨-, -, q1, -, -⟩ := nearest_rn .f64 t mag place 65 (by decide) (by decide) hm
  rw [← hf] at q1
  obtain ⟨m2, e2, hd3, hv3, -, -⟩ := decode_num hn
  have hq : (m2 : Rat) * (2 : Rat) ^ e2 < (2 : Rat) ^ (67 : Int) := by
    rw [hv3]
    have a1 : (2 : Rat) ^ (65 - 1 - (FloatKind.f64.format.fractionBits : Int)) < (2 : Rat) ^ (65 : Int) := zp_lt (by decide)
    have a2 : (2 : Rat) ^ (67 : Int) = (2 : Rat) ^ (65 : Int) * 4 := by
      have := zp_add 65 2; rw [show (65 : Int) + 2 = 67 by rfl] at this; rw [this]; congr 1
    grind
  obtain ⟨k1, -, -, -, -⟩ := nearest_rn .f32 (sgn FloatKind.f64.format (fsqrt x)) m2 e2 67 (by decide) (by decide) hq
  have k2 : FloatKind.f32.encode (FloatKind.f64.decode (fsqrt x)) = FloatKind.f32.format.nearest (sgn FloatKind.f64.format (fsqrt x)) m2 e2 := by rw [hd3]; rfl
  obtain ⟨m4, e4, hd4, -, -, -⟩ := decode_num k1
  unfold ovf
  rw [k2, hd4]
  simp [Ieee.Datum.isInfinity]
end Go.Proofs.YtbaocallhnehfaaGreatDoor

namespace Go.Proofs.YtbaocallhnehfaaGreatDoor
open Go Go.RowKit
theorem up_bd {v x : Nat} (h : FR .f64 x (fcv .f32 .f64 v)) (hn : isNum .f64 x = true) : vq FloatKind.f64.format (rung FloatKind.f64.format x) < (2 : Rat) ^ (128 : Int) := by
  have e : x = fcv .f32 .f64 v := by rw [← h.eq, cn_of_not (isNum_not_nan hn)]
  subst e
  have hv : isNum .f32 v = true := by
    cases hd : FloatKind.f32.decode v with
    | number s m e => exact isNum_decode.2 ⟨s, m, e, hd⟩
    | nan s t =>
      exfalso
      have h1 : isN .f32 v = true := by unfold isN; rw [hd]; rfl
      have h2 := isNum_not_nan hn
      rw [isN_fcv, h1] at h2; cases h2
    | infinity s =>
      exfalso
      have h1 : isN .f32 v = false := by unfold isN; rw [hd]; rfl
      have h3 : fcv .f32 .f64 v = FloatKind.f64.encode (.infinity s) := by unfold fcv; rw [if_neg (by rw [h1]; decide), hd]
      rw [h3] at hn; revert hn; cases s <;> decide +kernel
  obtain ⟨-, -, h3⟩ := up_exact hv
  rw [h3, ← vq_inf32]
  exact (vq_lt_iff _).2 (by unfold isNum at hv; simpa using hv)
theorem call_sqrt (args : Array Value) (w : World) : (callFunc 167 args).run Tryz.prog w = ((Extern.MathSqrt.sqrt args).run Tryz.prog w).andThen fun v w' => .ok (.value v) w' :=
  run_callFunc_extern Tryz.func167 (by kernel_rfl) (by kernel_rfl) (by kernel_rfl) (by kernel_rfl) args w
section
variable {ops : Array Oper} {rest : List Oper} {a : Act} {w : World} {Q : Exit → Act → World → Prop} {dst : Option Tmp} {ty : TypeId} {x : Operand} {pos : String} {after : Array Edge} {ats : Array TypeId}
theorem wpList_sqrt {b : Nat} (hx : a.eval x = .float .f64 b)
    (h : ∀ r n, FR .f64 r (fsqrt b) → wpList Tryz.prog ops Q rest (a.put dst (.float .f64 r)) (w.drewN n)) :
    wpList Tryz.prog ops Q ({ dst, op := .call { callee := .value (.func 167), args := #[x], argTypes := ats }, type := ty, pos, after, guard := none } :: rest) a w := by
  refine wpList_extern1 call_sqrt hx (fun u => ∃ r, u = .float .f64 r ∧ FR .f64 r (fsqrt b)) ?_ ?_
  · obtain ⟨r, n, h1, h2⟩ := run_sqrt (P := Tryz.prog) b w
    exact ⟨_, n, h1, r, rfl, h2⟩
  · rintro u n ⟨r, rfl, h2⟩
    exact h r n h2
end
set_option maxHeartbeats 400000 in
theorem Sqrt_any (b : Nat) (w : World) : Calls Tryz.prog 147 #[.float .f64 b] w fun e w' => (∃ r, e = .returned (.float .f64 r) ∧ FR .f64 r (fsqrt b)) ∧ ∃ m, w' = w.drewN m := by
  go_enter Tryz.func147, Tryz.ntmps147
  go_wp2_with (first | ((with_reducible apply wpList_sqrt); rfl; intro r n hr))
  go_ret
  exact ⟨⟨_, rfl, hr⟩, _, rfl⟩
/-- The root of a single, one NaN for all. -/
def rootF (v : Nat) : Nat := fcv .f64 .f32 (fsqrt (fcv .f32 .f64 v))
theorem sqrt_ok {v x r : Nat} (hx : FR .f64 x (fcv .f32 .f64 v)) (hr : FR .f64 r (fsqrt x)) : isNum .f64 r = true → ovf .f64 .f32 r = false := fun hn => by
  have e : r = fsqrt x := by rw [← hr.eq, cn_of_not (isNum_not_nan hn)]
  rw [e] at hn ⊢
  exact sqrt_fit (up_bd hx) hn
theorem root_FR {v x r s : Nat} (hx : FR .f64 x (fcv .f32 .f64 v)) (hr : FR .f64 r (fsqrt x)) (hs : FR .f32 s (fcv .f64 .f32 r)) : FR .f32 s (rootF v) := by
  unfold rootF
  rw [← fcv_cn, hr.eq] at hs
  rw [← hx.eq, fsqrt_cn]
  exact hs
set_option maxHeartbeats 400000 in
theorem Root_any (v : Nat) (w : World) : Calls Tryz.prog 118 #[.float .f32 v] w fun e w' => e = .returned (.float .f32 (rootF v)) ∧ ∃ m, w' = w.drewN m := by
  go_enter Tryz.func118, Tryz.ntmps118
  go_wp2_with (first | ((with_reducible apply wpList_up); rfl; exact Tryz.underlying41; exact Tryz.underlying157; intro x n hx) | (go_at_call 147; refine (Sqrt_any _ _).mono ?_; rintro e w' ⟨⟨r, rfl, hr⟩, m, rfl⟩; have ho := sqrt_ok hx hr) | ((with_reducible apply wpList_down); rfl; exact Tryz.underlying157; exact Tryz.underlying41; exact ho; intro t n2 ht) | (go_at_call 116; refine (Clean_any _ _).mono ?_; rintro e w' ⟨rfl, rfl⟩))
  go_ret
  have h := root_FR hx hr ht
  exact ⟨ret_f (by rw [h.eq]; unfold rootF; rw [fcv_cn]), _, rfl⟩
end Go.Proofs.YtbaocallhnehfaaGreatDoor

namespace Go.Proofs.YtbaocallhnehfaaGreatDoor
open Go.RowKit
theorem wp_here {P : Program} {c : Code} {Q : Exit → Act → World → Prop} {a : Act} {w : World} (h : ∀ W, W = w → c.wp P Q a W) : c.wp P Q a w := h w rfl
/-- How much a place is darkened. -/
def darkR (vx vy : Nat) (X Y : Int) : Nat :=
  rootF (fop .add .f32 (fop .mul .f32 (fop .sub .f32 (floatOfInt .f32 X) vx) (fop .sub .f32 (floatOfInt .f32 X) vx)) (fop .mul .f32 (fop .sub .f32 (floatOfInt .f32 Y) vy) (fop .sub .f32 (floatOfInt .f32 Y) vy)))
def darkM (vx vy vi vo vd : Nat) (X Y : Int) : Nat := lerpF 1065353216 vd (smoothF (fop .quo .f32 (fop .sub .f32 (darkR vx vy X Y) vi) (fop .sub .f32 vo vi)))
/-- What the calls of one value hand back. -/
def VgPsi (vd : Nat) (f : FuncId) (args : Array Value) (u : Value) : Prop :=
  (f = 120 ∧ ∃ t, args = #[.float .f32 t] ∧ u = .float .f32 (smoothF t)) ∨ (f = 119 ∧ ∃ t, args = #[.float .f32 1065353216, .float .f32 vd, .float .f32 t] ∧ u = .float .f32 (lerpF 1065353216 vd t))
theorem vg_sm {vd t : Nat} {u : Value} (h : VgPsi vd 120 #[.float .f32 t] u) : u = .float .f32 (smoothF t) := by
  rcases h with ⟨-, t', h1, rfl⟩ | ⟨h, -⟩
  · simp at h1; rw [h1]
  · exact absurd h (by decide)
theorem vg_le {vd t : Nat} {u : Value} (h : VgPsi vd 119 #[.float .f32 1065353216, .float .f32 vd, .float .f32 t] u) : u = .float .f32 (lerpF 1065353216 vd t) := by
  rcases h with ⟨h, -⟩ | ⟨-, t', h1, rfl⟩
  · exact absurd h (by decide)
  · simp at h1; rw [h1]
theorem ord_FR' {k : FloatKind} {r s : Nat} (h : FR k r s) (y : Nat) : k.format.order r y = k.format.order s y := by
  have := h.eq
  by_cases hn : isN k r = true
  · have h2 : isN k s = true := by rw [← this, isN_cn]; exact hn
    rw [ord_nan_l _ hn, ord_nan_l _ h2]
  · rw [cn_of_not (by simpa using hn)] at this; rw [this]
theorem smooth_FR2 {r s : Nat} (h : FR .f32 r s) : smoothF r = smoothF s := by
  have e : cn .f32 s = cn .f32 r := by rw [← h.eq, cn_cn]
  have l : limF r 0 1065353216 = limF s 0 1065353216 := by unfold limF; rw [ord_FR' h, ord_FR' h, e]
  unfold smoothF; rw [l]
set_option maxHeartbeats 400000 in
theorem Vig1_any (c : Int) (v m pm : Nat) (w : World) (hm : w.cell? ⟨pm, 0, none⟩ = some (.float .f32 m)) :
    Calls Tryz.prog 121 #[.int .i64 c, .float .f32 v, .pointer (some ⟨pm, 0, none⟩)] w fun e w' => ∃ r, e = .returned (.float .f32 r) ∧ FR .f32 r (fop .mul .f32 v m) ∧ Below w.heap.size w w' := by
  go_enter Tryz.func121, Tryz.ntmps121
  go_wp2_with (first | ((with_reducible apply wpList_farith); rfl; rfl; rfl; intro _ _ _) | ((with_reducible apply wpList_up); rfl; exact Tryz.underlying41; exact Tryz.underlying157; intro _ _ _))
  rename_i r n hr
  go_ret
  exact ⟨_, rfl, by simpa only [fop_cn_left, fop_cn_right] using hr, by (repeat (first | exact Below.refl _ _ | assumption | (refine Below.setCell ?_ (by first | (simp; done) | (simp; omega) | omega) _) | (refine Below.drew ?_) | (refine below_drewN ?_ _) | (refine Below.alloc ?_ (by first | (simp; done) | (simp; omega) | omega) _) | (refine Below.trans ?_ (Below.mono (by assumption) (by first | (simp; done) | (simp; omega) | omega)))))⟩
theorem cell_lt' {w : World} {a : Addr} {v : Value} (h : w.cell? a = some v) : a.block < w.heap.size := by
  rcases Nat.lt_or_ge a.block w.heap.size with k | k
  · exact k
  · simp [World.cell?, Array.getElem?_eq_none k] at h
theorem calls_here {P : Program} {f : FuncId} {args : Array Value} {w : World} {Q : Ending → World → Prop} (h : ∀ W, W = w → Calls P f args W Q) : Calls P f args w Q := h w rfl
set_option maxRecDepth 100000 in
set_option maxHeartbeats 1600000 in
theorem Vignetted_any (vx vy vi vo vd : Nat) (X Y : Int) (p : Nat → Nat) (w : World) (hp : ∀ c, c < 4 → p c < 2 ^ FloatKind.f32.format.width) :
    Calls Tryz.prog 92 #[.agg #[.float .f32 (p 0), .float .f32 (p 1), .float .f32 (p 2), .float .f32 (p 3)], .agg #[.float .f32 vx, .float .f32 vy, .float .f32 vi, .float .f32 vo, .float .f32 vd], .int .i64 X, .int .i64 Y] w fun e w' =>
      (∃ q : Nat → Nat, e = .returned (.agg #[.float .f32 (q 0), .float .f32 (q 1), .float .f32 (q 2), .float .f32 (q 3)]) ∧ q = fun c => if c < 3 then fop .mul .f32 (p c) (darkM vx vy vi vo vd X Y) else cn .f32 (p c)) ∧ Below w.heap.size w w' := by
  have h0 := hp 0 (by omega); have h1 := hp 1 (by omega); have h2 := hp 2 (by omega)
  have HP := Lib.hid (And.intro h0 (And.intro h1 h2))
  clear hp h0 h1 h2
  go_enter Tryz.func92, Tryz.ntmps92
  go_wp2_with fail
  obtain ⟨W, hW⟩ : ∃ W, W = ((w.alloc (.cells #[.float .f32 (p 0), .float .f32 (p 1), .float .f32 (p 2), .float .f32 (p 3)] 109)).alloc (.cells #[.float .f32 vx, .float .f32 vy, .float .f32 vi, .float .f32 vo, .float .f32 vd] 89)).alloc (.cells #[.float .f32 0, .float .f32 0, .float .f32 0, .float .f32 0] 109) := ⟨_, rfl⟩
  have c0 : W.cell? ⟨w.heap.size + 1, 0, none⟩ = some (.float .f32 vx) := by rw [hW]; simp [go_sem]
  have c1 : W.cell? ⟨w.heap.size + 1, 1, none⟩ = some (.float .f32 vy) := by rw [hW]; simp [go_sem]
  have c2 : W.cell? ⟨w.heap.size + 1, 2, none⟩ = some (.float .f32 vi) := by rw [hW]; simp [go_sem]
  have c3 : W.cell? ⟨w.heap.size + 1, 3, none⟩ = some (.float .f32 vo) := by rw [hW]; simp [go_sem]
  have c4 : W.cell? ⟨w.heap.size + 1, 4, none⟩ = some (.float .f32 vd) := by rw [hW]; simp [go_sem]
  have B0 : Below w.heap.size w W := by rw [hW]; (repeat (first | exact Below.refl _ _ | assumption | (refine Below.setCell ?_ (by first | (simp; done) | (simp; omega) | omega) _) | (refine Below.drew ?_) | (refine below_drewN ?_ _) | (refine Below.alloc ?_ (by first | (simp; done) | (simp; omega) | omega) _) | (refine Below.trans ?_ (Below.mono (by assumption) (by first | (simp; done) | (simp; omega) | omega)))))
  have PP : Hid (Pix4 W w.heap.size (p 0) (p 1) (p 2) (p 3)) := by rw [hW]; exact ⟨by simp [go_sem], by simp [go_sem], by simp [go_sem], by simp [go_sem], fun o => by simp [go_sem]⟩
  have RR : Hid (Pix4 W (w.heap.size + 1 + 1) 0 0 0 0) := by rw [hW]; exact ⟨by simp [go_sem], by simp [go_sem], by simp [go_sem], by simp [go_sem], fun o => by simp [go_sem]⟩
  have sW : W.heap.size = w.heap.size + 1 + 1 + 1 := by rw [hW]; simp
  rw [← hW]
  have CC := Lib.hid (And.intro c2 (And.intro c3 c4))
  have l1 : w.heap.size + 1 < W.heap.size := by omega
  clear hW c2 c3 c4
  refine wp_region_loose 11 (fun _ _ _ => False) (by kernel_rfl) (by kernel_rfl) ?_
  simp only [List.take_succ_cons, List.take_zero, List.drop_succ_cons, List.drop_zero]
  iterate 4 (refine loose_wanted rfl (fun K hK => ?_); go_simp; refine hK _ ?_; clear hK K)
  (first | ((with_reducible apply loose_farith); rfl; rfl; rfl; rfl; intro _ _) | ((with_reducible apply loose_up); rfl; rfl; exact Tryz.underlying41; exact Tryz.underlying157; intro _ _))
  iterate 4 (refine loose_wanted rfl (fun K hK => ?_); go_simp; refine hK _ ?_; clear hK K)
  (first | ((with_reducible apply loose_farith); rfl; rfl; rfl; rfl; intro _ _) | ((with_reducible apply loose_up); rfl; rfl; exact Tryz.underlying41; exact Tryz.underlying157; intro _ _))
  rename_i x1 a1 x2 a2
  iterate 1 (refine loose_wanted rfl (fun K hK => ?_); go_simp; refine hK _ ?_; clear hK K)
  refine loose_nil (fun w5 hb5 => ?_)
  go_wp2_with (first | ((with_reducible apply wpList_farith); rfl; rfl; rfl; intro _ _ _) | ((with_reducible apply wpList_up); rfl; exact Tryz.underlying41; exact Tryz.underlying157; intro _ _ _) | (go_at_call 118; refine (Root_any _ _).mono ?_; rintro e w6 ⟨rfl, m6, rfl⟩))
  rename_i r1 n1 b1 r2 n2 b2 r3 n3 b3 _ _
  refine wp_here (fun w6 hw6 => ?_)
  have B5 := B0.trans (hb5.mono B0.size)
  have B6 : Below w.heap.size w w6 := by rw [hw6]; (repeat (first | exact Below.refl _ _ | assumption | (refine Below.setCell ?_ (by first | (simp; done) | (simp; omega) | omega) _) | (refine Below.drew ?_) | (refine below_drewN ?_ _) | (refine Below.alloc ?_ (by first | (simp; done) | (simp; omega) | omega) _) | (refine Below.trans ?_ (Below.mono (by assumption) (by first | (simp; done) | (simp; omega) | omega)))))
  have B7 : Below W.heap.size W w6 := by rw [hw6]; (repeat (first | exact Below.refl _ _ | assumption | (refine Below.setCell ?_ (by first | (simp; done) | (simp; omega) | omega) _) | (refine Below.drew ?_) | (refine below_drewN ?_ _) | (refine Below.alloc ?_ (by first | (simp; done) | (simp; omega) | omega) _) | (refine Below.trans ?_ (Below.mono (by assumption) (by first | (simp; done) | (simp; omega) | omega)))))
  have hR : rootF r3 = darkR vx vy X Y := by
    unfold darkR
    have e := b3.eq
    rw [b1.eq, b2.eq, a1.eq, a2.eq] at e
    simp only [fop_cn_left, fop_cn_right] at e
    rw [← e]; unfold rootF; rw [fcv_cn]
  rw [hR]
  obtain ⟨c2, c3, c4⟩ := CC.out
  have d2 := (B7.cell (p := ⟨w.heap.size + 1, 2, none⟩) l1).trans c2
  have d3 := (B7.cell (p := ⟨w.heap.size + 1, 3, none⟩) l1).trans c3
  have d4 := (B7.cell (p := ⟨w.heap.size + 1, 4, none⟩) l1).trans c4
  have l2 : w.heap.size + 1 < w6.heap.size := by have := B7.size; omega
  have P6 := Lib.hid (PP.out.below B7 (by omega)); have R6 := Lib.hid (RR.out.below B7 (by omega))
  have s6 : w.heap.size + 1 + 1 + 1 ≤ w6.heap.size := by have := B7.size; omega
  have HB6 := Lib.hid B6
  clear hb5 hw6 c0 c1 c2 c3 c4 B0 B5 B6 B7 b1 b2 b3 a1 a2 hR
  refine wp_region_looseM 15 (fun f args u => VgPsi vd f args u) [(14, 12, .cells #[.float .f32 0] 41)] (by kernel_rfl) (by kernel_rfl) (by kernel_rfl) (by intro m hm; simp at hm; rcases hm with rfl; exact ⟨_, rfl, ⟨rfl, rfl, fun ev w => by kernel_rfl⟩⟩) (by intro m hm; simp at hm; rcases hm with rfl; exact of_decide_eq_true (by kernel_rfl)) ?_
  simp only [List.take_succ_cons, List.take_zero, List.drop_succ_cons, List.drop_zero]
  iterate 5 (refine looseM_wanted rfl (fun K hK => ?_); go_simp; refine hK _ ?_; clear hK K)
  (first | ((with_reducible apply looseM_farith); rfl; rfl; rfl; rfl; intro _ _))
  iterate 4 (refine looseM_wanted rfl (fun K hK => ?_); go_simp; refine hK _ ?_; clear hK K)
  (first | ((with_reducible apply looseM_farith); rfl; rfl; rfl; rfl; intro _ _))
  (first | ((with_reducible apply looseM_farith); rfl; rfl; rfl; rfl; intro _ _))
  rename_i s1 a1 s2 a2 s3 a3
  refine looseM_wanted rfl (fun K1 hK => ?_)
  go_simp
  refine ⟨fun p => (Smooth_any _ p.w).mono ?_, ?_⟩
  · rintro e w' ⟨rfl, m, rfl⟩
    exact ⟨_, rfl, .inl ⟨rfl, _, rfl, rfl⟩, below_drewN (Below.refl _ _) m⟩
  intro u hu
  obtain rfl := vg_sm hu
  refine hK _ ?_
  clear hK K1 hu
  refine looseM_wanted rfl (fun K1 hK => ?_)
  go_simp
  refine ⟨fun p => (Lerp_any _ _ _ p.w).mono ?_, ?_⟩
  · rintro e w' ⟨rfl, m, rfl⟩
    exact ⟨_, rfl, .inr ⟨rfl, _, rfl, rfl⟩, below_drewN (Below.refl _ _) m⟩
  intro u hu
  obtain rfl := vg_le hu
  refine hK _ ?_
  clear hK K1 hu
  refine looseM_lays (d := 12) (blk := .cells #[.float .f32 0] 41) ⟨rfl, rfl, fun ev w => by kernel_rfl⟩ (fun ga hga => ?_)
  refine looseM_nil (fun w2 hb2 hg2 hne2 => ?_)
  obtain ⟨ga', e1, hA⟩ := hg2 _ (List.Mem.head _)
  obtain rfl : ga = ga' := by cases e1; rfl
  clear hg2 hne2 e1
  have A0 : w2.cell? ⟨ga, 0, none⟩ = some (.float .f32 0) := by simp [World.cell?, hA]
  have A1 : w2.frozen? ⟨ga, 0, none⟩ = false := by simp [World.frozen?, hA]
  have hM : lerpF 1065353216 vd (smoothF s3) = darkM vx vy vi vo vd X Y := by
    unfold darkM
    rw [smooth_FR2 a3, a1.eq, a2.eq]
    simp only [fop_cn_left, fop_cn_right]
  rw [hM]
  obtain ⟨M, hMe⟩ : ∃ M, M = darkM vx vy vi vo vd X Y := ⟨_, rfl⟩
  rw [← hMe]
  have HM := Lib.hid hMe; clear hMe
  have P2 := P6.out.below hb2 (by omega)
  have R2 := Lib.hid (R6.out.below hb2 (by omega))
  have B2 := Lib.hid (HB6.out.trans (hb2.mono HB6.out.size))
  have hs2 := hb2.size
  have lga := cell_lt' A0
  simp only at lga
  have p0' := P2.c0; have p1' := P2.c1; have p2' := P2.c2; have p3' := P2.c3
  clear hb2 d2 d3 d4 a1 a2 a3 hM P2 hA
  go_wp2_with fail
  refine calls_here (fun W3 hW3 => ?_)
  have m3 : W3.cell? ⟨ga, 0, none⟩ = some (.float .f32 M) := by rw [hW3]; exact World.cell?_setCell_same _ _ _ A0
  have s3' : W3.heap.size = w2.heap.size := by rw [hW3]; simp
  have R3 : Pix4 W3 (w.heap.size + 1 + 1) 0 0 0 0 := by rw [hW3]; exact R2.out.far _ _ (by first | (simp; done) | (simp; omega) | omega)
  have B3 : Below w.heap.size w W3 := by rw [hW3]; exact B2.out.setCell (by first | (simp; done) | (simp; omega) | omega) _
  have lg3 : ga < W3.heap.size := by omega
  clear hW3 A0 A1 p0' p1' p2' p3' R2 B2
  refine (three_any _ _ (fun _ u => fop .mul .f32 u M) (p 0) (p 1) (p 2) (p 3) W3 HP.out.1 HP.out.2.1 HP.out.2.2 (body_enters Tryz.func121 (by kernel_rfl) rfl) (fun c u w' hb' hu => ?_)).mono ?_
  · exact Vig1_any c u M ga w' ((hb'.cell (p := ⟨ga, 0, none⟩) lg3).trans m3)
  rintro e w4 ⟨he, hb4⟩
  obtain ⟨q, hq⟩ : ∃ q : Nat → Nat, q = fun c => if c < 3 then fop .mul .f32 (p c) M else cn .f32 (p c) := ⟨_, rfl⟩
  have he2 : e = .returned (.agg #[.float .f32 (q 0), .float .f32 (q 1), .float .f32 (q 2), .float .f32 (q 3)]) := by rw [he, hq]; rfl
  clear he
  subst he2
  have HQ := Lib.hid hq; clear hq
  have R4 := R3.below hb4 (by omega)
  have B4 := B3.trans (hb4.mono (by omega))
  clear R3 B3 hb4 m3
  obtain ⟨d0, d1, d2, d3, df⟩ := R4
  go_wp2_with fail
  refine bodyPost_ret (v := .agg #[.float .f32 (q 0), .float .f32 (q 1), .float .f32 (q 2), .float .f32 (q 3)]) (by simp [results, Tryz.results92, go_sem, d0, d1, d2, d3]) rfl ⟨⟨q, rfl, by rw [HQ.out, HM.out]⟩, ?_⟩
  exact (((B4.setCell (by first | (simp; done) | (simp; omega) | omega) _).setCell (by first | (simp; done) | (simp; omega) | omega) _).setCell (by first | (simp; done) | (simp; omega) | omega) _).setCell (by first | (simp; done) | (simp; omega) | omega) _
end Go.Proofs.YtbaocallhnehfaaGreatDoor

namespace Go.Proofs.YtbaocallhnehfaaGreatDoor
open Go.RowKit
end Go.Proofs.YtbaocallhnehfaaGreatDoor

namespace Go.Proofs.YtbaocallhnehfaaGreatDoor
open Go.RowKit
theorem tri_lowV {u v : Nat} (hu : isNum .f32 u = true) (hv : isNum .f32 v = true) : (FloatKind.f32.format.order u v == some .lt) = (!(FloatKind.f32.format.order u v == some .gt) && !(FloatKind.f32.format.order u v == some .eq)) := by
  obtain ⟨o, h1, h2, h3⟩ := ord_some hu hv
  rw [h1, h2, h3]; cases o <;> rfl
theorem tri_highV {u v : Nat} (hu : isNum .f32 u = true) (hv : isNum .f32 v = true) : (FloatKind.f32.format.order u v == some .gt) = (!(FloatKind.f32.format.order u v == some .lt) && !(FloatKind.f32.format.order u v == some .eq)) := by
  obtain ⟨o, h1, h2, h3⟩ := ord_some hu hv
  rw [h1, h2, h3]; cases o <;> rfl
/-- What is wrong with a vignette. -/
def vigBad (vd : Nat) : Bool := (FloatKind.f32.format.order vd 0 == some .lt) || (FloatKind.f32.format.order vd 1065353216 == some .gt)
def vigE (vx vy vi vo vd : Nat) : Int := if allNum [vx, vy, vi, vo, vd] then (if FloatKind.f32.format.order vo vi == some .gt then (if vigBad vd then 3 else 0) else 8) else 2
theorem vigE_ok {vx vy vi vo vd : Nat} (h : vigE vx vy vi vo vd = 0) : allNum [vx, vy, vi, vo, vd] = true ∧ (FloatKind.f32.format.order vo vi == some .gt) = true ∧ (FloatKind.f32.format.order vd 0 == some .lt) = false ∧ (FloatKind.f32.format.order vd 1065353216 == some .gt) = false := by
  unfold vigE at h
  cases h1 : allNum [vx, vy, vi, vo, vd]
  · rw [h1] at h; cases h
  · rw [h1, if_pos rfl] at h
    cases h2 : (FloatKind.f32.format.order vo vi == some .gt)
    · rw [h2] at h; cases h
    · rw [h2, if_pos rfl] at h
      cases h3 : vigBad vd
      · unfold vigBad at h3
        simp only [Bool.or_eq_false_iff] at h3
        exact ⟨rfl, rfl, h3.1, h3.2⟩
      · rw [h3, if_pos rfl] at h; cases h
/-- A darkened frame, pixel by pixel. -/
def vgG (x y v : Int) (fs : Nat → Nat) (vx vy vi vo vd : Nat) (k : Nat) : Nat → Nat := fun c => if c < 3 then fop .mul .f32 (fs (4 * k + c)) (darkM vx vy vi vo vd (x + (k : Int) % v) (y + (k : Int) / v)) else cn .f32 (fs (4 * k + c))
theorem vgG_cn {x y v : Int} {fs : Nat → Nat} {vx vy vi vo vd k c : Nat} : cn .f32 (vgG x y v fs vx vy vi vo vd k c) = vgG x y v fs vx vy vi vo vd k c := by
  unfold vgG; split
  · exact cn_fop _ _ _ _
  · exact cn_cn _ _
def vigL (vx vy vi vo vd : Nat) : List Value := [.float .f32 vx, .float .f32 vy, .float .f32 vi, .float .f32 vo, .float .f32 vd]
theorem All5_any (b off cap v0 v1 v2 v3 v4 : Nat) (w : World) (c0 : w.cell? ⟨b, off, none⟩ = some (.float .f32 v0)) (c1 : w.cell? ⟨b, off + 1, none⟩ = some (.float .f32 v1)) (c2 : w.cell? ⟨b, off + 2, none⟩ = some (.float .f32 v2)) (c3 : w.cell? ⟨b, off + 3, none⟩ = some (.float .f32 v3)) (c4 : w.cell? ⟨b, off + 4, none⟩ = some (.float .f32 v4)) :
    Calls Tryz.prog 54 #[.slice (some ⟨b, off, none⟩) 5 cap] w fun e w' => e = .returned (.bool (allNum [v0, v1, v2, v3, v4])) ∧ w = w' :=
  AllNumbers_any b off 5 cap [v0, v1, v2, v3, v4] w rfl (by decide) (fun i hi => by
    match i, hi with
    | 0, _ => simpa using c0
    | 1, _ => simpa using c1
    | 2, _ => simpa using c2
    | 3, _ => simpa using c3
    | 4, _ => simpa using c4)
set_option maxRecDepth 100000 in
set_option maxHeartbeats 1600000 in
theorem VigClosure (vx vy vi vo vd : Nat) (X Y : Int) (p : Nat → Nat) (pv : Nat) (w : World) (hp : ∀ c, c < 4 → p c < 2 ^ FloatKind.f32.format.width) (hv : Blk w pv (vigL vx vy vi vo vd)) :
    Calls Tryz.prog 91 #[.int .i64 X, .int .i64 Y, .agg #[.float .f32 (p 0), .float .f32 (p 1), .float .f32 (p 2), .float .f32 (p 3)], .pointer (some ⟨pv, 0, none⟩)] w fun e w' =>
      (∃ q : Nat → Nat, e = .returned (.agg #[.float .f32 (q 0), .float .f32 (q 1), .float .f32 (q 2), .float .f32 (q 3)]) ∧ q = fun c => if c < 3 then fop .mul .f32 (p c) (darkM vx vy vi vo vd X Y) else cn .f32 (p c)) ∧ Below w.heap.size w w' := by
  have g0 := hv.c 0 _ rfl; have g1 := hv.c 1 _ rfl; have g2 := hv.c 2 _ rfl; have g3 := hv.c 3 _ rfl; have g4 := hv.c 4 _ rfl
  have lv := hv.lt
  clear hv
  go_enter Tryz.func91, Tryz.ntmps91
  go_wp2_with (first | (go_at_call 92; refine (Vignetted_any vx vy vi vo vd X Y p _ hp).mono ?_; rintro e w2 ⟨⟨q, rfl, hq⟩, hb2⟩; have HQ := Lib.hid hq; clear hq; have B2 : Below w.heap.size w w2 := (by (repeat (first | exact Below.refl _ _ | assumption | (refine Below.setCell ?_ (by first | (simp; done) | (simp; omega) | omega) _) | (refine Below.drew ?_) | (refine below_drewN ?_ _) | (refine Below.alloc ?_ (by first | (simp; done) | (simp; omega) | omega) _) | (refine Below.trans ?_ (Below.mono (by assumption) (by first | (simp; done) | (simp; omega) | omega)))))); have sz := hb2.size; simp at sz; have R2 : Pix4 w2 (w.heap.size + 1) 0 0 0 0 := (by exact ⟨by simp [go_sem], by simp [go_sem], by simp [go_sem], by simp [go_sem], fun o => by simp [go_sem]⟩ : Pix4 ((w.alloc (.cells #[.float .f32 (p 0), .float .f32 (p 1), .float .f32 (p 2), .float .f32 (p 3)] 109)).alloc (.cells #[.float .f32 0, .float .f32 0, .float .f32 0, .float .f32 0] 109)) (w.heap.size + 1) 0 0 0 0).below hb2 (by simp); clear hb2 g0 g1 g2 g3 g4; obtain ⟨d0, d1, d2, d3, df⟩ := R2))
  refine bodyPost_ret (v := .agg #[.float .f32 (q 0), .float .f32 (q 1), .float .f32 (q 2), .float .f32 (q 3)]) (by simp [results, Tryz.results91, go_sem, d0, d1, d2, d3]) rfl ⟨⟨q, rfl, HQ.out⟩, ?_⟩
  exact (((B2.setCell (by first | (simp; done) | (simp; omega) | omega) _).setCell (by first | (simp; done) | (simp; omega) | omega) _).setCell (by first | (simp; done) | (simp; omega) | omega) _).setCell (by first | (simp; done) | (simp; omega) | omega) _
end Go.Proofs.YtbaocallhnehfaaGreatDoor
