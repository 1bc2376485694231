/- TopColours: what it calls beside the matrices; hues of any pixel. No condition but what each theorem names. -/
import Derived.Test.YtfmdnibfeckmaaaHlD
import Derived.Test.YtfmdnibfeckmaaaLdB
import Derived.Test.YtfmdnibfeckmaaaVecH
namespace Go.Proofs.Ytfmdnibfeckmaaa
open Go Go.RowKit
theorem tclanded_any (w : World) : Calls Try.prog 11 #[] w fun e w' => e = .returned (.bool true) ∧ w = w' := by
  go_enter Try.func11, Try.ntmps11
  go_wp2_with (first | (go_at_call 30; refine (Bits_any _ _).mono ?_; rintro e w2 ⟨rfl, rfl⟩))
  all_goals (go_ret; refine ⟨ret_b ?_, rfl⟩; decide +kernel)
set_option maxRecDepth 100000 in
set_option maxHeartbeats 1600000 in
theorem FromHSV_some (h s v al : Nat) (w : World) (hw : h < 2 ^ FloatKind.f32.format.width) : Calls Try.prog 17 #[.float .f32 h, .float .f32 s, .float .f32 v, .float .f32 al] w fun e w' => (∃ q : Nat → Nat, e = .returned (.agg #[.float .f32 (q 0), .float .f32 (q 1), .float .f32 (q 2), .float .f32 (q 3)])) ∧ Below w.heap.size w w' := by
  cases hall : allNum [h, s, v] with
  | true => exact (FromHSV_num h s v al w hw hall).mono fun e w' ⟨he, hb⟩ => ⟨⟨fun i => if i = 0 then _ else if i = 1 then _ else if i = 2 then _ else _, he⟩, hb⟩
  | false =>
    have c : cn .f32 2143289344 = 2143289344 := by decide +kernel
    go_enter Try.func17, Try.ntmps17
    go_wp2_with (first | (go_at_call 39; refine (All3_any _ _ _ h s v _ (by simp [go_sem]) (by simp [go_sem]) (by simp [go_sem])).mono ?_; rintro e w' ⟨rfl, rfl⟩) | (go_at_call 38; refine (noneC_any _).mono ?_; rintro e w' ⟨rfl, rfl⟩) | (go_at_call 37; refine (hcleaned_any _ _ _ _ _).mono ?_; rintro e w2 ⟨rfl, hb2⟩; rw [c]; have R2 : Pix4 w2 w.heap.size 0 0 0 0 := Pix4.below ⟨by simp [go_sem], by simp [go_sem], by simp [go_sem], by simp [go_sem], fun o => by simp [go_sem]⟩ hb2 (by first | (simp; done) | (simp; omega)); have B2 : Below w.heap.size w w2 := (by (repeat (first | exact Below.refl _ _ | assumption | (refine Below.setCell ?_ (by first | (simp; done) | (simp; omega) | omega) _) | (refine Below.drew ?_) | (refine below_drewN ?_ _) | (refine Below.alloc ?_ (by first | (simp; done) | (simp; omega) | omega) _) | (refine Below.trans ?_ (Below.mono (by assumption) (by first | (simp; done) | (simp; omega) | omega)))))); have zz := hb2.size; simp at zz; have q2 : w.heap.size < w2.heap.size := (by omega); clear hb2 zz; obtain ⟨d0, d1, d2, d3, df⟩ := R2))
    refine bodyPost_ret (v := .agg #[.float .f32 2143289344, .float .f32 2143289344, .float .f32 2143289344, .float .f32 (cn .f32 al)]) (by simp [results, Try.results17, go_sem, d0, d1, d2, d3]) rfl ⟨⟨fun i => if i = 3 then cn .f32 al else 2143289344, rfl⟩, ?_⟩
    exact (((B2.setCell (by simp) _).setCell (by simp) _).setCell (by simp) _).setCell (by simp) _
/-- What the statement asks of a value. -/
def okL (v : Nat) : Bool := (FloatKind.f32.format.order v 897581056 == some .gt) || (FloatKind.f32.format.order v 897581056 == some .eq)
def okH (v : Nat) : Bool := (FloatKind.f32.format.order v 1233125376 == some .lt) || (FloatKind.f32.format.order v 1233125376 == some .eq)
theorem ok_num {v : Nat} (h : okL v = true) (h2 : okH v = true) : isNum .f32 v = true ∧ (2 : Rat) ^ (-20 : Int) ≤ val .f32 v ∧ val .f32 v ≤ 1048576 := by
  unfold okL at h
  unfold okH at h2
  have hn : isN .f32 v = false := by
    cases hN : isN .f32 v with
    | false => rfl
    | true => rw [ord_nan_l _ hN] at h; simp at h
  have z1 : isN .f32 897581056 = false := by decide +kernel
  have z2 : isN .f32 1233125376 = false := by decide +kernel
  rw [ord_gt hn z1, ord_eq hn z1] at h
  rw [ord_lt hn z2, ord_eq hn z2] at h2
  have k0 : key FloatKind.f32.format 897581056 = 897581056 := by decide +kernel
  have k1 : key FloatKind.f32.format 1233125376 = 1233125376 := by decide +kernel
  have v0 : val .f32 897581056 = (2 : Rat) ^ (-20 : Int) := by decide +kernel
  have v1 : val .f32 1233125376 = 1048576 := by decide +kernel
  rw [Bool.or_eq_true, decide_eq_true_eq, decide_eq_true_eq] at h h2
  have g0 : key FloatKind.f32.format 897581056 ≤ key FloatKind.f32.format v := by omega
  have g1 : key FloatKind.f32.format v ≤ key FloatKind.f32.format 1233125376 := by omega
  have i0 := val_le_key.2 g0
  have i1 := val_le_key.2 g1
  rw [v0] at i0
  rw [v1] at i1
  refine ⟨?_, i0, i1⟩
  unfold isNum
  rw [decide_eq_true_eq, f32_ir]
  rw [k0] at g0
  rw [k1] at g1
  unfold key at g0 g1
  split at g0 <;> rename_i hs <;> simp only [hs] at g1 <;> simp at g1 <;> omega
theorem ld20 (w : World) : Calls Try.prog 10 #[.float .f64 4607182418800017408, .int .i64 (-20)] w fun e w' => e = .returned (.float .f64 4517110426252607488) ∧ ∃ m, w' = w.drewN m := by
  have h := Ldexp_plain 1023 0 (-20) w (by decide) (by decide) (by decide) (by decide) (by decide)
  exact h
theorem ld19 {V : Nat} (nV : isNum .f32 V = true) (v0 : (2 : Rat) ^ (-20 : Int) ≤ val .f32 V) (v1 : val .f32 V ≤ 1048576) (w : World) :
    Calls Try.prog 10 #[.float .f64 (fcv .f32 .f64 V), .int .i64 (-19)] w fun e w' => (∃ r, e = .returned (.float .f64 r) ∧ isNum .f64 r = true ∧ val .f64 r = val .f32 V * (2 : Rat) ^ (-19 : Int)) ∧ ∃ m, w' = w.drewN m := by
  obtain ⟨u1, u2, u3⟩ := up_exact nV
  have hv : val .f64 (fcv .f32 .f64 V) = val .f32 V := by rw [val_sg, val_sg, u2, u3]
  have hl : fcv .f32 .f64 V < 2 ^ FloatKind.f64.format.width := fcv_lt _ _ _
  generalize fcv .f32 .f64 V = b at *
  have c0 : val .f64 4517110426252607488 = (2 : Rat) ^ (-20 : Int) := by decide +kernel
  have c1 : val .f64 4697254411347427328 = 1048576 := by decide +kernel
  have k0 : key FloatKind.f64.format 4517110426252607488 = 4517110426252607488 := by decide +kernel
  have k1 : key FloatKind.f64.format 4697254411347427328 = 4697254411347427328 := by decide +kernel
  have g0 := val_le_key.1 (show val .f64 4517110426252607488 ≤ val .f64 b by rw [c0, hv]; exact v0)
  have g1 := val_le_key.1 (show val .f64 b ≤ val .f64 4697254411347427328 by rw [c1, hv]; exact v1)
  rw [k0] at g0
  rw [k1] at g1
  have hs : sgn FloatKind.f64.format b = false := by
    cases hs : sgn FloatKind.f64.format b with
    | false => rfl
    | true => exfalso; unfold key at g0; rw [hs] at g0; simp at g0; omega
  have hk : key FloatKind.f64.format b = (b : Int) := by
    have hs' := hs
    unfold sgn at hs'; rw [f64_sw] at hs'
    have hl : b < 18446744073709551616 := hl
    simp only [beq_eq_false_iff_ne] at hs'
    unfold key rung
    rw [hs, f64_sw, Nat.mod_eq_of_lt (by omega)]; simp
  rw [hk] at g0 g1
  refine (Ldexp_val (-19) w u1 hs hl (by omega) (by omega) (by omega)).mono ?_
  rintro e w' ⟨r, rfl, ⟨h1, -, h3⟩, m, rfl⟩
  exact ⟨⟨r, rfl, h1, by rw [h3, hv]⟩, m, rfl⟩
def HlPsi (V : Nat) (f : FuncId) (args : Array Value) (u : Value) : Prop := (f = 9 ∧ u = .float .f64 (absF (argF args 0))) ∨ (f = 10 ∧ ∃ L, u = .float .f64 L ∧ isNum .f64 L = true ∧ val .f64 L = val .f32 V * (2 : Rat) ^ (-19 : Int))
theorem hl_psi1 {V b : Nat} {u : Value} : HlPsi V 9 #[.float .f64 b] u ↔ u = .float .f64 (absF b) := by
  have h : (9 : FuncId) ≠ 10 := by decide
  unfold HlPsi; simp [h, argF_0]
theorem hl_psi2 {V : Nat} {args : Array Value} {u : Value} : HlPsi V 10 args u ↔ ∃ L, u = .float .f64 L ∧ isNum .f64 L = true ∧ val .f64 L = val .f32 V * (2 : Rat) ^ (-19 : Int) := by
  have h : (10 : FuncId) ≠ 9 := by decide
  unfold HlPsi; simp [h]
theorem hueF_lt (V M p0 p1 p2 : Nat) : hueF V M p0 p1 p2 < 2 ^ FloatKind.f32.format.width := by
  unfold hueF
  split
  · exact Nat.two_pow_pos _
  · split
    · exact fop_lt _ _ _ _
    · unfold hrawF; exact fop_lt _ _ _ _
/-- What stands of the walk's variables. -/
structure HlR (w W : World) (p : Nat → Nat) (nq : Nat) (q : Nat → Nat) : Prop where
  p : VecF W w.heap.size 4 p
  q : VecF W nq 4 q
  w : Below w.heap.size w W
theorem HlR.past {w W V : World} {p q : Nat → Nat} {nq : Nat} (k : HlR w W p nq q) (h : Below W.heap.size W V) : HlR w V p nq q := ⟨k.p.past h, k.q.past h, k.w.trans (h.mono k.w.size)⟩
theorem hsv_lt (p0 p1 p2 : Nat) : (hsvF p0 p1 p2).1 < 2 ^ FloatKind.f32.format.width := by
  unfold hsvF
  split
  · show 2143289344 < _; decide
  · exact hueF_lt _ _ _ _ _
end Go.Proofs.Ytfmdnibfeckmaaa
