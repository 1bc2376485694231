/- SharpensAsSaid: the walk of the statement, whole. No condition. -/
import Derived.Test.YtmnmcmmhnbnndaaShW
import Derived.Test.YtmnmcmmhnbnndaaGrZ
namespace Go.Proofs.Ytmnmcmmhnbnndaa
open Go.RowKit
def ShPsi (E : Int) (f : FuncId) (args : Array Value) (u : Value) : Prop :=
  (f = 70 ∧ u = .int .i64 E) ∨ (f = 52 ∧ ∃ v, args = #[.float .f32 v] ∧ u = .bool (isNum .f32 v)) ∨ (f = 20 ∧ ∃ b n, args = #[.bool b, .int .i64 n] ∧ u = .int .i64 (whenE b n))
theorem sh_psi1 {E : Int} {args : Array Value} {u : Value} (h : ShPsi E 70 args u) : u = .int .i64 E := by
  rcases h with ⟨-, h⟩ | ⟨h, -⟩ | ⟨h, -⟩
  · exact h
  · exact absurd h (by decide)
  · exact absurd h (by decide)
theorem sh_psi2 {E : Int} {v : Nat} {u : Value} (h : ShPsi E 52 #[.float .f32 v] u) : u = .bool (isNum .f32 v) := by
  rcases h with ⟨h, -⟩ | ⟨-, v', h1, rfl⟩ | ⟨h, -⟩
  · exact absurd h (by decide)
  · simp at h1; rw [h1]
  · exact absurd h (by decide)
theorem sh_psi3 {E : Int} {b : Bool} {n : Int} {u : Value} (h : ShPsi E 20 #[.bool b, .int .i64 n] u) : u = .int .i64 (whenE b n) := by
  rcases h with ⟨h, -⟩ | ⟨h, -⟩ | ⟨-, b', n', h1, rfl⟩
  · exact absurd h (by decide)
  · exact absurd h (by decide)
  · simp at h1; obtain ⟨rfl, rfl⟩ := h1; rfl
/-- What stands of the statement's variables. -/
structure ShSt (w wx : World) (amount least : Nat) (x y v h : Int) (sl : Value) (hb : Nat) (x' y' v' h' : Int) (sl' : Value) : Prop where
  f : FrameC wx w.heap.size x y v h sl
  a : wx.cell? ⟨w.heap.size + 1, 0, none⟩ = some (.float .f32 amount)
  s : wx.cell? ⟨w.heap.size + 1 + 1, 0, none⟩ = some (.float .f32 least)
  h : FrameC wx hb x' y' v' h' sl'
  l : w.heap.size + 1 + 1 < wx.heap.size ∧ hb < wx.heap.size
  b : Below w.heap.size w wx
theorem ShSt.past {w wx wy : World} {amount least : Nat} {x y v h : Int} {sl : Value} {hb : Nat} {x' y' v' h' : Int} {sl' : Value} (k : ShSt w wx amount least x y v h sl hb x' y' v' h' sl') (hw : Below wx.heap.size wx wy) : ShSt w wy amount least x y v h sl hb x' y' v' h' sl' :=
  have l := k.l
  have z := hw.size
  ⟨k.f.below hw (by omega), (hw.cell (p := ⟨w.heap.size + 1, 0, none⟩) (by show w.heap.size + 1 < _; omega)).trans k.a, (hw.cell (p := ⟨w.heap.size + 1 + 1, 0, none⟩) (by show w.heap.size + 1 + 1 < _; omega)).trans k.s, k.h.below hw (by omega), ⟨by omega, by omega⟩, k.b.trans (hw.mono (by omega))⟩
theorem num_16 : isNum .f32 1098907648 = true := by decide +kernel
/-- The statement's error is the code's. -/
theorem sh_want {amount least : Nat} (E : Int) :
    firstE E (firstE (whenE (!isNum .f32 amount || !isNum .f32 least) 2) (whenE (!(((FloatKind.f32.format.order amount 0 == some .gt) || (FloatKind.f32.format.order amount 0 == some .eq)) && ((FloatKind.f32.format.order amount 1098907648 == some .lt) || (FloatKind.f32.format.order amount 1098907648 == some .eq))) || (FloatKind.f32.format.order least 0 == some .lt)) 3)) = firstE E (shE amount least) := by
  have hA : allNum [amount, least] = (isNum .f32 amount && isNum .f32 least) := by simp [allNum]
  unfold shE
  rw [hA]
  cases h1 : isNum .f32 amount
  · rfl
  · cases h2 : isNum .f32 least
    · rfl
    · unfold shBad
      rw [tri_low h1 num_01.1, tri_high h1 num_16]
      generalize (FloatKind.f32.format.order amount 0 == some .gt) = a
      generalize (FloatKind.f32.format.order amount 0 == some .eq) = b
      generalize (FloatKind.f32.format.order amount 1098907648 == some .lt) = c
      generalize (FloatKind.f32.format.order amount 1098907648 == some .eq) = d
      generalize (FloatKind.f32.format.order least 0 == some .lt) = e
      cases a <;> cases b <;> cases c <;> cases d <;> cases e <;> rfl
set_option maxRecDepth 100000 in
set_option maxHeartbeats 4000000 in
theorem sl_no (x y v h : Int) (a : Option Addr) (len cap : Nat) (amount least : Nat) (w : World) (hx : -9223372036854775808 ≤ x ∧ x ≤ 9223372036854775807) (hy : -9223372036854775808 ≤ y ∧ y ≤ 9223372036854775807) (hW : firstE (fraErr x y v h len) (shE amount least) ≠ 0) :
    Calls Try.prog 10 #[.agg #[.int .i64 x, .int .i64 y, .int .i64 v, .int .i64 h, .slice a len cap], .float .f32 amount, .float .f32 least] w fun e w' => e = .returned (.bool true) ∧ Below w.heap.size w w' := by
  have HX := Lib.hid (And.intro hx hy)
  clear hx hy
  have hWb : (firstE (fraErr x y v h len) (shE amount least) != 0) = true := by simpa using hW
  go_enter Try.func10, Try.ntmps10
  go_upto_region 2 with (first | (go_at_call 69; refine (Sharpen_no _ _ _ _ _ _ _ _ _ _ hW).mono ?_; rintro e w2 ⟨rfl, hb2⟩))
  obtain ⟨V, hV⟩ : ∃ V, V = w2.alloc (.cells #[.int .i64 0, .int .i64 0, .int .i64 0, .int .i64 0, .slice none 0 0] 27) := ⟨_, rfl⟩
  have S : ShSt w V amount least x y v h (.slice a len cap) w2.heap.size 0 0 0 0 (.slice none 0 0) := by
    rw [hV]
    have sz := hb2.size
    simp at sz
    have bb2 : Below (w.heap.size + 1 + 1 + 1) _ (w2.alloc (.cells #[.int .i64 0, .int .i64 0, .int .i64 0, .int .i64 0, .slice none 0 0] 27)) := (by simpa using hb2 : Below (w.heap.size + 1 + 1 + 1) _ w2).alloc (by omega) _
    refine ⟨FrameC.below ⟨by simp [go_sem], by simp [go_sem], by simp [go_sem], by simp [go_sem], by simp [go_sem], fun o => by simp [go_sem]⟩ bb2 (by omega), (bb2.cell (p := ⟨w.heap.size + 1, 0, none⟩) (by show w.heap.size + 1 < _; omega)).trans (by simp [go_sem]), (bb2.cell (p := ⟨w.heap.size + 1 + 1, 0, none⟩) (by show w.heap.size + 1 + 1 < _; omega)).trans (by simp [go_sem]), ⟨by simp [go_sem], by simp [go_sem], by simp [go_sem], by simp [go_sem], by simp [go_sem], fun o => by simp [go_sem]⟩, ⟨by simp; omega, by simp⟩, ?_⟩
    exact Below.trans ((((Below.refl _ _).alloc (Nat.le_refl _) _).alloc (by simp) _).alloc (by simp; omega) _) (bb2.mono (by omega))
  rw [← hV]
  clear hV hb2
  generalize w2.heap.size = hh at *
  have SS := Lib.hid S
  obtain ⟨⟨f0, f1, f2, f3, f4, -⟩, sa, sl, ⟨h0, h1, h2, h3, h4, -⟩, ⟨l1, l2⟩, -⟩ := S
  have l3 : w.heap.size < V.heap.size := by omega
  have l4 : w.heap.size + 1 < V.heap.size := by omega
  have SV := Lib.hid (sh_want (amount := amount) (least := least) (fraErr x y v h len))
  clear hW
  generalize firstE (fraErr x y v h len) (shE amount least) = Wn at *
  go_cut [9] from 18 to 42 (fun s9 wx => s9 = .int .i64 Wn ∧ Below V.heap.size V wx)
  case first =>
    clear hWb
    clear h0 h1 h2 h3 h4
    cases hA : isNum .f32 amount <;> cases hg : ((FloatKind.f32.format.order amount 0 == some .gt) || (FloatKind.f32.format.order amount 0 == some .eq)) <;> cases hl : ((FloatKind.f32.format.order amount 1098907648 == some .lt) || (FloatKind.f32.format.order amount 1098907648 == some .eq))
    · refine wp_region_loose 23 (ShPsi (fraErr x y v h len)) (by kernel_rfl) (by kernel_rfl) ?_
      simp only [List.take_succ_cons, List.take_zero, List.drop_succ_cons, List.drop_zero]
      (refine loose_wanted rfl (fun K hK => ?_); go_simp; refine hK _ ?_; clear hK K)
      refine loose_wanted rfl (fun K1 hK => ?_)
      go_simp
      refine ⟨fun p => (FrameError_any _ _ _ _ _ _ _ p.w HX.out.1 HX.out.2).mono ?_, ?_⟩
      · rintro e w' ⟨rfl, hb⟩
        exact ⟨_, rfl, .inl ⟨rfl, rfl⟩, p.h.trans (hb.mono p.h.size)⟩
      intro u hu
      obtain rfl := sh_psi1 hu
      refine hK _ ?_
      clear hK K1 hu
      (refine loose_wanted rfl (fun K hK => ?_); go_simp; refine hK _ ?_; clear hK K)
      refine loose_wanted rfl (fun K1 hK => ?_)
      go_simp
      refine ⟨fun p => (IsNumberR_any _ p.w).mono ?_, ?_⟩
      · rintro e w' ⟨rfl, m, rfl⟩
        exact ⟨_, rfl, .inr (.inl ⟨rfl, _, rfl, rfl⟩), below_drewN p.h m⟩
      intro u hu
      obtain rfl := sh_psi2 hu
      refine hK _ ?_
      clear hK K1 hu
      (refine loose_wanted rfl (fun K hK => ?_); go_simp; refine hK _ ?_; clear hK K)
      (refine loose_wanted rfl (fun K hK => ?_); go_simp; refine hK _ ?_; clear hK K)
      ((with_reducible refine loose_pass (by kernel_rfl) (fun K hK => ?_)); go_simp; refine hK _ ?_; clear hK K)
      ((with_reducible refine loose_pass (by kernel_rfl) (fun K hK => ?_)); go_simp; refine hK _ ?_; clear hK K)
      ((with_reducible refine loose_pass (by kernel_rfl) (fun K hK => ?_)); go_simp; refine hK _ ?_; clear hK K)
      (refine loose_wanted rfl (fun K hK => ?_); go_simp; refine hK _ ?_; clear hK K)
      refine loose_wanted rfl (fun K1 hK => ?_)
      go_simp
      refine ⟨fun p => (When_any _ _ p.w).mono ?_, ?_⟩
      · rintro e w' ⟨rfl, rfl⟩
        exact ⟨_, rfl, .inr (.inr ⟨rfl, _, _, rfl, rfl⟩), p.h⟩
      intro u hu
      obtain rfl := sh_psi3 hu
      refine hK _ ?_
      clear hK K1 hu
      (refine loose_wanted rfl (fun K hK => ?_); go_simp; refine hK _ ?_; clear hK K)
      (refine loose_wanted rfl (fun K hK => ?_); go_simp; refine hK _ ?_; clear hK K)
      (refine loose_wanted rfl (fun K hK => ?_); go_simp; refine hK _ ?_; clear hK K)
      ((with_reducible refine loose_pass (by kernel_rfl) (fun K hK => ?_)); go_simp; refine hK _ ?_; clear hK K)
      ((with_reducible refine loose_pass (by kernel_rfl) (fun K hK => ?_)); go_simp; refine hK _ ?_; clear hK K)
      (refine loose_wanted rfl (fun K hK => ?_); go_simp; refine hK _ ?_; clear hK K)
      (refine loose_wanted rfl (fun K hK => ?_); go_simp; refine hK _ ?_; clear hK K)
      (refine loose_wanted rfl (fun K hK => ?_); go_simp; refine hK _ ?_; clear hK K)
      ((with_reducible refine loose_pass (by kernel_rfl) (fun K hK => ?_)); go_simp; refine hK _ ?_; clear hK K)
      ((with_reducible refine loose_pass (by kernel_rfl) (fun K hK => ?_)); go_simp; refine hK _ ?_; clear hK K)
      (refine loose_wanted rfl (fun K hK => ?_); go_simp; refine hK _ ?_; clear hK K)
      refine loose_wanted rfl (fun K1 hK => ?_)
      go_simp
      refine ⟨fun p => (When_any _ _ p.w).mono ?_, ?_⟩
      · rintro e w' ⟨rfl, rfl⟩
        exact ⟨_, rfl, .inr (.inr ⟨rfl, _, _, rfl, rfl⟩), p.h⟩
      intro u hu
      obtain rfl := sh_psi3 hu
      refine hK _ ?_
      clear hK K1 hu
      refine loose_nil (fun w5 hb5 => ?_)
      go_wp2_with (first | (go_at_call 18; refine (First3_new _ _ _ _ _ _ (heap_new _ _ _ (by simp))).mono ?_; rintro e w' ⟨rfl, rfl⟩))
      go_meet
      exact ⟨by rw [← SV.out, hA, hg, hl]; rfl, Below.alloc hb5 hb5.size _⟩
    · refine wp_region_loose 23 (ShPsi (fraErr x y v h len)) (by kernel_rfl) (by kernel_rfl) ?_
      simp only [List.take_succ_cons, List.take_zero, List.drop_succ_cons, List.drop_zero]
      (refine loose_wanted rfl (fun K hK => ?_); go_simp; refine hK _ ?_; clear hK K)
      refine loose_wanted rfl (fun K1 hK => ?_)
      go_simp
      refine ⟨fun p => (FrameError_any _ _ _ _ _ _ _ p.w HX.out.1 HX.out.2).mono ?_, ?_⟩
      · rintro e w' ⟨rfl, hb⟩
        exact ⟨_, rfl, .inl ⟨rfl, rfl⟩, p.h.trans (hb.mono p.h.size)⟩
      intro u hu
      obtain rfl := sh_psi1 hu
      refine hK _ ?_
      clear hK K1 hu
      (refine loose_wanted rfl (fun K hK => ?_); go_simp; refine hK _ ?_; clear hK K)
      refine loose_wanted rfl (fun K1 hK => ?_)
      go_simp
      refine ⟨fun p => (IsNumberR_any _ p.w).mono ?_, ?_⟩
      · rintro e w' ⟨rfl, m, rfl⟩
        exact ⟨_, rfl, .inr (.inl ⟨rfl, _, rfl, rfl⟩), below_drewN p.h m⟩
      intro u hu
      obtain rfl := sh_psi2 hu
      refine hK _ ?_
      clear hK K1 hu
      (refine loose_wanted rfl (fun K hK => ?_); go_simp; refine hK _ ?_; clear hK K)
      (refine loose_wanted rfl (fun K hK => ?_); go_simp; refine hK _ ?_; clear hK K)
      ((with_reducible refine loose_pass (by kernel_rfl) (fun K hK => ?_)); go_simp; refine hK _ ?_; clear hK K)
      ((with_reducible refine loose_pass (by kernel_rfl) (fun K hK => ?_)); go_simp; refine hK _ ?_; clear hK K)
      ((with_reducible refine loose_pass (by kernel_rfl) (fun K hK => ?_)); go_simp; refine hK _ ?_; clear hK K)
      (refine loose_wanted rfl (fun K hK => ?_); go_simp; refine hK _ ?_; clear hK K)
      refine loose_wanted rfl (fun K1 hK => ?_)
      go_simp
      refine ⟨fun p => (When_any _ _ p.w).mono ?_, ?_⟩
      · rintro e w' ⟨rfl, rfl⟩
        exact ⟨_, rfl, .inr (.inr ⟨rfl, _, _, rfl, rfl⟩), p.h⟩
      intro u hu
      obtain rfl := sh_psi3 hu
      refine hK _ ?_
      clear hK K1 hu
      (refine loose_wanted rfl (fun K hK => ?_); go_simp; refine hK _ ?_; clear hK K)
      (refine loose_wanted rfl (fun K hK => ?_); go_simp; refine hK _ ?_; clear hK K)
      (refine loose_wanted rfl (fun K hK => ?_); go_simp; refine hK _ ?_; clear hK K)
      ((with_reducible refine loose_pass (by kernel_rfl) (fun K hK => ?_)); go_simp; refine hK _ ?_; clear hK K)
      ((with_reducible refine loose_pass (by kernel_rfl) (fun K hK => ?_)); go_simp; refine hK _ ?_; clear hK K)
      (refine loose_wanted rfl (fun K hK => ?_); go_simp; refine hK _ ?_; clear hK K)
      (refine loose_wanted rfl (fun K hK => ?_); go_simp; refine hK _ ?_; clear hK K)
      (refine loose_wanted rfl (fun K hK => ?_); go_simp; refine hK _ ?_; clear hK K)
      ((with_reducible refine loose_pass (by kernel_rfl) (fun K hK => ?_)); go_simp; refine hK _ ?_; clear hK K)
      ((with_reducible refine loose_pass (by kernel_rfl) (fun K hK => ?_)); go_simp; refine hK _ ?_; clear hK K)
      (refine loose_wanted rfl (fun K hK => ?_); go_simp; refine hK _ ?_; clear hK K)
      refine loose_wanted rfl (fun K1 hK => ?_)
      go_simp
      refine ⟨fun p => (When_any _ _ p.w).mono ?_, ?_⟩
      · rintro e w' ⟨rfl, rfl⟩
        exact ⟨_, rfl, .inr (.inr ⟨rfl, _, _, rfl, rfl⟩), p.h⟩
      intro u hu
      obtain rfl := sh_psi3 hu
      refine hK _ ?_
      clear hK K1 hu
      refine loose_nil (fun w5 hb5 => ?_)
      go_wp2_with (first | (go_at_call 18; refine (First3_new _ _ _ _ _ _ (heap_new _ _ _ (by simp))).mono ?_; rintro e w' ⟨rfl, rfl⟩))
      go_meet
      exact ⟨by rw [← SV.out, hA, hg, hl]; rfl, Below.alloc hb5 hb5.size _⟩
    · refine wp_region_loose 23 (ShPsi (fraErr x y v h len)) (by kernel_rfl) (by kernel_rfl) ?_
      simp only [List.take_succ_cons, List.take_zero, List.drop_succ_cons, List.drop_zero]
      (refine loose_wanted rfl (fun K hK => ?_); go_simp; refine hK _ ?_; clear hK K)
      refine loose_wanted rfl (fun K1 hK => ?_)
      go_simp
      refine ⟨fun p => (FrameError_any _ _ _ _ _ _ _ p.w HX.out.1 HX.out.2).mono ?_, ?_⟩
      · rintro e w' ⟨rfl, hb⟩
        exact ⟨_, rfl, .inl ⟨rfl, rfl⟩, p.h.trans (hb.mono p.h.size)⟩
      intro u hu
      obtain rfl := sh_psi1 hu
      refine hK _ ?_
      clear hK K1 hu
      (refine loose_wanted rfl (fun K hK => ?_); go_simp; refine hK _ ?_; clear hK K)
      refine loose_wanted rfl (fun K1 hK => ?_)
      go_simp
      refine ⟨fun p => (IsNumberR_any _ p.w).mono ?_, ?_⟩
      · rintro e w' ⟨rfl, m, rfl⟩
        exact ⟨_, rfl, .inr (.inl ⟨rfl, _, rfl, rfl⟩), below_drewN p.h m⟩
      intro u hu
      obtain rfl := sh_psi2 hu
      refine hK _ ?_
      clear hK K1 hu
      (refine loose_wanted rfl (fun K hK => ?_); go_simp; refine hK _ ?_; clear hK K)
      (refine loose_wanted rfl (fun K hK => ?_); go_simp; refine hK _ ?_; clear hK K)
      ((with_reducible refine loose_pass (by kernel_rfl) (fun K hK => ?_)); go_simp; refine hK _ ?_; clear hK K)
      ((with_reducible refine loose_pass (by kernel_rfl) (fun K hK => ?_)); go_simp; refine hK _ ?_; clear hK K)
      ((with_reducible refine loose_pass (by kernel_rfl) (fun K hK => ?_)); go_simp; refine hK _ ?_; clear hK K)
      (refine loose_wanted rfl (fun K hK => ?_); go_simp; refine hK _ ?_; clear hK K)
      refine loose_wanted rfl (fun K1 hK => ?_)
      go_simp
      refine ⟨fun p => (When_any _ _ p.w).mono ?_, ?_⟩
      · rintro e w' ⟨rfl, rfl⟩
        exact ⟨_, rfl, .inr (.inr ⟨rfl, _, _, rfl, rfl⟩), p.h⟩
      intro u hu
      obtain rfl := sh_psi3 hu
      refine hK _ ?_
      clear hK K1 hu
      (refine loose_wanted rfl (fun K hK => ?_); go_simp; refine hK _ ?_; clear hK K)
      (refine loose_wanted rfl (fun K hK => ?_); go_simp; refine hK _ ?_; clear hK K)
      (refine loose_wanted rfl (fun K hK => ?_); go_simp; refine hK _ ?_; clear hK K)
      (refine loose_wanted rfl (fun K hK => ?_); go_simp; refine hK _ ?_; clear hK K)
      (refine loose_wanted rfl (fun K hK => ?_); go_simp; refine hK _ ?_; clear hK K)
      (refine loose_wanted rfl (fun K hK => ?_); go_simp; refine hK _ ?_; clear hK K)
      (refine loose_wanted rfl (fun K hK => ?_); go_simp; refine hK _ ?_; clear hK K)
      (refine loose_wanted rfl (fun K hK => ?_); go_simp; refine hK _ ?_; clear hK K)
      ((with_reducible refine loose_pass (by kernel_rfl) (fun K hK => ?_)); go_simp; refine hK _ ?_; clear hK K)
      ((with_reducible refine loose_pass (by kernel_rfl) (fun K hK => ?_)); go_simp; refine hK _ ?_; clear hK K)
      (refine loose_wanted rfl (fun K hK => ?_); go_simp; refine hK _ ?_; clear hK K)
      refine loose_wanted rfl (fun K1 hK => ?_)
      go_simp
      refine ⟨fun p => (When_any _ _ p.w).mono ?_, ?_⟩
      · rintro e w' ⟨rfl, rfl⟩
        exact ⟨_, rfl, .inr (.inr ⟨rfl, _, _, rfl, rfl⟩), p.h⟩
      intro u hu
      obtain rfl := sh_psi3 hu
      refine hK _ ?_
      clear hK K1 hu
      refine loose_nil (fun w5 hb5 => ?_)
      go_wp2_with (first | (go_at_call 18; refine (First3_new _ _ _ _ _ _ (heap_new _ _ _ (by simp))).mono ?_; rintro e w' ⟨rfl, rfl⟩))
      go_meet
      exact ⟨by rw [← SV.out, hA, hg, hl]; rfl, Below.alloc hb5 hb5.size _⟩
    · refine wp_region_loose 23 (ShPsi (fraErr x y v h len)) (by kernel_rfl) (by kernel_rfl) ?_
      simp only [List.take_succ_cons, List.take_zero, List.drop_succ_cons, List.drop_zero]
      (refine loose_wanted rfl (fun K hK => ?_); go_simp; refine hK _ ?_; clear hK K)
      refine loose_wanted rfl (fun K1 hK => ?_)
      go_simp
      refine ⟨fun p => (FrameError_any _ _ _ _ _ _ _ p.w HX.out.1 HX.out.2).mono ?_, ?_⟩
      · rintro e w' ⟨rfl, hb⟩
        exact ⟨_, rfl, .inl ⟨rfl, rfl⟩, p.h.trans (hb.mono p.h.size)⟩
      intro u hu
      obtain rfl := sh_psi1 hu
      refine hK _ ?_
      clear hK K1 hu
      (refine loose_wanted rfl (fun K hK => ?_); go_simp; refine hK _ ?_; clear hK K)
      refine loose_wanted rfl (fun K1 hK => ?_)
      go_simp
      refine ⟨fun p => (IsNumberR_any _ p.w).mono ?_, ?_⟩
      · rintro e w' ⟨rfl, m, rfl⟩
        exact ⟨_, rfl, .inr (.inl ⟨rfl, _, rfl, rfl⟩), below_drewN p.h m⟩
      intro u hu
      obtain rfl := sh_psi2 hu
      refine hK _ ?_
      clear hK K1 hu
      (refine loose_wanted rfl (fun K hK => ?_); go_simp; refine hK _ ?_; clear hK K)
      (refine loose_wanted rfl (fun K hK => ?_); go_simp; refine hK _ ?_; clear hK K)
      ((with_reducible refine loose_pass (by kernel_rfl) (fun K hK => ?_)); go_simp; refine hK _ ?_; clear hK K)
      ((with_reducible refine loose_pass (by kernel_rfl) (fun K hK => ?_)); go_simp; refine hK _ ?_; clear hK K)
      ((with_reducible refine loose_pass (by kernel_rfl) (fun K hK => ?_)); go_simp; refine hK _ ?_; clear hK K)
      (refine loose_wanted rfl (fun K hK => ?_); go_simp; refine hK _ ?_; clear hK K)
      refine loose_wanted rfl (fun K1 hK => ?_)
      go_simp
      refine ⟨fun p => (When_any _ _ p.w).mono ?_, ?_⟩
      · rintro e w' ⟨rfl, rfl⟩
        exact ⟨_, rfl, .inr (.inr ⟨rfl, _, _, rfl, rfl⟩), p.h⟩
      intro u hu
      obtain rfl := sh_psi3 hu
      refine hK _ ?_
      clear hK K1 hu
      (refine loose_wanted rfl (fun K hK => ?_); go_simp; refine hK _ ?_; clear hK K)
      (refine loose_wanted rfl (fun K hK => ?_); go_simp; refine hK _ ?_; clear hK K)
      (refine loose_wanted rfl (fun K hK => ?_); go_simp; refine hK _ ?_; clear hK K)
      (refine loose_wanted rfl (fun K hK => ?_); go_simp; refine hK _ ?_; clear hK K)
      (refine loose_wanted rfl (fun K hK => ?_); go_simp; refine hK _ ?_; clear hK K)
      (refine loose_wanted rfl (fun K hK => ?_); go_simp; refine hK _ ?_; clear hK K)
      (refine loose_wanted rfl (fun K hK => ?_); go_simp; refine hK _ ?_; clear hK K)
      (refine loose_wanted rfl (fun K hK => ?_); go_simp; refine hK _ ?_; clear hK K)
      (refine loose_wanted rfl (fun K hK => ?_); go_simp; refine hK _ ?_; clear hK K)
      (refine loose_wanted rfl (fun K hK => ?_); go_simp; refine hK _ ?_; clear hK K)
      (refine loose_wanted rfl (fun K hK => ?_); go_simp; refine hK _ ?_; clear hK K)
      refine loose_wanted rfl (fun K1 hK => ?_)
      go_simp
      refine ⟨fun p => (When_any _ _ p.w).mono ?_, ?_⟩
      · rintro e w' ⟨rfl, rfl⟩
        exact ⟨_, rfl, .inr (.inr ⟨rfl, _, _, rfl, rfl⟩), p.h⟩
      intro u hu
      obtain rfl := sh_psi3 hu
      refine hK _ ?_
      clear hK K1 hu
      refine loose_nil (fun w5 hb5 => ?_)
      go_wp2_with (first | (go_at_call 18; refine (First3_new _ _ _ _ _ _ (heap_new _ _ _ (by simp))).mono ?_; rintro e w' ⟨rfl, rfl⟩))
      go_meet
      exact ⟨by rw [← SV.out, hA, hg, hl]; rfl, Below.alloc hb5 hb5.size _⟩
    · refine wp_region_loose 23 (ShPsi (fraErr x y v h len)) (by kernel_rfl) (by kernel_rfl) ?_
      simp only [List.take_succ_cons, List.take_zero, List.drop_succ_cons, List.drop_zero]
      (refine loose_wanted rfl (fun K hK => ?_); go_simp; refine hK _ ?_; clear hK K)
      refine loose_wanted rfl (fun K1 hK => ?_)
      go_simp
      refine ⟨fun p => (FrameError_any _ _ _ _ _ _ _ p.w HX.out.1 HX.out.2).mono ?_, ?_⟩
      · rintro e w' ⟨rfl, hb⟩
        exact ⟨_, rfl, .inl ⟨rfl, rfl⟩, p.h.trans (hb.mono p.h.size)⟩
      intro u hu
      obtain rfl := sh_psi1 hu
      refine hK _ ?_
      clear hK K1 hu
      (refine loose_wanted rfl (fun K hK => ?_); go_simp; refine hK _ ?_; clear hK K)
      refine loose_wanted rfl (fun K1 hK => ?_)
      go_simp
      refine ⟨fun p => (IsNumberR_any _ p.w).mono ?_, ?_⟩
      · rintro e w' ⟨rfl, m, rfl⟩
        exact ⟨_, rfl, .inr (.inl ⟨rfl, _, rfl, rfl⟩), below_drewN p.h m⟩
      intro u hu
      obtain rfl := sh_psi2 hu
      refine hK _ ?_
      clear hK K1 hu
      (refine loose_wanted rfl (fun K hK => ?_); go_simp; refine hK _ ?_; clear hK K)
      (refine loose_wanted rfl (fun K hK => ?_); go_simp; refine hK _ ?_; clear hK K)
      (refine loose_wanted rfl (fun K hK => ?_); go_simp; refine hK _ ?_; clear hK K)
      refine loose_wanted rfl (fun K1 hK => ?_)
      go_simp
      refine ⟨fun p => (IsNumberR_any _ p.w).mono ?_, ?_⟩
      · rintro e w' ⟨rfl, m, rfl⟩
        exact ⟨_, rfl, .inr (.inl ⟨rfl, _, rfl, rfl⟩), below_drewN p.h m⟩
      intro u hu
      obtain rfl := sh_psi2 hu
      refine hK _ ?_
      clear hK K1 hu
      (refine loose_wanted rfl (fun K hK => ?_); go_simp; refine hK _ ?_; clear hK K)
      (refine loose_wanted rfl (fun K hK => ?_); go_simp; refine hK _ ?_; clear hK K)
      refine loose_wanted rfl (fun K1 hK => ?_)
      go_simp
      refine ⟨fun p => (When_any _ _ p.w).mono ?_, ?_⟩
      · rintro e w' ⟨rfl, rfl⟩
        exact ⟨_, rfl, .inr (.inr ⟨rfl, _, _, rfl, rfl⟩), p.h⟩
      intro u hu
      obtain rfl := sh_psi3 hu
      refine hK _ ?_
      clear hK K1 hu
      (refine loose_wanted rfl (fun K hK => ?_); go_simp; refine hK _ ?_; clear hK K)
      (refine loose_wanted rfl (fun K hK => ?_); go_simp; refine hK _ ?_; clear hK K)
      (refine loose_wanted rfl (fun K hK => ?_); go_simp; refine hK _ ?_; clear hK K)
      ((with_reducible refine loose_pass (by kernel_rfl) (fun K hK => ?_)); go_simp; refine hK _ ?_; clear hK K)
      ((with_reducible refine loose_pass (by kernel_rfl) (fun K hK => ?_)); go_simp; refine hK _ ?_; clear hK K)
      (refine loose_wanted rfl (fun K hK => ?_); go_simp; refine hK _ ?_; clear hK K)
      (refine loose_wanted rfl (fun K hK => ?_); go_simp; refine hK _ ?_; clear hK K)
      (refine loose_wanted rfl (fun K hK => ?_); go_simp; refine hK _ ?_; clear hK K)
      ((with_reducible refine loose_pass (by kernel_rfl) (fun K hK => ?_)); go_simp; refine hK _ ?_; clear hK K)
      ((with_reducible refine loose_pass (by kernel_rfl) (fun K hK => ?_)); go_simp; refine hK _ ?_; clear hK K)
      (refine loose_wanted rfl (fun K hK => ?_); go_simp; refine hK _ ?_; clear hK K)
      refine loose_wanted rfl (fun K1 hK => ?_)
      go_simp
      refine ⟨fun p => (When_any _ _ p.w).mono ?_, ?_⟩
      · rintro e w' ⟨rfl, rfl⟩
        exact ⟨_, rfl, .inr (.inr ⟨rfl, _, _, rfl, rfl⟩), p.h⟩
      intro u hu
      obtain rfl := sh_psi3 hu
      refine hK _ ?_
      clear hK K1 hu
      refine loose_nil (fun w5 hb5 => ?_)
      go_wp2_with (first | (go_at_call 18; refine (First3_new _ _ _ _ _ _ (heap_new _ _ _ (by simp))).mono ?_; rintro e w' ⟨rfl, rfl⟩))
      go_meet
      exact ⟨by rw [← SV.out, hA, hg, hl]; rfl, Below.alloc hb5 hb5.size _⟩
    · refine wp_region_loose 23 (ShPsi (fraErr x y v h len)) (by kernel_rfl) (by kernel_rfl) ?_
      simp only [List.take_succ_cons, List.take_zero, List.drop_succ_cons, List.drop_zero]
      (refine loose_wanted rfl (fun K hK => ?_); go_simp; refine hK _ ?_; clear hK K)
      refine loose_wanted rfl (fun K1 hK => ?_)
      go_simp
      refine ⟨fun p => (FrameError_any _ _ _ _ _ _ _ p.w HX.out.1 HX.out.2).mono ?_, ?_⟩
      · rintro e w' ⟨rfl, hb⟩
        exact ⟨_, rfl, .inl ⟨rfl, rfl⟩, p.h.trans (hb.mono p.h.size)⟩
      intro u hu
      obtain rfl := sh_psi1 hu
      refine hK _ ?_
      clear hK K1 hu
      (refine loose_wanted rfl (fun K hK => ?_); go_simp; refine hK _ ?_; clear hK K)
      refine loose_wanted rfl (fun K1 hK => ?_)
      go_simp
      refine ⟨fun p => (IsNumberR_any _ p.w).mono ?_, ?_⟩
      · rintro e w' ⟨rfl, m, rfl⟩
        exact ⟨_, rfl, .inr (.inl ⟨rfl, _, rfl, rfl⟩), below_drewN p.h m⟩
      intro u hu
      obtain rfl := sh_psi2 hu
      refine hK _ ?_
      clear hK K1 hu
      (refine loose_wanted rfl (fun K hK => ?_); go_simp; refine hK _ ?_; clear hK K)
      (refine loose_wanted rfl (fun K hK => ?_); go_simp; refine hK _ ?_; clear hK K)
      (refine loose_wanted rfl (fun K hK => ?_); go_simp; refine hK _ ?_; clear hK K)
      refine loose_wanted rfl (fun K1 hK => ?_)
      go_simp
      refine ⟨fun p => (IsNumberR_any _ p.w).mono ?_, ?_⟩
      · rintro e w' ⟨rfl, m, rfl⟩
        exact ⟨_, rfl, .inr (.inl ⟨rfl, _, rfl, rfl⟩), below_drewN p.h m⟩
      intro u hu
      obtain rfl := sh_psi2 hu
      refine hK _ ?_
      clear hK K1 hu
      (refine loose_wanted rfl (fun K hK => ?_); go_simp; refine hK _ ?_; clear hK K)
      (refine loose_wanted rfl (fun K hK => ?_); go_simp; refine hK _ ?_; clear hK K)
      refine loose_wanted rfl (fun K1 hK => ?_)
      go_simp
      refine ⟨fun p => (When_any _ _ p.w).mono ?_, ?_⟩
      · rintro e w' ⟨rfl, rfl⟩
        exact ⟨_, rfl, .inr (.inr ⟨rfl, _, _, rfl, rfl⟩), p.h⟩
      intro u hu
      obtain rfl := sh_psi3 hu
      refine hK _ ?_
      clear hK K1 hu
      (refine loose_wanted rfl (fun K hK => ?_); go_simp; refine hK _ ?_; clear hK K)
      (refine loose_wanted rfl (fun K hK => ?_); go_simp; refine hK _ ?_; clear hK K)
      (refine loose_wanted rfl (fun K hK => ?_); go_simp; refine hK _ ?_; clear hK K)
      ((with_reducible refine loose_pass (by kernel_rfl) (fun K hK => ?_)); go_simp; refine hK _ ?_; clear hK K)
      ((with_reducible refine loose_pass (by kernel_rfl) (fun K hK => ?_)); go_simp; refine hK _ ?_; clear hK K)
      (refine loose_wanted rfl (fun K hK => ?_); go_simp; refine hK _ ?_; clear hK K)
      (refine loose_wanted rfl (fun K hK => ?_); go_simp; refine hK _ ?_; clear hK K)
      (refine loose_wanted rfl (fun K hK => ?_); go_simp; refine hK _ ?_; clear hK K)
      ((with_reducible refine loose_pass (by kernel_rfl) (fun K hK => ?_)); go_simp; refine hK _ ?_; clear hK K)
      ((with_reducible refine loose_pass (by kernel_rfl) (fun K hK => ?_)); go_simp; refine hK _ ?_; clear hK K)
      (refine loose_wanted rfl (fun K hK => ?_); go_simp; refine hK _ ?_; clear hK K)
      refine loose_wanted rfl (fun K1 hK => ?_)
      go_simp
      refine ⟨fun p => (When_any _ _ p.w).mono ?_, ?_⟩
      · rintro e w' ⟨rfl, rfl⟩
        exact ⟨_, rfl, .inr (.inr ⟨rfl, _, _, rfl, rfl⟩), p.h⟩
      intro u hu
      obtain rfl := sh_psi3 hu
      refine hK _ ?_
      clear hK K1 hu
      refine loose_nil (fun w5 hb5 => ?_)
      go_wp2_with (first | (go_at_call 18; refine (First3_new _ _ _ _ _ _ (heap_new _ _ _ (by simp))).mono ?_; rintro e w' ⟨rfl, rfl⟩))
      go_meet
      exact ⟨by rw [← SV.out, hA, hg, hl]; rfl, Below.alloc hb5 hb5.size _⟩
    · refine wp_region_loose 23 (ShPsi (fraErr x y v h len)) (by kernel_rfl) (by kernel_rfl) ?_
      simp only [List.take_succ_cons, List.take_zero, List.drop_succ_cons, List.drop_zero]
      (refine loose_wanted rfl (fun K hK => ?_); go_simp; refine hK _ ?_; clear hK K)
      refine loose_wanted rfl (fun K1 hK => ?_)
      go_simp
      refine ⟨fun p => (FrameError_any _ _ _ _ _ _ _ p.w HX.out.1 HX.out.2).mono ?_, ?_⟩
      · rintro e w' ⟨rfl, hb⟩
        exact ⟨_, rfl, .inl ⟨rfl, rfl⟩, p.h.trans (hb.mono p.h.size)⟩
      intro u hu
      obtain rfl := sh_psi1 hu
      refine hK _ ?_
      clear hK K1 hu
      (refine loose_wanted rfl (fun K hK => ?_); go_simp; refine hK _ ?_; clear hK K)
      refine loose_wanted rfl (fun K1 hK => ?_)
      go_simp
      refine ⟨fun p => (IsNumberR_any _ p.w).mono ?_, ?_⟩
      · rintro e w' ⟨rfl, m, rfl⟩
        exact ⟨_, rfl, .inr (.inl ⟨rfl, _, rfl, rfl⟩), below_drewN p.h m⟩
      intro u hu
      obtain rfl := sh_psi2 hu
      refine hK _ ?_
      clear hK K1 hu
      (refine loose_wanted rfl (fun K hK => ?_); go_simp; refine hK _ ?_; clear hK K)
      (refine loose_wanted rfl (fun K hK => ?_); go_simp; refine hK _ ?_; clear hK K)
      (refine loose_wanted rfl (fun K hK => ?_); go_simp; refine hK _ ?_; clear hK K)
      refine loose_wanted rfl (fun K1 hK => ?_)
      go_simp
      refine ⟨fun p => (IsNumberR_any _ p.w).mono ?_, ?_⟩
      · rintro e w' ⟨rfl, m, rfl⟩
        exact ⟨_, rfl, .inr (.inl ⟨rfl, _, rfl, rfl⟩), below_drewN p.h m⟩
      intro u hu
      obtain rfl := sh_psi2 hu
      refine hK _ ?_
      clear hK K1 hu
      (refine loose_wanted rfl (fun K hK => ?_); go_simp; refine hK _ ?_; clear hK K)
      (refine loose_wanted rfl (fun K hK => ?_); go_simp; refine hK _ ?_; clear hK K)
      refine loose_wanted rfl (fun K1 hK => ?_)
      go_simp
      refine ⟨fun p => (When_any _ _ p.w).mono ?_, ?_⟩
      · rintro e w' ⟨rfl, rfl⟩
        exact ⟨_, rfl, .inr (.inr ⟨rfl, _, _, rfl, rfl⟩), p.h⟩
      intro u hu
      obtain rfl := sh_psi3 hu
      refine hK _ ?_
      clear hK K1 hu
      (refine loose_wanted rfl (fun K hK => ?_); go_simp; refine hK _ ?_; clear hK K)
      (refine loose_wanted rfl (fun K hK => ?_); go_simp; refine hK _ ?_; clear hK K)
      (refine loose_wanted rfl (fun K hK => ?_); go_simp; refine hK _ ?_; clear hK K)
      (refine loose_wanted rfl (fun K hK => ?_); go_simp; refine hK _ ?_; clear hK K)
      (refine loose_wanted rfl (fun K hK => ?_); go_simp; refine hK _ ?_; clear hK K)
      (refine loose_wanted rfl (fun K hK => ?_); go_simp; refine hK _ ?_; clear hK K)
      (refine loose_wanted rfl (fun K hK => ?_); go_simp; refine hK _ ?_; clear hK K)
      (refine loose_wanted rfl (fun K hK => ?_); go_simp; refine hK _ ?_; clear hK K)
      ((with_reducible refine loose_pass (by kernel_rfl) (fun K hK => ?_)); go_simp; refine hK _ ?_; clear hK K)
      ((with_reducible refine loose_pass (by kernel_rfl) (fun K hK => ?_)); go_simp; refine hK _ ?_; clear hK K)
      (refine loose_wanted rfl (fun K hK => ?_); go_simp; refine hK _ ?_; clear hK K)
      refine loose_wanted rfl (fun K1 hK => ?_)
      go_simp
      refine ⟨fun p => (When_any _ _ p.w).mono ?_, ?_⟩
      · rintro e w' ⟨rfl, rfl⟩
        exact ⟨_, rfl, .inr (.inr ⟨rfl, _, _, rfl, rfl⟩), p.h⟩
      intro u hu
      obtain rfl := sh_psi3 hu
      refine hK _ ?_
      clear hK K1 hu
      refine loose_nil (fun w5 hb5 => ?_)
      go_wp2_with (first | (go_at_call 18; refine (First3_new _ _ _ _ _ _ (heap_new _ _ _ (by simp))).mono ?_; rintro e w' ⟨rfl, rfl⟩))
      go_meet
      exact ⟨by rw [← SV.out, hA, hg, hl]; rfl, Below.alloc hb5 hb5.size _⟩
    · refine wp_region_loose 23 (ShPsi (fraErr x y v h len)) (by kernel_rfl) (by kernel_rfl) ?_
      simp only [List.take_succ_cons, List.take_zero, List.drop_succ_cons, List.drop_zero]
      (refine loose_wanted rfl (fun K hK => ?_); go_simp; refine hK _ ?_; clear hK K)
      refine loose_wanted rfl (fun K1 hK => ?_)
      go_simp
      refine ⟨fun p => (FrameError_any _ _ _ _ _ _ _ p.w HX.out.1 HX.out.2).mono ?_, ?_⟩
      · rintro e w' ⟨rfl, hb⟩
        exact ⟨_, rfl, .inl ⟨rfl, rfl⟩, p.h.trans (hb.mono p.h.size)⟩
      intro u hu
      obtain rfl := sh_psi1 hu
      refine hK _ ?_
      clear hK K1 hu
      (refine loose_wanted rfl (fun K hK => ?_); go_simp; refine hK _ ?_; clear hK K)
      refine loose_wanted rfl (fun K1 hK => ?_)
      go_simp
      refine ⟨fun p => (IsNumberR_any _ p.w).mono ?_, ?_⟩
      · rintro e w' ⟨rfl, m, rfl⟩
        exact ⟨_, rfl, .inr (.inl ⟨rfl, _, rfl, rfl⟩), below_drewN p.h m⟩
      intro u hu
      obtain rfl := sh_psi2 hu
      refine hK _ ?_
      clear hK K1 hu
      (refine loose_wanted rfl (fun K hK => ?_); go_simp; refine hK _ ?_; clear hK K)
      (refine loose_wanted rfl (fun K hK => ?_); go_simp; refine hK _ ?_; clear hK K)
      (refine loose_wanted rfl (fun K hK => ?_); go_simp; refine hK _ ?_; clear hK K)
      refine loose_wanted rfl (fun K1 hK => ?_)
      go_simp
      refine ⟨fun p => (IsNumberR_any _ p.w).mono ?_, ?_⟩
      · rintro e w' ⟨rfl, m, rfl⟩
        exact ⟨_, rfl, .inr (.inl ⟨rfl, _, rfl, rfl⟩), below_drewN p.h m⟩
      intro u hu
      obtain rfl := sh_psi2 hu
      refine hK _ ?_
      clear hK K1 hu
      (refine loose_wanted rfl (fun K hK => ?_); go_simp; refine hK _ ?_; clear hK K)
      (refine loose_wanted rfl (fun K hK => ?_); go_simp; refine hK _ ?_; clear hK K)
      refine loose_wanted rfl (fun K1 hK => ?_)
      go_simp
      refine ⟨fun p => (When_any _ _ p.w).mono ?_, ?_⟩
      · rintro e w' ⟨rfl, rfl⟩
        exact ⟨_, rfl, .inr (.inr ⟨rfl, _, _, rfl, rfl⟩), p.h⟩
      intro u hu
      obtain rfl := sh_psi3 hu
      refine hK _ ?_
      clear hK K1 hu
      (refine loose_wanted rfl (fun K hK => ?_); go_simp; refine hK _ ?_; clear hK K)
      (refine loose_wanted rfl (fun K hK => ?_); go_simp; refine hK _ ?_; clear hK K)
      (refine loose_wanted rfl (fun K hK => ?_); go_simp; refine hK _ ?_; clear hK K)
      (refine loose_wanted rfl (fun K hK => ?_); go_simp; refine hK _ ?_; clear hK K)
      (refine loose_wanted rfl (fun K hK => ?_); go_simp; refine hK _ ?_; clear hK K)
      (refine loose_wanted rfl (fun K hK => ?_); go_simp; refine hK _ ?_; clear hK K)
      (refine loose_wanted rfl (fun K hK => ?_); go_simp; refine hK _ ?_; clear hK K)
      (refine loose_wanted rfl (fun K hK => ?_); go_simp; refine hK _ ?_; clear hK K)
      (refine loose_wanted rfl (fun K hK => ?_); go_simp; refine hK _ ?_; clear hK K)
      (refine loose_wanted rfl (fun K hK => ?_); go_simp; refine hK _ ?_; clear hK K)
      (refine loose_wanted rfl (fun K hK => ?_); go_simp; refine hK _ ?_; clear hK K)
      refine loose_wanted rfl (fun K1 hK => ?_)
      go_simp
      refine ⟨fun p => (When_any _ _ p.w).mono ?_, ?_⟩
      · rintro e w' ⟨rfl, rfl⟩
        exact ⟨_, rfl, .inr (.inr ⟨rfl, _, _, rfl, rfl⟩), p.h⟩
      intro u hu
      obtain rfl := sh_psi3 hu
      refine hK _ ?_
      clear hK K1 hu
      refine loose_nil (fun w5 hb5 => ?_)
      go_wp2_with (first | (go_at_call 18; refine (First3_new _ _ _ _ _ _ (heap_new _ _ _ (by simp))).mono ?_; rintro e w' ⟨rfl, rfl⟩))
      go_meet
      exact ⟨by rw [← SV.out, hA, hg, hl]; rfl, Below.alloc hb5 hb5.size _⟩
  case rest =>
    obtain ⟨rfl, B⟩ := hcut
    have SC := SS.out.past B
    clear f0 f1 f2 f3 f4 sa sl h0 h1 h2 h3 h4 l1 l2 l3 l4 B SV
    obtain ⟨⟨f0, f1, f2, f3, f4, -⟩, sa, sl, ⟨h0, h1, h2, h3, h4, -⟩, ⟨l1, l2⟩, BW⟩ := SC
    go_wp2_with (first | (go_at_call 22; refine (finishes_any _).mono ?_; rintro e w' ⟨n, rfl, rfl⟩) | (go_at_call 23; refine (none_any _ _ _ _ _ _ _ _).mono ?_; rintro e w7 ⟨rfl, hb7⟩; have hs7 := hb7.size; simp at hs7))
    go_ret
    refine ⟨ret_b (by simp), ?_⟩
    (repeat (first | exact Below.refl _ _ | assumption | (refine Below.setCell ?_ (by first | (simp; done) | (simp; omega) | omega) _) | (refine Below.drew ?_) | (refine below_drewN ?_ _) | (refine Below.alloc ?_ (by first | (simp; done) | (simp; omega) | omega) _) | (refine Below.trans ?_ (Below.mono (by assumption) (by first | (simp; done) | (simp; omega) | omega)))))
theorem sh_maker {w V W : World} {amount least : Nat} {x y v h : Int} {b off len cap hb tb : Nat} {x' y' v' h' : Int} {sl' : Value} {fs : Nat → Nat}
    (k : ShSt w V amount least x y v h (.slice (some ⟨b, off, none⟩) len cap) hb x' y' v' h' sl') (g0 : V.cell? ⟨tb, 0, none⟩ = some (.func (.func 71) #[] #[.pointer (some ⟨w.heap.size, 0, none⟩)])) (hW : Below V.heap.size V W) (hr : regErr x y v h = 0) (hl : (len : Int) = 4 * v * h) (hcap : len ≤ cap) (hcb : cap ≤ 9223372036854775807)
    (hbw : b < w.heap.size) (hcell : ∀ i, i < len → w.cell? ⟨b, off + i, none⟩ = some (.float .f32 (fs i))) :
    MakerOK 76 #[.pointer (some ⟨tb, 0, none⟩), .pointer (some ⟨w.heap.size + 1, 0, none⟩), .pointer (some ⟨w.heap.size + 1 + 1, 0, none⟩)] W x y v h (shG x y v h fs least amount) := fun i j w' hi hj hb' => by
  have k' := (k.past hW).past hb'
  have lt := cell_lt g0
  have g1 := (hb'.cell (p := ⟨tb, 0, none⟩) (by have := hW.size; simp only at lt ⊢; omega)).trans ((hW.cell (p := ⟨tb, 0, none⟩) lt).trans g0)
  refine (sl_closure x y v h b off len cap fs amount least tb (w.heap.size + 1) (w.heap.size + 1 + 1) w.heap.size i j w' hr hl hcap hcb hi hj (fun a ha => (k'.b.cell (p := ⟨b, off + a, none⟩) hbw).trans (hcell a ha)) g1 k'.a k'.s k'.f).mono ?_
  rintro e w'' ⟨⟨q, rfl, hq⟩, hb⟩
  exact ⟨⟨q, rfl, fun c _ => by rw [hq]; exact shP4_cn⟩, hb⟩
/-- What the last statement reads. -/
theorem sh_keep {w V W : World} {amount least : Nat} {x y v h : Int} {sl : Value} {hb : Nat} {x' y' v' h' : Int} {sl' : Value}
    (k : ShSt w V amount least x y v h sl hb x' y' v' h' sl') (hW : Below V.heap.size V W) :
    W.cell? ⟨w.heap.size, 0, none⟩ = some (.int .i64 x) ∧ W.cell? ⟨w.heap.size, 1, none⟩ = some (.int .i64 y) ∧ W.cell? ⟨w.heap.size, 2, none⟩ = some (.int .i64 v) ∧ W.cell? ⟨w.heap.size, 3, none⟩ = some (.int .i64 h) ∧ W.cell? ⟨w.heap.size, 4, none⟩ = some sl ∧
    W.cell? ⟨hb, 0, none⟩ = some (.int .i64 x') ∧ W.cell? ⟨hb, 1, none⟩ = some (.int .i64 y') ∧ W.cell? ⟨hb, 2, none⟩ = some (.int .i64 v') ∧ W.cell? ⟨hb, 3, none⟩ = some (.int .i64 h') ∧ W.cell? ⟨hb, 4, none⟩ = some sl' := by
  have k := k.past hW
  exact ⟨k.f.c0, k.f.c1, k.f.c2, k.f.c3, k.f.c4, k.h.c0, k.h.c1, k.h.c2, k.h.c3, k.h.c4⟩
set_option maxRecDepth 100000 in
set_option maxHeartbeats 4000000 in
theorem sl_yes (x y v h : Int) (b off : Nat) (len cap : Nat) (fs : Nat → Nat) (amount least : Nat) (w : World) (hx : -9223372036854775808 ≤ x ∧ x ≤ 9223372036854775807) (hy : -9223372036854775808 ≤ y ∧ y ≤ 9223372036854775807) (hFE : fraErr x y v h len = 0) (hE : shE amount least = 0) (hcap : len ≤ cap) (hcb : cap ≤ 9223372036854775807)
    (hcell : ∀ i, i < len → w.cell? ⟨b, off + i, none⟩ = some (.float .f32 (fs i))) (hfs : ∀ i, i < len → fs i < 2 ^ FloatKind.f32.format.width) :
    Calls Try.prog 10 #[.agg #[.int .i64 x, .int .i64 y, .int .i64 v, .int .i64 h, .slice (some ⟨b, off, none⟩) len cap], .float .f32 amount, .float .f32 least] w fun e w' => e = .returned (.bool true) ∧ Below w.heap.size w w' := by
  have HX := Lib.hid (And.intro hx hy)
  obtain ⟨hr, hl⟩ := fraErr_ok hFE
  obtain ⟨r1, r2, r3, r4, r5, r6, r7, r8, r9, r10⟩ := regErr_ok hr
  have hn0 : 0 < len := by have : 4 ≤ 4 * v * h := by { rw [Int.mul_assoc]; omega }; omega
  have hn6 : len ≤ 65536 := by have : 4 * v * h ≤ 65536 := by { rw [Int.mul_assoc]; omega }; omega
  have hbw : b < w.heap.size := cell_lt (hcell 0 hn0)
  have SV := Lib.hid ((sh_want (amount := amount) (least := least) (fraErr x y v h len)).trans (by rw [hFE, hE]; rfl : _ = (0 : Int)))
  obtain ⟨hA2, hBad⟩ := shE_ok hE
  obtain ⟨z1, z2, z3⟩ := bad_ok hBad
  have hAB : isNum .f32 amount = true ∧ isNum .f32 least = true := by simpa [allNum] using hA2
  obtain ⟨hA, hB⟩ := hAB
  have hg : ((FloatKind.f32.format.order amount 0 == some .gt) || (FloatKind.f32.format.order amount 0 == some .eq)) = true := by
    have := tri_low hA num_01.1; rw [z1] at this
    revert this; cases (FloatKind.f32.format.order amount 0 == some .gt) <;> cases (FloatKind.f32.format.order amount 0 == some .eq) <;> decide
  have hl2 : ((FloatKind.f32.format.order amount 1098907648 == some .lt) || (FloatKind.f32.format.order amount 1098907648 == some .eq)) = true := by
    have := tri_high hA num_16; rw [z2] at this
    revert this; cases (FloatKind.f32.format.order amount 1098907648 == some .lt) <;> cases (FloatKind.f32.format.order amount 1098907648 == some .eq) <;> decide
  have HFA := Lib.hid (And.intro hFE (And.intro hE (And.intro hcap hcb)))
  have HC := Lib.hid (And.intro hcell hfs)
  have HR := Lib.hid (And.intro hr hl)
  have HO := Lib.hid (And.intro hA (And.intro hB (And.intro hg (And.intro hl2 z3))))
  clear hx hy hcap hcb hcell hfs hr hl hFE hE r1 r2 r3 r4 r5 r6 r7 r8 r9 r10 hA2 hBad z1 z2 z3 hA hB hg hl2
  go_enter Try.func10, Try.ntmps10
  go_upto_region 2 with (first | (go_at_call 69; refine (Sharpen_yes _ _ _ _ b off len cap fs _ _ _ HFA.out.1 HFA.out.2.1 HFA.out.2.2.1 HFA.out.2.2.2 (fun i hi => ((((Below.refl w.heap.size w).alloc (Nat.le_refl _) _).alloc (by simp) _).alloc (by simp; omega) _ |>.cell (p := ⟨b, off + i, none⟩) hbw).trans (HC.out.1 i hi)) HC.out.2).mono ?_; rintro e w2 ⟨⟨g, rfl, hg1, hg2, hg3⟩, hb2⟩))
  obtain ⟨V, hV⟩ : ∃ V, V = w2.alloc (.cells #[.int .i64 x, .int .i64 y, .int .i64 v, .int .i64 h, .slice (some ⟨g, 0, none⟩) len len] 27) := ⟨_, rfl⟩
  have S : ShSt w V amount least x y v h (.slice (some ⟨b, off, none⟩) len cap) w2.heap.size x y v h (.slice (some ⟨g, 0, none⟩) len len) := by
    rw [hV]
    have sz := hb2.size
    simp at sz
    have bb2 : Below (w.heap.size + 1 + 1 + 1) _ (w2.alloc (.cells #[.int .i64 x, .int .i64 y, .int .i64 v, .int .i64 h, .slice (some ⟨g, 0, none⟩) len len] 27)) := (by simpa using hb2 : Below (w.heap.size + 1 + 1 + 1) _ w2).alloc (by omega) _
    refine ⟨FrameC.below ⟨by simp [go_sem], by simp [go_sem], by simp [go_sem], by simp [go_sem], by simp [go_sem], fun o => by simp [go_sem]⟩ bb2 (by omega), (bb2.cell (p := ⟨w.heap.size + 1, 0, none⟩) (by show w.heap.size + 1 < _; omega)).trans (by simp [go_sem]), (bb2.cell (p := ⟨w.heap.size + 1 + 1, 0, none⟩) (by show w.heap.size + 1 + 1 < _; omega)).trans (by simp [go_sem]), ⟨by simp [go_sem], by simp [go_sem], by simp [go_sem], by simp [go_sem], by simp [go_sem], fun o => by simp [go_sem]⟩, ⟨by simp; omega, by simp⟩, ?_⟩
    exact Below.trans ((((Below.refl _ _).alloc (Nat.le_refl _) _).alloc (by simp) _).alloc (by simp; omega) _) (bb2.mono (by omega))
  have gV : g < V.heap.size := by rw [hV]; simp; omega
  have HGC := Lib.hid (fun i hi => by rw [hV, World.cell?_alloc_past _ _ _ hg2]; exact hg3 i hi : ∀ i, i < len → V.cell? ⟨g, i, none⟩ = some (.float .f32 (shG x y v h fs least amount (i / 4) (i % 4))))
  rw [← hV]
  clear hV hb2 hg1 hg2 hg3
  generalize w2.heap.size = hh at *
  have SS := Lib.hid S
  obtain ⟨⟨f0, f1, f2, f3, f4, -⟩, sa, sl, ⟨h0, h1, h2, h3, h4, -⟩, ⟨l1, l2⟩, -⟩ := S
  have l3 : w.heap.size < V.heap.size := by omega
  have l4 : w.heap.size + 1 < V.heap.size := by omega
  go_cut [9] from 18 to 42 (fun s9 wx => s9 = .int .i64 0 ∧ Below V.heap.size V wx)
  case first =>
    obtain ⟨hA, hB, hg, hl, z3⟩ := HO.out
    clear h0 h1 h2 h3 h4
    refine wp_region_loose 23 (ShPsi (fraErr x y v h len)) (by kernel_rfl) (by kernel_rfl) ?_
    simp only [List.take_succ_cons, List.take_zero, List.drop_succ_cons, List.drop_zero]
    (refine loose_wanted rfl (fun K hK => ?_); go_simp; refine hK _ ?_; clear hK K)
    refine loose_wanted rfl (fun K1 hK => ?_)
    go_simp
    refine ⟨fun p => (FrameError_any _ _ _ _ _ _ _ p.w HX.out.1 HX.out.2).mono ?_, ?_⟩
    · rintro e w' ⟨rfl, hb⟩
      exact ⟨_, rfl, .inl ⟨rfl, rfl⟩, p.h.trans (hb.mono p.h.size)⟩
    intro u hu
    obtain rfl := sh_psi1 hu
    refine hK _ ?_
    clear hK K1 hu
    (refine loose_wanted rfl (fun K hK => ?_); go_simp; refine hK _ ?_; clear hK K)
    refine loose_wanted rfl (fun K1 hK => ?_)
    go_simp
    refine ⟨fun p => (IsNumberR_any _ p.w).mono ?_, ?_⟩
    · rintro e w' ⟨rfl, m, rfl⟩
      exact ⟨_, rfl, .inr (.inl ⟨rfl, _, rfl, rfl⟩), below_drewN p.h m⟩
    intro u hu
    obtain rfl := sh_psi2 hu
    refine hK _ ?_
    clear hK K1 hu
    (refine loose_wanted rfl (fun K hK => ?_); go_simp; refine hK _ ?_; clear hK K)
    (refine loose_wanted rfl (fun K hK => ?_); go_simp; refine hK _ ?_; clear hK K)
    (refine loose_wanted rfl (fun K hK => ?_); go_simp; refine hK _ ?_; clear hK K)
    refine loose_wanted rfl (fun K1 hK => ?_)
    go_simp
    refine ⟨fun p => (IsNumberR_any _ p.w).mono ?_, ?_⟩
    · rintro e w' ⟨rfl, m, rfl⟩
      exact ⟨_, rfl, .inr (.inl ⟨rfl, _, rfl, rfl⟩), below_drewN p.h m⟩
    intro u hu
    obtain rfl := sh_psi2 hu
    refine hK _ ?_
    clear hK K1 hu
    (refine loose_wanted rfl (fun K hK => ?_); go_simp; refine hK _ ?_; clear hK K)
    (refine loose_wanted rfl (fun K hK => ?_); go_simp; refine hK _ ?_; clear hK K)
    refine loose_wanted rfl (fun K1 hK => ?_)
    go_simp
    refine ⟨fun p => (When_any _ _ p.w).mono ?_, ?_⟩
    · rintro e w' ⟨rfl, rfl⟩
      exact ⟨_, rfl, .inr (.inr ⟨rfl, _, _, rfl, rfl⟩), p.h⟩
    intro u hu
    obtain rfl := sh_psi3 hu
    refine hK _ ?_
    clear hK K1 hu
    (refine loose_wanted rfl (fun K hK => ?_); go_simp; refine hK _ ?_; clear hK K)
    (refine loose_wanted rfl (fun K hK => ?_); go_simp; refine hK _ ?_; clear hK K)
    (refine loose_wanted rfl (fun K hK => ?_); go_simp; refine hK _ ?_; clear hK K)
    (refine loose_wanted rfl (fun K hK => ?_); go_simp; refine hK _ ?_; clear hK K)
    (refine loose_wanted rfl (fun K hK => ?_); go_simp; refine hK _ ?_; clear hK K)
    (refine loose_wanted rfl (fun K hK => ?_); go_simp; refine hK _ ?_; clear hK K)
    (refine loose_wanted rfl (fun K hK => ?_); go_simp; refine hK _ ?_; clear hK K)
    (refine loose_wanted rfl (fun K hK => ?_); go_simp; refine hK _ ?_; clear hK K)
    (refine loose_wanted rfl (fun K hK => ?_); go_simp; refine hK _ ?_; clear hK K)
    (refine loose_wanted rfl (fun K hK => ?_); go_simp; refine hK _ ?_; clear hK K)
    (refine loose_wanted rfl (fun K hK => ?_); go_simp; refine hK _ ?_; clear hK K)
    refine loose_wanted rfl (fun K1 hK => ?_)
    go_simp
    refine ⟨fun p => (When_any _ _ p.w).mono ?_, ?_⟩
    · rintro e w' ⟨rfl, rfl⟩
      exact ⟨_, rfl, .inr (.inr ⟨rfl, _, _, rfl, rfl⟩), p.h⟩
    intro u hu
    obtain rfl := sh_psi3 hu
    refine hK _ ?_
    clear hK K1 hu
    refine loose_nil (fun w5 hb5 => ?_)
    go_wp2_with (first | (go_at_call 18; refine (First3_new _ _ _ _ _ _ (heap_new _ _ _ (by simp))).mono ?_; rintro e w' ⟨rfl, rfl⟩))
    go_meet
    refine ⟨?_, Below.alloc hb5 hb5.size _⟩
    have h := SV.out
    rw [hA, hB, hg, hl, z3] at h
    first | rfl | (rw [← h]; rfl) | (simp [whenE, firstE] at h ⊢; omega)
  case rest =>
    obtain ⟨rfl, B⟩ := hcut
    have SC := SS.out.past B
    have bsz := B.size
    clear f0 f1 f2 f3 f4 sa sl h0 h1 h2 h3 h4 l1 l2 l3 l4
    obtain ⟨⟨f0, f1, f2, f3, f4, -⟩, sa, sl, ⟨h0, h1, h2, h3, h4, -⟩, ⟨l1, l2⟩, BW⟩ := SC
    go_upto_region 6 with (first | (go_at_call 22; refine (finishes_any _).mono ?_; rintro e w6 ⟨n6, rfl, hw6⟩; have B6 : Below wc.heap.size wc w6 := (by rw [hw6]; (repeat (first | exact Below.refl _ _ | assumption | (refine Below.setCell ?_ (by first | (simp; done) | (simp; omega) | omega) _) | (refine Below.drew ?_) | (refine below_drewN ?_ _) | (refine Below.alloc ?_ (by first | (simp; done) | (simp; omega) | omega) _) | (refine Below.trans ?_ (Below.mono (by assumption) (by first | (simp; done) | (simp; omega) | omega)))))); clear hw6))
    refine wp_named (fun Wc hWc => ?_)
    have B7 : Below w6.heap.size w6 Wc := by rw [hWc]; (repeat (first | exact Below.refl _ _ | assumption | (refine Below.setCell ?_ (by first | (simp; done) | (simp; omega) | omega) _) | (refine Below.drew ?_) | (refine below_drewN ?_ _) | (refine Below.alloc ?_ (by first | (simp; done) | (simp; omega) | omega) _) | (refine Below.trans ?_ (Below.mono (by assumption) (by first | (simp; done) | (simp; omega) | omega)))))
    have BC : Below V.heap.size V Wc := (B.trans (B6.mono B.size)).trans (B7.mono (by have := B6.size; omega))
    have g10 : Wc.cell? ⟨w6.heap.size, 0, none⟩ = some (.func (.func 71) #[] #[.pointer (some ⟨w.heap.size, 0, none⟩)]) := by rw [hWc]; simp [go_sem]
    have lt10 : w6.heap.size < Wc.heap.size := by rw [hWc]; simp
    clear hWc f0 f1 f2 f3 f4 sa sl h0 h1 h2 h3 h4 l1 l2 BW B bsz
    clear B6 B7
    generalize w6.heap.size = tb at *
    have SC := SS.out.past BC
    have SX := Lib.hid SC
    obtain ⟨⟨f0, f1, f2, f3, f4, -⟩, -, -, ⟨h0, h1, h2, h3, h4, -⟩, ⟨l1, l3⟩, BW⟩ := SC
    have l4 : w.heap.size < Wc.heap.size := by omega
    have gW : g < Wc.heap.size := by have := BC.size; omega
    have HGW := Lib.hid (fun i hi => (BC.cell (p := ⟨g, i, none⟩) gV).trans (HGC.out i hi) : ∀ i, i < len → Wc.cell? ⟨g, i, none⟩ = some (.float .f32 (shG x y v h fs least amount (i / 4) (i % 4))))
    have G10 := Lib.hid g10; have BWH := Lib.hid BW
    clear BC BW g10
    by_cases hL : (len : Int) ≤ 400
    · have h4b : decide ((len : Int) ≤ 400) = true := by simpa using hL
      clear f0 f1 f2 f3 f4 h0 h1 h2 h3 h4
      have BCH : Hid (Below Wc.heap.size Wc Wc) := Below.refl _ _
      go_region_held3 (fun W => W.cell? ⟨w.heap.size, 0, none⟩ = some (.int .i64 x) ∧ W.cell? ⟨w.heap.size, 1, none⟩ = some (.int .i64 y) ∧ W.cell? ⟨w.heap.size, 2, none⟩ = some (.int .i64 v) ∧ W.cell? ⟨w.heap.size, 3, none⟩ = some (.int .i64 h) ∧ W.cell? ⟨w.heap.size, 4, none⟩ = some (.slice (some ⟨b, off, none⟩) len cap) ∧ W.cell? ⟨hh, 0, none⟩ = some (.int .i64 x) ∧ W.cell? ⟨hh, 1, none⟩ = some (.int .i64 y) ∧ W.cell? ⟨hh, 2, none⟩ = some (.int .i64 v) ∧ W.cell? ⟨hh, 3, none⟩ = some (.int .i64 h) ∧ W.cell? ⟨hh, 4, none⟩ = some (.slice (some ⟨g, 0, none⟩) len len))
        (first | exact sh_keep SX.out BCH.out.drew | exact sh_keep SX.out B8.out | exact sh_keep SX.out B9.out | exact sh_keep SX.out B10.out)
        (first | (go_at_call 73; refine (few_any _ _ _ _ _ _ _ _).mono ?_; rintro e w8 ⟨rfl, hb8⟩; have B8 : Hid (Below Wc.heap.size Wc w8) := BCH.out.drew.trans (hb8.mono (by simp)); rw [h4b]) | (go_at_call 75; refine (Made_any 76 #[.pointer (some ⟨tb, 0, none⟩), .pointer (some ⟨w.heap.size + 1, 0, none⟩), .pointer (some ⟨w.heap.size + 1 + 1, 0, none⟩)] x y v h (shG x y v h fs least amount) _ HR.out.1 (body_enters Try.func76 (by kernel_rfl) rfl) (sh_maker SX.out G10.out B8.out HR.out.1 HR.out.2 HFA.out.2.2.1 HFA.out.2.2.2 hbw HC.out.1)).mono ?_; rintro e w9 ⟨g9, n9, cap9, hn9, rfl, hg9, hgl9, hc9, hb9⟩; have B9 : Hid (Below Wc.heap.size Wc w9) := B8.out.trans (hb9.mono (B8.out.size)); obtain rfl : len = n9 := (by have := HR.out.2; omega); have H9 := Lib.hid hc9; clear hc9) | (go_at_call 74; refine (SameFrame_yes x y v h g 0 g9 0 len len cap9 (fun i => shG x y v h fs least amount (i / 4) (i % 4)) _ hn6 (by have := B9.out.size; omega) hgl9 (fun i hi => by rw [Nat.zero_add]; exact (B9.out.cell (p := ⟨g, i, none⟩) gW).trans (HGW.out i hi)) (fun i hi => by rw [Nat.zero_add]; exact H9.out i hi)).mono ?_; rintro e w10 ⟨rfl, hb10⟩; have B10 : Hid (Below Wc.heap.size Wc w10) := B9.out.trans (hb10.mono (B9.out.size))))
      go_wp2_with fail
      go_ret
      exact ⟨rfl, (SX.out.past B10.out).b⟩
    · have h4b : decide ((len : Int) ≤ 400) = false := by simpa using hL
      refine wp_region_loose 15 (fun _ _ u => u = .bool false) (by kernel_rfl) (by kernel_rfl) ?_
      simp only [List.take_succ_cons, List.take_zero, List.drop_succ_cons, List.drop_zero]
      iterate 1 (refine loose_wanted rfl (fun K hK => ?_); go_simp; refine hK _ ?_; clear hK K)
      refine loose_wanted rfl (fun K hK => ?_)
      go_simp
      refine ⟨fun p' => (few_any _ _ _ _ _ _ _ p'.w).mono ?_, ?_⟩
      · rintro e w' ⟨rfl, hb⟩
        exact ⟨_, rfl, by rw [h4b], p'.h.trans (hb.mono p'.h.size)⟩
      refine hK _ ?_
      clear hK K
      iterate 2 (refine loose_wanted rfl (fun K hK => ?_); go_simp; refine hK _ ?_; clear hK K)
      iterate 10 ((with_reducible refine loose_pass (by kernel_rfl) (fun K hK => ?_)); go_simp; refine hK _ ?_; clear hK K)
      iterate 1 (refine loose_wanted rfl (fun K hK => ?_); go_simp; refine hK _ ?_; clear hK K)
      refine loose_nil (fun w5 hb5 => ?_)
      go_wp2_with fail
      go_ret
      exact ⟨rfl, BWH.out.trans (hb5.mono (by omega))⟩
theorem sl_walk (x y v h : Int) (a : Option Addr) (len cap : Nat) (fs : Nat → Nat) (amount least : Nat) (w : World)
    (hx : IntKind.i64.min ≤ x ∧ x ≤ IntKind.i64.max) (hy : IntKind.i64.min ≤ y ∧ y ≤ IntKind.i64.max) (_ : IntKind.i64.min ≤ v ∧ v ≤ IntKind.i64.max) (_ : IntKind.i64.min ≤ h ∧ h ≤ IntKind.i64.max) (hf : IsFloats w a len cap fs)
    (_ : amount < 2 ^ FloatKind.f32.format.width) (_ : least < 2 ^ FloatKind.f32.format.width) :
    Calls Try.prog 10 #[.agg #[.int .i64 x, .int .i64 y, .int .i64 v, .int .i64 h, .slice a len cap], .float .f32 amount, .float .f32 least] w fun e w' => e = .returned (.bool true) ∧ Below w.heap.size w w' := by
  by_cases hW : firstE (fraErr x y v h len) (shE amount least) = 0
  · have hFE : fraErr x y v h len = 0 := by
      by_cases hz : fraErr x y v h len = 0
      · exact hz
      · rw [firstE_of _ hz] at hW; exact hW
    have hE : shE amount least = 0 := by rw [hFE] at hW; exact hW
    obtain ⟨hr, hl⟩ := fraErr_ok hFE
    obtain ⟨r1, r2, r3, r4, r5, r6, -⟩ := regErr_ok hr
    have hn0 : 0 < len := by have : 4 ≤ 4 * v * h := by { rw [Int.mul_assoc]; omega }; omega
    rcases hf with ⟨hz, -⟩ | ⟨b, off, rfl, -, hcap, hm, hcell⟩
    · omega
    · exact sl_yes x y v h b off len cap fs amount least w hx hy hFE hE hcap hm (fun i hi => (hcell i (by omega)).1) (fun i hi => (hcell i (by omega)).2)
  · exact sl_no x y v h a len cap amount least w hx hy hW
end Go.Proofs.Ytmnmcmmhnbnndaa
