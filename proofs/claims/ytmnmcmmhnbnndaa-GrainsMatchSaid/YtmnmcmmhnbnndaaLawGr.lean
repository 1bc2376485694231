/- GrainsMatch: the walk of the statement. No condition. -/
import Derived.Test.YtmnmcmmhnbnndaaGrI
import Derived.Deep.RegionHeld3
namespace Go.Proofs.Ytmnmcmmhnbnndaa
open Go.RowKit
set_option maxHeartbeats 800000 in
theorem few_any (x y v h : Int) (a : Option Addr) (n cap : Nat) (w : World) : Calls Try.prog 73 #[.agg #[.int .i64 x, .int .i64 y, .int .i64 v, .int .i64 h, .slice a n cap]] w fun e w' => e = .returned (.bool (decide ((n : Int) ≤ 400))) ∧ Below w.heap.size w w' := by
  go_enter Try.func73, Try.ntmps73
  go_wp2
  go_ret
  refine ⟨rfl, ?_⟩
  (repeat (first | exact Below.refl _ _ | assumption | (refine Below.setCell ?_ (by first | (simp; done) | (simp; omega) | omega) _) | (refine Below.drew ?_) | (refine below_drewN ?_ _) | (refine Below.alloc ?_ (by first | (simp; done) | (simp; omega) | omega) _) | (refine Below.trans ?_ (Below.mono (by assumption) (by first | (simp; done) | (simp; omega) | omega)))))
set_option maxHeartbeats 800000 in
theorem placed_any (x y : Int) (w : World) : Calls Try.prog 84 #[.int .i64 x, .int .i64 y] w fun e w' => e = .returned (.int .i64 (plaE x y)) ∧ w = w' := by
  have e : plaE x y = whenE (!inB x (-1048576) 1048576 || !inB y (-1048576) 1048576) 5 := by
    unfold plaE
    by_cases hx : -1048576 ≤ x ∧ x ≤ 1048576
    · by_cases hy : -1048576 ≤ y ∧ y ≤ 1048576
      · rw [if_pos ⟨hx.1, hx.2, hy.1, hy.2⟩, inB_t hx, inB_t hy]; rfl
      · rw [if_neg (fun h => hy ⟨h.2.2.1, h.2.2.2⟩), inB_t hx, inB_f (by omega)]; rfl
    · rw [if_neg (fun h => hx ⟨h.1, h.2.1⟩), inB_f (by omega)]; cases inB y (-1048576) 1048576 <;> rfl
  rw [e]
  clear e
  cases hA : inB x (-1048576) 1048576
  all_goals
    go_enter Try.func84, Try.ntmps84
    go_wp2_with (first | (go_at_call 21; refine (In_any _ _ _ _).mono ?_; rintro e w' ⟨rfl, rfl⟩) | (go_at_call 20; refine (When_any _ _ _).mono ?_; rintro e w' ⟨rfl, rfl⟩))
    go_ret
    exact ⟨by first | rfl | simp, rfl⟩
theorem wp_named {P : Program} {c : Code} {Q : Exit → Act → World → Prop} {a : Act} {w : World} (h : ∀ W, W = w → c.wp P Q a W) : c.wp P Q a w := h w rfl
def GrPsi (g : Nat → Nat) (f : FuncId) (_ : Array Value) (u : Value) : Prop :=
  (f = 85 ∧ u = .agg #[.float .f32 (g 0), .float .f32 (g 1), .float .f32 (g 2), .float .f32 (g 3)]) ∨ (f ≠ 85 ∧ u = .bool true)
theorem gr_psi1 {g : Nat → Nat} {args : Array Value} {u : Value} (h : GrPsi g 85 args u) : u = .agg #[.float .f32 (g 0), .float .f32 (g 1), .float .f32 (g 2), .float .f32 (g 3)] := by
  rcases h with ⟨-, h⟩ | ⟨h, -⟩
  · exact h
  · exact absurd rfl h
theorem gr_psi2 {g : Nat → Nat} {args : Array Value} {u : Value} (h : GrPsi g 39 args u) : u = .bool true := by
  rcases h with ⟨h, -⟩ | ⟨-, h⟩
  · exact absurd h (by decide)
  · exact h
/-- The grain's variable. -/
structure GrnC (w : World) (n : Nat) (seed size : Int) (s f : Nat) (mono : Bool) : Prop where
  c0 : w.cell? ⟨n, 0, none⟩ = some (.int .u32 seed)
  c1 : w.cell? ⟨n, 1, none⟩ = some (.int .i64 size)
  c2 : w.cell? ⟨n, 2, none⟩ = some (.float .f32 s)
  c3 : w.cell? ⟨n, 3, none⟩ = some (.float .f32 f)
  c4 : w.cell? ⟨n, 4, none⟩ = some (.bool mono)
theorem GrnC.below {W w : World} {m n : Nat} {seed size : Int} {s f : Nat} {mono : Bool} (k : GrnC W n seed size s f mono) (hb : Below m W w) (hn : n < m) : GrnC w n seed size s f mono :=
  ⟨(hb.cell (p := ⟨n, 0, none⟩) hn).trans k.c0, (hb.cell (p := ⟨n, 1, none⟩) hn).trans k.c1, (hb.cell (p := ⟨n, 2, none⟩) hn).trans k.c2, (hb.cell (p := ⟨n, 3, none⟩) hn).trans k.c3, (hb.cell (p := ⟨n, 4, none⟩) hn).trans k.c4⟩
/-- What stands of the statement's variables. -/
structure GrSt (w wx : World) (seed size : Int) (s f : Nat) (mono : Bool) (num : Int) (p q : Nat → Nat) (x y v h : Int) (sl : Value) (qb hb : Nat) (x' y' v' h' : Int) (sl' : Value) : Prop where
  g : GrnC wx w.heap.size seed size s f mono
  n : wx.cell? ⟨w.heap.size + 1, 0, none⟩ = some (.int .i64 num)
  p : Pix4 wx (w.heap.size + 1 + 1) (p 0) (p 1) (p 2) (p 3)
  f : FrameC wx (w.heap.size + 1 + 1 + 1) x y v h sl
  q : Pix4 wx qb (q 0) (q 1) (q 2) (q 3)
  h : FrameC wx hb x' y' v' h' sl'
  l : w.heap.size + 1 + 1 + 1 < wx.heap.size ∧ qb < wx.heap.size ∧ hb < wx.heap.size
  b : Below w.heap.size w wx
theorem GrSt.past {w wx wy : World} {seed size : Int} {s f : Nat} {mono : Bool} {num : Int} {p q : Nat → Nat} {x y v h : Int} {sl : Value} {qb hb : Nat} {x' y' v' h' : Int} {sl' : Value} (k : GrSt w wx seed size s f mono num p q x y v h sl qb hb x' y' v' h' sl') (hw : Below wx.heap.size wx wy) : GrSt w wy seed size s f mono num p q x y v h sl qb hb x' y' v' h' sl' :=
  have l := k.l
  have z := hw.size
  ⟨k.g.below hw (by omega), (hw.cell (p := ⟨w.heap.size + 1, 0, none⟩) (by show w.heap.size + 1 < _; omega)).trans k.n, k.p.below hw (by omega), k.f.below hw (by omega), k.q.below hw (by omega), k.h.below hw (by omega), ⟨by omega, by omega, by omega⟩, k.b.trans (hw.mono (by omega))⟩
set_option maxRecDepth 100000 in
set_option maxHeartbeats 4000000 in
theorem gr_no (seed size : Int) (s f : Nat) (mono : Bool) (num px py : Int) (p : Nat → Nat) (x y v h : Int) (a : Option Addr) (len cap : Nat) (w : World)
    (hpx : -9223372036854775808 ≤ px ∧ px ≤ 9223372036854775807) (hpy : -9223372036854775808 ≤ py ∧ py ≤ 9223372036854775807) (hp : ∀ c, c < 4 → p c < 2 ^ FloatKind.f32.format.width)
    (hx : -9223372036854775808 ≤ x ∧ x ≤ 9223372036854775807) (hy : -9223372036854775808 ≤ y ∧ y ≤ 9223372036854775807) (hW : firstE (fraErr x y v h len) (graE size s f) ≠ 0) :
    Calls Try.prog 12 #[.agg #[.int .u32 seed, .int .i64 size, .float .f32 s, .float .f32 f, .bool mono], .int .i64 num, .int .i64 px, .int .i64 py, .agg #[.float .f32 (p 0), .float .f32 (p 1), .float .f32 (p 2), .float .f32 (p 3)], .agg #[.int .i64 x, .int .i64 y, .int .i64 v, .int .i64 h, .slice a len cap]] w fun e w' => e = .returned (.bool true) ∧ Below w.heap.size w w' := by
  have HX := Lib.hid (And.intro hpx (And.intro hpy (And.intro hp (And.intro hx hy))))
  clear hpx hpy hp hx hy
  · go_enter Try.func12, Try.ntmps12
    have hWb : (firstE (fraErr x y v h len) (graE size s f) != 0) = true := by simpa using hW
    go_upto_region 3 with (first | (go_at_call 80; refine (Grained_any _ _ _ _ _ _ _ _ p _ HX.out.1 HX.out.2.1 HX.out.2.2.1).mono ?_; rintro e w1 ⟨⟨q, rfl, hq0, hq1⟩, hb1⟩; obtain ⟨hc1, hf1, hs1⟩ := bcell hb1; simp at hs1; have z0 : w.heap.size < w1.heap.size := (by omega); have z1 : w.heap.size + 1 < w1.heap.size := (by omega); have z2 : w.heap.size + 1 + 1 < w1.heap.size := (by omega); have z3 : w.heap.size + 1 + 1 + 1 < w1.heap.size := (by omega)) | (go_at_call 81; refine (Grain_no _ _ _ _ _ _ _ _ _ _ _ _ _ _ hW).mono ?_; rintro e w2 ⟨rfl, hb2⟩))
    obtain ⟨V, hV⟩ : ∃ V, V = w2.alloc (.cells #[.int .i64 0, .int .i64 0, .int .i64 0, .int .i64 0, .slice none 0 0] 27) := ⟨_, rfl⟩
    have S : GrSt w V seed size s f mono num p q x y v h (.slice a len cap) w1.heap.size w2.heap.size 0 0 0 0 (.slice none 0 0) := by
      rw [hV]
      have sz := hb2.size
      simp at sz
      have bb2 : Below (w1.heap.size + 1) (w1.alloc (.cells #[.float .f32 (q 0), .float .f32 (q 1), .float .f32 (q 2), .float .f32 (q 3)] 55)) (w2.alloc (.cells #[.int .i64 0, .int .i64 0, .int .i64 0, .int .i64 0, .slice none 0 0] 27)) := (by simpa using hb2 : Below (w1.heap.size + 1) _ w2).alloc (by omega) _
      have bb1 : Below (w.heap.size + 1 + 1 + 1 + 1) _ (w2.alloc (.cells #[.int .i64 0, .int .i64 0, .int .i64 0, .int .i64 0, .slice none 0 0] 27)) := ((by simpa using hb1 : Below (w.heap.size + 1 + 1 + 1 + 1) _ w1).alloc (by omega) _).trans (bb2.mono (by omega))
      refine ⟨GrnC.below ⟨by simp [go_sem], by simp [go_sem], by simp [go_sem], by simp [go_sem], by simp [go_sem]⟩ bb1 (by omega), (bb1.cell (p := ⟨w.heap.size + 1, 0, none⟩) (by show w.heap.size + 1 < _; omega)).trans (by simp [go_sem]), Pix4.below ⟨by simp [go_sem], by simp [go_sem], by simp [go_sem], by simp [go_sem], fun o => by simp [go_sem]⟩ bb1 (by omega), FrameC.below ⟨by simp [go_sem], by simp [go_sem], by simp [go_sem], by simp [go_sem], by simp [go_sem], fun o => by simp [go_sem]⟩ bb1 (by omega),
        Pix4.below (Pix4.new w1 _ _ _ _ _) bb2 (by omega), ⟨by simp [go_sem], by simp [go_sem], by simp [go_sem], by simp [go_sem], by simp [go_sem], fun o => by simp [go_sem]⟩, ⟨by simp; omega, by simp; omega, by simp⟩, ?_⟩
      exact Below.trans (((((Below.refl _ _).alloc (Nat.le_refl _) _).alloc (by simp) _).alloc (by simp; omega) _).alloc (by simp; omega) _) (bb1.mono (by omega))
    rw [← hV]
    clear hV hc1 hf1 hb1 hb2 z0 z1 z2 z3 hs1
    generalize w1.heap.size = qb at *
    generalize w2.heap.size = hh at *
    have SS := Lib.hid S
    obtain ⟨⟨g0, g1, g2, g3, g4⟩, gn, ⟨p0, p1, p2, p3, -⟩, ⟨f0, f1, f2, f3, f4, -⟩, ⟨q0, q1, q2, q3, -⟩, ⟨h0, h1, h2, h3, h4, -⟩, ⟨l1, l2, l3⟩, -⟩ := S
    have l4 : w.heap.size < V.heap.size := by omega
    have l5 : w.heap.size + 1 < V.heap.size := by omega
    have l6 : w.heap.size + 1 + 1 < V.heap.size := by omega
    have HQ := Lib.hid (And.intro hq0 hq1)
    have HW := Lib.hid hW
    clear hq0 hq1 hW
    go_upto_region 7 with (first | (go_at_call 22; refine (finishes_any _).mono ?_; rintro e w' ⟨n, rfl, rfl⟩) | (go_at_call 82; refine (GrainError_any _ _ _ _ _ _).mono ?_; rintro e w3 ⟨rfl, hb3⟩; obtain ⟨hc3, hf3, hs3⟩ := bcell hb3) | (go_at_call 83; refine (CheckGrain_any _ _ _ _ _ _).mono ?_; rintro e w4 ⟨rfl, hb4⟩; obtain ⟨hc4, hf4, hs4⟩ := bcell hb4; simp at hs4) | (go_at_call 84; refine (placed_any _ _ _).mono ?_; rintro e w' ⟨rfl, rfl⟩) | (go_at_call 18; refine (First2_new _ _ _ _ _ (heap_new _ _ _ (by simp))).mono ?_; rintro e w' ⟨rfl, rfl⟩))
    go_cut [82] from 52 to 81 (fun s82 wx => s82 = .bool false ∧ Below V.heap.size V wx)
    case first =>
      have ze := pix_zero
      refine wp_named (fun Wc hWc => ?_)
      have BC : Below V.heap.size V Wc := by rw [hWc]; (repeat (first | exact Below.refl _ _ | assumption | (refine Below.setCell ?_ (by first | (simp; done) | (simp; omega) | omega) _) | (refine Below.drew ?_) | (refine below_drewN ?_ _) | (refine Below.alloc ?_ (by first | (simp; done) | (simp; omega) | omega) _) | (refine Below.trans ?_ (Below.mono (by assumption) (by first | (simp; done) | (simp; omega) | omega)))))
      clear hWc hc3 hf3 hc4 hf4 hb3 hb4 hs3 hs4
      have SC := SS.out.past BC
      clear g0 g1 g2 g3 g4 gn p0 p1 p2 p3 f0 f1 f2 f3 f4 q0 q1 q2 q3 h0 h1 h2 h3 h4 l1 l2 l3 l4 l5 l6
      obtain ⟨⟨g0, g1, g2, g3, g4⟩, gn, ⟨p0, p1, p2, p3, -⟩, ⟨f0, f1, f2, f3, f4, -⟩, ⟨q0, q1, q2, q3, -⟩, ⟨h0, h1, h2, h3, h4, -⟩, ⟨l1, l2, l3⟩, -⟩ := SC
      have l4 : w.heap.size < Wc.heap.size := by omega
      have l5 : w.heap.size + 1 < Wc.heap.size := by omega
      have l6 : w.heap.size + 1 + 1 < Wc.heap.size := by omega
      obtain ⟨hq0, hq1⟩ := HQ.out
      obtain ⟨G, hG⟩ : ∃ G, G = grnP (bits .xor .u32 seed (num % 4294967296)) (px / size) (py / size) mono s f p := ⟨_, rfl⟩
      rw [← hG] at hq1
      have HG := Lib.hid hG; clear hG
      by_cases hW1 : firstE (graE size s f) (plaE px py) = 0
      · obtain rfl := hq1 hW1
        have hE : graE size s f = 0 := by
          by_cases h : graE size s f = 0
          · exact h
          · rw [firstE_of _ h] at hW1; exact hW1
        have HS := Lib.hid (graE_size hE)
        have n1 : (firstE (graE size s f) (plaE px py) == 0) = true := by simpa using hW1
        have n2 : (firstE (graE size s f) (plaE px py) != 0) = false := by simpa using hW1
        generalize firstE (graE size s f) (plaE px py) = E1 at *
        clear hq0 hq1 hW1 hE
        refine wp_region_loose 30 (GrPsi q) (by kernel_rfl) (by kernel_rfl) ?_
        simp only [List.take_succ_cons, List.take_zero, List.drop_succ_cons, List.drop_zero]
        iterate 3 (refine loose_wanted rfl (fun K hK => ?_); go_simp; refine hK _ ?_; clear hK K)
        iterate 8 ((with_reducible refine loose_pass (by kernel_rfl) (fun K hK => ?_)); go_simp; refine hK _ ?_; clear hK K)
        iterate 14 (refine loose_wanted rfl (fun K hK => ?_); go_simp; refine hK _ ?_; clear hK K)
        refine loose_wanted rfl (fun K hK => ?_)
        go_simp
        refine ⟨fun p' => (GrainedOf_any seed size s f mono num px py p p'.w HS.out HX.out.1 HX.out.2.1).mono ?_, ?_⟩
        · rintro e w' ⟨⟨q', rfl, hq'⟩, hb⟩
          rw [← HG.out] at hq'
          subst hq'
          exact ⟨_, rfl, .inl ⟨rfl, rfl⟩, p'.h.trans (hb.mono p'.h.size)⟩
        intro u hu
        obtain rfl := gr_psi1 hu
        refine hK _ ?_
        clear hK K hu
        refine loose_wanted rfl (fun K hK => ?_)
        go_simp
        refine ⟨fun p' => (samePixel_any _ _ _ _ _ _ _ _ p'.w).mono ?_, ?_⟩
        · rintro e w' ⟨rfl, hb⟩
          exact ⟨_, rfl, .inr ⟨by decide, by simp⟩, p'.h.trans (hb.mono p'.h.size)⟩
        intro u hu
        obtain rfl := gr_psi2 hu
        refine hK _ ?_
        clear hK K hu
        iterate 3 (refine loose_wanted rfl (fun K hK => ?_); go_simp; refine hK _ ?_; clear hK K)
        refine loose_nil (fun w5 hb5 => ?_)
        go_wp2_with fail
        go_meet
        exact ⟨rfl, BC.trans (hb5.mono BC.size)⟩
      · obtain rfl := hq0 hW1
        have n1 : (firstE (graE size s f) (plaE px py) == 0) = false := by simpa using hW1
        have n2 : (firstE (graE size s f) (plaE px py) != 0) = true := by simpa using hW1
        generalize firstE (graE size s f) (plaE px py) = E1 at *
        clear hq0 hq1 hW1
        refine wp_region_loose 30 (GrPsi G) (by kernel_rfl) (by kernel_rfl) ?_
        simp only [List.take_succ_cons, List.take_zero, List.drop_succ_cons, List.drop_zero]
        iterate 16 (refine loose_wanted rfl (fun K hK => ?_); go_simp; refine hK _ ?_; clear hK K)
        iterate 13 ((with_reducible refine loose_pass (by kernel_rfl) (fun K hK => ?_)); go_simp; refine hK _ ?_; clear hK K)
        iterate 1 (refine loose_wanted rfl (fun K hK => ?_); go_simp; refine hK _ ?_; clear hK K)
        refine loose_nil (fun w5 hb5 => ?_)
        go_wp2_with fail
        go_meet
        exact ⟨rfl, BC.trans (hb5.mono BC.size)⟩
    case rest =>
      obtain ⟨rfl, B⟩ := hcut
      have SC := SS.out.past B
      clear g0 g1 g2 g3 g4 gn p0 p1 p2 p3 f0 f1 f2 f3 f4 q0 q1 q2 q3 h0 h1 h2 h3 h4 l1 l2 l3 l4 l5 l6 hc3 hf3 hc4 hf4 hb3 hb4 hs3 hs4 B
      obtain ⟨-, -, -, ⟨f0, f1, f2, f3, f4, -⟩, -, ⟨h0, h1, h2, h3, h4, -⟩, ⟨l1, -, l3⟩, BW⟩ := SC
      go_wp2_with (first | (go_at_call 70; refine (FrameError_any _ _ _ _ _ _ _ _ HX.out.2.2.2.1 HX.out.2.2.2.2).mono ?_; rintro e w6 ⟨rfl, hb6⟩; obtain ⟨hc6, hf6, hs6⟩ := bcell hb6; have l1' : w.heap.size + 1 + 1 + 1 < w6.heap.size := (by omega); have l3' : hh < w6.heap.size := (by omega)) | (go_at_call 18; refine (First2_new _ _ _ _ _ (heap_new _ _ _ (by simp))).mono ?_; rintro e w' ⟨rfl, rfl⟩) | (go_at_call 23; refine (none_any _ _ _ _ _ _ _ _).mono ?_; rintro e w7 ⟨rfl, hb7⟩; have hs7 := hb7.size; simp at hs7))
      go_ret
      refine ⟨ret_b (by simp), ?_⟩
      (repeat (first | exact Below.refl _ _ | assumption | (refine Below.setCell ?_ (by first | (simp; done) | (simp; omega) | omega) _) | (refine Below.drew ?_) | (refine below_drewN ?_ _) | (refine Below.alloc ?_ (by first | (simp; done) | (simp; omega) | omega) _) | (refine Below.trans ?_ (Below.mono (by assumption) (by first | (simp; done) | (simp; omega) | omega)))))
end Go.Proofs.Ytmnmcmmhnbnndaa
