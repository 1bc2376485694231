/- TopGreys: what it calls beside the cubes, the cube that it lays, and that its colours are grey. No condition but what each theorem names. -/
import Derived.Test.YtkmjboffjhcoaaaCmA
import Derived.Test.YtkmjboffjhcoaaaP4
namespace Go.Proofs.Ytkmjboffjhcoaaa
open Go Go.RowKit
theorem landed_any (w : World) : Calls Try.prog 86 #[] w fun e w' => e = .returned (.bool true) ∧ w = w' := by
  go_enter Try.func86, Try.ntmps86
  go_wp2_with (first | (go_at_call 90; refine (Bits_any _ _).mono ?_; rintro e w2 ⟨rfl, rfl⟩))
  all_goals (go_ret; refine ⟨ret_b ?_, rfl⟩; decide +kernel)
set_option maxHeartbeats 400000 in
theorem tg_infinite (v : Nat) (w : World) : Calls Try.prog 164 #[.float .f32 v] w fun e w' => (∃ b : Bool, e = .returned (.bool b)) ∧ w = w' := by
  go_enter Try.func164, Try.ntmps164
  go_wp2
  all_goals (go_ret; exact ⟨⟨_, rfl⟩, rfl⟩)
set_option maxHeartbeats 400000 in
theorem Kind_any (v : Nat) (w : World) : Calls Try.prog 87 #[.float .f32 v] w fun e w' => (∃ k : Int, e = .returned (.int .i64 k) ∧ 0 ≤ k ∧ k ≤ 4) ∧ w = w' := by
  go_enter Try.func87, Try.ntmps87
  go_wp2_with (first | (go_at_call 164; refine (tg_infinite _ _).mono ?_; rintro e w2 ⟨⟨b, rfl⟩, rfl⟩) | (go_at_call 90; refine (Bits_any _ _).mono ?_; rintro e w2 ⟨rfl, rfl⟩))
  all_goals (go_ret; exact ⟨⟨_, rfl, by omega, by omega⟩, rfl⟩)
/-- What stands behind N entries of a cube that is laid one entry at a time: its variable at nc. -/
structure TgR (w wr : World) (nc : Nat) (S lo hi : Nat) (G : Nat → Nat → Nat) (N : Nat) (s : Value) : Prop where
  cub : Blk wr nc [.int .i64 S, .float .f32 lo, .float .f32 hi, s]
  own : wr.ownsRow (nc + 1) 38 1 s (3 * N) (made3L G N)
  bel : Below w.heap.size w wr
  lay : w.heap.size ≤ nc
theorem TgR.past {w wr w2 : World} {nc S lo hi : Nat} {G : Nat → Nat → Nat} {N : Nat} {s : Value} (k : TgR w wr nc S lo hi G N s) (hb : Below wr.heap.size wr w2) : TgR w w2 nc S lo hi G N s :=
  ⟨k.cub.past hb, own_past k.own hb, k.bel.trans (hb.mono k.bel.size), k.lay⟩
theorem TgR.app {w wr wa w1 : World} {nc S lo hi : Nat} {G : Nat → Nat → Nat} {N : Nat} {s s' : Value} {v0 v1 v2 : Nat} (k0 : TgR w wr nc S lo hi G N s) (hb : Below wr.heap.size wr wa) (hown : w1.ownsRow (nc + 1) 38 1 s' (3 * N + 3) (made3L G N ++ [.float .f32 v0, .float .f32 v1, .float .f32 v2])) (h0 : v0 = G N 0) (h1 : v1 = G N 1) (h2 : v2 = G N 2) (hg : wa.grownBy w1 s.ownBlock) :
    w1.cell? ⟨nc, 3, none⟩ = some s ∧ w1.frozen? ⟨nc, 3, none⟩ = false ∧ TgR w (w1.setCell ⟨nc, 3, none⟩ s') nc S lo hi G (N + 1) s' := by
  have k := k0.past hb
  have blk := hg.block nc k.cub.lt (own_block k.own (by omega))
  refine ⟨(World.cell?_of_block blk).trans (k.cub.c 3 _ rfl), (World.frozen?_of_block blk).trans (k.cub.f _), (k.cub.block hg.size blk).set 3 s', ?_, ?_, k.lay⟩
  · rw [made3_succ]; subst h0 h1 h2; exact own_far hown _ _ (by simp)
  · refine (k.bel.grown hg (by have := k.cub.lt; have := k.lay; omega) (fun j hj => ?_)).setCell k.lay _
    have := k.own.lt j hj
    have := k.lay
    omega
theorem tg_cub {S : Nat} (h : 2 ≤ S ∧ S ≤ 5) : cubErr S 0 1065353216 (3 * (S * S * S)) = 0 := by
  rcases (show S = 2 ∨ S = 3 ∨ S = 4 ∨ S = 5 by omega) with rfl | rfl | rfl | rfl <;> decide +kernel
theorem tg_grey {fs : Nat → Nat} (h : ∀ e, fs (3 * e) = fs (3 * e + 1) ∧ fs (3 * e) = fs (3 * e + 2)) (S lo hi : Nat) (p : Nat → Nat) : tetF S lo hi fs p 0 = tetF S lo hi fs p 1 ∧ tetF S lo hi fs p 0 = tetF S lo hi fs p 2 := by
  constructor
  · unfold tetF; simp only [if_pos (show 0 < 3 by omega), if_pos (show 1 < 3 by omega), Nat.add_zero, ← (h _).1]
  · unfold tetF; simp only [if_pos (show 0 < 3 by omega), if_pos (show 2 < 3 by omega), Nat.add_zero, ← (h _).2]
theorem tg_grey_lin {fs : Nat → Nat} (h : ∀ e, fs (3 * e) = fs (3 * e + 1) ∧ fs (3 * e) = fs (3 * e + 2)) (S lo hi : Nat) (p : Nat → Nat) : linF S lo hi fs p 0 = linF S lo hi fs p 1 ∧ linF S lo hi fs p 0 = linF S lo hi fs p 2 := by
  constructor
  · unfold linF bluF greF redF; simp only [if_pos (show 0 < 3 by omega), if_pos (show 1 < 3 by omega), Nat.add_zero, ← (h _).1]
  · unfold linF bluF greF redF; simp only [if_pos (show 0 < 3 by omega), if_pos (show 2 < 3 by omega), Nat.add_zero, ← (h _).2]
end Go.Proofs.Ytkmjboffjhcoaaa
