/- What is wrong with a search for a place: cube.Back; Nearest and Back, right or wrong. Conditions: what came in is known where it is right. -/
import Derived.Test.YtkmjboffjhcoaaaCsD
namespace Go.Proofs.Ytkmjboffjhcoaaa
open Go Go.RowKit
def bkE (ec : Int) (nums : Bool) (T : Int) (is : Bool) : Int := firstE ec (firstE (whenE (!nums) 2) (firstE (whenE (!inB T 0 64) 3) (whenE (!is) 11)))
set_option maxRecDepth 100000 in
set_option maxHeartbeats 3200000 in
theorem Back_no (sa : Int) (la ha : Nat) (aa : Option Addr) (na ca : Nat) (fa p : Nat → Nat) (T : Int) (w : World) (ia : CubIn w sa la ha aa na ca fa) (hE : bkE (cubErr sa la ha na) (allNum [p 0, p 1, p 2]) T (nearS fa p (sa.toNat * sa.toNat * sa.toNat)).isSome ≠ 0) :
    Calls Try.prog 98 #[.agg #[.int .i64 sa, .float .f32 la, .float .f32 ha, .slice aa na ca], .agg #[.float .f32 (p 0), .float .f32 (p 1), .float .f32 (p 2)], .int .i64 T] w fun e w' =>
      e = .returned (.tuple #[.agg #[.float .f32 0, .float .f32 0, .float .f32 0], .int .i64 (bkE (cubErr sa la ha na) (allNum [p 0, p 1, p 2]) T (nearS fa p (sa.toNat * sa.toNat * sa.toNat)).isSome)]) ∧ Below w.heap.size w w' := by
  obtain ⟨s, hs⟩ : ∃ s, s = nearS fa p (sa.toNat * sa.toNat * sa.toNat) := ⟨_, rfl⟩
  rw [← hs] at hE ⊢
  have HN : Hid (cubErr sa la ha na = 0 → s = none → ∀ w', Below w.heap.size w w' → Calls Try.prog 97 #[.agg #[.int .i64 sa, .float .f32 la, .float .f32 ha, .slice aa na ca], .agg #[.float .f32 (p 0), .float .f32 (p 1), .float .f32 (p 2)]] w' fun e w'' => e = .returned (.tuple #[.int .i64 0, .int .i64 0, .int .i64 0, .int .i64 11]) ∧ Below w'.heap.size w' w'') := fun h0 hsn w' hb => by
    obtain ⟨b, off, rfl, hca, hra⟩ := ia h0
    obtain ⟨S, rfl⟩ := cub_size h0
    have h := Nearest_yes S la ha b off na ca fa p w' h0 (hra.below hb (hra.lt (cub_pos h0).1))
    rw [show nearS fa p (S * S * S) = none from by rw [hsn] at hs; exact hs.symm] at h
    exact h
  clear ia hs
  obtain ⟨EA, hEA⟩ : ∃ E, E = cubErr sa la ha na := ⟨_, rfl⟩
  obtain ⟨nm, hnm⟩ : ∃ b, b = allNum [p 0, p 1, p 2] := ⟨_, rfl⟩
  rw [← hEA] at hE HN ⊢
  rw [← hnm] at hE ⊢
  have HEA := Lib.hid hEA; have HE := Lib.hid hE; have HNM := Lib.hid hnm
  clear hEA hE hnm
  go_enter Try.func98, Try.ntmps98
  go_upto_region 1 with fail
  refine wp_world (fun W hW => ?_)
  have A0 : Blk W w.heap.size [.int .i64 sa, .float .f32 la, .float .f32 ha, .slice aa na ca] := by rw [hW]; exact ((Blk.new _ _ _ _ rfl).alloc _).alloc _
  have P0 : Blk W (w.heap.size + 1) [.float .f32 (p 0), .float .f32 (p 1), .float .f32 (p 2)] := by rw [hW]; exact (Blk.new _ _ _ _ (by simp)).alloc _
  have Z0 : Blk W (w.heap.size + 2) [.float .f32 0, .float .f32 0, .float .f32 0] := by rw [hW]; exact Blk.new _ _ _ _ (by simp)
  have BW : Below w.heap.size w W := by rw [hW]; (repeat (first | exact Below.refl _ _ | assumption | (refine Below.setCell ?_ (by first | (simp; done) | (simp; omega) | omega) _) | (refine Below.drew ?_) | (refine below_drewN ?_ _) | (refine Below.alloc ?_ (by first | (simp; done) | (simp; omega) | omega) _) | (refine Below.trans ?_ (Below.mono (by assumption) (by first | (simp; done) | (simp; omega) | omega)))))
  have a0 := A0.c 0 _ rfl; have a1 := A0.c 1 _ rfl; have a2 := A0.c 2 _ rfl; have a3 := A0.c 3 _ rfl; have al := A0.lt
  have H0 := Lib.hid (And.intro A0 (And.intro P0 (And.intro Z0 BW)))
  clear hW A0 P0 Z0 BW
  go_wp2_with fail
  refine (CuCheck_any _ _ _ _ _ _ _).mono ?_
  rintro e w2 ⟨rfl, hb2⟩
  rw [← HEA.out]
  have H2 := Lib.hid (And.intro (H0.out.1.past hb2) (And.intro (H0.out.2.1.past hb2) (And.intro (H0.out.2.2.1.past hb2) (H0.out.2.2.2.trans (hb2.mono H0.out.2.2.2.size)))))
  clear hb2 a0 a1 a2 a3 al H0
  by_cases hA : EA = 0
  · subst hA
    have q0 := H2.out.2.1.c 0 _ rfl; have q1 := H2.out.2.1.c 1 _ rfl; have q2 := H2.out.2.1.c 2 _ rfl; have ql := H2.out.2.1.lt
    have z0 := H2.out.2.2.1.c 0 _ rfl; have z1 := H2.out.2.2.1.c 1 _ rfl; have z2 := H2.out.2.2.1.c 2 _ rfl; have zf := H2.out.2.2.1.f; have zl := H2.out.2.2.1.lt
    have B2 := H2.out.2.2.2
    cases hn : nm
    · have HX := Lib.hid (show bkE 0 false T s.isSome = 2 from rfl)
      rw [hn] at HNM
      subst hn
      go_wp2_with (first | (go_at_call 133; refine (All3_any _ _ _ (p 0) (p 1) (p 2) _ q0 q1 q2).mono ?_; rintro e w' ⟨rfl, rfl⟩; rw [← HNM.out]))
      refine bodyPost_ret (v := .tuple #[.agg #[.float .f32 0, .float .f32 0, .float .f32 0], .int .i64 2]) (by simp [results, Try.results98, go_sem, z0, z1, z2]) rfl ⟨by rw [HX.out], ?_⟩
      exact ((B2.setCell (by first | (simp; done) | (simp; omega) | omega) _).setCell (by first | (simp; done) | (simp; omega) | omega) _).setCell (by first | (simp; done) | (simp; omega) | omega) _
    · rw [hn] at HNM HE
      subst hn
      by_cases hT : 0 ≤ T ∧ T ≤ 64
      · have hse : s = none := by
          have := HE.out
          unfold bkE at this
          rw [inB_t hT] at this
          cases s with
          | none => rfl
          | some x => exact absurd rfl this
        have HX := Lib.hid (show bkE 0 true T s.isSome = 11 by unfold bkE; rw [inB_t hT, hse]; rfl)
        have HN2 := Lib.hid (HN.out rfl hse)
        have a0 := H2.out.1.c 0 _ rfl; have a1 := H2.out.1.c 1 _ rfl; have a2 := H2.out.1.c 2 _ rfl; have a3 := H2.out.1.c 3 _ rfl; have al := H2.out.1.lt
        obtain ⟨t1, t2⟩ := hT
        clear hse HN HE B2
        go_upto_region 9 with (first | (go_at_call 133; refine (All3_any _ _ _ (p 0) (p 1) (p 2) _ q0 q1 q2).mono ?_; rintro e w' ⟨rfl, rfl⟩; rw [← HNM.out]) | (go_at_call 97; refine (HN2.out _ H2.out.2.2.2).mono ?_; rintro e w3 ⟨rfl, hb3⟩))
        have Z3 := H2.out.2.2.1.past hb3
        have B3 := H2.out.2.2.2.trans (hb3.mono H2.out.2.2.2.size)
        clear hb3 q0 q1 q2 ql a0 a1 a2 a3 al z0 z1 z2 zf zl H2
        have z0 := Z3.c 0 _ rfl; have z1 := Z3.c 1 _ rfl; have z2 := Z3.c 2 _ rfl; have zf := Z3.f; have zl := Z3.lt
        clear Z3
        go_wp2_with fail
        refine bodyPost_ret (v := .tuple #[.agg #[.float .f32 0, .float .f32 0, .float .f32 0], .int .i64 11]) (by simp [results, Try.results98, go_sem, z0, z1, z2]) rfl ⟨by rw [HX.out], ?_⟩
        exact ((B3.setCell (by first | (simp; done) | (simp; omega) | omega) _).setCell (by first | (simp; done) | (simp; omega) | omega) _).setCell (by first | (simp; done) | (simp; omega) | omega) _
      · have HX := Lib.hid (show bkE 0 true T s.isSome = 3 by unfold bkE; rw [inB_f (by omega)]; rfl)
        clear HN HE
        rcases (show T < 0 ∨ 64 < T by omega) with h | h
        · clear hT
          go_wp2_with (first | (go_at_call 133; refine (All3_any _ _ _ (p 0) (p 1) (p 2) _ q0 q1 q2).mono ?_; rintro e w' ⟨rfl, rfl⟩; rw [← HNM.out]))
          refine bodyPost_ret (v := .tuple #[.agg #[.float .f32 0, .float .f32 0, .float .f32 0], .int .i64 3]) (by simp [results, Try.results98, go_sem, z0, z1, z2]) rfl ⟨by rw [HX.out], ?_⟩
          exact ((B2.setCell (by first | (simp; done) | (simp; omega) | omega) _).setCell (by first | (simp; done) | (simp; omega) | omega) _).setCell (by first | (simp; done) | (simp; omega) | omega) _
        · have h2 : ¬ T < 0 := by omega
          clear hT
          go_wp2_with (first | (go_at_call 133; refine (All3_any _ _ _ (p 0) (p 1) (p 2) _ q0 q1 q2).mono ?_; rintro e w' ⟨rfl, rfl⟩; rw [← HNM.out]))
          refine bodyPost_ret (v := .tuple #[.agg #[.float .f32 0, .float .f32 0, .float .f32 0], .int .i64 3]) (by simp [results, Try.results98, go_sem, z0, z1, z2]) rfl ⟨by rw [HX.out], ?_⟩
          exact ((B2.setCell (by first | (simp; done) | (simp; omega) | omega) _).setCell (by first | (simp; done) | (simp; omega) | omega) _).setCell (by first | (simp; done) | (simp; omega) | omega) _
  · have hc : (EA != 0) = true := by simpa using hA
    have HX := Lib.hid (show bkE EA nm T s.isSome = EA by unfold bkE; rw [firstE_of _ hA])
    clear hA HE HN
    have z0 := H2.out.2.2.1.c 0 _ rfl; have z1 := H2.out.2.2.1.c 1 _ rfl; have z2 := H2.out.2.2.1.c 2 _ rfl; have zf := H2.out.2.2.1.f; have zl := H2.out.2.2.1.lt
    have B2 := H2.out.2.2.2
    go_wp2_with fail
    refine bodyPost_ret (v := .tuple #[.agg #[.float .f32 0, .float .f32 0, .float .f32 0], .int .i64 EA]) (by simp [results, Try.results98, go_sem, z0, z1, z2]) rfl ⟨by rw [HX.out], ?_⟩
    exact ((B2.setCell (by first | (simp; done) | (simp; omega) | omega) _).setCell (by first | (simp; done) | (simp; omega) | omega) _).setCell (by first | (simp; done) | (simp; omega) | omega) _
end Go.Proofs.Ytkmjboffjhcoaaa
