/- A function done to red, green and blue by the document (dyeref2.each): its one statement draws its order. No condition. -/
import Derived.Test.YtalgepfammpmbaaCompA
namespace Go.Proofs.Ytalgepfammpmbaa
open Go.RowKit
/-- What a call in the statement may hand back. -/
def EachPsi (K : Nat) (caps : Array Value) (g : Nat → Nat) (f : FuncId) (args : Array Value) (u : Value) : Prop :=
  (f = K ∧ ∃ v, args = #[.float .f32 v] ++ caps ∧ u = .float .f32 (g v)) ∨ (f = 48 ∧ ∃ v, args = #[.float .f32 v] ∧ u = .float .f32 (cn .f32 v))
theorem first_float {u v : Nat} {a b : Array Value} (h : #[Value.float .f32 u] ++ a = #[Value.float .f32 v] ++ b) : u = v := by
  have h2 := congrArg Array.toList h
  simp at h2
  exact h2.1
theorem each_own {K : Nat} {caps : Array Value} {g : Nat → Nat} {v : Nat} {u : Value} (hne : K = 48 → ∀ v, g v = cn .f32 v) (h : EachPsi K caps g K (#[.float .f32 v] ++ caps) u) : u = .float .f32 (g v) := by
  rcases h with ⟨-, v', ha, rfl⟩ | ⟨hf, v', ha, rfl⟩
  · rw [first_float ha]
  · have := first_float (b := #[]) (by simpa using ha)
    rw [hne hf, this]
theorem each_fix {K : Nat} {caps : Array Value} {g : Nat → Nat} {v : Nat} {u : Value} (hne : K = 48 → ∀ v, g v = cn .f32 v) (h : EachPsi K caps g 48 #[.float .f32 v] u) : u = .float .f32 (cn .f32 v) := by
  rcases h with ⟨hf, v', ha, rfl⟩ | ⟨-, v', ha, rfl⟩
  · have := first_float (a := #[]) (by simpa using ha)
    rw [hne hf.symm, this]
  · have := first_float (a := #[]) (b := #[]) (by simpa using ha)
    rw [this]
set_option maxRecDepth 100000 in
set_option maxHeartbeats 800000 in
theorem each_any (K : Nat) (caps : Array Value) (g : Nat → Nat) (p0 p1 p2 p3 : Nat) (w : World) (hne : K = 48 → ∀ v, g v = cn .f32 v)
    (hent : ∀ args w, (callFunc K args).run Try.prog w = .ok (.enter K args) w)
    (hk : ∀ v w', (v = p0 ∨ v = p1 ∨ v = p2) → Below w.heap.size w w' → Calls Try.prog K (#[.float .f32 v] ++ caps) w' fun e w'' => e = .returned (.float .f32 (g v)) ∧ Below w'.heap.size w' w'') :
    Calls Try.prog 121 #[.agg #[.float .f32 p0, .float .f32 p1, .float .f32 p2, .float .f32 p3], .func (.func K) #[] caps] w fun e w' =>
      e = .returned (.agg #[.float .f32 (g p0), .float .f32 (g p1), .float .f32 (g p2), .float .f32 (cn .f32 p3)]) ∧ Below w.heap.size w w' := by
  have hk' := Lib.hid hk; clear hk
  have hne' := Lib.hid hne; clear hne
  go_enter Try.func121, Try.ntmps121
  go_wp2
  have B0 : Below w.heap.size w ((w.alloc (.cells #[.float .f32 p0, .float .f32 p1, .float .f32 p2, .float .f32 p3] 41)).alloc (.cells #[.float .f32 0, .float .f32 0, .float .f32 0, .float .f32 0] 41)) := by (repeat (first | exact Below.refl _ _ | assumption | (refine Below.setCell ?_ (by first | (simp; done) | (simp; omega) | omega) _) | (refine Below.drew ?_) | (refine below_drewN ?_ _) | (refine Below.alloc ?_ (by first | (simp; done) | (simp; omega) | omega) _) | (refine Below.trans ?_ (Below.mono (by assumption) (by first | (simp; done) | (simp; omega) | omega)))))
  have P0 : Pix4 ((w.alloc (.cells #[.float .f32 p0, .float .f32 p1, .float .f32 p2, .float .f32 p3] 41)).alloc (.cells #[.float .f32 0, .float .f32 0, .float .f32 0, .float .f32 0] 41)) w.heap.size p0 p1 p2 p3 := ⟨by simp [go_sem], by simp [go_sem], by simp [go_sem], by simp [go_sem], fun o => by simp [go_sem]⟩
  have R0 : Pix4 ((w.alloc (.cells #[.float .f32 p0, .float .f32 p1, .float .f32 p2, .float .f32 p3] 41)).alloc (.cells #[.float .f32 0, .float .f32 0, .float .f32 0, .float .f32 0] 41)) (w.heap.size + 1) 0 0 0 0 := ⟨by simp [go_sem], by simp [go_sem], by simp [go_sem], by simp [go_sem], fun o => by simp [go_sem]⟩
  have hsz : ((w.alloc (.cells #[.float .f32 p0, .float .f32 p1, .float .f32 p2, .float .f32 p3] 41)).alloc (.cells #[.float .f32 0, .float .f32 0, .float .f32 0, .float .f32 0] 41)).heap.size = w.heap.size + 1 + 1 := by simp
  generalize ((w.alloc (.cells #[.float .f32 p0, .float .f32 p1, .float .f32 p2, .float .f32 p3] 41)).alloc (.cells #[.float .f32 0, .float .f32 0, .float .f32 0, .float .f32 0] 41)) = W at *
  obtain ⟨c0, c1, c2, c3, cf⟩ := P0
  have q0 : w.heap.size < W.heap.size := by omega
  have q1 : w.heap.size + 1 < W.heap.size := by omega
  clear hsz
  refine wp_region_loose 16 (EachPsi K caps g) (by kernel_rfl) (by kernel_rfl) ?_
  simp only [List.take_succ_cons, List.take_zero, List.drop_succ_cons, List.drop_zero]
  repeat (refine loose_wanted rfl (fun K hK => ?_); go_simp; refine hK _ ?_; clear hK K)
  refine loose_step rfl (fun K1 hK => ?_)
  go_simp
  refine ⟨fun p => (hk'.out _ p.w (by simp) (B0.trans (p.h.mono (by omega)))).mono ?_, fun u hu => ?_⟩
  · rintro e w' ⟨rfl, hb⟩
    exact ⟨_, rfl, .inl ⟨rfl, _, rfl, rfl⟩, p.h.trans (hb.mono p.h.size)⟩
  obtain rfl := each_own hne'.out hu
  refine hK _ ?_
  clear hK K1 hu
  repeat (refine loose_wanted rfl (fun K hK => ?_); go_simp; refine hK _ ?_; clear hK K)
  refine loose_step rfl (fun K1 hK => ?_)
  go_simp
  refine ⟨fun p => (hk'.out _ p.w (by simp) (B0.trans (p.h.mono (by omega)))).mono ?_, fun u hu => ?_⟩
  · rintro e w' ⟨rfl, hb⟩
    exact ⟨_, rfl, .inl ⟨rfl, _, rfl, rfl⟩, p.h.trans (hb.mono p.h.size)⟩
  obtain rfl := each_own hne'.out hu
  refine hK _ ?_
  clear hK K1 hu
  repeat (refine loose_wanted rfl (fun K hK => ?_); go_simp; refine hK _ ?_; clear hK K)
  refine loose_step rfl (fun K1 hK => ?_)
  go_simp
  refine ⟨fun p => (hk'.out _ p.w (by simp) (B0.trans (p.h.mono (by omega)))).mono ?_, fun u hu => ?_⟩
  · rintro e w' ⟨rfl, hb⟩
    exact ⟨_, rfl, .inl ⟨rfl, _, rfl, rfl⟩, p.h.trans (hb.mono p.h.size)⟩
  obtain rfl := each_own hne'.out hu
  refine hK _ ?_
  clear hK K1 hu
  repeat (refine loose_wanted rfl (fun K hK => ?_); go_simp; refine hK _ ?_; clear hK K)
  refine loose_step rfl (fun K1 hK => ?_)
  go_simp
  refine ⟨fun p => (Fix_any _ p.w).mono ?_, fun u hu => ?_⟩
  · rintro e w' ⟨rfl, rfl⟩
    exact ⟨_, rfl, .inr ⟨rfl, _, rfl, rfl⟩, p.h⟩
  obtain rfl := each_fix hne'.out hu
  refine hK _ ?_
  clear hK K1 hu
  repeat (refine loose_wanted rfl (fun K hK => ?_); go_simp; refine hK _ ?_; clear hK K)
  refine loose_nil (fun w2 hb2 => ?_)
  have R2 := R0.below hb2 (by omega)
  obtain ⟨d0, d1, d2, d3, df⟩ := R2
  go_wp2
  refine bodyPost_ret (v := .agg #[.float .f32 (g p0), .float .f32 (g p1), .float .f32 (g p2), .float .f32 (cn .f32 p3)]) (by simp [results, Try.results121, go_sem, *]) rfl ⟨rfl, ?_⟩
  have B2 := B0.trans (hb2.mono (show w.heap.size ≤ W.heap.size by omega))
  exact (((B2.setCell (by simp) _).setCell (by simp) _).setCell (by simp) _).setCell (by simp) _
end Go.Proofs.Ytalgepfammpmbaa
