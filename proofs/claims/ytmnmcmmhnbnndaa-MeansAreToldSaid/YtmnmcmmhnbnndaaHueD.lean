/- Luma and saturation: colour.Luma, Saturate and the document's. No condition. -/
import Derived.Test.YtmnmcmmhnbnndaaHueC
namespace Go.Proofs.Ytmnmcmmhnbnndaa
open Go.RowKit
def lumaF (w0 w1 w2 p0 p1 p2 : Nat) : Nat := fop .add .f32 (fop .add .f32 (fop .mul .f32 (cn .f32 w0) (cn .f32 p0)) (fop .mul .f32 (cn .f32 w1) (cn .f32 p1))) (fop .mul .f32 (cn .f32 w2) (cn .f32 p2))
set_option maxRecDepth 100000 in
set_option maxHeartbeats 800000 in
theorem Luma_any (w0 w1 w2 p0 p1 p2 p3 : Nat) (w : World) : Calls Try.prog 94 #[.agg #[.float .f32 w0, .float .f32 w1, .float .f32 w2], .agg #[.float .f32 p0, .float .f32 p1, .float .f32 p2, .float .f32 p3]] w fun e w' => e = .returned (.float .f32 (lumaF w0 w1 w2 p0 p1 p2)) ∧ Below w.heap.size w w' := by
  go_enter Try.func94, Try.ntmps94
  go_wp2_with (first | ((with_reducible apply wpList_farith); rfl; rfl; rfl; (intro r n hr; replace hr := hr.eq.symm)) | (go_at_call 174; refine (Clean_any _ _).mono ?_; rintro e w' ⟨rfl, rfl⟩))
  go_ret
  refine ⟨ret_f ?_, ?_⟩
  · simp [lumaF, *]
  · (repeat (first | exact Below.refl _ _ | assumption | (refine Below.setCell ?_ (by first | (simp; done) | (simp; omega) | omega) _) | (refine Below.drew ?_) | (refine below_drewN ?_ _) | (refine Below.alloc ?_ (by first | (simp; done) | (simp; omega) | omega) _) | (refine Below.trans ?_ (Below.mono (by assumption) (by first | (simp; done) | (simp; omega) | omega)))))
set_option maxRecDepth 100000 in
set_option maxHeartbeats 800000 in
theorem LumaOf_any (w0 w1 w2 p0 p1 p2 p3 : Nat) (w : World) : Calls Try.prog 95 #[.agg #[.float .f32 w0, .float .f32 w1, .float .f32 w2], .agg #[.float .f32 p0, .float .f32 p1, .float .f32 p2, .float .f32 p3]] w fun e w' => e = .returned (.float .f32 (lumaF w0 w1 w2 p0 p1 p2)) ∧ Below w.heap.size w w' := by
  go_enter Try.func95, Try.ntmps95
  go_wp2_with (first | ((with_reducible apply wpList_farith); rfl; rfl; rfl; (intro r n hr; replace hr := hr.eq.symm)) | (go_at_call 55; refine (Fix_any _ _).mono ?_; rintro e w' ⟨rfl, rfl⟩))
  go_ret
  refine ⟨ret_f ?_, ?_⟩
  · simp [lumaF, *]
  · (repeat (first | exact Below.refl _ _ | assumption | (refine Below.setCell ?_ (by first | (simp; done) | (simp; omega) | omega) _) | (refine Below.drew ?_) | (refine below_drewN ?_ _) | (refine Below.alloc ?_ (by first | (simp; done) | (simp; omega) | omega) _) | (refine Below.trans ?_ (Below.mono (by assumption) (by first | (simp; done) | (simp; omega) | omega)))))
set_option maxRecDepth 100000 in
set_option maxHeartbeats 800000 in
theorem cleaned_any (a b c d : Nat) (w : World) : Calls Try.prog 131 #[.float .f32 a, .float .f32 b, .float .f32 c, .float .f32 d] w fun e w' => e = .returned (.agg #[.float .f32 (cn .f32 a), .float .f32 (cn .f32 b), .float .f32 (cn .f32 c), .float .f32 (cn .f32 d)]) ∧ Below w.heap.size w w' := by
  go_enter Try.func131, Try.ntmps131
  go_wp2_with (first | (go_at_call 174; refine (Clean_any _ _).mono ?_; rintro e w' ⟨rfl, rfl⟩))
  refine bodyPost_ret (v := .agg #[.float .f32 (cn .f32 a), .float .f32 (cn .f32 b), .float .f32 (cn .f32 c), .float .f32 (cn .f32 d)]) (by simp [results, Try.results131, go_sem]) rfl ⟨rfl, ?_⟩
  (repeat (first | exact Below.refl _ _ | assumption | (refine Below.setCell ?_ (by first | (simp; done) | (simp; omega) | omega) _) | (refine Below.drew ?_) | (refine below_drewN ?_ _) | (refine Below.alloc ?_ (by first | (simp; done) | (simp; omega) | omega) _) | (refine Below.trans ?_ (Below.mono (by assumption) (by first | (simp; done) | (simp; omega) | omega)))))
def ColPsi (K : Nat) (caps : Array Value) (g : Nat → Nat) (f : FuncId) (args : Array Value) (u : Value) : Prop :=
  (f = K ∧ f ≠ 131 ∧ ∃ v r, args = #[.float .f32 v] ++ caps ∧ u = .float .f32 r ∧ FR .f32 r (g v)) ∨ (f = 131 ∧ ∃ a b c d, args = #[.float .f32 a, .float .f32 b, .float .f32 c, .float .f32 d] ∧ u = .agg #[.float .f32 (cn .f32 a), .float .f32 (cn .f32 b), .float .f32 (cn .f32 c), .float .f32 (cn .f32 d)])
theorem col_own {K : Nat} {caps : Array Value} {g : Nat → Nat} {v : Nat} {u : Value} (hne : K ≠ 131) (h : ColPsi K caps g K (#[.float .f32 v] ++ caps) u) : ∃ r, u = .float .f32 r ∧ FR .f32 r (g v) := by
  rcases h with ⟨-, -, v', r, ha, rfl, hr⟩ | ⟨hf, -⟩
  · rw [first_float ha]; exact ⟨r, rfl, hr⟩
  · exact absurd hf hne
theorem col_clean {K : Nat} {caps : Array Value} {g : Nat → Nat} {a b c d : Nat} {u : Value} (h : ColPsi K caps g 131 #[.float .f32 a, .float .f32 b, .float .f32 c, .float .f32 d] u) : u = .agg #[.float .f32 (cn .f32 a), .float .f32 (cn .f32 b), .float .f32 (cn .f32 c), .float .f32 (cn .f32 d)] := by
  rcases h with ⟨-, hf, -⟩ | ⟨-, a', b', c', d', ha, rfl⟩
  · exact absurd rfl hf
  · simp at ha
    obtain ⟨rfl, rfl, rfl, rfl⟩ := ha
    rfl
set_option maxRecDepth 100000 in
set_option maxHeartbeats 800000 in
theorem colours3_any (K : Nat) (caps : Array Value) (g : Nat → Nat) (p0 p1 p2 p3 : Nat) (w : World) (hne : K ≠ 131)
    (hent : ∀ args w, (callFunc K args).run Try.prog w = .ok (.enter K args) w)
    (hk : ∀ v w', Below w.heap.size w w' → Calls Try.prog K (#[.float .f32 v] ++ caps) w' fun e w'' => (∃ r, e = .returned (.float .f32 r) ∧ FR .f32 r (g v)) ∧ Below w'.heap.size w' w'') :
    Calls Try.prog 178 #[.agg #[.float .f32 p0, .float .f32 p1, .float .f32 p2, .float .f32 p3], .func (.func K) #[] caps] w fun e w' =>
      e = .returned (.agg #[.float .f32 (g p0), .float .f32 (g p1), .float .f32 (g p2), .float .f32 (cn .f32 p3)]) ∧ Below w.heap.size w w' := by
  have hk' := Lib.hid hk; clear hk
  have hne' := Lib.hid hne; clear hne
  go_enter Try.func178, Try.ntmps178
  go_wp2
  have B0 : Below w.heap.size w ((w.alloc (.cells #[.float .f32 p0, .float .f32 p1, .float .f32 p2, .float .f32 p3] 55)).alloc (.cells #[.float .f32 0, .float .f32 0, .float .f32 0, .float .f32 0] 55)) := by (repeat (first | exact Below.refl _ _ | assumption | (refine Below.setCell ?_ (by first | (simp; done) | (simp; omega) | omega) _) | (refine Below.drew ?_) | (refine below_drewN ?_ _) | (refine Below.alloc ?_ (by first | (simp; done) | (simp; omega) | omega) _) | (refine Below.trans ?_ (Below.mono (by assumption) (by first | (simp; done) | (simp; omega) | omega)))))
  have P0 : Pix4 ((w.alloc (.cells #[.float .f32 p0, .float .f32 p1, .float .f32 p2, .float .f32 p3] 55)).alloc (.cells #[.float .f32 0, .float .f32 0, .float .f32 0, .float .f32 0] 55)) w.heap.size p0 p1 p2 p3 := ⟨by simp [go_sem], by simp [go_sem], by simp [go_sem], by simp [go_sem], fun o => by simp [go_sem]⟩
  have R0 : Pix4 ((w.alloc (.cells #[.float .f32 p0, .float .f32 p1, .float .f32 p2, .float .f32 p3] 55)).alloc (.cells #[.float .f32 0, .float .f32 0, .float .f32 0, .float .f32 0] 55)) (w.heap.size + 1) 0 0 0 0 := ⟨by simp [go_sem], by simp [go_sem], by simp [go_sem], by simp [go_sem], fun o => by simp [go_sem]⟩
  have hsz : ((w.alloc (.cells #[.float .f32 p0, .float .f32 p1, .float .f32 p2, .float .f32 p3] 55)).alloc (.cells #[.float .f32 0, .float .f32 0, .float .f32 0, .float .f32 0] 55)).heap.size = w.heap.size + 1 + 1 := by simp
  generalize ((w.alloc (.cells #[.float .f32 p0, .float .f32 p1, .float .f32 p2, .float .f32 p3] 55)).alloc (.cells #[.float .f32 0, .float .f32 0, .float .f32 0, .float .f32 0] 55)) = W at *
  obtain ⟨c0, c1, c2, c3, cf⟩ := P0
  have q0 : w.heap.size < W.heap.size := by omega
  have q1 : w.heap.size + 1 < W.heap.size := by omega
  clear hsz
  refine wp_region_loose 15 (ColPsi K caps g) (by kernel_rfl) (by kernel_rfl) ?_
  simp only [List.take_succ_cons, List.take_zero, List.drop_succ_cons, List.drop_zero]
  repeat (refine loose_wanted rfl (fun K hK => ?_); go_simp; refine hK _ ?_; clear hK K)
  refine loose_step rfl (fun K1 hK => ?_)
  go_simp
  refine ⟨fun p => (hk'.out _ p.w (B0.trans (p.h.mono (by omega)))).mono ?_, fun u hu => ?_⟩
  · rintro e w' ⟨⟨r, rfl, hr⟩, hb⟩
    exact ⟨_, rfl, .inl ⟨rfl, hne'.out, _, _, rfl, rfl, hr⟩, p.h.trans (hb.mono p.h.size)⟩
  obtain ⟨r0, rfl, hr0⟩ := col_own hne'.out hu
  refine hK _ ?_
  clear hK K1 hu
  repeat (refine loose_wanted rfl (fun K hK => ?_); go_simp; refine hK _ ?_; clear hK K)
  refine loose_step rfl (fun K1 hK => ?_)
  go_simp
  refine ⟨fun p => (hk'.out _ p.w (B0.trans (p.h.mono (by omega)))).mono ?_, fun u hu => ?_⟩
  · rintro e w' ⟨⟨r, rfl, hr⟩, hb⟩
    exact ⟨_, rfl, .inl ⟨rfl, hne'.out, _, _, rfl, rfl, hr⟩, p.h.trans (hb.mono p.h.size)⟩
  obtain ⟨r1, rfl, hr1⟩ := col_own hne'.out hu
  refine hK _ ?_
  clear hK K1 hu
  repeat (refine loose_wanted rfl (fun K hK => ?_); go_simp; refine hK _ ?_; clear hK K)
  refine loose_step rfl (fun K1 hK => ?_)
  go_simp
  refine ⟨fun p => (hk'.out _ p.w (B0.trans (p.h.mono (by omega)))).mono ?_, fun u hu => ?_⟩
  · rintro e w' ⟨⟨r, rfl, hr⟩, hb⟩
    exact ⟨_, rfl, .inl ⟨rfl, hne'.out, _, _, rfl, rfl, hr⟩, p.h.trans (hb.mono p.h.size)⟩
  obtain ⟨r2, rfl, hr2⟩ := col_own hne'.out hu
  refine hK _ ?_
  clear hK K1 hu
  repeat (refine loose_wanted rfl (fun K hK => ?_); go_simp; refine hK _ ?_; clear hK K)
  refine loose_step rfl (fun K1 hK => ?_)
  go_simp
  refine ⟨fun p => (cleaned_any _ _ _ _ p.w).mono ?_, fun u hu => ?_⟩
  · rintro e w' ⟨rfl, hb⟩
    exact ⟨_, rfl, .inr ⟨rfl, _, _, _, _, rfl, rfl⟩, p.h.trans (hb.mono p.h.size)⟩
  obtain rfl := col_clean hu
  refine hK _ ?_
  clear hK K1 hu
  repeat (refine loose_wanted rfl (fun K hK => ?_); go_simp; refine hK _ ?_; clear hK K)
  refine loose_nil (fun w2 hb2 => ?_)
  have R2 := R0.below hb2 (by omega)
  obtain ⟨d0, d1, d2, d3, df⟩ := R2
  go_wp2
  rw [hr0.eq, hr1.eq, hr2.eq]
  refine bodyPost_ret (v := .agg #[.float .f32 (g p0), .float .f32 (g p1), .float .f32 (g p2), .float .f32 (cn .f32 p3)]) (by simp [results, Try.results178, go_sem, d0, d1, d2, d3]) rfl ⟨rfl, ?_⟩
  have B2 := B0.trans (hb2.mono (show w.heap.size ≤ W.heap.size by omega))
  exact (((B2.setCell (by simp) _).setCell (by simp) _).setCell (by simp) _).setCell (by simp) _
end Go.Proofs.Ytmnmcmmhnbnndaa
