/- The two comparisons of runs: by their end, their beginning, their machine. Conditions: what each theorem names. -/
import Derived.Test.YtkadinjhfldokaaSrE
import Derived.Test.YtkadinjhfldokaaDnC
namespace Go.Proofs.Ytkadinjhfldokaa
open Go Go.RowKit
/-- -1, 0, 1: how two numbers stand. -/
def sgI (a b : Int) : Int := if a < b then -1 else if b < a then 1 else 0
theorem nanI_any (a : Int) (w : World) : Calls Try.prog 39 #[.int .i64 a] w fun e w' => e = .returned (.bool false) ∧ w' = w := by
  go_enter Try.func39, Try.ntmps39
  have h : (a != a) = false := by simp
  go_wp2_with fail
  go_ret
  exact ⟨rfl, rfl⟩
theorem cmpI_any (a b : Int) (w : World) : Calls Try.prog 25 #[.int .i64 a, .int .i64 b] w fun e w' => e = .returned (.int .i64 (sgI a b)) ∧ w' = w := by
  have hs : ∀ c, sgI a b = c → (Ending.returned (Value.int .i64 c) = .returned (.int .i64 (sgI a b))) := fun c h => by rw [h]
  by_cases h1 : a < b
  · go_enter Try.func25, Try.ntmps25
    go_wp2_with (go_at_call 39; refine (nanI_any _ _).mono ?_; rintro e w' ⟨rfl, rfl⟩)
    go_ret
    exact ⟨hs _ (by unfold sgI; rw [if_pos (by omega)]), rfl⟩
  · by_cases h2 : b < a
    · go_enter Try.func25, Try.ntmps25
      go_wp2_with (go_at_call 39; refine (nanI_any _ _).mono ?_; rintro e w' ⟨rfl, rfl⟩)
      go_ret
      exact ⟨hs _ (by unfold sgI; rw [if_neg (by omega), if_pos (by omega)]), rfl⟩
    · go_enter Try.func25, Try.ntmps25
      go_wp2_with (go_at_call 39; refine (nanI_any _ _).mono ?_; rintro e w' ⟨rfl, rfl⟩)
      go_ret
      exact ⟨hs _ (by unfold sgI; rw [if_neg (by omega), if_neg (by omega)]), rfl⟩
/-- The first of three that is not 0. -/
def or3 (a b c : Int) : Int := if a ≠ 0 then a else if b ≠ 0 then b else c
set_option maxRecDepth 100000 in
theorem orI_any (g : Nat) (a b c : Int) (w : World) (h : Blk w g [.int .i64 a, .int .i64 b, .int .i64 c]) : Calls Try.prog 24 #[.slice (some ⟨g, 0, none⟩) 3 3] w fun e w' => e = .returned (.int .i64 (or3 a b c)) ∧ Below w.heap.size w w' := by
  have hs : ∀ d, or3 a b c = d → (Ending.returned (Value.int .i64 d) = .returned (.int .i64 (or3 a b c))) := fun c h => by rw [h]
  have c0 := h.c 0 _ rfl; have c1 := h.c 1 _ rfl; have c2 := h.c 2 _ rfl; have cl := h.lt
  have cv : ∀ w, Sem.run Try.prog (convert 3 3 (.int .i64 0)) w = .ok (.int .i64 0) w := fun _ => by kernel_rfl
  clear h
  by_cases h1 : a = 0
  · subst h1
    by_cases h2 : b = 0
    · subst h2
      have e := hs c rfl
      by_cases h3 : c = 0
      · subst h3
        go_enter Try.func24, Try.ntmps24
        go_wp2_with fail
        refine wp_loop_rounds 4 ?_
        go_wp2_with (simp only [rounds_succ])
        go_ret
        exact ⟨hs 0 rfl, by (repeat (first | exact Below.refl _ _ | assumption | (refine Below.setCell ?_ (by first | (simp; done) | (simp; omega) | omega) _) | (refine Below.drew ?_) | (refine below_drewN ?_ _) | (refine Below.alloc ?_ (by first | (simp; done) | (simp; omega) | omega) _) | (refine Below.trans ?_ (Below.mono (by assumption) (by first | (simp; done) | (simp; omega) | omega)))))⟩
      · have b3 : (c != 0) = true := by simpa using h3
        go_enter Try.func24, Try.ntmps24
        go_wp2_with fail
        refine wp_loop_rounds 3 ?_
        go_wp2_with (simp only [rounds_succ])
        go_ret
        exact ⟨hs c rfl, by (repeat (first | exact Below.refl _ _ | assumption | (refine Below.setCell ?_ (by first | (simp; done) | (simp; omega) | omega) _) | (refine Below.drew ?_) | (refine below_drewN ?_ _) | (refine Below.alloc ?_ (by first | (simp; done) | (simp; omega) | omega) _) | (refine Below.trans ?_ (Below.mono (by assumption) (by first | (simp; done) | (simp; omega) | omega)))))⟩
    · have b2 : (b != 0) = true := by simpa using h2
      go_enter Try.func24, Try.ntmps24
      go_wp2_with fail
      refine wp_loop_rounds 2 ?_
      go_wp2_with (simp only [rounds_succ])
      go_ret
      exact ⟨hs b (by unfold or3; rw [if_neg (by simp), if_pos h2]), by (repeat (first | exact Below.refl _ _ | assumption | (refine Below.setCell ?_ (by first | (simp; done) | (simp; omega) | omega) _) | (refine Below.drew ?_) | (refine below_drewN ?_ _) | (refine Below.alloc ?_ (by first | (simp; done) | (simp; omega) | omega) _) | (refine Below.trans ?_ (Below.mono (by assumption) (by first | (simp; done) | (simp; omega) | omega)))))⟩
  · have b1 : (a != 0) = true := by simpa using h1
    go_enter Try.func24, Try.ntmps24
    go_wp2_with fail
    refine wp_loop_rounds 1 ?_
    go_wp2_with (simp only [rounds_succ])
    go_ret
    exact ⟨hs a (by unfold or3; rw [if_pos h1]), by (repeat (first | exact Below.refl _ _ | assumption | (refine Below.setCell ?_ (by first | (simp; done) | (simp; omega) | omega) _) | (refine Below.drew ?_) | (refine below_drewN ?_ _) | (refine Below.alloc ?_ (by first | (simp; done) | (simp; omega) | omega) _) | (refine Below.trans ?_ (Below.mono (by assumption) (by first | (simp; done) | (simp; omega) | omega)))))⟩
/-- The farm's comparison of two runs. -/
def cmF (x y : RunV) : Int := or3 (sgI x.to y.to) (sgI x.fr y.fr) (sgI x.mc y.mc)
/-- The document's. -/
def cmD (x y : RunV) : Int := if x.to ≠ y.to then x.to - y.to else if x.fr ≠ y.fr then x.fr - y.fr else x.mc - y.mc
/-- Runs as they come. -/
def PrR (x : RunV) : Prop := (0 ≤ x.to ∧ x.to < 1099511627776) ∧ (0 ≤ x.fr ∧ x.fr < 1099511627776) ∧ 0 ≤ x.mc ∧ x.mc < 64
/-- Their key. -/
def keyR (x : RunV) : Int := (x.to * 1099511627776 + x.fr) * 64 + x.mc
theorem keyR_cmD {x y : RunV} (hx : PrR x) (hy : PrR y) : cmD x y < 0 ↔ keyR x < keyR y := by
  obtain ⟨⟨a1, a2⟩, ⟨a3, a4⟩, a5, a6⟩ := hx
  obtain ⟨⟨b1, b2⟩, ⟨b3, b4⟩, b5, b6⟩ := hy
  unfold cmD keyR
  (repeat' split) <;> omega
theorem keyR_cmF {x y : RunV} (hx : PrR x) (hy : PrR y) : cmF x y < 0 ↔ keyR x < keyR y := by
  obtain ⟨⟨a1, a2⟩, ⟨a3, a4⟩, a5, a6⟩ := hx
  obtain ⟨⟨b1, b2⟩, ⟨b3, b4⟩, b5, b6⟩ := hy
  unfold cmF keyR or3 sgI
  (repeat' split) <;> omega
theorem keyR_inj {x y : RunV} (hx : PrR x) (hy : PrR y) (h : keyR x = keyR y) : x.to = y.to ∧ x.fr = y.fr ∧ x.mc = y.mc := by
  obtain ⟨⟨a1, a2⟩, ⟨a3, a4⟩, a5, a6⟩ := hx
  obtain ⟨⟨b1, b2⟩, ⟨b3, b4⟩, b5, b6⟩ := hy
  unfold keyR at h
  omega
set_option maxRecDepth 100000 in
set_option maxHeartbeats 1600000 in
theorem cmD_any (x y : RunV) (w : World) (hx : PrR x) (hy : PrR y) : Calls Try.prog 33 #[.agg #[.int .i64 x.wk, .int .i64 x.mc, .int .i64 x.fr, .int .i64 x.to, .bool x.fl], .agg #[.int .i64 y.wk, .int .i64 y.mc, .int .i64 y.fr, .int .i64 y.to, .bool y.fl]] w fun e w' => e = .returned (.int .i64 (cmD x y)) ∧ Below w.heap.size w w' := by
  obtain ⟨⟨a1, a2⟩, ⟨a3, a4⟩, a5, a6⟩ := hx
  obtain ⟨⟨b1, b2⟩, ⟨b3, b4⟩, b5, b6⟩ := hy
  obtain ⟨xw, xm, xf, xt, xl⟩ := x
  obtain ⟨yw, ym, yf, yt, yl⟩ := y
  simp only at a1 a2 a3 a4 a5 a6 b1 b2 b3 b4 b5 b6
  have hs : ∀ d, cmD ⟨xw, xm, xf, xt, xl⟩ ⟨yw, ym, yf, yt, yl⟩ = d → (Ending.returned (Value.int .i64 d) = .returned (.int .i64 (cmD ⟨xw, xm, xf, xt, xl⟩ ⟨yw, ym, yf, yt, yl⟩))) := fun c h => by rw [h]
  by_cases h1 : xt = yt
  · have t1 : (xt != yt) = false := by simpa using h1
    by_cases h2 : xf = yf
    · have t2 : (xf != yf) = false := by simpa using h2
      have e := hs (xm - ym) (by unfold cmD; rw [if_neg (by simpa using h1), if_neg (by simpa using h2)])
      clear hs
      go_enter Try.func33, Try.ntmps33
      clear h1 h2
      go_wp2_with fail
      go_ret
      exact ⟨e, by (repeat (first | exact Below.refl _ _ | assumption | (refine Below.setCell ?_ (by first | (simp; done) | (simp; omega) | omega) _) | (refine Below.drew ?_) | (refine below_drewN ?_ _) | (refine Below.alloc ?_ (by first | (simp; done) | (simp; omega) | omega) _) | (refine Below.trans ?_ (Below.mono (by assumption) (by first | (simp; done) | (simp; omega) | omega)))))⟩
    · have t2 : (xf != yf) = true := by simpa using h2
      have e := hs (xf - yf) (by unfold cmD; rw [if_neg (by simpa using h1), if_pos (by simpa using h2)])
      clear hs
      go_enter Try.func33, Try.ntmps33
      clear h1 h2
      go_wp2_with fail
      go_ret
      exact ⟨e, by (repeat (first | exact Below.refl _ _ | assumption | (refine Below.setCell ?_ (by first | (simp; done) | (simp; omega) | omega) _) | (refine Below.drew ?_) | (refine below_drewN ?_ _) | (refine Below.alloc ?_ (by first | (simp; done) | (simp; omega) | omega) _) | (refine Below.trans ?_ (Below.mono (by assumption) (by first | (simp; done) | (simp; omega) | omega)))))⟩
  · have t1 : (xt != yt) = true := by simpa using h1
    have e := hs (xt - yt) (by unfold cmD; rw [if_pos (by simpa using h1)])
    clear hs
    go_enter Try.func33, Try.ntmps33
    clear h1
    go_wp2_with fail
    go_ret
    exact ⟨e, by (repeat (first | exact Below.refl _ _ | assumption | (refine Below.setCell ?_ (by first | (simp; done) | (simp; omega) | omega) _) | (refine Below.drew ?_) | (refine below_drewN ?_ _) | (refine Below.alloc ?_ (by first | (simp; done) | (simp; omega) | omega) _) | (refine Below.trans ?_ (Below.mono (by assumption) (by first | (simp; done) | (simp; omega) | omega)))))⟩
set_option maxRecDepth 100000 in
set_option maxHeartbeats 1600000 in
theorem cmF_any (x y : RunV) (w : World) : Calls Try.prog 23 #[.agg #[.int .i64 x.wk, .int .i64 x.mc, .int .i64 x.fr, .int .i64 x.to, .bool x.fl], .agg #[.int .i64 y.wk, .int .i64 y.mc, .int .i64 y.fr, .int .i64 y.to, .bool y.fl]] w fun e w' => e = .returned (.int .i64 (cmF x y)) ∧ Below w.heap.size w w' := by
  obtain ⟨xw, xm, xf, xt, xl⟩ := x
  obtain ⟨yw, ym, yf, yt, yl⟩ := y
  simp only
  go_enter Try.func23, Try.ntmps23
  go_upto_region 1 with fail
  refine wp_world (fun W hW => ?_)
  have B : Below w.heap.size w W := by rw [hW]; (repeat (first | exact Below.refl _ _ | assumption | (refine Below.setCell ?_ (by first | (simp; done) | (simp; omega) | omega) _) | (refine Below.drew ?_) | (refine below_drewN ?_ _) | (refine Below.alloc ?_ (by first | (simp; done) | (simp; omega) | omega) _) | (refine Below.trans ?_ (Below.mono (by assumption) (by first | (simp; done) | (simp; omega) | omega)))))
  have A0 : Blk W w.heap.size [.int .i64 xw, .int .i64 xm, .int .i64 xf, .int .i64 xt, .bool xl] := by rw [hW]; exact (Blk.new _ _ _ _ rfl).alloc _
  have I0 : Blk W (w.heap.size + 1) [.int .i64 yw, .int .i64 ym, .int .i64 yf, .int .i64 yt, .bool yl] := by rw [hW]; exact Blk.new _ _ _ _ (by simp)
  have HB := Lib.hid B
  have x1 := A0.c 1 _ rfl; have x2 := A0.c 2 _ rfl; have x3 := A0.c 3 _ rfl; have xl' := A0.lt
  have y1 := I0.c 1 _ rfl; have y2 := I0.c 2 _ rfl; have y3 := I0.c 3 _ rfl; have yl' := I0.lt
  clear hW B A0 I0
  refine wp_region_loose 15 (fun _ args u => ∃ a b, args = #[.int .i64 a, .int .i64 b] ∧ u = .int .i64 (sgI a b)) (by kernel_rfl) (by kernel_rfl) ?_
  simp only [List.take_succ_cons, List.take_zero, List.drop_succ_cons, List.drop_zero]
  iterate 3
    repeat (refine loose_wanted rfl (fun K hK => ?_); go_simp; refine hK _ ?_; clear hK K)
    refine loose_wanted rfl (fun K1 hK => ?_)
    go_simp
    refine ⟨fun p => (cmpI_any _ _ p.w).mono ?_, hK _ ?_⟩
    · rintro e w' ⟨rfl, rfl⟩
      exact ⟨_, rfl, by first | exact ⟨_, _, ⟨rfl, rfl⟩, rfl⟩ | (simp; done), p.h⟩
    clear hK K1
  repeat (refine loose_wanted rfl (fun K hK => ?_); go_simp; refine hK _ ?_; clear hK K)
  refine loose_nil (fun W5 hB5 => ?_)
  have HB5 := Lib.hid (HB.out.trans (hB5.mono HB.out.size))
  clear hB5 x1 x2 x3 y1 y2 y3 xl' yl' HB
  go_wp2_with (go_at_call 24; refine (orI_any _ _ _ _ _ (Blk.new _ _ _ _ rfl)).mono ?_; rintro e w' ⟨rfl, hb⟩; have HZ := Lib.hid hb; clear hb)
  go_ret
  have hb := HZ.out
  have h5 := HB5.out
  have hs := h5.size
  exact ⟨rfl, (h5.alloc hs _).trans (hb.mono (by simp; omega))⟩
end Go.Proofs.Ytkadinjhfldokaa
