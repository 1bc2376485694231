/- Rows of runs in a block of their own; slices.swapRangeCmpFunc and rotateCmpFunc over runs. Conditions: the rows lie within the slice. -/
import Derived.Test.YtkadinjhfldokaaSoQ
import Derived.Test.YtkadinjhfldokaaOpW
import Derived.Test.YtkadinjhfldokaaCA
import Derived.Test.YtkadinjhfldokaaHeldU
import Derived.Deep.RegionLaw
import Derived.BigRegion
namespace Go.Proofs.Ytkadinjhfldokaa
open Go Go.RowKit
/-- A run as a value. -/
def RunV.val (x : RunV) : Value := .agg #[.int .i64 x.wk, .int .i64 x.mc, .int .i64 x.fr, .int .i64 x.to, .bool x.fl]
/-- A row of runs: five cells each. -/
structure VecR (w : World) (b n : Nat) (q : Nat → RunV) : Prop where
  lt : b < w.heap.size
  c0 : ∀ j, j < n → w.cell? ⟨b, j * 5, none⟩ = some (.int .i64 (q j).wk)
  c1 : ∀ j, j < n → w.cell? ⟨b, j * 5 + 1, none⟩ = some (.int .i64 (q j).mc)
  c2 : ∀ j, j < n → w.cell? ⟨b, j * 5 + 2, none⟩ = some (.int .i64 (q j).fr)
  c3 : ∀ j, j < n → w.cell? ⟨b, j * 5 + 3, none⟩ = some (.int .i64 (q j).to)
  c4 : ∀ j, j < n → w.cell? ⟨b, j * 5 + 4, none⟩ = some (.bool (q j).fl)
  f : ∀ o, w.frozen? ⟨b, o, none⟩ = false
theorem VecR.block {W w : World} {b n : Nat} {q : Nat → RunV} (k : VecR W b n q) (hs : W.heap.size ≤ w.heap.size) (hb : w.heap[b]? = W.heap[b]?) : VecR w b n q :=
  have e : ∀ o, w.cell? ⟨b, o, none⟩ = W.cell? ⟨b, o, none⟩ := fun _ => World.cell?_of_block hb
  ⟨Nat.lt_of_lt_of_le k.lt hs, fun j hj => (e _).trans (k.c0 j hj), fun j hj => (e _).trans (k.c1 j hj), fun j hj => (e _).trans (k.c2 j hj), fun j hj => (e _).trans (k.c3 j hj), fun j hj => (e _).trans (k.c4 j hj), fun _ => (World.frozen?_of_block hb).trans (k.f _)⟩
theorem VecR.past {W w : World} {b n : Nat} {q : Nat → RunV} (k : VecR W b n q) (h : Below W.heap.size W w) : VecR w b n q := k.block h.size (h.block b k.lt)
theorem VecR.far {w : World} {b n : Nat} {q : Nat → RunV} (k : VecR w b n q) (a : Addr) (t : Value) (hq : a.block ≠ b) : VecR (w.setCell a t) b n q := k.block (by simp [World.setCell]) (Below.heap_setCell _ _ _ _ (Ne.symm hq))
/-- One run is set, cell by cell. -/
def setRun (w : World) (b i : Nat) (x : RunV) : World :=
  ((((w.setCell ⟨b, i * 5, none⟩ (.int .i64 x.wk)).setCell ⟨b, i * 5 + 1, none⟩ (.int .i64 x.mc)).setCell ⟨b, i * 5 + 2, none⟩ (.int .i64 x.fr)).setCell ⟨b, i * 5 + 3, none⟩ (.int .i64 x.to)).setCell ⟨b, i * 5 + 4, none⟩ (.bool x.fl)
theorem set_other {w : World} {b o o' : Nat} {v : Value} (h : o ≠ o') : (w.setCell ⟨b, o, none⟩ v).cell? ⟨b, o', none⟩ = w.cell? ⟨b, o', none⟩ := World.cell?_setCell_other _ _ _ _ (by first | (simp; done) | (simp; omega) | omega)
theorem set_same {w : World} {b o : Nat} {u v : Value} (h : w.cell? ⟨b, o, none⟩ = some u) : (w.setCell ⟨b, o, none⟩ v).cell? ⟨b, o, none⟩ = some v := World.cell?_setCell_same _ _ _ h
theorem set_get {w : World} {b o o' : Nat} {u v : Value} (h : w.cell? ⟨b, o', none⟩ = some u) : (w.setCell ⟨b, o, none⟩ v).cell? ⟨b, o', none⟩ = some (if o = o' then v else u) := by
  by_cases e : o = o'
  · subst e; rw [if_pos rfl]; exact set_same h
  · rw [if_neg e, set_other e]; exact h
theorem setRun_get {w : World} {b i o : Nat} {x : RunV} {u : Value} (h : w.cell? ⟨b, o, none⟩ = some u) : (setRun w b i x).cell? ⟨b, o, none⟩ = some (if i * 5 + 4 = o then .bool x.fl else if i * 5 + 3 = o then .int .i64 x.to else if i * 5 + 2 = o then .int .i64 x.fr else if i * 5 + 1 = o then .int .i64 x.mc else if i * 5 = o then .int .i64 x.wk else u) :=
  set_get (set_get (set_get (set_get (set_get h))))
theorem setRun_size (w : World) (b i : Nat) (x : RunV) : (setRun w b i x).heap.size = w.heap.size := by unfold setRun; simp [World.setCell]
theorem setRun_frozen (w : World) (b i : Nat) (x : RunV) (a : Addr) : (setRun w b i x).frozen? a = w.frozen? a := by
  unfold setRun; rw [World.frozen?_setCell, World.frozen?_setCell, World.frozen?_setCell, World.frozen?_setCell, World.frozen?_setCell]
theorem below_setRun {m : Nat} {w wr : World} {b i : Nat} {x : RunV} (h : Below m w wr) (hb : m ≤ b) : Below m w (setRun wr b i x) := by
  unfold setRun
  exact ((((h.setCell hb _).setCell hb _).setCell hb _).setCell hb _).setCell hb _
theorem VecR.set {w : World} {b n : Nat} {q : Nat → RunV} (k : VecR w b n q) (i : Nat) (x : RunV) (hi : i < n) : VecR (setRun w b i x) b n (fun j => if j = i then x else q j) := by
  refine ⟨by rw [setRun_size]; exact k.lt, ?_, ?_, ?_, ?_, ?_, fun o => by rw [setRun_frozen]; exact k.f o⟩
  all_goals
    intro j hj
    first | rw [setRun_get (k.c0 j hj)] | rw [setRun_get (k.c1 j hj)] | rw [setRun_get (k.c2 j hj)] | rw [setRun_get (k.c3 j hj)] | rw [setRun_get (k.c4 j hj)]
    congr 1
    by_cases e : j = i
    · subst e
      rw [if_pos rfl]
      (repeat' split) <;> first | rfl | (exfalso; omega)
    · rw [if_neg e]
      (repeat' split) <;> first | rfl | (exfalso; omega)
/-- A row of runs in a block of its own; what lies below the block is as it was; each is so. -/
structure SrW (Pr : RunV → Prop) (w : World) (g n : Nat) (wr : World) (q : Nat → RunV) : Prop where
  v : VecR wr g n q
  b : Below g w wr
  k : ∀ j, j < n → Pr (q j)
variable {Pr : RunV → Prop}
theorem SrW.past {w : World} {g n : Nat} {wr wy : World} {q : Nat → RunV} (k : SrW Pr w g n wr q) (h : Below wr.heap.size wr wy) : SrW Pr w g n wy q := ⟨k.v.past h, k.b.trans (h.mono (Nat.le_of_lt k.v.lt)), k.k⟩
theorem SrW.set {w : World} {g n : Nat} {wr : World} {q : Nat → RunV} (k : SrW Pr w g n wr q) (i : Nat) (x : RunV) (hi : i < n) (hx : Pr x) : SrW Pr w g n (setRun wr g i x) (fun j => if j = i then x else q j) := ⟨k.v.set i x hi, below_setRun k.b (Nat.le_refl _), fun j hj => by
    show Pr (if j = i then x else q j)
    split
    · exact hx
    · exact k.k j hj⟩
theorem SrW.swap {w : World} {g n : Nat} {wr : World} {q : Nat → RunV} (k : SrW Pr w g n wr q) {i j : Nat} (hi : i < n) (hj : j < n) : SrW Pr w g n (setRun (setRun wr g i (q j)) g j (q i)) (swp q i j) := by
  have h := (k.set i (q j) hi (k.k j hj)).set j (q i) hj (k.k i hi)
  exact h
theorem SrW.drew {w : World} {g n : Nat} {wr : World} {q : Nat → RunV} (k : SrW Pr w g n wr q) : SrW Pr w g n wr.drew q := k.past ((Below.refl _ _).drew)
theorem SrW.congr {w : World} {g n : Nat} {wr : World} {q q' : Nat → RunV} (k : SrW Pr w g n wr q) (h : q = q') : SrW Pr w g n wr q' := h ▸ k
theorem so_exit {next : Exit → Act → World → Prop} {e : Exit} {a : Act} {w : World} (h : ∀ W, W = w → next e a W) : next e a w := h w rfl
set_option maxRecDepth 100000 in
set_option maxHeartbeats 3200000 in
theorem swrR_any (w : World) (g n cap a b c : Nat) (cf : Value) (q : Nat → RunV) (wr : World) (hn : n ≤ 1073741824) (h1 : a + c ≤ b) (h2 : b + c ≤ n) (hw : SrW Pr w g n wr q) :
    Calls Try.prog 49 #[.slice (some ⟨g, 0, none⟩) n cap, .int .i64 a, .int .i64 b, .int .i64 c, cf] wr fun e w' => e = .returned (.tuple #[]) ∧ SrW Pr w g n w' (swr q a b c) := by
  have H0 := Lib.hid hw
  clear hw
  go_enter Try.func49, Try.ntmps49
  go_wp2_with fail
  go_loopw [10] (fun s10 wr => ∃ i : Nat, s10 = .int .i64 i ∧ i ≤ c ∧ SrW Pr w g n wr (swr q a b i)) (fun s10 _ => c - (intOf s10).toNat)
  case atStart => exact ⟨0, rfl, Nat.zero_le _, H0.out.congr (by funext x; unfold swr; (repeat' split) <;> first | rfl | (exfalso; omega))⟩
  case round =>
    obtain ⟨i, rfl, hi, hr⟩ := hrel
    have HR := Lib.hid hr
    by_cases hic : i < c
    · have hic' : (i : Int) < (c : Int) := by omega
      obtain ⟨A, hA⟩ : ∃ A : Nat, A = a + i := ⟨_, rfl⟩
      obtain ⟨B, hB⟩ : ∃ B : Nat, B = b + i := ⟨_, rfl⟩
      have hA1 : (a : Int) + (i : Int) = (A : Int) := by omega
      have hB1 : (b : Int) + (i : Int) = (B : Int) := by omega
      have hA2 : A < n := by omega
      have hB2 : B < n := by omega
      have hAB : A ≠ B := by omega
      obtain ⟨qq, hqq⟩ : ∃ qq, qq = swr q a b i := ⟨_, rfl⟩
      rw [← hqq] at hr
      obtain ⟨x, hx⟩ : ∃ x, x = qq A := ⟨_, rfl⟩
      obtain ⟨y, hy⟩ : ∃ y, y = qq B := ⟨_, rfl⟩
      have a0 := hr.v.c0 A hA2; have a1 := hr.v.c1 A hA2; have a2 := hr.v.c2 A hA2; have a3 := hr.v.c3 A hA2; have a4 := hr.v.c4 A hA2
      have b0 := hr.v.c0 B hB2; have b1 := hr.v.c1 B hB2; have b2 := hr.v.c2 B hB2; have b3 := hr.v.c3 B hB2; have b4 := hr.v.c4 B hB2
      have cl := hr.v.lt
      have cfr := hr.v.f
      rw [← hx] at a0 a1 a2 a3 a4
      rw [← hy] at b0 b1 b2 b3 b4
      have HQ := Lib.hid (And.intro hqq (And.intro hx (And.intro hy (And.intro hA hB))))
      clear hqq hx hy hA hB hr
      go_upto_region 3 with fail
      refine wp_region_C (fun w' => w' = wr.drew) 21 24 (by kernel_rfl) rfl ?_
      refine wpAnyC_takeU (i := 0) (v := .slice (some ⟨g, 0, none⟩) n cap) rfl (by kernel_rfl) (fun _ _ _ h => h) (.inl ⟨rfl, fun w' _ => ?_⟩) (fun _ => rfl) ?_
      · go_simp
        all_goals (first | rfl | (rw [IntKind.wrap_i64]; omega))
      refine wpAnyC_act (by rfl) ?_
      simp only [Act.put, List.setIfInBounds_toArray, List.set_cons_zero, List.set_cons_succ]
      refine wpAnyC_takeU (i := 1) (v := .int .i64 a) rfl (by kernel_rfl) (fun _ _ _ h => h) (.inl ⟨rfl, fun w' _ => ?_⟩) (fun _ => rfl) ?_
      · go_simp
        all_goals (first | rfl | (rw [IntKind.wrap_i64]; omega))
      refine wpAnyC_act (by rfl) ?_
      simp only [Act.put, List.setIfInBounds_toArray, List.set_cons_zero, List.set_cons_succ]
      refine wpAnyC_takeU (i := 2) (v := .int .i64 i) rfl (by kernel_rfl) (fun _ _ _ h => h) (.inl ⟨rfl, fun w' _ => ?_⟩) (fun _ => rfl) ?_
      · go_simp
        all_goals (first | rfl | (rw [IntKind.wrap_i64]; omega))
      refine wpAnyC_act (by rfl) ?_
      simp only [Act.put, List.setIfInBounds_toArray, List.set_cons_zero, List.set_cons_succ]
      refine wpAnyC_takeU (i := 3) (v := .int .i64 A) rfl (by kernel_rfl) (fun _ _ _ h => h) (.inl ⟨rfl, fun w' _ => ?_⟩) (fun _ => rfl) ?_
      · go_simp
        all_goals (first | rfl | (rw [IntKind.wrap_i64]; omega))
      refine wpAnyC_act (by rfl) ?_
      simp only [Act.put, List.setIfInBounds_toArray, List.set_cons_zero, List.set_cons_succ]
      refine wpAnyC_takeU (i := 4) (v := .slice (some ⟨g, 0, none⟩) n cap) rfl (by kernel_rfl) (fun _ _ _ h => h) (.inl ⟨rfl, fun w' _ => ?_⟩) (fun _ => rfl) ?_
      · go_simp
        all_goals (first | rfl | (rw [IntKind.wrap_i64]; omega))
      refine wpAnyC_act (by rfl) ?_
      simp only [Act.put, List.setIfInBounds_toArray, List.set_cons_zero, List.set_cons_succ]
      refine wpAnyC_takeU (i := 5) (v := .int .i64 b) rfl (by kernel_rfl) (fun _ _ _ h => h) (.inl ⟨rfl, fun w' _ => ?_⟩) (fun _ => rfl) ?_
      · go_simp
        all_goals (first | rfl | (rw [IntKind.wrap_i64]; omega))
      refine wpAnyC_act (by rfl) ?_
      simp only [Act.put, List.setIfInBounds_toArray, List.set_cons_zero, List.set_cons_succ]
      refine wpAnyC_takeU (i := 6) (v := .int .i64 i) rfl (by kernel_rfl) (fun _ _ _ h => h) (.inl ⟨rfl, fun w' _ => ?_⟩) (fun _ => rfl) ?_
      · go_simp
        all_goals (first | rfl | (rw [IntKind.wrap_i64]; omega))
      refine wpAnyC_act (by rfl) ?_
      simp only [Act.put, List.setIfInBounds_toArray, List.set_cons_zero, List.set_cons_succ]
      refine wpAnyC_takeU (i := 7) (v := .int .i64 B) rfl (by kernel_rfl) (fun _ _ _ h => h) (.inl ⟨rfl, fun w' _ => ?_⟩) (fun _ => rfl) ?_
      · go_simp
        all_goals (first | rfl | (rw [IntKind.wrap_i64]; omega))
      refine wpAnyC_act (by rfl) ?_
      simp only [Act.put, List.setIfInBounds_toArray, List.set_cons_zero, List.set_cons_succ]
      refine wpAnyC_takeU (i := 8) (v := .slice (some ⟨g, 0, none⟩) n cap) rfl (by kernel_rfl) (fun _ _ _ h => h) (.inl ⟨rfl, fun w' _ => ?_⟩) (fun _ => rfl) ?_
      · go_simp
        all_goals (first | rfl | (rw [IntKind.wrap_i64]; omega))
      refine wpAnyC_act (by rfl) ?_
      simp only [Act.put, List.setIfInBounds_toArray, List.set_cons_zero, List.set_cons_succ]
      refine wpAnyC_takeU (i := 9) (v := .int .i64 b) rfl (by kernel_rfl) (fun _ _ _ h => h) (.inl ⟨rfl, fun w' _ => ?_⟩) (fun _ => rfl) ?_
      · go_simp
        all_goals (first | rfl | (rw [IntKind.wrap_i64]; omega))
      refine wpAnyC_act (by rfl) ?_
      simp only [Act.put, List.setIfInBounds_toArray, List.set_cons_zero, List.set_cons_succ]
      refine wpAnyC_takeU (i := 10) (v := .int .i64 i) rfl (by kernel_rfl) (fun _ _ _ h => h) (.inl ⟨rfl, fun w' _ => ?_⟩) (fun _ => rfl) ?_
      · go_simp
        all_goals (first | rfl | (rw [IntKind.wrap_i64]; omega))
      refine wpAnyC_act (by rfl) ?_
      simp only [Act.put, List.setIfInBounds_toArray, List.set_cons_zero, List.set_cons_succ]
      refine wpAnyC_takeU (i := 11) (v := .int .i64 B) rfl (by kernel_rfl) (fun _ _ _ h => h) (.inl ⟨rfl, fun w' _ => ?_⟩) (fun _ => rfl) ?_
      · go_simp
        all_goals (first | rfl | (rw [IntKind.wrap_i64]; omega))
      refine wpAnyC_act (by rfl) ?_
      simp only [Act.put, List.setIfInBounds_toArray, List.set_cons_zero, List.set_cons_succ]
      refine wpAnyC_takeU (i := 12) (v := .pointer (some ⟨g, B * 5, none⟩)) rfl (by kernel_rfl) (fun _ _ _ h => h) (.inl ⟨rfl, fun w' _ => ?_⟩) (fun _ => rfl) ?_
      · go_simp
        all_goals (first | rfl | (rw [IntKind.wrap_i64]; omega))
      refine wpAnyC_act (by rfl) ?_
      simp only [Act.put, List.setIfInBounds_toArray, List.set_cons_zero, List.set_cons_succ]
      refine wpAnyC_take (i := 13) (v := .agg #[.int .i64 y.wk, .int .i64 y.mc, .int .i64 y.fr, .int .i64 y.to, .bool y.fl]) rfl (by kernel_rfl) (by kernel_rfl) (fun _ _ _ h => h) (.inl ⟨rfl, fun w' hw' => ?_⟩) rfl ?_
      · subst hw'
        go_simp
        all_goals (first | rfl | (rw [IntKind.wrap_i64]; omega))
      refine wpAnyC_act (by rfl) ?_
      simp only [Act.put, List.setIfInBounds_toArray, List.set_cons_zero, List.set_cons_succ]
      refine wpAnyC_takeU (i := 14) (v := .slice (some ⟨g, 0, none⟩) n cap) rfl (by kernel_rfl) (fun _ _ _ h => h) (.inl ⟨rfl, fun w' _ => ?_⟩) (fun _ => rfl) ?_
      · go_simp
        all_goals (first | rfl | (rw [IntKind.wrap_i64]; omega))
      refine wpAnyC_act (by rfl) ?_
      simp only [Act.put, List.setIfInBounds_toArray, List.set_cons_zero, List.set_cons_succ]
      refine wpAnyC_takeU (i := 15) (v := .int .i64 a) rfl (by kernel_rfl) (fun _ _ _ h => h) (.inl ⟨rfl, fun w' _ => ?_⟩) (fun _ => rfl) ?_
      · go_simp
        all_goals (first | rfl | (rw [IntKind.wrap_i64]; omega))
      refine wpAnyC_act (by rfl) ?_
      simp only [Act.put, List.setIfInBounds_toArray, List.set_cons_zero, List.set_cons_succ]
      refine wpAnyC_takeU (i := 16) (v := .int .i64 i) rfl (by kernel_rfl) (fun _ _ _ h => h) (.inl ⟨rfl, fun w' _ => ?_⟩) (fun _ => rfl) ?_
      · go_simp
        all_goals (first | rfl | (rw [IntKind.wrap_i64]; omega))
      refine wpAnyC_act (by rfl) ?_
      simp only [Act.put, List.setIfInBounds_toArray, List.set_cons_zero, List.set_cons_succ]
      refine wpAnyC_takeU (i := 17) (v := .int .i64 A) rfl (by kernel_rfl) (fun _ _ _ h => h) (.inl ⟨rfl, fun w' _ => ?_⟩) (fun _ => rfl) ?_
      · go_simp
        all_goals (first | rfl | (rw [IntKind.wrap_i64]; omega))
      refine wpAnyC_act (by rfl) ?_
      simp only [Act.put, List.setIfInBounds_toArray, List.set_cons_zero, List.set_cons_succ]
      refine wpAnyC_takeU (i := 18) (v := .pointer (some ⟨g, A * 5, none⟩)) rfl (by kernel_rfl) (fun _ _ _ h => h) (.inl ⟨rfl, fun w' _ => ?_⟩) (fun _ => rfl) ?_
      · go_simp
        all_goals (first | rfl | (rw [IntKind.wrap_i64]; omega))
      refine wpAnyC_act (by rfl) ?_
      simp only [Act.put, List.setIfInBounds_toArray, List.set_cons_zero, List.set_cons_succ]
      refine wpAnyC_take (i := 19) (v := .agg #[.int .i64 x.wk, .int .i64 x.mc, .int .i64 x.fr, .int .i64 x.to, .bool x.fl]) rfl (by kernel_rfl) (by kernel_rfl) (fun _ _ _ h => h) (.inl ⟨rfl, fun w' hw' => ?_⟩) rfl ?_
      · subst hw'
        go_simp
        all_goals (first | rfl | (rw [IntKind.wrap_i64]; omega))
      refine wpAnyC_act (by rfl) ?_
      simp only [Act.put, List.setIfInBounds_toArray, List.set_cons_zero, List.set_cons_succ]
      refine wpAnyC_one (i := 20) rfl (by kernel_rfl) (fun K hK => ?_)
      go_simp
      refine hK _ _ (fun _ => rfl) ?_
      clear hK K
      refine wpAnyC_one (i := 21) rfl (by kernel_rfl) (fun K hK => ?_)
      go_simp
      refine hK _ _ (fun h => by rw [getD_setSelf] at h; cases h) ?_
      clear hK K
      refine wpAnyC_one (i := 22) rfl (by kernel_rfl) (fun K hK => ?_)
      go_simp
      refine hK _ _ (fun h => by rw [getD_setC (by decide), getD_setSelf] at h; cases h) ?_
      clear hK K
      refine wpAnyC_one (i := 23) rfl (by kernel_rfl) (fun K hK => ?_)
      go_simp
      refine hK _ _ (fun h => by rw [getD_setC (by decide), getD_setC (by decide), getD_setSelf] at h; cases h) ?_
      clear hK K
      refine wpAnyC_done (by kernel_rfl) ?_
      refine so_exit (fun W hW => ?_)
      have HW : Hid (SrW Pr w g n W (swr q a b (i + 1))) := by
        obtain ⟨q1, q2, q3, q4, q5⟩ := HQ.out
        have h := (HR.out.congr q1.symm).swap hA2 hB2
        rw [← q2, ← q3] at h
        rw [hW]
        refine SrW.congr (q := swp qq A B) h.drew ?_
        rw [q1, q4, q5, swr_step q (by omega)]
      clear hW HR
      go_wp2_with fail
      go_roundw
      case rel => exact ⟨i + 1, by first | rfl | go_num, by omega, HW.out⟩
      case measure => simp [intOf]; omega
    · obtain rfl : i = c := by omega
      clear hr
      go_wp2_with fail
      exact bodyPost_end (v := .tuple #[]) (by simp [results, Try.results49, go_sem]) rfl ⟨rfl, HR.out⟩
set_option maxRecDepth 100000 in
set_option maxHeartbeats 3200000 in
theorem rotR_any (w : World) (g n cap a m b : Nat) (cf : Value) (q : Nat → RunV) (wr : World) (hn : n ≤ 1073741824) (h1 : a < m) (h2 : m < b) (h3 : b ≤ n) (hw : SrW Pr w g n wr q) :
    Calls Try.prog 48 #[.slice (some ⟨g, 0, none⟩) n cap, .int .i64 a, .int .i64 m, .int .i64 b, cf] wr fun e w' => e = .returned (.tuple #[]) ∧ SrW Pr w g n w' (rot q a m b) := by
  have H0 := Lib.hid hw
  clear hw
  have i1 : (m : Int) - (a : Int) = ((m - a : Nat) : Int) := by omega
  have i2 : (b : Int) - (m : Int) = ((b - m : Nat) : Int) := by omega
  go_enter Try.func48, Try.ntmps48
  go_wp2_with fail
  clear i1 i2
  go_loopw [10, 11] (fun s10 s11 wr => ∃ i j : Nat, ∃ qq, s10 = .int .i64 i ∧ s11 = .int .i64 j ∧ 0 < i ∧ 0 < j ∧ i ≤ m ∧ m + j ≤ n ∧ rot qq (m - i) m (m + j) = rot q a m b ∧ SrW Pr w g n wr qq) (fun s10 s11 _ => (intOf s10).toNat + (intOf s11).toNat)
  case atStart => exact ⟨m - a, b - m, q, rfl, rfl, by omega, by omega, by omega, by omega, by congr 1 <;> omega, H0.out⟩
  case round =>
    obtain ⟨i, j, qq, rfl, rfl, hi0, hj0, hi, hj, hq, hr⟩ := hrel
    have HR := Lib.hid (And.intro hq hr)
    clear hq hr H0
    have hi' : (0 : Int) < i := by omega
    have hj' : (0 : Int) < j := by omega
    have him : (i : Int) ≤ m := by omega
    have hmn : (m : Int) ≤ 1073741824 := by omega
    have hjn : (j : Int) ≤ 1073741824 := by omega
    rcases Nat.lt_trichotomy i j with hlt | heq | hgt
    · have c1 : ¬ (i : Int) = (j : Int) := by omega
      have c2 : ¬ (j : Int) < (i : Int) := by omega
      have e1 : (m : Int) - (i : Int) = ((m - i : Nat) : Int) := by omega
      have e2 : (m : Int) + (j : Int) - (i : Int) = ((m + j - i : Nat) : Int) := by omega
      have e3 : (j : Int) - (i : Int) = ((j - i : Nat) : Int) := by omega
      go_wp2_with fail
      refine (swrR_any w g n cap (m - i) (m + j - i) i cf qq _ hn (by omega) (by omega) HR.out.2).mono ?_
      rintro e w' ⟨rfl, h⟩
      have HW := Lib.hid h
      clear h
      go_wp2_with fail
      go_roundw
      case rel => exact ⟨i, j - i, _, rfl, by first | rfl | go_num, hi0, by omega, hi, by omega, (rot_small qq hi hlt).trans HR.out.1, HW.out⟩
      case measure => simp [intOf]; omega
    · subst heq
      have e1 : (m : Int) - (i : Int) = ((m - i : Nat) : Int) := by omega
      go_wp2_with fail
      refine (swrR_any w g n cap (m - i) m i cf qq _ hn (by omega) (by omega) HR.out.2).mono ?_
      rintro e w' ⟨rfl, h⟩
      have HW := Lib.hid (h.congr ((rot_same qq hi).trans HR.out.1))
      clear h
      go_wp2_with fail
      exact bodyPost_end (v := .tuple #[]) (by simp [results, Try.results48, go_sem]) rfl ⟨rfl, HW.out⟩
    · have c1 : ¬ (i : Int) = (j : Int) := by omega
      have c2 : (j : Int) < (i : Int) := by omega
      have e1 : (m : Int) - (i : Int) = ((m - i : Nat) : Int) := by omega
      have e3 : (i : Int) - (j : Int) = ((i - j : Nat) : Int) := by omega
      go_wp2_with fail
      refine (swrR_any w g n cap (m - i) m j cf qq _ hn (by omega) (by omega) HR.out.2).mono ?_
      rintro e w' ⟨rfl, h⟩
      have HW := Lib.hid h
      clear h
      go_wp2_with fail
      go_roundw
      case rel => exact ⟨i - j, j, _, by first | rfl | go_num, rfl, by omega, hj0, by omega, hj, (rot_big qq hi hgt).trans HR.out.1, HW.out⟩
      case measure => simp [intOf]; omega
end Go.Proofs.Ytkadinjhfldokaa
