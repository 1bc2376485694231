/- dyelaw2.CubesMeasure: its given statement, out of its walk. No condition. -/
import Derived.Test.YtmckkgbdlgldbaaRows
import Derived.Test.YtmckkgbdlgldbaaLawCmf
import Derived.Test.YtmckkgbdlgldbaaBO
namespace Go.Proofs.Ytmckkgbdlgldbaa.cubesMeasure
open Go Go.RowKit Go.ChangeShapes Go.WideShapes Go.ChangeAt
open Go.ChangeMaps (open_string shut_string)

theorem own : ownKnob Try.prog.godebug = none := by kernel_rfl
theorem laidOut : laidOutB Try.prog = true := by kernel_rfl
set_option maxRecDepth 100000 in
theorem lifted (os : Os) (started : os.Started) (H : Type) (enc : TypeId × Value → H) :
    ReturnsInHanded {} Try.checked os 8 .any (Rows.cubesMeasureSpec.pre6 enc Try.prog Try.f8 Rows.cubesMeasureRow.domain false) (Rows.cubesMeasureSpec.post enc Try.prog Try.f8 false true false false) := by
  refine returnsInHanded_of_change (C := Try.checked) own started (by kernel_rfl) Try.func8
    (ChangeSpec.witness6 (enc := enc) (C := Try.checked) false ⟨#[], #[.agg #[.int .i64 0, .float .f32 0, .float .f32 0, .slice none 0 0], .agg #[.int .i64 0, .float .f32 0, .float .f32 0, .slice none 0 0]], []⟩ 8 (by kernel_rfl) (by kernel_rfl) (by kernel_rfl) (by kernel_rfl)) ?_
  intro W base args ds gs before hval0 hW hcnd _
  have hval : ∀ (j : Nat) t v, Try.f8.params[j]? = some t → args[j]? = some v → Value.okWide Try.prog W .any base t v := hval0
  have hW' := hW
  obtain ⟨p, q, hA0, hV, rfl, hfz, hnd⟩ := hW
  have hA : DataW.TrodAll enc Try.prog W 0 (fun _ => true) true Try.f8.params.toList args.toList ds p := hA0
  rw [Try.params8] at hA hval
  obtain ⟨vv0, vvs0, dd0, dds0, pp0, qq0, hargs, rfl, rfl, hh0, rr0⟩ := trodAll_cons hA
  obtain ⟨vv1, vvs1, dd1, dds1, pp1, qq1, rfl, rfl, rfl, hh1, rr1⟩ := trodAll_cons rr0
  obtain ⟨rfl, rfl, rfl⟩ := trodAll_nil rr1
  obtain rfl : args = #[vv0, vv1] := by cases args; simp_all
  obtain ⟨rfl, rfl⟩ := trodVars_none hV
  have lt0 : ∀ x ∈ pp0, x.block < W.heap.size := by obtain ⟨m, hm⟩ := hh0; exact DataW.trod_lt m _ _ _ hm
  have kk0 := hh0
  have lt1 : ∀ x ∈ pp1, x.block < W.heap.size := by obtain ⟨m, hm⟩ := hh1; exact DataW.trod_lt m _ _ _ hm
  have kk1 := hh1
  obtain ⟨acs, rfl, aln, aok⟩ := agg_cells (us := [3, 38, 38, 25]) (by simp only [Try.underlying52]) (by kernel_rfl) (by kernel_rfl) (hval 0 52 vv0 rfl rfl)
  obtain ⟨aq0, am0, rfl, ah0⟩ := list1 aln
  obtain ⟨aq1, am1, rfl, ah1⟩ := list1 ah0
  obtain ⟨aq2, am2, rfl, ah2⟩ := list1 ah1
  obtain ⟨aq3, am3, rfl, ah3⟩ := list1 ah2
  obtain rfl := list0 ah3
  obtain ⟨a0, rfl, a0l, a0u⟩ := cell_int (k := .i64) Try.underlying3 (aok 0 3 _ rfl rfl)
  obtain ⟨a1, rfl, a1l⟩ := cell_float (k := .f32) Try.underlying38 (aok 1 38 _ rfl rfl)
  obtain ⟨a2, rfl, a2l⟩ := cell_float (k := .f32) Try.underlying38 (aok 2 38 _ rfl rfl)
  obtain ⟨a3a, a3n, a3c, rfl⟩ := cell_slice Try.underlying25 (aok 3 25 _ rfl rfl)
  obtain ⟨a3z, a3w⟩ : ∃ fs, IsFloats W a3a a3n a3c fs := by
    obtain ⟨fm, fh⟩ := hh0
    obtain ⟨fm2, fy2, fh2⟩ := trod_field (i := 3) (off := 3) (ts := 25) Try.underlying52 rfl fh
    have fe : Try.prog.cellsOf 25 = 1 := by kernel_rfl
    rw [fe] at fh2
    exact open_floats_slice Try.underlying25 Try.underlying38 (by kernel_rfl) (by simpa [Value.cells] using fh2)
  obtain ⟨bcs, rfl, bln, bok⟩ := agg_cells (us := [3, 38, 38, 25]) (by simp only [Try.underlying52]) (by kernel_rfl) (by kernel_rfl) (hval 1 52 vv1 rfl rfl)
  obtain ⟨bq0, bm0, rfl, bh0⟩ := list1 bln
  obtain ⟨bq1, bm1, rfl, bh1⟩ := list1 bh0
  obtain ⟨bq2, bm2, rfl, bh2⟩ := list1 bh1
  obtain ⟨bq3, bm3, rfl, bh3⟩ := list1 bh2
  obtain rfl := list0 bh3
  obtain ⟨b0, rfl, b0l, b0u⟩ := cell_int (k := .i64) Try.underlying3 (bok 0 3 _ rfl rfl)
  obtain ⟨b1, rfl, b1l⟩ := cell_float (k := .f32) Try.underlying38 (bok 1 38 _ rfl rfl)
  obtain ⟨b2, rfl, b2l⟩ := cell_float (k := .f32) Try.underlying38 (bok 2 38 _ rfl rfl)
  obtain ⟨b3a, b3n, b3c, rfl⟩ := cell_slice Try.underlying25 (bok 3 25 _ rfl rfl)
  obtain ⟨b3z, b3w⟩ : ∃ fs, IsFloats W b3a b3n b3c fs := by
    obtain ⟨fm, fh⟩ := hh1
    obtain ⟨fm2, fy2, fh2⟩ := trod_field (i := 3) (off := 3) (ts := 25) Try.underlying52 rfl fh
    have fe : Try.prog.cellsOf 25 = 1 := by kernel_rfl
    rw [fe] at fh2
    exact open_floats_slice Try.underlying25 Try.underlying38 (by kernel_rfl) (by simpa [Value.cells] using fh2)
  clear hA0 hval0
  refine (cme_walk a0 a1 a2 a3a a3n a3c a3z b0 b1 b2 b3a b3n b3c b3z W ⟨a0l, a0u⟩ a1l a2l a3w ⟨b0l, b0u⟩ b1l b2l b3w).mono fun e W' ⟨he, bel⟩ => ?_
  subst he
  exact ⟨_, rfl, _, _, _, [], _, [], hW', trodAll_mk1 (shut_bool Try.underlying4 _), (trodAll_cons_mk (Below.trod laidOut (by kernel_rfl) (of_decide_eq_true (by kernel_rfl)) kk0 bel lt0) (trodAll_cons_mk (Below.trod laidOut (by kernel_rfl) (of_decide_eq_true (by kernel_rfl)) kk1 bel lt1) trodAll_mk0)), rfl, bel.frame _, fun h => by cases h⟩

theorem over : Rows.cubesMeasureRow.holds Try.pinned (OpenSpec.ofChange Rows.cubesMeasureSpec) :=
  OpenClaim.holds_of_wide 8 Try.f8 rfl rfl rfl rfl rfl rfl rfl ⟨rfl, rfl, rfl, rfl, rfl⟩ rfl rfl rfl rfl rfl (by kernel_rfl) Try.func8 (by kernel_rfl)
    (of_decide_eq_true (by kernel_rfl)) (by unfold Func.isWrapper; first | (rw [if_pos (by decide +kernel)]; kernel_rfl) | (rw [if_neg (by decide +kernel)]; exact ⟨rfl, rfl⟩))
    (fun os started H enc _ => lifted os started H enc)

/-- THE STATEMENT -/
theorem proved : Rows.CubesMeasureSaid := over
#print axioms proved
end Go.Proofs.Ytmckkgbdlgldbaa.cubesMeasure
