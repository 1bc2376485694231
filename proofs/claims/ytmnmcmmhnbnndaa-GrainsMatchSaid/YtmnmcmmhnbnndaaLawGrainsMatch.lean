/- dyelaw2.GrainsMatch: its given statement, out of its walk. No condition. -/
import Derived.Test.YtmnmcmmhnbnndaaRows
import Derived.Test.YtmnmcmmhnbnndaaLawGrB
import Derived.Test.YtmnmcmmhnbnndaaOpen
import Derived.Test.YtmnmcmmhnbnndaaOpenB
namespace Go.Proofs.Ytmnmcmmhnbnndaa.grainsMatch
open Go Go.RowKit Go.ChangeShapes Go.WideShapes Go.ChangeAt
open Go.ChangeMaps (open_string shut_string)

theorem own : ownKnob Try.prog.godebug = none := by kernel_rfl
theorem laidOut : laidOutB Try.prog = true := by kernel_rfl
set_option maxRecDepth 100000 in
theorem lifted (os : Os) (started : os.Started) (H : Type) (enc : TypeId × Value → H) :
    ReturnsInHanded {} Try.checked os 12 .any (Rows.grainsMatchSpec.pre6 enc Try.prog Try.f12 Rows.grainsMatchRow.domain false) (Rows.grainsMatchSpec.post enc Try.prog Try.f12 false true false false) := by
  refine returnsInHanded_of_change (C := Try.checked) own started (by kernel_rfl) Try.func12
    (ChangeSpec.witness6 (enc := enc) (C := Try.checked) false ⟨#[], #[.agg #[.int .u32 0, .int .i64 0, .float .f32 0, .float .f32 0, .bool false], .int .i64 0, .int .i64 0, .int .i64 0, .agg #[.float .f32 0, .float .f32 0, .float .f32 0, .float .f32 0], .agg #[.int .i64 0, .int .i64 0, .int .i64 0, .int .i64 0, .slice none 0 0]], []⟩ 8 (by kernel_rfl) (by kernel_rfl) (by kernel_rfl) (by kernel_rfl)) ?_
  intro W base args ds gs before hval0 hW hcnd _
  have hval : ∀ (j : Nat) t v, Try.f12.params[j]? = some t → args[j]? = some v → Value.okWide Try.prog W .any base t v := hval0
  have hW' := hW
  obtain ⟨p, q, hA0, hV, rfl, hfz, hnd⟩ := hW
  have hA : DataW.TrodAll enc Try.prog W 0 (fun _ => true) true Try.f12.params.toList args.toList ds p := hA0
  rw [Try.params12] at hA hval
  obtain ⟨vv0, vvs0, dd0, dds0, pp0, qq0, hargs, rfl, rfl, hh0, rr0⟩ := trodAll_cons hA
  obtain ⟨vv1, vvs1, dd1, dds1, pp1, qq1, rfl, rfl, rfl, hh1, rr1⟩ := trodAll_cons rr0
  obtain ⟨vv2, vvs2, dd2, dds2, pp2, qq2, rfl, rfl, rfl, hh2, rr2⟩ := trodAll_cons rr1
  obtain ⟨vv3, vvs3, dd3, dds3, pp3, qq3, rfl, rfl, rfl, hh3, rr3⟩ := trodAll_cons rr2
  obtain ⟨vv4, vvs4, dd4, dds4, pp4, qq4, rfl, rfl, rfl, hh4, rr4⟩ := trodAll_cons rr3
  obtain ⟨vv5, vvs5, dd5, dds5, pp5, qq5, rfl, rfl, rfl, hh5, rr5⟩ := trodAll_cons rr4
  obtain ⟨rfl, rfl, rfl⟩ := trodAll_nil rr5
  obtain rfl : args = #[vv0, vv1, vv2, vv3, vv4, vv5] := by cases args; simp_all
  obtain ⟨rfl, rfl⟩ := trodVars_none hV
  have lt0 : ∀ x ∈ pp0, x.block < W.heap.size := by obtain ⟨m, hm⟩ := hh0; exact DataW.trod_lt m _ _ _ hm
  have kk0 := hh0
  have lt1 : ∀ x ∈ pp1, x.block < W.heap.size := by obtain ⟨m, hm⟩ := hh1; exact DataW.trod_lt m _ _ _ hm
  have kk1 := hh1
  have lt2 : ∀ x ∈ pp2, x.block < W.heap.size := by obtain ⟨m, hm⟩ := hh2; exact DataW.trod_lt m _ _ _ hm
  have kk2 := hh2
  have lt3 : ∀ x ∈ pp3, x.block < W.heap.size := by obtain ⟨m, hm⟩ := hh3; exact DataW.trod_lt m _ _ _ hm
  have kk3 := hh3
  have lt4 : ∀ x ∈ pp4, x.block < W.heap.size := by obtain ⟨m, hm⟩ := hh4; exact DataW.trod_lt m _ _ _ hm
  have kk4 := hh4
  have lt5 : ∀ x ∈ pp5, x.block < W.heap.size := by obtain ⟨m, hm⟩ := hh5; exact DataW.trod_lt m _ _ _ hm
  have kk5 := hh5
  obtain ⟨gcs, rfl, gln, gok⟩ := agg_cells (us := [41, 3, 38, 38, 4]) (by simp only [Try.underlying113]) (by kernel_rfl) (by kernel_rfl) (hval 0 113 vv0 rfl rfl)
  obtain ⟨gq0, gm0, rfl, gh0⟩ := list1 gln
  obtain ⟨gq1, gm1, rfl, gh1⟩ := list1 gh0
  obtain ⟨gq2, gm2, rfl, gh2⟩ := list1 gh1
  obtain ⟨gq3, gm3, rfl, gh3⟩ := list1 gh2
  obtain ⟨gq4, gm4, rfl, gh4⟩ := list1 gh3
  obtain rfl := list0 gh4
  obtain ⟨g0, rfl, g0l, g0u⟩ := cell_int (k := .u32) Try.underlying41 (gok 0 41 _ rfl rfl)
  obtain ⟨g1, rfl, g1l, g1u⟩ := cell_int (k := .i64) Try.underlying3 (gok 1 3 _ rfl rfl)
  obtain ⟨g2, rfl, g2l⟩ := cell_float (k := .f32) Try.underlying38 (gok 2 38 _ rfl rfl)
  obtain ⟨g3, rfl, g3l⟩ := cell_float (k := .f32) Try.underlying38 (gok 3 38 _ rfl rfl)
  obtain ⟨g4, rfl⟩ := cell_bool Try.underlying4 (gok 4 4 _ rfl rfl)
  obtain ⟨num, rfl, numl, numu⟩ := okWide_int' (k := .i64) Try.underlying3 (hval 1 3 vv1 rfl rfl)
  obtain ⟨px, rfl, pxl, pxu⟩ := okWide_int' (k := .i64) Try.underlying3 (hval 2 3 vv2 rfl rfl)
  obtain ⟨py, rfl, pyl, pyu⟩ := okWide_int' (k := .i64) Try.underlying3 (hval 3 3 vv3 rfl rfl)
  obtain ⟨pcs, rfl, pln, pok⟩ := agg_cells (us := [38, 38, 38, 38]) (by simp only [Try.underlying55]) (by kernel_rfl) (by kernel_rfl) (hval 4 55 vv4 rfl rfl)
  obtain ⟨pq0, pm0, rfl, ph0⟩ := list1 pln
  obtain ⟨pq1, pm1, rfl, ph1⟩ := list1 ph0
  obtain ⟨pq2, pm2, rfl, ph2⟩ := list1 ph1
  obtain ⟨pq3, pm3, rfl, ph3⟩ := list1 ph2
  obtain rfl := list0 ph3
  obtain ⟨p0, rfl, p0l⟩ := cell_float (k := .f32) Try.underlying38 (pok 0 38 _ rfl rfl)
  obtain ⟨p1, rfl, p1l⟩ := cell_float (k := .f32) Try.underlying38 (pok 1 38 _ rfl rfl)
  obtain ⟨p2, rfl, p2l⟩ := cell_float (k := .f32) Try.underlying38 (pok 2 38 _ rfl rfl)
  obtain ⟨p3, rfl, p3l⟩ := cell_float (k := .f32) Try.underlying38 (pok 3 38 _ rfl rfl)
  obtain ⟨frcs, rfl, frln, frok⟩ := agg_cells (us := [3, 3, 3, 3, 25]) (by simp only [Try.underlying27]) (by kernel_rfl) (by kernel_rfl) (hval 5 27 vv5 rfl rfl)
  obtain ⟨frq0, frm0, rfl, frh0⟩ := list1 frln
  obtain ⟨frq1, frm1, rfl, frh1⟩ := list1 frh0
  obtain ⟨frq2, frm2, rfl, frh2⟩ := list1 frh1
  obtain ⟨frq3, frm3, rfl, frh3⟩ := list1 frh2
  obtain ⟨frq4, frm4, rfl, frh4⟩ := list1 frh3
  obtain rfl := list0 frh4
  obtain ⟨fr0, rfl, fr0l, fr0u⟩ := cell_int (k := .i64) Try.underlying3 (frok 0 3 _ rfl rfl)
  obtain ⟨fr1, rfl, fr1l, fr1u⟩ := cell_int (k := .i64) Try.underlying3 (frok 1 3 _ rfl rfl)
  obtain ⟨fr2, rfl, fr2l, fr2u⟩ := cell_int (k := .i64) Try.underlying3 (frok 2 3 _ rfl rfl)
  obtain ⟨fr3, rfl, fr3l, fr3u⟩ := cell_int (k := .i64) Try.underlying3 (frok 3 3 _ rfl rfl)
  obtain ⟨fr4a, fr4n, fr4c, rfl⟩ := cell_slice Try.underlying25 (frok 4 25 _ rfl rfl)
  obtain ⟨fr4z, fr4w⟩ : ∃ fs, IsFloats W fr4a fr4n fr4c fs := by
    obtain ⟨fm, fh⟩ := hh5
    obtain ⟨fm2, fy2, fh2⟩ := trod_field (i := 1) (off := 4) (ts := 25) Try.underlying27 rfl fh
    have fe : Try.prog.cellsOf 25 = 1 := by kernel_rfl
    rw [fe] at fh2
    exact open_floats_slice Try.underlying25 Try.underlying38 (by kernel_rfl) (by simpa [Value.cells] using fh2)
  clear hA0 hval0
  refine (gr_walk g0 g1 g2 g3 g4 num px py p0 p1 p2 p3 fr0 fr1 fr2 fr3 fr4a fr4n fr4c fr4z W ⟨g0l, g0u⟩ ⟨g1l, g1u⟩ g2l g3l ⟨numl, numu⟩ ⟨pxl, pxu⟩ ⟨pyl, pyu⟩ p0l p1l p2l p3l ⟨fr0l, fr0u⟩ ⟨fr1l, fr1u⟩ ⟨fr2l, fr2u⟩ ⟨fr3l, fr3u⟩ fr4w).mono fun e W' ⟨he, bel⟩ => ?_
  subst he
  exact ⟨_, rfl, _, _, _, [], _, [], hW', trodAll_mk1 (shut_bool Try.underlying4 _), (trodAll_cons_mk (Below.trod laidOut (by kernel_rfl) (of_decide_eq_true (by kernel_rfl)) kk0 bel lt0) (trodAll_cons_mk (Below.trod laidOut (by kernel_rfl) (of_decide_eq_true (by kernel_rfl)) kk1 bel lt1) (trodAll_cons_mk (Below.trod laidOut (by kernel_rfl) (of_decide_eq_true (by kernel_rfl)) kk2 bel lt2) (trodAll_cons_mk (Below.trod laidOut (by kernel_rfl) (of_decide_eq_true (by kernel_rfl)) kk3 bel lt3) (trodAll_cons_mk (Below.trod laidOut (by kernel_rfl) (of_decide_eq_true (by kernel_rfl)) kk4 bel lt4) (trodAll_cons_mk (Below.trod laidOut (by kernel_rfl) (of_decide_eq_true (by kernel_rfl)) kk5 bel lt5) trodAll_mk0)))))), rfl, bel.frame _, fun h => by cases h⟩

theorem over : Rows.grainsMatchRow.holds Try.pinned (OpenSpec.ofChange Rows.grainsMatchSpec) :=
  OpenClaim.holds_of_wide 12 Try.f12 rfl rfl rfl rfl rfl rfl rfl ⟨rfl, rfl, rfl, rfl, rfl⟩ rfl rfl rfl rfl rfl (by kernel_rfl) Try.func12 (by kernel_rfl)
    (of_decide_eq_true (by kernel_rfl)) (by unfold Func.isWrapper; first | (rw [if_pos (by decide +kernel)]; kernel_rfl) | (rw [if_neg (by decide +kernel)]; exact ⟨rfl, rfl⟩))
    (fun os started H enc _ => lifted os started H enc)

/-- THE STATEMENT -/
theorem proved : Rows.GrainsMatchSaid := over
#print axioms proved
end Go.Proofs.Ytmnmcmmhnbnndaa.grainsMatch
