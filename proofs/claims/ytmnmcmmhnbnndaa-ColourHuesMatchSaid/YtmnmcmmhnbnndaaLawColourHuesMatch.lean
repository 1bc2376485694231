/- dyelaw2.ColourHuesMatch: its given statement, out of its walk. No condition. -/
import Derived.Test.YtmnmcmmhnbnndaaRows
import Derived.Test.YtmnmcmmhnbnndaaLawCh
import Derived.Test.YtmnmcmmhnbnndaaOpen
namespace Go.Proofs.Ytmnmcmmhnbnndaa.colourHuesMatch
open Go Go.RowKit Go.ChangeShapes Go.WideShapes Go.ChangeAt
open Go.ChangeMaps (open_string shut_string)

theorem own : ownKnob Try.prog.godebug = none := by kernel_rfl
theorem laidOut : laidOutB Try.prog = true := by kernel_rfl
set_option maxRecDepth 100000 in
theorem lifted (os : Os) (started : os.Started) (H : Type) (enc : TypeId × Value → H) :
    ReturnsInHanded {} Try.checked os 14 .any (Rows.colourHuesMatchSpec.pre6 enc Try.prog Try.f14 Rows.colourHuesMatchRow.domain false) (Rows.colourHuesMatchSpec.post enc Try.prog Try.f14 false true false false) := by
  refine returnsInHanded_of_change (C := Try.checked) own started (by kernel_rfl) Try.func14
    (ChangeSpec.witness6 (enc := enc) (C := Try.checked) false ⟨#[], #[.agg #[.float .f32 0, .float .f32 0, .float .f32 0, .float .f32 0], .agg #[.float .f32 0, .float .f32 0, .float .f32 0], .float .f32 0, .float .f32 0, .float .f32 0, .float .f32 0], []⟩ 8 (by kernel_rfl) (by kernel_rfl) (by kernel_rfl) (by kernel_rfl)) ?_
  intro W base args ds gs before hval0 hW hcnd _
  have hval : ∀ (j : Nat) t v, Try.f14.params[j]? = some t → args[j]? = some v → Value.okWide Try.prog W .any base t v := hval0
  have hW' := hW
  obtain ⟨p, q, hA0, hV, rfl, hfz, hnd⟩ := hW
  have hA : DataW.TrodAll enc Try.prog W 0 (fun _ => true) true Try.f14.params.toList args.toList ds p := hA0
  rw [Try.params14] at hA hval
  obtain ⟨vv0, vvs0, dd0, dds0, pp0, qq0, hargs, rfl, rfl, hh0, rr0⟩ := trodAll_cons hA
  obtain ⟨vv1, vvs1, dd1, dds1, pp1, qq1, rfl, rfl, rfl, hh1, rr1⟩ := trodAll_cons rr0
  obtain ⟨vv2, vvs2, dd2, dds2, pp2, qq2, rfl, rfl, rfl, hh2, rr2⟩ := trodAll_cons rr1
  obtain ⟨vv3, vvs3, dd3, dds3, pp3, qq3, rfl, rfl, rfl, hh3, rr3⟩ := trodAll_cons rr2
  obtain ⟨vv4, vvs4, dd4, dds4, pp4, qq4, rfl, rfl, rfl, hh4, rr4⟩ := trodAll_cons rr3
  obtain ⟨vv5, vvs5, dd5, dds5, pp5, qq5, rfl, rfl, rfl, hh5, rr5⟩ := trodAll_cons rr4
  obtain ⟨rfl, rfl, rfl⟩ := trodAll_nil rr5
  obtain rfl : args = #[vv0, vv1, vv2, vv3, vv4, vv5] := by cases args; simp_all
  obtain ⟨rfl, rfl⟩ := trodVars_none hV
  have lt0 : ∀ x ∈ pp0, x.block < W.heap.size := by obtain ⟨m, hm⟩ := hh0; exact DataW.trod_lt m _ _ _ hm
  have kk0 := hh0
  have lt1 : ∀ x ∈ pp1, x.block < W.heap.size := by obtain ⟨m, hm⟩ := hh1; exact DataW.trod_lt m _ _ _ hm
  have kk1 := hh1
  have lt2 : ∀ x ∈ pp2, x.block < W.heap.size := by obtain ⟨m, hm⟩ := hh2; exact DataW.trod_lt m _ _ _ hm
  have kk2 := hh2
  have lt3 : ∀ x ∈ pp3, x.block < W.heap.size := by obtain ⟨m, hm⟩ := hh3; exact DataW.trod_lt m _ _ _ hm
  have kk3 := hh3
  have lt4 : ∀ x ∈ pp4, x.block < W.heap.size := by obtain ⟨m, hm⟩ := hh4; exact DataW.trod_lt m _ _ _ hm
  have kk4 := hh4
  have lt5 : ∀ x ∈ pp5, x.block < W.heap.size := by obtain ⟨m, hm⟩ := hh5; exact DataW.trod_lt m _ _ _ hm
  have kk5 := hh5
  obtain ⟨pcs, rfl, pln, pok⟩ := agg_cells (us := [38, 38, 38, 38]) (by simp only [Try.underlying55]) (by kernel_rfl) (by kernel_rfl) (hval 0 55 vv0 rfl rfl)
  obtain ⟨pq0, pm0, rfl, ph0⟩ := list1 pln
  obtain ⟨pq1, pm1, rfl, ph1⟩ := list1 ph0
  obtain ⟨pq2, pm2, rfl, ph2⟩ := list1 ph1
  obtain ⟨pq3, pm3, rfl, ph3⟩ := list1 ph2
  obtain rfl := list0 ph3
  obtain ⟨p0, rfl, p0l⟩ := cell_float (k := .f32) Try.underlying38 (pok 0 38 _ rfl rfl)
  obtain ⟨p1, rfl, p1l⟩ := cell_float (k := .f32) Try.underlying38 (pok 1 38 _ rfl rfl)
  obtain ⟨p2, rfl, p2l⟩ := cell_float (k := .f32) Try.underlying38 (pok 2 38 _ rfl rfl)
  obtain ⟨p3, rfl, p3l⟩ := cell_float (k := .f32) Try.underlying38 (pok 3 38 _ rfl rfl)
  obtain ⟨ucs, rfl, uln, uok⟩ := agg_cells (us := [38, 38, 38]) (by simp only [Try.underlying70]) (by kernel_rfl) (by kernel_rfl) (hval 1 70 vv1 rfl rfl)
  obtain ⟨uq0, um0, rfl, uh0⟩ := list1 uln
  obtain ⟨uq1, um1, rfl, uh1⟩ := list1 uh0
  obtain ⟨uq2, um2, rfl, uh2⟩ := list1 uh1
  obtain rfl := list0 uh2
  obtain ⟨u0, rfl, u0l⟩ := cell_float (k := .f32) Try.underlying38 (uok 0 38 _ rfl rfl)
  obtain ⟨u1, rfl, u1l⟩ := cell_float (k := .f32) Try.underlying38 (uok 1 38 _ rfl rfl)
  obtain ⟨u2, rfl, u2l⟩ := cell_float (k := .f32) Try.underlying38 (uok 2 38 _ rfl rfl)
  obtain ⟨h, rfl, hl⟩ := okWide_float' (k := .f32) Try.underlying38 (hval 2 38 vv2 rfl rfl)
  obtain ⟨s, rfl, sl⟩ := okWide_float' (k := .f32) Try.underlying38 (hval 3 38 vv3 rfl rfl)
  obtain ⟨v, rfl, vl⟩ := okWide_float' (k := .f32) Try.underlying38 (hval 4 38 vv4 rfl rfl)
  obtain ⟨b, rfl, bl⟩ := okWide_float' (k := .f32) Try.underlying38 (hval 5 38 vv5 rfl rfl)
  clear hA0 hval0
  refine (ch_walk p0 p1 p2 p3 u0 u1 u2 h s v b W hl).mono fun e W' ⟨he, bel⟩ => ?_
  subst he
  exact ⟨_, rfl, _, _, _, [], _, [], hW', trodAll_mk1 (shut_bool Try.underlying4 _), (trodAll_cons_mk (Below.trod laidOut (by kernel_rfl) (of_decide_eq_true (by kernel_rfl)) kk0 bel lt0) (trodAll_cons_mk (Below.trod laidOut (by kernel_rfl) (of_decide_eq_true (by kernel_rfl)) kk1 bel lt1) (trodAll_cons_mk (Below.trod laidOut (by kernel_rfl) (of_decide_eq_true (by kernel_rfl)) kk2 bel lt2) (trodAll_cons_mk (Below.trod laidOut (by kernel_rfl) (of_decide_eq_true (by kernel_rfl)) kk3 bel lt3) (trodAll_cons_mk (Below.trod laidOut (by kernel_rfl) (of_decide_eq_true (by kernel_rfl)) kk4 bel lt4) (trodAll_cons_mk (Below.trod laidOut (by kernel_rfl) (of_decide_eq_true (by kernel_rfl)) kk5 bel lt5) trodAll_mk0)))))), rfl, bel.frame _, fun h => by cases h⟩

theorem over : Rows.colourHuesMatchRow.holds Try.pinned (OpenSpec.ofChange Rows.colourHuesMatchSpec) :=
  OpenClaim.holds_of_wide 14 Try.f14 rfl rfl rfl rfl rfl rfl rfl ⟨rfl, rfl, rfl, rfl, rfl⟩ rfl rfl rfl rfl rfl (by kernel_rfl) Try.func14 (by kernel_rfl)
    (of_decide_eq_true (by kernel_rfl)) (by unfold Func.isWrapper; first | (rw [if_pos (by decide +kernel)]; kernel_rfl) | (rw [if_neg (by decide +kernel)]; exact ⟨rfl, rfl⟩))
    (fun os started H enc _ => lifted os started H enc)

/-- THE STATEMENT -/
theorem proved : Rows.ColourHuesMatchSaid := over
#print axioms proved
end Go.Proofs.Ytmnmcmmhnbnndaa.colourHuesMatch
