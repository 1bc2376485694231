/- dyelaw2.LevelsMatch: its given statement, out of its walk. No condition. -/
import Derived.Test.YtmnmcmmhnbnndaaRows
import Derived.Test.YtmnmcmmhnbnndaaLawLm
import Derived.Test.YtmnmcmmhnbnndaaOpen
namespace Go.Proofs.Ytmnmcmmhnbnndaa.levelsMatch
open Go Go.RowKit Go.ChangeShapes Go.WideShapes Go.ChangeAt
open Go.ChangeMaps (open_string shut_string)

theorem own : ownKnob Try.prog.godebug = none := by kernel_rfl
theorem laidOut : laidOutB Try.prog = true := by kernel_rfl
set_option maxRecDepth 100000 in
theorem lifted (os : Os) (started : os.Started) (H : Type) (enc : TypeId × Value → H) :
    ReturnsInHanded {} Try.checked os 4 .any (Rows.levelsMatchSpec.pre6 enc Try.prog Try.f4 Rows.levelsMatchRow.domain false) (Rows.levelsMatchSpec.post enc Try.prog Try.f4 false true false false) := by
  refine returnsInHanded_of_change (C := Try.checked) own started (by kernel_rfl) Try.func4
    (ChangeSpec.witness6 (enc := enc) (C := Try.checked) false ⟨#[], #[.float .f32 0, .float .f32 0, .int .i64 0, .int .i64 0, .int .i64 0, .int .u32 0, .int .i64 0, .int .i64 0, .int .i64 0], []⟩ 8 (by kernel_rfl) (by kernel_rfl) (by kernel_rfl) (by kernel_rfl)) ?_
  intro W base args ds gs before hval0 hW hcnd _
  have hval : ∀ (j : Nat) t v, Try.f4.params[j]? = some t → args[j]? = some v → Value.okWide Try.prog W .any base t v := hval0
  have hW' := hW
  obtain ⟨p, q, hA0, hV, rfl, hfz, hnd⟩ := hW
  have hA : DataW.TrodAll enc Try.prog W 0 (fun _ => true) true Try.f4.params.toList args.toList ds p := hA0
  rw [Try.params4] at hA hval
  obtain ⟨vv0, vvs0, dd0, dds0, pp0, qq0, hargs, rfl, rfl, hh0, rr0⟩ := trodAll_cons hA
  obtain ⟨vv1, vvs1, dd1, dds1, pp1, qq1, rfl, rfl, rfl, hh1, rr1⟩ := trodAll_cons rr0
  obtain ⟨vv2, vvs2, dd2, dds2, pp2, qq2, rfl, rfl, rfl, hh2, rr2⟩ := trodAll_cons rr1
  obtain ⟨vv3, vvs3, dd3, dds3, pp3, qq3, rfl, rfl, rfl, hh3, rr3⟩ := trodAll_cons rr2
  obtain ⟨vv4, vvs4, dd4, dds4, pp4, qq4, rfl, rfl, rfl, hh4, rr4⟩ := trodAll_cons rr3
  obtain ⟨vv5, vvs5, dd5, dds5, pp5, qq5, rfl, rfl, rfl, hh5, rr5⟩ := trodAll_cons rr4
  obtain ⟨vv6, vvs6, dd6, dds6, pp6, qq6, rfl, rfl, rfl, hh6, rr6⟩ := trodAll_cons rr5
  obtain ⟨vv7, vvs7, dd7, dds7, pp7, qq7, rfl, rfl, rfl, hh7, rr7⟩ := trodAll_cons rr6
  obtain ⟨vv8, vvs8, dd8, dds8, pp8, qq8, rfl, rfl, rfl, hh8, rr8⟩ := trodAll_cons rr7
  obtain ⟨rfl, rfl, rfl⟩ := trodAll_nil rr8
  obtain rfl : args = #[vv0, vv1, vv2, vv3, vv4, vv5, vv6, vv7, vv8] := by cases args; simp_all
  obtain ⟨rfl, rfl⟩ := trodVars_none hV
  have lt0 : ∀ x ∈ pp0, x.block < W.heap.size := by obtain ⟨m, hm⟩ := hh0; exact DataW.trod_lt m _ _ _ hm
  have kk0 := hh0
  have lt1 : ∀ x ∈ pp1, x.block < W.heap.size := by obtain ⟨m, hm⟩ := hh1; exact DataW.trod_lt m _ _ _ hm
  have kk1 := hh1
  have lt2 : ∀ x ∈ pp2, x.block < W.heap.size := by obtain ⟨m, hm⟩ := hh2; exact DataW.trod_lt m _ _ _ hm
  have kk2 := hh2
  have lt3 : ∀ x ∈ pp3, x.block < W.heap.size := by obtain ⟨m, hm⟩ := hh3; exact DataW.trod_lt m _ _ _ hm
  have kk3 := hh3
  have lt4 : ∀ x ∈ pp4, x.block < W.heap.size := by obtain ⟨m, hm⟩ := hh4; exact DataW.trod_lt m _ _ _ hm
  have kk4 := hh4
  have lt5 : ∀ x ∈ pp5, x.block < W.heap.size := by obtain ⟨m, hm⟩ := hh5; exact DataW.trod_lt m _ _ _ hm
  have kk5 := hh5
  have lt6 : ∀ x ∈ pp6, x.block < W.heap.size := by obtain ⟨m, hm⟩ := hh6; exact DataW.trod_lt m _ _ _ hm
  have kk6 := hh6
  have lt7 : ∀ x ∈ pp7, x.block < W.heap.size := by obtain ⟨m, hm⟩ := hh7; exact DataW.trod_lt m _ _ _ hm
  have kk7 := hh7
  have lt8 : ∀ x ∈ pp8, x.block < W.heap.size := by obtain ⟨m, hm⟩ := hh8; exact DataW.trod_lt m _ _ _ hm
  have kk8 := hh8
  obtain ⟨v, rfl, vl⟩ := okWide_float' (k := .f32) Try.underlying38 (hval 0 38 vv0 rfl rfl)
  obtain ⟨o, rfl, ol⟩ := okWide_float' (k := .f32) Try.underlying38 (hval 1 38 vv1 rfl rfl)
  obtain ⟨n, rfl, nl, nu⟩ := okWide_int' (k := .i64) Try.underlying3 (hval 2 3 vv2 rfl rfl)
  obtain ⟨d, rfl, dl, du⟩ := okWide_int' (k := .i64) Try.underlying3 (hval 3 3 vv3 rfl rfl)
  obtain ⟨how, rfl, howl, howu⟩ := okWide_int' (k := .i64) Try.underlying3 (hval 4 3 vv4 rfl rfl)
  obtain ⟨s, rfl, sl, su⟩ := okWide_int' (k := .u32) Try.underlying41 (hval 5 41 vv5 rfl rfl)
  obtain ⟨x, rfl, xl, xu⟩ := okWide_int' (k := .i64) Try.underlying3 (hval 6 3 vv6 rfl rfl)
  obtain ⟨y, rfl, yl, yu⟩ := okWide_int' (k := .i64) Try.underlying3 (hval 7 3 vv7 rfl rfl)
  obtain ⟨c, rfl, cl, cu⟩ := okWide_int' (k := .i64) Try.underlying3 (hval 8 3 vv8 rfl rfl)
  clear hA0 hval0
  refine (lm_walk v o n d how s x y c W vl ol ⟨nl, nu⟩ ⟨dl, du⟩ ⟨howl, howu⟩ ⟨sl, su⟩ ⟨xl, xu⟩ ⟨yl, yu⟩ ⟨cl, cu⟩).mono fun e W' ⟨he, bel⟩ => ?_
  subst he
  exact ⟨_, rfl, _, _, _, [], _, [], hW', trodAll_mk1 (shut_bool Try.underlying4 _), (trodAll_cons_mk (Below.trod laidOut (by kernel_rfl) (of_decide_eq_true (by kernel_rfl)) kk0 bel lt0) (trodAll_cons_mk (Below.trod laidOut (by kernel_rfl) (of_decide_eq_true (by kernel_rfl)) kk1 bel lt1) (trodAll_cons_mk (Below.trod laidOut (by kernel_rfl) (of_decide_eq_true (by kernel_rfl)) kk2 bel lt2) (trodAll_cons_mk (Below.trod laidOut (by kernel_rfl) (of_decide_eq_true (by kernel_rfl)) kk3 bel lt3) (trodAll_cons_mk (Below.trod laidOut (by kernel_rfl) (of_decide_eq_true (by kernel_rfl)) kk4 bel lt4) (trodAll_cons_mk (Below.trod laidOut (by kernel_rfl) (of_decide_eq_true (by kernel_rfl)) kk5 bel lt5) (trodAll_cons_mk (Below.trod laidOut (by kernel_rfl) (of_decide_eq_true (by kernel_rfl)) kk6 bel lt6) (trodAll_cons_mk (Below.trod laidOut (by kernel_rfl) (of_decide_eq_true (by kernel_rfl)) kk7 bel lt7) (trodAll_cons_mk (Below.trod laidOut (by kernel_rfl) (of_decide_eq_true (by kernel_rfl)) kk8 bel lt8) trodAll_mk0))))))))), rfl, bel.frame _, fun h => by cases h⟩

theorem over : Rows.levelsMatchRow.holds Try.pinned (OpenSpec.ofChange Rows.levelsMatchSpec) :=
  OpenClaim.holds_of_wide 4 Try.f4 rfl rfl rfl rfl rfl rfl rfl ⟨rfl, rfl, rfl, rfl, rfl⟩ rfl rfl rfl rfl rfl (by kernel_rfl) Try.func4 (by kernel_rfl)
    (of_decide_eq_true (by kernel_rfl)) (by unfold Func.isWrapper; first | (rw [if_pos (by decide +kernel)]; kernel_rfl) | (rw [if_neg (by decide +kernel)]; exact ⟨rfl, rfl⟩))
    (fun os started H enc _ => lifted os started H enc)

/-- THE STATEMENT -/
theorem proved : Rows.LevelsMatchSaid := over
#print axioms proved
end Go.Proofs.Ytmnmcmmhnbnndaa.levelsMatch
