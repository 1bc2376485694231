/- dyelaw2.compiled: the same graph as node.Compile's. Conditions: what each theorem names. -/
import Derived.Test.YtbaocallhnehfaaGreatDoorPsC
import Derived.Test.YtbaocallhnehfaaGreatDoorPrS
set_option linter.unusedSimpArgs false
set_option linter.unusedVariables false
namespace Go.Proofs.YtbaocallhnehfaaGreatDoor
open Go Go.RowKit
theorem entNeedD : ∀ args w, (callFunc 23 args).run Tryz.prog w = .ok (.enter 23 args) w := body_enters Tryz.func23 (by kernel_rfl) rfl
set_option maxRecDepth 100000 in
set_option maxHeartbeats 6400000 in
theorem compiled_any (a : Option Addr) (c m jo : Nat) (S : Nat → StepD) (out : ByteArray) (w : World) (h : StepsAt w a c m S) (hE : pgE m S out.data.toList = 0) (hjo : posS S m out.data.toList = some jo) :
    Calls Tryz.prog 7 #[.agg #[.slice a m c, .string out]] w fun e w' => (∃ u, e = .returned (.agg #[u, .int .i64 ((needP S m m ps0 jo).2 : Int)]) ∧ NodesM w' (fun _ => False) u (needP S m m ps0 jo).1.G) ∧ Below w.heap.size w w' := by
  obtain ⟨hm0, hm1, hz, -⟩ := pgE_ok hE
  have HGS : Hid (GoodS S m) := Lib.hid ⟨hm1, hz, fun j hj => (h.s j hj).kb⟩
  have hjm := posS_lt hjo
  obtain rfl : out = (S jo).nm := bs_ext (posS_nm hjo)
  have HH := Lib.hid h
  have HJ := Lib.hid hjm
  obtain ⟨on, hon⟩ : ∃ on, on = (S jo).nm := ⟨_, rfl⟩
  have HON := Lib.hid hon
  rw [← hon]
  obtain ⟨T, hT⟩ : ∃ T, T = needP S m m ps0 jo := ⟨_, rfl⟩
  have HTT := Lib.hid hT
  rw [← hT]
  have hmm := @run_makeMap Tryz.prog
  have hent := entNeedD
  clear hT h hjo hjm hz hm1 hE hon
  go_enter Tryz.func7, Tryz.ntmps7
  go_upto_region 5 with fail
  refine wp_world (fun YW hY => ?_)
  obtain ⟨N, hN⟩ : ∃ N, N = w.heap.size := ⟨_, rfl⟩
  have HNG : Hid (NdH (fun b => b = N + 1) w YW (N + 1 + 1 + 1 + 1) N (N + 1 + 1 + 1 + 1 + 1) (N + 1 + 1) (N + 1 + 1 + 1) a c on S m ps0 (.slice none 0 0)) := Lib.hid (by
    refine ⟨by rw [hY]; (repeat (first | exact Below.refl _ _ | assumption | (refine Below.setCell ?_ (by first | (simp; done) | (simp; omega) | omega) _) | (refine Below.drew ?_) | (refine below_drewN ?_ _) | (refine Below.alloc ?_ (by first | (simp; done) | (simp; omega) | omega) _) | (refine Below.trans ?_ (Below.mono (by assumption) (by first | (simp; done) | (simp; omega) | omega))))), ?_, ?_, ?_, ?_, ?_, NodesM.nil _ _, fun b hb => by simp [Value.ownBlock] at hb, by omega, by omega⟩
    · rw [hY, ← hN]; exact (Blk.new _ _ _ _ (by simp [hN])).alloc _
    · rw [hY, ← hN]; exact (((((Blk.new _ _ _ _ (by simp [hN])).alloc _).alloc _).alloc _).alloc _).alloc _
    · rw [hY, ← hN]; exact Blk.new _ _ _ _ (by simp [hN])
    · rw [hY, ← hN]; exact (((Blk.new _ _ _ _ (by simp [hN])).alloc _).alloc _).alloc _
    · show MapS YW (N + 1 + 1 + 1) (cntM (fun _ => none) m) (mdS S m (fun _ => none))
      rw [cntM_none, hY]
      try rw [← hN]
      have h := (MapS.made (((w.alloc (.cells #[.slice a m c, .string on] 24)).alloc (.cells #[.slice none 0 0, .int .i64 0] 27)).alloc (.cells #[.slice none 0 0, .int .i64 0] 27))).congr (g := mdS S m (fun _ => none)) (fun l => (mdS_none S m l).symm)
      have h2 : MapS ((((w.alloc (.cells #[.slice a m c, .string on] 24)).alloc (.cells #[.slice none 0 0, .int .i64 0] 27)).alloc (.cells #[.slice none 0 0, .int .i64 0] 27)).alloc (.map #[] 0)) (N + 1 + 1 + 1) 0 (mdS S m (fun _ => none)) := by simpa [hN] using h
      exact (h2.past ((Below.refl _ _).alloc (Nat.le_refl _) _)).past ((Below.refl _ _).alloc (Nat.le_refl _) _))
  have HRS : Hid (Blk YW (N + 1) [.slice none 0 0, .int .i64 0]) := Lib.hid (by rw [hY, ← hN]; exact ((((Blk.new _ _ _ _ (by simp [hN])).alloc _).alloc _).alloc _).alloc _)
  have HNL := Lib.hid (And.intro hN HRS.out.lt)
  have hneed := needD_any HGS.out HH.out m jo ps0 (.slice none 0 0) YW (fun b => b = N + 1) HJ.out HJ.out ⟨(fun j r h => by cases h), (fun p hp => by unfold ps0 at hp; simp at hp), Nat.zero_le _⟩ (fun p hp => by unfold ps0 at hp; simp at hp) (fun b hb => by rw [hb]; exact HNL.out.2) (fun b hb => by rw [hb, hN]; omega) HNG.out
  rw [← HON.out] at hneed
  rw [← HTT.out] at hneed
  have HND := Lib.hid hneed
  have n0 := HNG.out.qf.c 0 _ rfl; have nl := HNG.out.qf.lt
  unfold needD at n0
  have p1 := HNG.out.qp.c 1 _ rfl; have pl := HNG.out.qp.lt
  try rw [← hN]
  clear hneed hY hN hmm
  go_upto_region 6 with (go_at_call 23; refine HND.out.mono ?_; rintro e w4 ⟨u4, rfl, hg4, ht4, hu4⟩; have g1 := hg4.qg.c 1 _ rfl; have gl := hg4.qg.lt; have gf := hg4.qg.f)
  refine wp_world (fun w5 hW5 => ?_)
  obtain ⟨ao4, cp4, rfl⟩ : ∃ a c, u4 = .slice a T.1.G.length c := by obtain ⟨ns, -, ⟨-, a, c, e, -⟩, -⟩ := hg4.gn; exact ⟨a, c, e⟩
  have hT5 : Tch (fun b => b = N + 1 + 1) w4 w5 := by rw [hW5]; exact (Tch.refl (fun b => b = N + 1 + 1) w4).set ⟨N + 1 + 1, 1, none⟩ _ rfl
  have hnr : ¬ TD (N + 1 + 1 + 1) (N + 1 + 1) (.slice none 0 0) (N + 1) := fun hx => by
    rcases hx with e | e | e
    · omega
    · omega
    · simp [Value.ownBlock] at e
  have H5 : Hid (Blk w5 (N + 1 + 1) [.slice ao4 T.1.G.length cp4, .int .i64 (T.2 : Int)] ∧ Blk w5 (N + 1) [.slice none 0 0, .int .i64 0] ∧ Below w.heap.size w w5 ∧ NodesM w5 (fun b => b = N + 1) (.slice ao4 T.1.G.length cp4) T.1.G ∧ (Value.slice ao4 T.1.G.length cp4).ownBlock ≠ some (N + 1)) := Lib.hid (by
    have h1 := HNL.out.1
    have hn4 : (Value.slice ao4 T.1.G.length cp4).ownBlock ≠ some (N + 1 + 1) := fun e => (hg4.su (N + 1 + 1) e).1 (.inr (.inr (.inr (.inl rfl))))
    refine ⟨by rw [hW5]; simpa using hg4.qg.set 1 (.int .i64 (T.2 : Int)), (HRS.out.tch ht4 hnr).tch hT5 (fun e => by omega), ?_, ?_, fun e => (hg4.su _ e).2.1 rfl⟩
    · exact ((Tch.of_below (S := fun _ => False) hg4.b).then hT5 (fun k hk e => by omega)).to_below (Nat.le_refl _) (fun _ hk => hk.elim)
    · exact (hg4.gn.tch hT5 (fun b _ hb => by cases hb; exact ⟨.inl (.inr (.inr (.inr (.inl rfl)))), hn4⟩)).mono (fun b hb => .inr hb))
  clear hW5 hT5 hg4 ht4 hu4 hnr g1 gl gf n0 nl p1 pl HND HNG HRS
  have g0 := H5.out.1.c 0 _ rfl; have g1 := H5.out.1.c 1 _ rfl; have gl := H5.out.1.lt
  have z0 := H5.out.2.1.c 0 _ rfl; have z1 := H5.out.2.1.c 1 _ rfl; have zl := H5.out.2.1.lt; have zf := H5.out.2.1.f
  go_wp2_with fail
  refine bodyPost_retN (v := .agg #[.slice ao4 T.1.G.length cp4, .int .i64 (T.2 : Int)]) (by simp [results, Tryz.results7, go_sem, z0, z1]) rfl (fun WF hWF => ?_)
  have hT6 : Tch (fun b => b = N + 1) w5 WF := by rw [hWF]; exact ((Tch.refl (fun b => b = N + 1) w5).set ⟨N + 1, 0, none⟩ _ rfl).set ⟨N + 1, 1, none⟩ _ rfl
  exact ⟨⟨_, rfl, (H5.out.2.2.2.1.tch hT6 (fun b _ hb => ⟨hb, fun e => by rw [hb] at e; exact H5.out.2.2.2.2 e⟩)).mono (fun b hb => hb.elim)⟩, below_own H5.out.2.2.1 hT6 (by have := HNL.out.1; omega)⟩
end Go.Proofs.YtbaocallhnehfaaGreatDoor
