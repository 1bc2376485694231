/- node.Compile at any program. Conditions: its steps can be read; the library's variables read as listed (LibW). -/
import Derived.Test.YtbaocallhnehfaaGreatDoorPrI
import Derived.Test.YtbaocallhnehfaaGreatDoorQE
set_option linter.unusedSimpArgs false
set_option linter.unusedVariables false
namespace Go.Proofs.YtbaocallhnehfaaGreatDoor
open Go Go.RowKit
theorem NodesM.mono {X X' : Nat → Prop} {w : World} {u : Value} {G : List PN} (h : NodesM w X u G) (hX : ∀ b, X' b → X b) : NodesM w X' u G := by
  obtain ⟨ns, h1, h2, h3⟩ := h
  exact ⟨ns, h1, h2, fun i nd p hi hp => (h3 i nd p hi hp).weak (fun b _ hx => by rcases hx with hx | hx; exact .inl (hX b hx); exact .inr hx)⟩
theorem cntM_none : ∀ n, cntM (fun _ => none) n = 0
  | 0 => rfl
  | n + 1 => by unfold cntM; rw [cntM_none n]; rfl
theorem mdS_none (S : Nat → StepD) (n : Nat) (l : List UInt8) : mdS S n (fun _ => none) l = none := by
  unfold mdS; cases posS S n l <;> rfl
theorem spS_put {S : Nat → StepD} {i : Nat} (h : posS S i (S i).nm.data.toList = none) : ∀ l, putS (spS S i) (S i).nm.data.toList (stV (S i)) l = spS S (i + 1) l := fun l => by
  unfold putS spS
  rw [posS_succ h]
  by_cases e : l = (S i).nm.data.toList
  · rw [if_pos e, if_pos e]; rfl
  · rw [if_neg e, if_neg e]
theorem pgE_ok {m : Nat} {S : Nat → StepD} {out : List UInt8} (h : pgE m S out = 0) : m ≠ 0 ∧ m ≤ 100 ∧ fstN (stE S) m = 0 ∧ ∃ j, posS S m out = some j := by
  unfold pgE at h
  split at h
  · exact absurd h (by decide)
  rename_i h0
  split at h
  · exact absurd h (by decide)
  rename_i h1
  by_cases e : fstN (stE S) m = 0
  · rw [e, fst2_0] at h
    refine ⟨h0, by omega, e, ?_⟩
    cases hp : posS S m out with
    | none => rw [hp] at h; simp at h
    | some j => exact ⟨j, rfl⟩
  · rw [fst2_n e] at h; exact absurd h e
set_option maxRecDepth 100000 in
set_option maxHeartbeats 3200000 in
theorem Compile_no (a : Option Addr) (c m : Nat) (S : Nat → StepD) (out : ByteArray) (w : World) (hout : out.size ≤ maxLen) (h : StepsAt w a c m S) (hE : pgE m S out.data.toList ≠ 0) :
    Calls Tryz.prog 4 #[.agg #[.slice a m c, .string out]] w fun e w' => e = .returned (.tuple #[.agg #[.slice none 0 0, .int .i64 0], .int .i64 (pgE m S out.data.toList)]) ∧ Below w.heap.size w w' := by
  have HCK : Hid (∀ w', Below w.heap.size w w' → Calls Tryz.prog 13 #[.agg #[.slice a m c, .string out]] w' fun e w'' => e = .returned (.int .i64 (pgE m S out.data.toList)) ∧ Below w'.heap.size w' w'') := Lib.hid (fun w' hb => CheckProgram_any a c m S out w' hout (h.past hb))
  obtain ⟨E, hEE⟩ : ∃ E, E = pgE m S out.data.toList := ⟨_, rfl⟩
  rw [← hEE] at HCK hE
  rw [← hEE]
  have hE2 : (E != 0) = true := bne_iff_ne.2 hE
  clear h hout hEE
  go_enter Tryz.func4, Tryz.ntmps4
  go_upto_region 2 with (go_at_call 13; refine (HCK.out _ (by (repeat (first | exact Below.refl _ _ | assumption | (refine Below.setCell ?_ (by first | (simp; done) | (simp; omega) | omega) _) | (refine Below.drew ?_) | (refine below_drewN ?_ _) | (refine Below.alloc ?_ (by first | (simp; done) | (simp; omega) | omega) _) | (refine Below.trans ?_ (Below.mono (by assumption) (by first | (simp; done) | (simp; omega) | omega))))))).mono ?_; rintro e w1 ⟨rfl, hb1⟩)
  have H1 : Hid (Blk w1 (w.heap.size + 1) [.slice none 0 0, .int .i64 0] ∧ Below w.heap.size w w1) := Lib.hid ⟨(Blk.new (w.alloc (.cells #[.slice a m c, .string out] 24)) [.slice none 0 0, .int .i64 0] 27 (w.heap.size + 1) (by simp)).past hb1, by (repeat (first | exact Below.refl _ _ | assumption | (refine Below.setCell ?_ (by first | (simp; done) | (simp; omega) | omega) _) | (refine Below.drew ?_) | (refine below_drewN ?_ _) | (refine Below.alloc ?_ (by first | (simp; done) | (simp; omega) | omega) _) | (refine Below.trans ?_ (Below.mono (by assumption) (by first | (simp; done) | (simp; omega) | omega)))))⟩
  clear hb1
  have z0 := H1.out.1.c 0 _ rfl; have z1 := H1.out.1.c 1 _ rfl; have zl := H1.out.1.lt; have zf := H1.out.1.f
  go_wp2_with fail
  refine bodyPost_retN (v := .tuple #[.agg #[.slice none 0 0, .int .i64 0], .int .i64 E]) (by simp [results, Tryz.results4, go_sem, z0, z1]) rfl (fun WF hWF => ⟨rfl, ?_⟩)
  have hT6 : Tch (fun b => b = w.heap.size + 1) w1 WF := by rw [hWF]; exact ((Tch.refl (fun b => b = w.heap.size + 1) w1).set ⟨w.heap.size + 1, 0, none⟩ _ rfl).set ⟨w.heap.size + 1, 1, none⟩ _ rfl
  exact below_own H1.out.2 hT6 (by omega)
def ps0 : PS := ⟨[], fun _ => none⟩
set_option maxRecDepth 100000 in
set_option maxHeartbeats 6400000 in
theorem Compile_yes (a : Option Addr) (c m jo : Nat) (S : Nat → StepD) (out : ByteArray) (w : World) (hout : out.size ≤ maxLen) (h : StepsAt w a c m S) (hE : pgE m S out.data.toList = 0) (hjo : posS S m out.data.toList = some jo) (hL : LibW w) :
    Calls Tryz.prog 4 #[.agg #[.slice a m c, .string out]] w fun e w' => (∃ u, e = .returned (.tuple #[.agg #[u, .int .i64 ((needP S m m ps0 jo).2 : Int)], .int .i64 0]) ∧ NodesM w' (fun _ => False) u (needP S m m ps0 jo).1.G) ∧ Below w.heap.size w w' := by
  obtain ⟨hm0, hm1, hz, -⟩ := pgE_ok hE
  have HGS : Hid (GoodS S m) := Lib.hid ⟨hm1, hz, fun j hj => (h.s j hj).kb⟩
  have hjm := posS_lt hjo
  obtain rfl : out = (S jo).nm := bs_ext (posS_nm hjo)
  have HH := Lib.hid h
  have HL := Lib.hid hL
  have HJ := Lib.hid hjm
  have HZ := Lib.hid hz
  have hmc : m ≤ c := h.r.lc
  have hcm : c ≤ 9223372036854775807 := by have := h.r.lm; unfold maxLen at this; omega
  have HM1 := Lib.hid hm1
  have HCK : Hid (∀ w', Below w.heap.size w w' → Calls Tryz.prog 13 #[.agg #[.slice a m c, .string (S jo).nm]] w' fun e w'' => e = .returned (.int .i64 0) ∧ Below w'.heap.size w' w'') := Lib.hid (fun w' hb => by rw [← hE]; exact CheckProgram_any a c m S _ w' hout (h.past hb))
  obtain ⟨on, hon⟩ : ∃ on, on = (S jo).nm := ⟨_, rfl⟩
  have HON := Lib.hid hon
  rw [← hon] at HCK
  rw [← hon]
  obtain ⟨T, hT⟩ : ∃ T, T = needP S m m ps0 jo := ⟨_, rfl⟩
  have HTT := Lib.hid hT
  rw [← hT]
  have hmm := @run_makeMap Tryz.prog
  have hent := entNeed
  clear hT h hL hjo hjm hz hm1 hE hout hon
  go_enter Tryz.func4, Tryz.ntmps4
  go_upto_region 4 with (go_at_call 13; refine (HCK.out _ (by (repeat (first | exact Below.refl _ _ | assumption | (refine Below.setCell ?_ (by first | (simp; done) | (simp; omega) | omega) _) | (refine Below.drew ?_) | (refine below_drewN ?_ _) | (refine Below.alloc ?_ (by first | (simp; done) | (simp; omega) | omega) _) | (refine Below.trans ?_ (Below.mono (by assumption) (by first | (simp; done) | (simp; omega) | omega))))))).mono ?_; rintro e w1 ⟨rfl, hb1⟩)
  have H1 : Hid (Blk w1 w.heap.size [.slice a m c, .string on] ∧ Blk w1 (w.heap.size + 1) [.slice none 0 0, .int .i64 0] ∧ Below w.heap.size w w1) := Lib.hid ⟨((Blk.new w [.slice a m c, .string on] 24 _ rfl).alloc (.cells #[.slice none 0 0, .int .i64 0] 27)).past hb1, (Blk.new (w.alloc (.cells #[.slice a m c, .string on] 24)) [.slice none 0 0, .int .i64 0] 27 (w.heap.size + 1) (by simp)).past hb1, by (repeat (first | exact Below.refl _ _ | assumption | (refine Below.setCell ?_ (by first | (simp; done) | (simp; omega) | omega) _) | (refine Below.drew ?_) | (refine below_drewN ?_ _) | (refine Below.alloc ?_ (by first | (simp; done) | (simp; omega) | omega) _) | (refine Below.trans ?_ (Below.mono (by assumption) (by first | (simp; done) | (simp; omega) | omega)))))⟩
  clear hb1 HCK
  go_upto_region 5 with fail
  refine wp_world (fun V hV => ?_)
  obtain ⟨ms, hms⟩ : ∃ ms, ms = w1.heap.size := ⟨_, rfl⟩
  have hb2 : Below w1.heap.size w1 V := by rw [hV]; (repeat (first | exact Below.refl _ _ | assumption | (refine Below.setCell ?_ (by first | (simp; done) | (simp; omega) | omega) _) | (refine Below.drew ?_) | (refine below_drewN ?_ _) | (refine Below.alloc ?_ (by first | (simp; done) | (simp; omega) | omega) _) | (refine Below.trans ?_ (Below.mono (by assumption) (by first | (simp; done) | (simp; omega) | omega)))))
  have HV : Hid (Below w1.heap.size w1 V ∧ Blk V (ms + 1) [.map (some ms)] ∧ MapS V ms 0 (spS S 0) ∧ w1.heap.size = ms) := Lib.hid (by
    refine ⟨hb2, ?_, ?_, hms.symm⟩
    · rw [hV, hms]; exact Blk.new _ _ _ _ (by simp)
    · rw [hV, hms]; exact ((MapS.made w1).congr (fun _ => rfl)).past ((Below.refl _ _).alloc (Nat.le_refl _) _))
  rw [← hms]
  have m0 := (H1.out.1.past hb2).c 0 _ rfl; have ml := (H1.out.1.past hb2).lt
  clear hV hb2 hms
  go_wp2_with fail
  clear m0 ml
  go_loopw [22] (fun s22 wr => ∃ i : Nat, i ≤ m ∧ s22 = .int .i64 i ∧ MapS wr ms i (spS S i) ∧ Blk wr (ms + 1) [.map (some ms)] ∧ Below w1.heap.size w1 wr) (fun s22 _ => m - (intOf s22).toNat)
  case atStart => exact ⟨0, by omega, rfl, HV.out.2.2.1, HV.out.2.1, HV.out.1⟩
  case round =>
    obtain ⟨i, hi, rfl, h1, h2, h3⟩ := hrel
    have HR := Lib.hid (And.intro h1 (And.intro h2 h3))
    clear h1 h2 h3
    have HBW := Lib.hid (H1.out.2.2.trans (HR.out.2.2.mono H1.out.2.2.size))
    by_cases him : i < m
    · have himi : (i : Int) < (m : Int) := by omega
      obtain ⟨b, off, rfl, hrow⟩ := (HH.out.r.past HBW.out).get him
      have c0 := hrow 0 _ rfl; have c1 := hrow 1 _ rfl; have c2 := hrow 2 _ rfl; have c3 := hrow 3 _ rfl; have c4 := hrow 4 _ rfl
      rw [Nat.add_zero] at c0
      have cl := cell_lt c0; simp only at cl
      have HNZ := Lib.hid (HH.out.s i him).n
      have HPU := Lib.hid (spS_put (st_ok (fstN_zero HZ.out i him)).2.1)
      unfold stV at HPU
      obtain ⟨si, hsi⟩ : ∃ si, si = S i := ⟨_, rfl⟩
      rw [← hsi] at c0 c1 c2 c3 c4 HNZ HPU
      clear hsi hrow
      obtain ⟨nm, op, ins, ints, reals, ia, ic, na, nc, ra, rc⟩ := si
      simp only at c0 c1 c2 c3 c4 HNZ HPU
      go_upto_region 8 with fail
      refine wp_world (fun U hU => ?_)
      have HU : Hid (Below wr.heap.size wr U ∧ Blk U wr.heap.size [.string nm, .string op, .slice ia ins.length ic, .slice na ints.length nc, .slice ra reals.length rc]) := Lib.hid (by rw [hU]; exact ⟨by (repeat (first | exact Below.refl _ _ | assumption | (refine Below.setCell ?_ (by first | (simp; done) | (simp; omega) | omega) _) | (refine Below.drew ?_) | (refine below_drewN ?_ _) | (refine Below.alloc ?_ (by first | (simp; done) | (simp; omega) | omega) _) | (refine Below.trans ?_ (Below.mono (by assumption) (by first | (simp; done) | (simp; omega) | omega))))), Blk.new _ _ _ _ rfl⟩)
      have HM := Lib.hid (HR.out.1.past HU.out.1)
      have q0 := HU.out.2.c 0 _ rfl; have q1 := HU.out.2.c 1 _ rfl; have q2 := HU.out.2.c 2 _ rfl; have q3 := HU.out.2.c 3 _ rfl; have q4 := HU.out.2.c 4 _ rfl; have ql := HU.out.2.lt
      have r0 := (HR.out.2.1.past HU.out.1).c 0 _ rfl; have rl := (HR.out.2.1.past HU.out.1).lt
      clear hU c0 c1 c2 c3 c4 cl
      go_wp2_with (at_mapUpdate; refine wpList_putS rfl _ _ _ 45 48 rfl Tryz.underlying45 ms i rfl HM.out (by have := HM1.out; unfold maxLen; omega) nm HNZ.out rfl (.agg #[.string nm, .string op, .slice ia ins.length ic, .slice na ints.length nc, .slice ra reals.length rc]) rfl ?_; intro w3 hm3 hg3)
      go_roundw
      case rel =>
        have hT : Tch (fun j => j = ms) U w3 := Tch.of_grown hg3 (fun j hj => by cases hj; rfl)
        have hBU : Below w1.heap.size w1 U := HR.out.2.2.trans (HU.out.1.mono HR.out.2.2.size)
        exact ⟨i + 1, by omega, by go_num, hm3.congr HPU.out, (HR.out.2.1.past HU.out.1).tch hT (fun e => by omega), hBU.grown hg3 hBU.size (fun j hj => by cases hj; exact Nat.le_of_eq HV.out.2.2.2)⟩
      case measure => simp [intOf] <;> omega
    · have himi : ¬ (i : Int) < (m : Int) := by omega
      obtain rfl : i = m := by omega
      have HS3 := Lib.hid (And.intro (H1.out.1.past HR.out.2.2) (And.intro (H1.out.2.1.past HR.out.2.2) HBW.out))
      go_upto_region 14 with fail
      refine wp_world (fun YW hY => ?_)
      obtain ⟨N, hN⟩ : ∃ N, N = wr.heap.size := ⟨_, rfl⟩
      have hpl2 := H1.out.2.1.lt
      have hNl : w1.heap.size ≤ N ∧ ms + 1 < N ∧ w.heap.size + 1 < w1.heap.size := by have h1 := HR.out.2.2.size; have h2 := HR.out.2.1.lt; omega
      have hms2 := HV.out.2.2.2
      have HBY : Hid (Below wr.heap.size wr YW) := Lib.hid (by rw [hY]; (repeat (first | exact Below.refl _ _ | assumption | (refine Below.setCell ?_ (by first | (simp; done) | (simp; omega) | omega) _) | (refine Below.drew ?_) | (refine below_drewN ?_ _) | (refine Below.alloc ?_ (by first | (simp; done) | (simp; omega) | omega) _) | (refine Below.trans ?_ (Below.mono (by assumption) (by first | (simp; done) | (simp; omega) | omega))))))
      have HNG : Hid (NdG (fun b => b = w.heap.size + 1) w YW (N + 1 + 1 + 1 + 1) (ms + 1) (N + 1 + 1 + 1 + 1 + 1) (N + 1 + 1 + 1) N (N + 1 + 1) ms (N + 1) S i ps0 (.slice none 0 0)) := Lib.hid (by
        have hby := HBW.out.trans (HBY.out.mono HBW.out.size)
        refine ⟨hby, ?_, HR.out.2.1.past HBY.out, ?_, ?_, ?_, ?_, HR.out.1.past HBY.out, ?_, NodesM.nil _ _, fun b hb => by simp [Value.ownBlock] at hb, by omega, by omega⟩
        · rw [hY, ← hN]; exact (Blk.new _ _ _ _ (by simp [hN])).alloc _
        · rw [hY, ← hN]; exact Blk.new _ _ _ _ (by simp [hN])
        · rw [hY, ← hN]; exact ((Blk.new _ _ _ _ (by simp [hN])).alloc _).alloc _
        · rw [hY, ← hN]; exact ((((((Blk.new _ _ _ _ (by simp [hN])).alloc _).alloc _).alloc _).alloc _).alloc _)
        · show MapS YW (N + 1 + 1) (cntM (fun _ => none) i) (mdS S i (fun _ => none))
          rw [cntM_none, hY]
          try rw [← hN]
          have h := (MapS.made ((wr.alloc (.cells #[.slice none 0 0, .int .i64 0] 27)).alloc (.map #[] 0))).congr (g := mdS S i (fun _ => none)) (fun l => (mdS_none S i l).symm)
          have h2 : MapS (((wr.alloc (.cells #[.slice none 0 0, .int .i64 0] 27)).alloc (.map #[] 0)).alloc (.map #[] 0)) (N + 1 + 1) 0 (mdS S i (fun _ => none)) := by simpa [hN] using h
          exact ((h2.past ((Below.refl _ _).alloc (Nat.le_refl _) _)).past ((Below.refl _ _).alloc (Nat.le_refl _) _)).past ((Below.refl _ _).alloc (Nat.le_refl _) _)
        · show MapS YW (N + 1) 0 (knS [])
          rw [hY]
          try rw [← hN]
          have h := (MapS.made (wr.alloc (.cells #[.slice none 0 0, .int .i64 0] 27))).congr (g := knS []) (fun l => rfl)
          have h2 : MapS ((wr.alloc (.cells #[.slice none 0 0, .int .i64 0] 27)).alloc (.map #[] 0)) (N + 1) 0 (knS []) := by simpa [hN] using h
          exact (((h2.past ((Below.refl _ _).alloc (Nat.le_refl _) _)).past ((Below.refl _ _).alloc (Nat.le_refl _) _)).past ((Below.refl _ _).alloc (Nat.le_refl _) _)).past ((Below.refl _ _).alloc (Nat.le_refl _) _))
      try rw [← hN]
      have HNL := Lib.hid (show w.heap.size + 1 < N ∧ w.heap.size + 1 < YW.heap.size by have h1 := HBY.out.size; omega)
      have hneed := need_any HGS.out (fun j hj => HH.out.s j hj) HL.out i jo ps0 (.slice none 0 0) YW (fun b => b = w.heap.size + 1) HJ.out HJ.out ⟨(fun j r h => by cases h), (fun p hp => by unfold ps0 at hp; simp at hp), Nat.zero_le _⟩ (fun b hb => by rw [hb]; exact HNL.out.2) HNG.out
      rw [← HON.out] at hneed
      rw [← HTT.out] at hneed
      have HND := Lib.hid hneed
      have HRS := Lib.hid ((HS3.out.2.1).past HBY.out)
      have n0 := HNG.out.qf.c 0 _ rfl; have nl := HNG.out.qf.lt
      unfold needV at n0
      have p1 := (HS3.out.1.past HBY.out).c 1 _ rfl; have pl := (HS3.out.1.past HBY.out).lt
      clear hneed hY hN hNl hpl2 hms2 HV H1 hmm
      go_upto_region 15 with (go_at_call 14; refine HND.out.mono ?_; rintro e w4 ⟨u4, rfl, hg4, ht4, hu4⟩; have g1 := hg4.qg.c 1 _ rfl; have gl := hg4.qg.lt; have gf := hg4.qg.f)
      refine wp_world (fun w5 hW5 => ?_)
      obtain ⟨ao4, cp4, rfl⟩ : ∃ a c, u4 = .slice a T.1.G.length c := by obtain ⟨ns, -, ⟨-, a, c, e, -⟩, -⟩ := hg4.gn; exact ⟨a, c, e⟩
      have hT5 : Tch (fun b => b = N) w4 w5 := by rw [hW5]; exact (Tch.refl (fun b => b = N) w4).set ⟨N, 1, none⟩ _ rfl
      have hnr : ¬ TS (N + 1 + 1) (N + 1) N (.slice none 0 0) (w.heap.size + 1) := fun hx => by
        have h1 := HNL.out.1
        rcases hx with e | e | e | e
        · omega
        · omega
        · omega
        · simp [Value.ownBlock] at e
      have H5 : Hid (Blk w5 N [.slice ao4 T.1.G.length cp4, .int .i64 (T.2 : Int)] ∧ Blk w5 (w.heap.size + 1) [.slice none 0 0, .int .i64 0] ∧ Below w.heap.size w w5 ∧ NodesM w5 (fun b => b = w.heap.size + 1) (.slice ao4 T.1.G.length cp4) T.1.G ∧ (Value.slice ao4 T.1.G.length cp4).ownBlock ≠ some (w.heap.size + 1)) := Lib.hid (by
        have h1 := HNL.out.1
        have hn4 : (Value.slice ao4 T.1.G.length cp4).ownBlock ≠ some N := fun e => (hg4.su N e).1 (.inr (.inr (.inr (.inr (.inl rfl)))))
        refine ⟨by rw [hW5]; simpa using hg4.qg.set 1 (.int .i64 (T.2 : Int)), (HRS.out.tch ht4 hnr).tch hT5 (fun e => by omega), ?_, ?_, fun e => (hg4.su _ e).2.1 rfl⟩
        · exact ((Tch.of_below (S := fun _ => False) hg4.b).then hT5 (fun k hk e => by omega)).to_below (Nat.le_refl _) (fun _ hk => hk.elim)
        · exact (hg4.gn.tch hT5 (fun b _ hb => by cases hb; exact ⟨.inl (.inr (.inr (.inr (.inr (.inl rfl))))), hn4⟩)).mono (fun b hb => .inr hb))
      clear hW5 hT5 hg4 ht4 hu4 hnr g1 gl gf n0 nl p1 pl HND HNG HRS
      have g0 := H5.out.1.c 0 _ rfl; have g1 := H5.out.1.c 1 _ rfl; have gl := H5.out.1.lt
      have z0 := H5.out.2.1.c 0 _ rfl; have z1 := H5.out.2.1.c 1 _ rfl; have zl := H5.out.2.1.lt; have zf := H5.out.2.1.f
      go_wp2_with fail
      refine bodyPost_retN (v := .tuple #[.agg #[.slice ao4 T.1.G.length cp4, .int .i64 (T.2 : Int)], .int .i64 0]) (by simp [results, Tryz.results4, go_sem, z0, z1]) rfl (fun WF hWF => ?_)
      have hT6 : Tch (fun b => b = w.heap.size + 1) w5 WF := by rw [hWF]; exact ((Tch.refl (fun b => b = w.heap.size + 1) w5).set ⟨w.heap.size + 1, 0, none⟩ _ rfl).set ⟨w.heap.size + 1, 1, none⟩ _ rfl
      exact ⟨⟨_, rfl, (H5.out.2.2.2.1.tch hT6 (fun b _ hb => ⟨hb, fun e => by rw [hb] at e; exact H5.out.2.2.2.2 e⟩)).mono (fun b hb => hb.elim)⟩, below_own H5.out.2.2.1 hT6 (by omega)⟩
end Go.Proofs.YtbaocallhnehfaaGreatDoor
