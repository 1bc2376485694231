/- Work on machines, the farm's: work is given to a machine. Conditions: what each theorem names. -/
import Derived.Test.YtkadinjhfldokaaSiD
namespace Go.Proofs.Ytkadinjhfldokaa
open Go Go.RowKit
theorem cutC_yes {k : Mc} {t e : Int} {j : Nat} (h : t < k.df j ∧ k.df j ≤ e) : cutC k t e j = some (k.df j) := by unfold cutC; rw [if_pos h]
theorem cutC_no {k : Mc} {t e : Int} {j : Nat} (h : ¬ (t < k.df j ∧ k.df j ≤ e)) : cutC k t e j = none := by unfold cutC; rw [if_neg h]
section
variable {w0 : World} {aw : Option Addr} {cw : Nat} {am : Option Addr} {cm : Nat} {D : SimD} {ps gs gf gb b1 : Nat} {S : SimS} {pb : Nat → Nat} {rv : Value}
theorem begin_fin {w m pr : Nat} {W X : World} (h : SimG w0 aw cw am cm D ps gs gf gb b1 W S pb rv) (hne : NeS w0 ps gs gf gb b1) (hpr : pr = W.heap.size) (hB : Below pr W X) (hR : Blk X pr (runL (newRun D S.now w m))) (hm : m < D.nm) :
    SimG w0 aw cw am cm D ps gs gf gb b1 ((X.setCell ⟨gb, m, none⟩ (.pointer (some ⟨pr, 0, none⟩))).setCell ⟨gs, w, none⟩ (.int .i64 1)) (beginS D S w m) (updF pb m pr) rv := by
  subst hpr
  have k := h.past hB
  have hsz := h.sz
  have hszX := hB.size
  obtain ⟨⟨e1, e2, e3, e4, e5, e6⟩, ⟨f1, f2, f3, f4⟩, l1, l2, l3, l4⟩ := hne
  have hown : ∀ j, rv.ownBlock = some j → b1 ≤ j ∧ j < W.heap.size := fun j hj => by
    have := h.kR.lt j hj
    exact this
  refine ⟨?_, ?_, ?_, ?_, ?_, ?_, ?_, ?_⟩
  · exact (k.kS.far _ _ (by simp; omega)).far _ _ (by simp; omega)
  · exact ((k.kT.far _ _ (by simp; omega)).set w _).congr (fun j _ => by
      show updF _ w _ j = Value.int .i64 (updF S.st w 1 j)
      unfold updF; split <;> rfl)
  · exact (k.kF.far _ _ (by simp; omega)).far _ _ (by simp; omega)
  · refine VecV.far (VecV.congr (k.kB.set m _) (fun j _ => ?_)) _ _ (by simp; omega)
    show updF _ m _ j = bzV (beginS D S w m) (updF pb m W.heap.size) j
    unfold bzV
    show _ = match (updF S.bz m (some (newRun D S.now w m))) j with | none => _ | some _ => _
    by_cases e : j = m
    · subst e; rw [updF_at, updF_at, updF_at]
    · rw [updF_ne _ _ e, updF_ne _ _ e, updF_ne _ _ e]; rfl
  · intro j r hj hr
    have hr' : updF S.bz m (some (newRun D S.now w m)) j = some r := hr
    by_cases e : j = m
    · subst e
      rw [updF_at] at hr' ⊢
      injection hr' with hr'
      subst hr'
      refine ⟨(hR.far _ _ (by simp; omega)).far _ _ (by simp; omega), hsz, fun h => ?_⟩
      have := hown _ h.symm
      omega
    · rw [updF_ne _ _ e] at hr' ⊢
      obtain ⟨k1, k2, k3⟩ := k.kP j r hj hr'
      exact ⟨(k1.far _ _ (by simp; omega)).far _ _ (by simp; omega), k2, k3⟩
  · exact own_far (own_far k.kR _ _ (by simp; omega)) _ _ (by simp; omega)
  · exact (k.bel.setCell (by simpa using f4) _).setCell (by simpa using f2) _
  · simp [World.setCell]; omega
set_option maxRecDepth 100000 in
set_option maxHeartbeats 6400000 in
theorem begin_any (w m : Nat) (W : World) (h : SimG w0 aw cw am cm D ps gs gf gb b1 W S pb rv) (hne : NeS w0 ps gs gf gb b1) (hW : IsWorks w0 aw D.nw cw D.W) (hM : IsMachines w0 am D.nm cm D.M) (hg : GoodD D) (hw : w < D.nw) (hm : m < D.nm) (hnow : 0 ≤ S.now ∧ S.now ≤ 1099000000000) :
    Calls Try.prog 20 #[.pointer (some ⟨ps, 0, none⟩), .int .i64 w, .int .i64 m] W fun e w' => e = .returned (.tuple #[]) ∧ ∃ pr, SimG w0 aw cw am cm D ps gs gf gb b1 w' (beginS D S w m) (updF pb m pr) rv := by
  have HH := Lib.hid h
  have HNE := Lib.hid hne
  have hwk := hg.work.2 w hw
  have hmc := hg.mach.2 m hm
  have hn1 : D.nw ≤ 2000 := hg.work.1
  have hn2 : D.nm ≤ 64 := hg.mach.1.2
  have hMw := hM.below h.bel
  have hWw := hW.below h.bel
  obtain ⟨bm, om, rfl, hcm⟩ := hMw.2.2 (by omega)
  obtain ⟨bw, ow, rfl, hcw⟩ := hWw.2.2 (by omega)
  have k1 : D.nm ≤ cm := hMw.1
  have k2 : cm ≤ 9223372036854775807 := by have := hMw.2.1; unfold maxLen at this; omega
  have k3 : D.nw ≤ cw := hWw.1
  have k4 : cw ≤ 9223372036854775807 := by have := hWw.2.1; unfold maxLen at this; omega
  have hmi : (m : Int) < (D.nm : Int) := by omega
  have hwi : (w : Int) < (D.nw : Int) := by omega
  have c0 := (hcm m hm).1; have c1 := (hcm m hm).2.1
  have d0 := (hcw w hw).1
  have HD0 := Lib.hid d0
  have HIN := Lib.hid (hcm m hm).2.2.2
  have HNR := Lib.hid (show newRun D S.now w m = match firstS (cutC (D.M m) S.now (endT D S.now w m)) (D.M m).dn with
    | some x => ⟨w, m, S.now, x, true⟩
    | none => ⟨w, m, S.now, endT D S.now w m, false⟩ from rfl)
  have HET := Lib.hid (show endT D S.now w m = S.now + ((D.W w).cost + (D.M m).sp - 1) / (D.M m).sp from rfl)
  obtain ⟨et, het⟩ : ∃ et, et = endT D S.now w m := ⟨_, rfl⟩
  rw [← het] at HNR HET
  clear het
  obtain ⟨nr, hnr⟩ : ∃ nr, nr = newRun D S.now w m := ⟨_, rfl⟩
  rw [← hnr] at HNR
  have HNQ := Lib.hid hnr
  clear hnr
  obtain ⟨K, hK⟩ : ∃ K, K = D.M m := ⟨_, rfl⟩
  rw [← hK] at c0 c1 hmc HIN HNR HET
  obtain ⟨sp, da, dn, dc, df, dt⟩ := K
  obtain ⟨co, hco⟩ : ∃ co, co = (D.W w).cost := ⟨_, rfl⟩
  rw [← hco] at d0 hwk HD0 HET
  simp only at c0 c1 hmc HIN HNR HET
  have hco1 := hwk.1
  have hsp1 := hmc.1
  clear hK hco hwk hmc hcm hcw hMw hWw hM hW hg hne
  have l0 := cell_lt c0; have l1 := cell_lt d0; simp only at l0 l1
  have s1 := h.kS.c 1 _ rfl; have sl := h.kS.lt
  have HNOW := Lib.hid (show S.now = S.now from rfl)
  have hT : (co + sp - 1) / sp * sp ≤ co + sp - 1 ∧ 0 ≤ (co + sp - 1) / sp ∧ (co + sp - 1) / sp ≤ co + sp - 1 := ⟨Int.ediv_mul_le _ (by omega), Int.ediv_nonneg (by omega) (by omega), Int.ediv_le_self _ (by omega)⟩
  obtain ⟨T, hTT⟩ : ∃ T, T = (co + sp - 1) / sp := ⟨_, rfl⟩
  have q1 : (co + sp - 1).tdiv sp = T := by rw [Int.tdiv_eq_ediv_of_nonneg (by omega), hTT]
  rw [← hTT] at hT HET
  obtain ⟨-, t1, t2⟩ := hT
  have q2 : sp ≠ 0 := by omega
  obtain ⟨now, hno⟩ : ∃ now, now = S.now := ⟨_, rfl⟩
  rw [← hno] at hnow HNR HET
  have hete : now + T = et := HET.out.symm
  have HNO := Lib.hid hno
  clear hTT HET HNOW h hno
  go_enter Try.func20, Try.ntmps20
  go_upto_region 1 with fail
  refine wp_world (fun W1 hW1 => ?_)
  have B : Below W.heap.size W W1 := by rw [hW1]; (repeat (first | exact Below.refl _ _ | assumption | (refine Below.setCell ?_ (by first | (simp; done) | (simp; omega) | omega) _) | (refine Below.drew ?_) | (refine below_drewN ?_ _) | (refine Below.alloc ?_ (by first | (simp; done) | (simp; omega) | omega) _) | (refine Below.trans ?_ (Below.mono (by assumption) (by first | (simp; done) | (simp; omega) | omega)))))
  have Q0 : Blk W1 W.heap.size [.int .i64 sp, .slice da dn dc] := by rw [hW1]; exact Blk.new _ _ _ _ rfl
  have HW := Lib.hid (HH.out.past B)
  have HQ := Lib.hid Q0
  have HIN1 := Lib.hid (HIN.out.below B)
  have d0' := (B.cell (p := ⟨bw, ow + w * 3, none⟩) l1).trans d0
  have l1' := cell_lt d0'; simp only at l1'
  have hG := HW.out
  have s0 := hG.kS.c 0 _ rfl; have s3 := hG.kS.c 3 _ rfl; have sl' := hG.kS.lt; have q0 := Q0.c 0 _ rfl; have ql := Q0.lt
  rw [← HNO.out] at s3
  clear hW1 B Q0 hG s1 sl c0 c1 d0 l0 l1 HH HD0 HIN
  refine wp_region_loose 27 (fun _ _ _ => False) (by kernel_rfl) (by kernel_rfl) ?_
  simp only [List.take_succ_cons, List.take_zero, List.drop_succ_cons, List.drop_zero]
  iterate 27 (refine loose_wanted rfl (fun K hK => ?_); go_simp; refine hK _ ?_; clear hK K)
  refine loose_nil (fun w5 hb5 => ?_)
  have H5 := Lib.hid (HW.out.past hb5); have HQ5 := Lib.hid (HQ.out.past hb5); have HIN5 := Lib.hid (HIN1.out.below hb5)
  clear hb5 s0 s3 sl' q0 ql HW HQ HIN1 d0' l1'
  go_upto_region 2 with fail
  refine wp_world (fun W6 hW6 => ?_)
  have B6 : Below w5.heap.size w5 W6 := by rw [hW6]; (repeat (first | exact Below.refl _ _ | assumption | (refine Below.setCell ?_ (by first | (simp; done) | (simp; omega) | omega) _) | (refine Below.drew ?_) | (refine below_drewN ?_ _) | (refine Below.alloc ?_ (by first | (simp; done) | (simp; omega) | omega) _) | (refine Below.trans ?_ (Below.mono (by assumption) (by first | (simp; done) | (simp; omega) | omega)))))
  have R6 : Blk W6 w5.heap.size [.int .i64 w, .int .i64 m, .int .i64 now, .int .i64 et, .bool false] := by rw [hW6, ← hete, ← q1]; exact Blk.new _ _ _ _ rfl
  have HQ6 := Lib.hid (HQ5.out.past B6)
  have HIN6 := Lib.hid (HIN5.out.below B6)
  have HB6 := Lib.hid B6
  obtain ⟨pr, hpr⟩ : ∃ pr, pr = w5.heap.size := ⟨_, rfl⟩
  have hszz := hpr.symm
  rw [← hpr] at R6 ⊢
  have HR6 := Lib.hid R6
  have HPR := Lib.hid hpr
  have hp6 : pr < W6.heap.size := R6.lt
  have q1 := HQ6.out.c 1 _ rfl; have ql := HQ6.out.lt
  clear hW6 B6 R6 hpr hszz HQ5 HIN5
  go_wp2_with fail
  clear q1 ql
  go_loopw [48] (fun s48 wr => ∃ i : Nat, i ≤ dn ∧ s48 = .int .i64 i ∧ firstS (cutC ⟨sp, da, dn, dc, df, dt⟩ now et) i = none ∧ Below W6.heap.size W6 wr) (fun s48 _ => dn - (intOf s48).toNat)
  case atStart => exact ⟨0, Nat.zero_le _, rfl, rfl, Below.refl _ _⟩
  case round =>
    obtain ⟨i, hi, rfl, hz, hq⟩ := hrel
    have HZ := Lib.hid hz; have HQ := Lib.hid hq
    clear hz
    by_cases hin : i < dn
    · have hini : (i : Int) < (dn : Int) := by omega
      obtain ⟨b2, off2, rfl, hcc⟩ := HIN6.out.2.2 (by omega)
      have hac := HIN6.out.1
      have hac2 : dc ≤ 9223372036854775807 := by have := HIN6.out.2.1; unfold maxLen at this; omega
      obtain ⟨d0, d1, -, -⟩ := hcc i hin
      have e0 := (hq.cell (p := ⟨b2, off2 + i * 2, none⟩) (cell_lt d0)).trans d0
      have e1 := (hq.cell (p := ⟨b2, off2 + i * 2 + 1, none⟩) (cell_lt d1)).trans d1
      have el := cell_lt e0; simp only at el
      have HU := Lib.hid (fun h => firstS_some HZ.out (cutC_yes h) hin : now < df i ∧ df i ≤ et → firstS (cutC ⟨sp, some ⟨b2, off2, none⟩, dn, dc, df, dt⟩ now et) dn = some (df i))
      have HV := Lib.hid (fun h => firstS_succ HZ.out (cutC_no h) : ¬ (now < df i ∧ df i ≤ et) → firstS (cutC ⟨sp, some ⟨b2, off2, none⟩, dn, dc, df, dt⟩ now et) (i + 1) = none)
      clear hcc d0 d1
      generalize df i = z at *
      generalize dt i = y at *
      go_upto_region 5 with fail
      refine wp_world (fun W7 hW7 => ?_)
      have B7 : Below wr.heap.size wr W7 := by rw [hW7]; (repeat (first | exact Below.refl _ _ | assumption | (refine Below.setCell ?_ (by first | (simp; done) | (simp; omega) | omega) _) | (refine Below.drew ?_) | (refine below_drewN ?_ _) | (refine Below.alloc ?_ (by first | (simp; done) | (simp; omega) | omega) _) | (refine Below.trans ?_ (Below.mono (by assumption) (by first | (simp; done) | (simp; omega) | omega)))))
      have N7 : Blk W7 wr.heap.size [.int .i64 z, .int .i64 y] := by rw [hW7]; exact Blk.new _ _ _ _ rfl
      have HB7 := Lib.hid (hq.trans (B7.mono hq.size))
      have HN7 := Lib.hid N7
      have g0 := N7.c 0 _ rfl; have g1 := N7.c 1 _ rfl; have gl := N7.lt
      have hG := H5.out.past (HB6.out.trans (HB7.out.mono HB6.out.size))
      have s3 := hG.kS.c 3 _ rfl; have sl := hG.kS.lt
      rw [← HNO.out] at s3
      have R7 := HR6.out.past HB7.out
      have r3 := R7.c 3 _ rfl; have r4 := R7.c 4 _ rfl; have rl := R7.lt; have rf := R7.f
      have hpw : pr < wr.heap.size := Nat.lt_of_lt_of_le hp6 hq.size
      have hB8 : Below pr w5 W7 := by rw [HPR.out]; exact HB6.out.trans (HB7.out.mono HB6.out.size)
      have HB8 := Lib.hid hB8
      have HR7 := Lib.hid R7
      clear hW7 B7 N7 e0 e1 el hq hG R7 hB8
      by_cases hzn : now < z
      · have hd : decide (now < z) = true := decide_eq_true hzn
        by_cases hny : z ≤ et
        · have hd1 : decide (z ≤ et) = true := decide_eq_true hny
          have HE := Lib.hid (show nr = ⟨w, m, now, z, true⟩ by rw [HNR.out, HU.out ⟨hzn, hny⟩])
          clear HU HV HZ HNR
          go_quiet (fail)
          go_upto_region 6 with fail
          go_upto_region 8 with fail
          refine wp_world (fun X hX => ?_)
          have HX : Hid (Below pr w5 X ∧ Blk X pr (runL nr)) := by
            rw [hX]
            refine Lib.hid ⟨?_, ?_⟩
            · exact ((below_drewN HB8.out _).setCell (Nat.le_refl _) _).setCell (Nat.le_refl _) _
            · rw [HE.out]
              exact (((HR7.out.drewN _).set 3 _).set 4 _)
          have hG := H5.out.past (show Below w5.heap.size w5 X by have := HX.out.1; rw [HPR.out] at this; exact this)
          have s6 := hG.kS.c 6 _ rfl; have s4 := hG.kS.c 4 _ rfl; have sl := hG.kS.lt
          have t0 := hG.kT.c w hw; have tl := hG.kT.lt; have tf := hG.kT.f
          have b0 := hG.kB.c m hm; have bl := hG.kB.lt; have bf := hG.kB.f
          have hneq : gs ≠ gb ∧ ps ≠ gb ∧ ps ≠ gs := by have := HNE.out.1; omega
          obtain ⟨ng1, ng2, ng3⟩ := hneq
          have ng1' := Ne.symm ng1
          clear hX hG s3 r3 r4 rl rf g0 g1 gl
          go_wp2_with fail
          go_end0
          refine ⟨rfl, pr, ?_⟩
          have hfin := begin_fin (w := w) (m := m) (X := X) H5.out HNE.out HPR.out HX.out.1 (by rw [← HNQ.out]; exact HX.out.2) hm
          exact hfin
        · have hd1 : decide (z ≤ et) = false := decide_eq_false hny
          have HE := Lib.hid (HV.out (fun h => hny h.2))
          clear HU HV
          go_quiet (fail)
          go_wp2_with fail
          go_roundw
          case rel => exact ⟨i + 1, by omega, by go_num, HE.out, below_drewN HB7.out _⟩
          case measure => simp [intOf]; omega
      · have hd : decide (now < z) = false := decide_eq_false hzn
        have HE := Lib.hid (HV.out (fun h => hzn h.1))
        clear HU HV
        go_quiet (fail)
        go_wp2_with fail
        go_roundw
        case rel => exact ⟨i + 1, by omega, by go_num, HE.out, below_drewN HB7.out _⟩
        case measure => simp [intOf]; omega
    · have hini : ¬ (i : Int) < (dn : Int) := by omega
      have hie : i = dn := by omega
      have HE := Lib.hid (show nr = ⟨w, m, now, et, false⟩ by have hz := HZ.out; have hn := HNR.out; subst hie; rw [hn, hz])
      clear hie HNR
      have hG := H5.out.past (HB6.out.trans (HQ.out.mono HB6.out.size))
      have s6 := hG.kS.c 6 _ rfl; have s4 := hG.kS.c 4 _ rfl; have sl := hG.kS.lt
      have t0 := hG.kT.c w hw; have tl := hG.kT.lt; have tf := hG.kT.f
      have b0 := hG.kB.c m hm; have bl := hG.kB.lt; have bf := hG.kB.f
      have hneq : gs ≠ gb ∧ ps ≠ gb ∧ ps ≠ gs := by have := HNE.out.1; omega
      obtain ⟨ng1, ng2, ng3⟩ := hneq
      have ng1' := Ne.symm ng1
      have hB8 : Below pr w5 wr := by rw [HPR.out]; exact HB6.out.trans (HQ.out.mono HB6.out.size)
      have HB8 := Lib.hid hB8
      clear hq hG hB8
      go_wp2_with fail
      go_end0
      refine ⟨rfl, pr, ?_⟩
      have hfin := begin_fin (w := w) (m := m) (X := wr) H5.out HNE.out HPR.out HB8.out (by rw [← HNQ.out, HE.out]; exact HR6.out.past HQ.out) hm
      exact hfin
end
end Go.Proofs.Ytkadinjhfldokaa
