/- Whether a library is right: node.CheckLibrary, dyelaw2.libraryError. Conditions: the library can be read; what grade.CheckGrade and key.CheckFrames tell. -/
import Derived.Test.YthlomgbchmhjiaaGreatDoorLA
import Derived.Deep.MidRow
namespace Go.Proofs.YthlomgbchmhjiaaGreatDoor
open Go Go.RowKit
theorem infoG : (Tryz.prog.info? 63).map (·.size) = some 49 := by kernel_rfl
theorem gradeL_one (g : GradeD) : (gradeL g).toArray.all (·.oneCell') = true := by simp [gradeL, curveL, flV, Value.oneCell']
theorem size_setCellsG (b : Nat) : ∀ (vs : List Value) (o : Nat) (w : World), (w.setCells b o vs).heap.size = w.heap.size
  | [], _, _ => rfl
  | v :: r, o, w => by rw [World.setCells, size_setCellsG b r (o + 1) _]; simp [World.setCell]
theorem below_setCellsG {B : Nat} {w w' : World} (h : Below B w w') (b : Nat) (hb : B ≤ b) : ∀ (vs : List Value) (o : Nat), Below B w (w'.setCells b o vs)
  | vs, o => by
    induction vs generalizing o w' with
    | nil => exact h
    | cons v r ih => rw [World.setCells]; exact ih (h.setCell hb _) (o + 1)
theorem Blk.there {w : World} {b : Nat} {zs : List Value} (k : Blk w b zs) : w.there b 0 zs.length := fun j hj => by
  rw [Nat.zero_add]
  exact ⟨by rw [k.c j _ (List.getElem?_eq_getElem hj)]; rfl, k.f j⟩
theorem Blk.put {w : World} {b : Nat} {zs : List Value} (k : Blk w b zs) (vs : List Value) (h : zs.length = vs.length) : Blk (w.setCells b 0 vs) b vs := by
  have hr := World.rangeAt_setCells_same w b 0 vs (by rw [← h]; exact k.there)
  refine ⟨by rw [size_setCellsG]; exact k.lt, fun j v hj => ?_, fun o => (World.frozen?_setCells _ _ _ _ _).trans (k.f o)⟩
  have := hr j v hj
  rw [Nat.zero_add] at this; exact this
theorem Blk.range {w : World} {b : Nat} {vs : List Value} (k : Blk w b vs) : w.rangeAt b 0 vs := fun j v hv => by
  rw [Nat.zero_add]; exact k.c j v hv
section
variable {ops : Array Oper} {rest : List Oper} {o : Oper} {a : Act} {w : World} {Q : Exit → Act → World → Prop}
/-- THE WALK's LAW: a grade is read whole. -/
theorem wpList_ldG {b off : Nat} {g : GradeD} {x : Operand} (k : w.rangeAt b off (gradeL g)) (hgd : o.guard = none) (ho : o.op = .load 63 x) (hx : a.eval x = .pointer (some ⟨b, off, none⟩))
    (h : wpList Tryz.prog ops Q rest (a.put o.dst (gradeV g)) w) : wpList Tryz.prog ops Q (o :: rest) a w :=
  wpList_load_mid hgd _ x ho b off hx (gradeL g) _ k Tryz.underlying63 rfl infoG h
/-- THE WALK's LAW: a grade is written whole. -/
theorem wpList_stG {b : Nat} {g : GradeD} {zs : List Value} {x y : Operand} (k : Blk w b zs) (hz : zs.length = 49) (hgd : o.guard = none) (ho : o.op = .store 63 x y) (hx : a.eval x = .pointer (some ⟨b, 0, none⟩)) (hy : a.eval y = gradeV g)
    (h : ∀ w', Blk w' b (gradeL g) → (∀ B W, Below B W w → B ≤ b → Below B W w') → wpList Tryz.prog ops Q rest (a.put o.dst undef) w') : wpList Tryz.prog ops Q (o :: rest) a w :=
  wpList_store_mid hgd _ x y ho b 0 (gradeL g).toArray hx hy (by have := k.there; rw [hz] at this; exact this) infoG (gradeL_one g)
    (h _ (k.put (gradeL g) (by rw [hz]; rfl)) (fun _ _ hB hb => below_setCellsG hB b hb _ _))
end
set_option maxRecDepth 100000 in
set_option maxHeartbeats 6400000 in
theorem CheckLibrary_any (ag ac aw : Option Addr) (cg cc cw : Nat) (L : LibD) (GE : Nat → Nat → Int) (WE : Nat → Int) (w : World) (h : LibAt w ag cg ac cc aw cw L)
    (HG : ∀ i j, i < L.gn → j < L.gl i → ∀ w', Below w.heap.size w w' → Calls Tryz.prog 14 #[gradeV (L.g i j)] w' fun e w'' => e = .returned (.int .i64 (GE i j)) ∧ Below w'.heap.size w' w'')
    (HW : ∀ i, i < L.wn → ∀ w', Below w.heap.size w w' → Calls Tryz.prog 15 #[.slice (L.wa i) (L.wl i) (L.wc i)] w' fun e w'' => e = .returned (.int .i64 (WE i)) ∧ Below w'.heap.size w' w'') :
    Calls Tryz.prog 7 #[.agg #[.slice ag L.gn cg, .slice ac L.cn cc, .slice aw L.wn cw]] w fun e w' => e = .returned (.int .i64 (lbE L GE WE)) ∧ Below w.heap.size w w' := by
  have HH := Lib.hid h; have HGH := Lib.hid HG; have HWH := Lib.hid HW
  clear h HG HW
  obtain ⟨E, hE⟩ : ∃ E, E = lbE L GE WE := ⟨_, rfl⟩
  have HE := Lib.hid (show E = if 16 < L.gn ∨ 16 < L.cn ∨ 16 < L.wn then 4 else fst2 (fstN (gsE L GE) L.gn) (fst2 (fstN (cuE L) L.cn) (fstN WE L.wn)) by rw [hE]; rfl)
  rw [← hE]
  clear hE
  obtain ⟨gn, hgn⟩ : ∃ gn, gn = L.gn := ⟨_, rfl⟩
  obtain ⟨cn, hcn⟩ : ∃ cn, cn = L.cn := ⟨_, rfl⟩
  obtain ⟨wn, hwn⟩ : ∃ wn, wn = L.wn := ⟨_, rfl⟩
  rw [← hgn, ← hcn, ← hwn] at HE
  rw [← hgn, ← hcn, ← hwn]
  have HGN := Lib.hid hgn; have HCN := Lib.hid hcn; have HWN := Lib.hid hwn
  have hg2 : gn ≤ cg ∧ cg ≤ 9223372036854775807 := by have h1 := HH.out.g.lc; have h2 := HH.out.g.lm; unfold maxLen at h2; omega
  have hc2 : cn ≤ cc ∧ cc ≤ 9223372036854775807 := by have h1 := HH.out.c.lc; have h2 := HH.out.c.lm; unfold maxLen at h2; omega
  have hw2 : wn ≤ cw ∧ cw ≤ 9223372036854775807 := by have h1 := HH.out.w.lc; have h2 := HH.out.w.lm; unfold maxLen at h2; omega
  obtain ⟨hg3, hg4⟩ := hg2; obtain ⟨hc3, hc4⟩ := hc2; obtain ⟨hw3, hw4⟩ := hw2
  clear hgn hcn hwn
  by_cases hbig : 16 < gn ∨ 16 < cn ∨ 16 < wn
  · rw [if_pos hbig] at HE
    have h3 : 16 < gn ∨ (¬ 16 < gn ∧ 16 < cn) ∨ (¬ 16 < gn ∧ ¬ 16 < cn ∧ 16 < wn) := by omega
    clear hbig
    rcases h3 with q1 | ⟨q1, q2⟩ | ⟨q1, q2, q3⟩
    all_goals
      go_enter Tryz.func7, Tryz.ntmps7
      go_wp2_with fail
      go_ret
      rw [HE.out]
      exact ⟨rfl, by (repeat (first | exact Below.refl _ _ | assumption | (refine Below.setCell ?_ (by first | (simp; done) | (simp; omega) | omega) _) | (refine Below.drew ?_) | (refine below_drewN ?_ _) | (refine Below.alloc ?_ (by first | (simp; done) | (simp; omega) | omega) _) | (refine Below.trans ?_ (Below.mono (by assumption) (by first | (simp; done) | (simp; omega) | omega)))))⟩
  rw [if_neg hbig] at HE
  have q1 : ¬ 16 < gn := by omega
  have q2 : ¬ 16 < cn := by omega
  have q3 : ¬ 16 < wn := by omega
  clear hbig
  go_enter Tryz.func7, Tryz.ntmps7
  go_upto_region 3 with fail
  refine wp_world (fun W1 hW1 => ?_)
  have H1p : Blk W1 w.heap.size [.slice ag gn cg, .slice ac cn cc, .slice aw wn cw] ∧ Below w.heap.size w W1 := by rw [hW1]; exact ⟨Blk.new _ _ _ _ rfl, by (repeat (first | exact Below.refl _ _ | assumption | (refine Below.setCell ?_ (by first | (simp; done) | (simp; omega) | omega) _) | (refine Below.drew ?_) | (refine below_drewN ?_ _) | (refine Below.alloc ?_ (by first | (simp; done) | (simp; omega) | omega) _) | (refine Below.trans ?_ (Below.mono (by assumption) (by first | (simp; done) | (simp; omega) | omega)))))⟩
  obtain ⟨pl, hpl⟩ : ∃ pl, pl = w.heap.size := ⟨_, rfl⟩
  have H1 : Hid (Blk W1 pl [.slice ag gn cg, .slice ac cn cc, .slice aw wn cw] ∧ Below w.heap.size w W1) := Lib.hid (by rw [hpl]; exact H1p)
  rw [← hpl]
  clear hW1 H1p hpl
  have m0 := H1.out.1.c 0 _ rfl; have ml := H1.out.1.lt
  go_wp2_with fail
  clear m0 ml
  go_loopw [33] (fun s33 wr => ∃ i : Nat, i ≤ gn ∧ s33 = .int .i64 i ∧ fstN (gsE L GE) i = 0 ∧ Below W1.heap.size W1 wr) (fun s33 _ => gn - (intOf s33).toNat)
  case atStart => exact ⟨0, Nat.zero_le _, rfl, rfl, Below.refl _ _⟩
  case round =>
    obtain ⟨i, hi, rfl, hz, hB⟩ := hrel
    have HZ := Lib.hid hz; have HB := Lib.hid hB
    have HWB := Lib.hid (H1.out.2.trans (hB.mono H1.out.2.size))
    clear hz hB
    by_cases him : i < gn
    · have himi : (i : Int) < (gn : Int) := by omega
      have hiL : i < L.gn := by rw [← HGN.out]; exact him
      have HXE : Hid (∀ e, e ≠ 0 → gsE L GE i = e → E = e) := Lib.hid (fun e h1 h2 => by rw [HE.out, fstN_of HZ.out (by rw [h2]; exact h1) him, h2, fst2_n h1])
      have HS := Lib.hid (fun hk => fstN_succ (k := i) HZ.out hk : gsE L GE i = 0 → fstN (gsE L GE) (i + 1) = 0)
      obtain ⟨b, off, hag, hc⟩ := (HH.out.g.past HWB.out).get hiL
      subst hag
      have c0 := hc 0 _ rfl
      rw [Nat.mul_one, Nat.add_zero] at c0
      have HGG := Lib.hid ((HH.out.gg i hiL).past HWB.out)
      have HGC := Lib.hid (fun j hj w' hb => HGH.out i j hiL hj w' hb)
      have HSE := Lib.hid (show gsE L GE i = if 64 < L.gl i then 4 else fstN (GE i) (L.gl i) from rfl)
      obtain ⟨ga, hga⟩ : ∃ ga, ga = L.ga i := ⟨_, rfl⟩
      obtain ⟨gl, hgl⟩ : ∃ gl, gl = L.gl i := ⟨_, rfl⟩
      obtain ⟨gc, hgc⟩ : ∃ gc, gc = L.gc i := ⟨_, rfl⟩
      rw [← hga, ← hgl, ← hgc] at HGG c0
      rw [← hgl] at HSE HGC
      have l0 := cell_lt c0; simp only at l0
      have hl2 : gl ≤ gc ∧ gc ≤ 9223372036854775807 := by have h1 := HGG.out.lc; have h2 := HGG.out.lm; unfold maxLen at h2; omega
      obtain ⟨hl3, hl4⟩ := hl2
      clear hc hga hgl hgc hiL
      by_cases hlg : 64 < gl
      · have hlgi : (64 : Int) < (gl : Int) := by omega
        have HV := Lib.hid (HXE.out 4 (by decide) (by rw [HSE.out, if_pos hlg]))
        go_wp2_with fail
        go_ret
        rw [HV.out]
        exact ⟨rfl, HWB.out⟩
      · have hlgi : ¬ ((64 : Int) < (gl : Int)) := by omega
        rw [if_neg hlg] at HSE
        go_wp2_with fail
        clear c0 l0
        go_loopw [42] (fun s42 wq => ∃ j : Nat, j ≤ gl ∧ s42 = .int .i64 j ∧ fstN (GE i) j = 0 ∧ Below wr.heap.size wr wq) (fun s42 _ => gl - (intOf s42).toNat)
        case atStart => exact ⟨0, Nat.zero_le _, rfl, rfl, Below.refl _ _⟩
        case round =>
          obtain ⟨j, hj, rfl, hjz, hq⟩ := hrel
          have HJZ := Lib.hid hjz; have HQ := Lib.hid hq
          have HQB := Lib.hid (HWB.out.trans (hq.mono HWB.out.size))
          have HQ1 := Lib.hid (HB.out.trans (hq.mono HB.out.size))
          clear hjz hq
          by_cases hjl : j < gl
          · have hjli : (j : Int) < (gl : Int) := by omega
            obtain ⟨bg, og, hgg, hc⟩ := (HGG.out.past HQ.out).get hjl
            subst hgg
            have HRA : Hid (wr.rangeAt bg (og + j * 49) (gradeL (L.g i j))) := Lib.hid (fun q x hx => hc q x hx)
            have HIE := Lib.hid (fun h => HXE.out _ h (by rw [HSE.out, fstN_of HJZ.out h hjl]) : GE i j ≠ 0 → E = GE i j)
            have HIS := Lib.hid (fun h => fstN_succ HJZ.out h : GE i j = 0 → _)
            have HCG := Lib.hid (fun w' hb => HGC.out j hjl w' hb : ∀ w', Below w.heap.size w w' → _)
            obtain ⟨g, hg⟩ : ∃ g, g = L.g i j := ⟨_, rfl⟩
            obtain ⟨ge, hge⟩ : ∃ ge, ge = GE i j := ⟨_, rfl⟩
            rw [← hg] at HRA HCG
            rw [← hge] at HCG HIE HIS
            clear hc hg hge
            by_cases hz : ge = 0
            · have HZ0 := Lib.hid (HIS.out hz)
              subst hz
              go_wp2_with (first
                | ((with_reducible apply wpList_ldG (g := g) HRA.out); rfl; rfl; rfl)
                | ((with_reducible apply wpList_stG (g := g) (Blk.new _ _ _ _ rfl) rfl); rfl; rfl; rfl; rfl; intro w9 hk9 hb9; have HX9 := Lib.hid (hb9 _ _ (HQB.out.alloc HQB.out.size _) HQB.out.size); have HY9 := Lib.hid (hb9 _ _ (HQ.out.alloc HQ.out.size _) HQ.out.size); clear hb9)
                | ((with_reducible apply wpList_ldG (g := g) hk9.range); rfl; rfl; rfl)
                | (go_at_call 14; refine (HCG.out _ HX9.out).mono ?_; rintro e w10 ⟨rfl, hb10⟩))
              go_roundw
              case rel => exact ⟨j + 1, by omega, by go_num, HZ0.out, HY9.out.trans (hb10.mono HY9.out.size)⟩
              case measure => simp [intOf] <;> omega
            · have HV := Lib.hid (HIE.out hz)
              go_wp2_with (first
                | ((with_reducible apply wpList_ldG (g := g) HRA.out); rfl; rfl; rfl)
                | ((with_reducible apply wpList_stG (g := g) (Blk.new _ _ _ _ rfl) rfl); rfl; rfl; rfl; rfl; intro w9 hk9 hb9; have HX9 := Lib.hid (hb9 _ _ (HQB.out.alloc HQB.out.size _) HQB.out.size); clear hb9)
                | ((with_reducible apply wpList_ldG (g := g) hk9.range); rfl; rfl; rfl)
                | (go_at_call 14; refine (HCG.out _ HX9.out).mono ?_; rintro e w10 ⟨rfl, hb10⟩))
              go_ret
              rw [HV.out]
              exact ⟨rfl, HX9.out.trans (hb10.mono HX9.out.size)⟩
          · have hjli : ¬ (j : Int) < (gl : Int) := by omega
            obtain rfl : j = gl := by omega
            have HV := Lib.hid (HS.out (by rw [HSE.out, HJZ.out]))
            go_wp2_with fail
            go_roundw
            case rel => exact ⟨i + 1, by omega, by go_num, HV.out, HQ1.out⟩
            case measure => simp [intOf] <;> omega
    · have himi : ¬ (i : Int) < (gn : Int) := by omega
      obtain rfl : i = gn := by omega
      have HE1 : Hid (E = fst2 (fstN (cuE L) cn) (fstN WE wn)) := Lib.hid (by rw [HE.out, HZ.out]; rfl)
      clear HE HZ HGH
      have HK := Lib.hid (H1.out.1.past HB.out)
      have m1 := HK.out.c 1 _ rfl; have ml := HK.out.lt
      go_wp2_with fail
      clear m1 ml
      go_loopw [56] (fun s56 wq => ∃ j : Nat, j ≤ cn ∧ s56 = .int .i64 j ∧ fstN (cuE L) j = 0 ∧ Below wr.heap.size wr wq) (fun s56 _ => cn - (intOf s56).toNat)
      case atStart => exact ⟨0, Nat.zero_le _, rfl, rfl, Below.refl _ _⟩
      case round =>
        obtain ⟨j, hj, rfl, hjz, hq⟩ := hrel
        have HJZ := Lib.hid hjz; have HQ := Lib.hid hq
        have HQB := Lib.hid (HWB.out.trans (hq.mono HWB.out.size))
        clear hjz hq
        by_cases hjc : j < cn
        · have hjci : (j : Int) < (cn : Int) := by omega
          have hjL : j < L.cn := by rw [← HCN.out]; exact hjc
          obtain ⟨b, off, hac, hc⟩ := (HH.out.c.past HQB.out).get hjL
          subst hac
          have HXE := Lib.hid (fun h => by rw [HE1.out, fstN_of HJZ.out h hjc, fst2_n h] : cuE L j ≠ 0 → E = cuE L j)
          have HXS := Lib.hid (fun h => fstN_succ HJZ.out h : cuE L j = 0 → fstN (cuE L) (j + 1) = 0)
          have HCE := Lib.hid (show cuE L j = cubErr (L.cs j) (L.cl j) (L.ch j) (L.cv j) from rfl)
          obtain ⟨x0, hx0⟩ : ∃ x, x = L.cs j := ⟨_, rfl⟩
          obtain ⟨x1, hx1⟩ : ∃ x, x = L.cl j := ⟨_, rfl⟩
          obtain ⟨x2, hx2⟩ : ∃ x, x = L.ch j := ⟨_, rfl⟩
          obtain ⟨x3, hx3⟩ : ∃ x, x = L.cv j := ⟨_, rfl⟩
          obtain ⟨x4, hx4⟩ : ∃ x, x = L.ca j := ⟨_, rfl⟩
          obtain ⟨x5, hx5⟩ : ∃ x, x = L.cc j := ⟨_, rfl⟩
          obtain ⟨x6, hx6⟩ : ∃ x, x = cuE L j := ⟨_, rfl⟩
          simp only [← hx0, ← hx1, ← hx2, ← hx3, ← hx4, ← hx5] at hc
          rw [← hx0, ← hx1, ← hx2, ← hx3, ← hx6] at HCE
          rw [← hx6] at HXE HXS
          have c0 := hc 0 _ rfl; have c1 := hc 1 _ rfl; have c2 := hc 2 _ rfl; have c3 := hc 3 _ rfl
          rw [Nat.add_zero] at c0
          have l0 := cell_lt c0; simp only at l0
          have hcc2 : cc ≤ 9223372036854775807 := hc4
          clear hc hx0 hx1 hx2 hx3 hx4 hx5 hx6 hjL
          by_cases hz : x6 = 0
          · have HZ0 := Lib.hid (HXS.out hz)
            have HC0 := Lib.hid (HCE.out.symm.trans hz)
            go_wp2_with (go_at_call 4; refine (CuCheck_any x0 x1 x2 x4 x3 x5 _).mono ?_; rintro e w10 ⟨rfl, hb10⟩; rw [HC0.out])
            go_roundw
            case rel => exact ⟨j + 1, by omega, by go_num, HZ0.out, by have hh := HQ.out; have hs := hh.size; (repeat (first | exact Below.refl _ _ | assumption | (refine Below.setCell ?_ (by first | (simp; done) | (simp; omega) | omega) _) | (refine Below.drew ?_) | (refine below_drewN ?_ _) | (refine Below.alloc ?_ (by first | (simp; done) | (simp; omega) | omega) _) | (refine Below.trans ?_ (Below.mono (by assumption) (by first | (simp; done) | (simp; omega) | omega)))))⟩
            case measure => simp [intOf] <;> omega
          · have HV := Lib.hid (HXE.out hz)
            go_wp2_with (go_at_call 4; refine (CuCheck_any x0 x1 x2 x4 x3 x5 _).mono ?_; rintro e w10 ⟨rfl, hb10⟩; rw [← HCE.out])
            go_ret
            rw [HV.out]
            exact ⟨rfl, by have hh := HQB.out; have hs := hh.size; (repeat (first | exact Below.refl _ _ | assumption | (refine Below.setCell ?_ (by first | (simp; done) | (simp; omega) | omega) _) | (refine Below.drew ?_) | (refine below_drewN ?_ _) | (refine Below.alloc ?_ (by first | (simp; done) | (simp; omega) | omega) _) | (refine Below.trans ?_ (Below.mono (by assumption) (by first | (simp; done) | (simp; omega) | omega)))))⟩
        · have hjci : ¬ (j : Int) < (cn : Int) := by omega
          obtain rfl : j = cn := by omega
          have HE2 : Hid (E = fstN WE wn) := Lib.hid (by rw [HE1.out, HJZ.out]; rfl)
          clear HE1 HJZ
          have HK2 := Lib.hid (HK.out.past HQ.out)
          clear HK
          have m2 := HK2.out.c 2 _ rfl; have ml := HK2.out.lt
          go_wp2_with fail
          clear m2 ml
          go_loopw [69] (fun s69 wt => ∃ k : Nat, k ≤ wn ∧ s69 = .int .i64 k ∧ fstN WE k = 0 ∧ Below wr.heap.size wr wt) (fun s69 _ => wn - (intOf s69).toNat)
          case atStart => exact ⟨0, Nat.zero_le _, rfl, rfl, Below.refl _ _⟩
          case round =>
            obtain ⟨k, hk, rfl, hkz, hq⟩ := hrel
            have HKZ := Lib.hid hkz; have HT := Lib.hid hq
            have HTB := Lib.hid (HQB.out.trans (hq.mono HQB.out.size))
            clear hkz hq
            by_cases hkw : k < wn
            · have hkwi : (k : Int) < (wn : Int) := by omega
              have hkL : k < L.wn := by rw [← HWN.out]; exact hkw
              obtain ⟨b, off, haw, hc⟩ := (HH.out.w.past HTB.out).get hkL
              subst haw
              have HXE := Lib.hid (fun h => by rw [HE2.out, fstN_of HKZ.out h hkw] : WE k ≠ 0 → E = WE k)
              have HXS := Lib.hid (fun h => fstN_succ HKZ.out h : WE k = 0 → fstN WE (k + 1) = 0)
              have HCW := Lib.hid (HWH.out k hkL _ HTB.out)
              obtain ⟨x0, hx0⟩ : ∃ x, x = L.wa k := ⟨_, rfl⟩
              obtain ⟨x1, hx1⟩ : ∃ x, x = L.wl k := ⟨_, rfl⟩
              obtain ⟨x2, hx2⟩ : ∃ x, x = L.wc k := ⟨_, rfl⟩
              obtain ⟨x6, hx6⟩ : ∃ x, x = WE k := ⟨_, rfl⟩
              simp only [← hx0, ← hx1, ← hx2] at hc
              rw [← hx0, ← hx1, ← hx2, ← hx6] at HCW
              rw [← hx6] at HXE HXS
              have c0 := hc 0 _ rfl
              rw [Nat.mul_one, Nat.add_zero] at c0
              have l0 := cell_lt c0; simp only at l0
              clear hc hx0 hx1 hx2 hx6 hkL
              by_cases hz : x6 = 0
              · have HZ0 := Lib.hid (HXS.out hz)
                subst hz
                go_wp2_with (go_at_call 15; refine HCW.out.mono ?_; rintro e w10 ⟨rfl, hb10⟩)
                go_roundw
                case rel => exact ⟨k + 1, by omega, by go_num, HZ0.out, HT.out.trans (hb10.mono HT.out.size)⟩
                case measure => simp [intOf] <;> omega
              · have HV := Lib.hid (HXE.out hz)
                go_wp2_with (go_at_call 15; refine HCW.out.mono ?_; rintro e w10 ⟨rfl, hb10⟩)
                go_ret
                rw [HV.out]
                exact ⟨rfl, HTB.out.trans (hb10.mono HTB.out.size)⟩
            · have hkwi : ¬ (k : Int) < (wn : Int) := by omega
              obtain rfl : k = wn := by omega
              go_wp2_with fail
              go_ret
              rw [HE2.out, HKZ.out]
              exact ⟨rfl, HTB.out⟩
set_option maxRecDepth 100000 in
set_option maxHeartbeats 6400000 in
theorem libraryError_any (ag ac aw : Option Addr) (cg cc cw : Nat) (L : LibD) (GE : Nat → Nat → Int) (WE : Nat → Int) (w : World) (h : LibAt w ag cg ac cc aw cw L)
    (HG : ∀ i j, i < L.gn → j < L.gl i → ∀ w', Below w.heap.size w w' → Calls Tryz.prog 14 #[gradeV (L.g i j)] w' fun e w'' => e = .returned (.int .i64 (GE i j)) ∧ Below w'.heap.size w' w'')
    (HW : ∀ i, i < L.wn → ∀ w', Below w.heap.size w w' → Calls Tryz.prog 15 #[.slice (L.wa i) (L.wl i) (L.wc i)] w' fun e w'' => e = .returned (.int .i64 (WE i)) ∧ Below w'.heap.size w' w'') :
    Calls Tryz.prog 8 #[.agg #[.slice ag L.gn cg, .slice ac L.cn cc, .slice aw L.wn cw]] w fun e w' => e = .returned (.int .i64 (lbE L GE WE)) ∧ Below w.heap.size w w' := by
  have HH := Lib.hid h; have HGH := Lib.hid HG; have HWH := Lib.hid HW
  clear h HG HW
  obtain ⟨E, hE⟩ : ∃ E, E = lbE L GE WE := ⟨_, rfl⟩
  have HE := Lib.hid (show E = if 16 < L.gn ∨ 16 < L.cn ∨ 16 < L.wn then 4 else fst2 (fstN (gsE L GE) L.gn) (fst2 (fstN (cuE L) L.cn) (fstN WE L.wn)) by rw [hE]; rfl)
  rw [← hE]
  clear hE
  obtain ⟨gn, hgn⟩ : ∃ gn, gn = L.gn := ⟨_, rfl⟩
  obtain ⟨cn, hcn⟩ : ∃ cn, cn = L.cn := ⟨_, rfl⟩
  obtain ⟨wn, hwn⟩ : ∃ wn, wn = L.wn := ⟨_, rfl⟩
  rw [← hgn, ← hcn, ← hwn] at HE
  rw [← hgn, ← hcn, ← hwn]
  have HGN := Lib.hid hgn; have HCN := Lib.hid hcn; have HWN := Lib.hid hwn
  have hg2 : gn ≤ cg ∧ cg ≤ 9223372036854775807 := by have h1 := HH.out.g.lc; have h2 := HH.out.g.lm; unfold maxLen at h2; omega
  have hc2 : cn ≤ cc ∧ cc ≤ 9223372036854775807 := by have h1 := HH.out.c.lc; have h2 := HH.out.c.lm; unfold maxLen at h2; omega
  have hw2 : wn ≤ cw ∧ cw ≤ 9223372036854775807 := by have h1 := HH.out.w.lc; have h2 := HH.out.w.lm; unfold maxLen at h2; omega
  obtain ⟨hg3, hg4⟩ := hg2; obtain ⟨hc3, hc4⟩ := hc2; obtain ⟨hw3, hw4⟩ := hw2
  clear hgn hcn hwn
  by_cases hbig : 16 < gn ∨ 16 < cn ∨ 16 < wn
  · rw [if_pos hbig] at HE
    have h3 : 16 < gn ∨ (¬ 16 < gn ∧ 16 < cn) ∨ (¬ 16 < gn ∧ ¬ 16 < cn ∧ 16 < wn) := by omega
    clear hbig
    rcases h3 with q1 | ⟨q1, q2⟩ | ⟨q1, q2, q3⟩
    all_goals
      go_enter Tryz.func8, Tryz.ntmps8
      go_wp2_with fail
      go_ret
      rw [HE.out]
      exact ⟨rfl, by (repeat (first | exact Below.refl _ _ | assumption | (refine Below.setCell ?_ (by first | (simp; done) | (simp; omega) | omega) _) | (refine Below.drew ?_) | (refine below_drewN ?_ _) | (refine Below.alloc ?_ (by first | (simp; done) | (simp; omega) | omega) _) | (refine Below.trans ?_ (Below.mono (by assumption) (by first | (simp; done) | (simp; omega) | omega)))))⟩
  rw [if_neg hbig] at HE
  have q1 : ¬ 16 < gn := by omega
  have q2 : ¬ 16 < cn := by omega
  have q3 : ¬ 16 < wn := by omega
  clear hbig
  go_enter Tryz.func8, Tryz.ntmps8
  go_upto_region 3 with fail
  refine wp_world (fun W1 hW1 => ?_)
  have H1p : Blk W1 w.heap.size [.slice ag gn cg, .slice ac cn cc, .slice aw wn cw] ∧ Below w.heap.size w W1 := by rw [hW1]; exact ⟨Blk.new _ _ _ _ rfl, by (repeat (first | exact Below.refl _ _ | assumption | (refine Below.setCell ?_ (by first | (simp; done) | (simp; omega) | omega) _) | (refine Below.drew ?_) | (refine below_drewN ?_ _) | (refine Below.alloc ?_ (by first | (simp; done) | (simp; omega) | omega) _) | (refine Below.trans ?_ (Below.mono (by assumption) (by first | (simp; done) | (simp; omega) | omega)))))⟩
  obtain ⟨pl, hpl⟩ : ∃ pl, pl = w.heap.size := ⟨_, rfl⟩
  have H1 : Hid (Blk W1 pl [.slice ag gn cg, .slice ac cn cc, .slice aw wn cw] ∧ Below w.heap.size w W1) := Lib.hid (by rw [hpl]; exact H1p)
  rw [← hpl]
  clear hW1 H1p hpl
  have m0 := H1.out.1.c 0 _ rfl; have ml := H1.out.1.lt
  go_wp2_with fail
  clear m0 ml
  go_loopw [33] (fun s33 wr => ∃ i : Nat, i ≤ gn ∧ s33 = .int .i64 i ∧ fstN (gsE L GE) i = 0 ∧ Below W1.heap.size W1 wr) (fun s33 _ => gn - (intOf s33).toNat)
  case atStart => exact ⟨0, Nat.zero_le _, rfl, rfl, Below.refl _ _⟩
  case round =>
    obtain ⟨i, hi, rfl, hz, hB⟩ := hrel
    have HZ := Lib.hid hz; have HB := Lib.hid hB
    have HWB := Lib.hid (H1.out.2.trans (hB.mono H1.out.2.size))
    clear hz hB
    by_cases him : i < gn
    · have himi : (i : Int) < (gn : Int) := by omega
      have hiL : i < L.gn := by rw [← HGN.out]; exact him
      have HXE : Hid (∀ e, e ≠ 0 → gsE L GE i = e → E = e) := Lib.hid (fun e h1 h2 => by rw [HE.out, fstN_of HZ.out (by rw [h2]; exact h1) him, h2, fst2_n h1])
      have HS := Lib.hid (fun hk => fstN_succ (k := i) HZ.out hk : gsE L GE i = 0 → fstN (gsE L GE) (i + 1) = 0)
      obtain ⟨b, off, hag, hc⟩ := (HH.out.g.past HWB.out).get hiL
      subst hag
      have c0 := hc 0 _ rfl
      rw [Nat.mul_one, Nat.add_zero] at c0
      have HGG := Lib.hid ((HH.out.gg i hiL).past HWB.out)
      have HGC := Lib.hid (fun j hj w' hb => HGH.out i j hiL hj w' hb)
      have HSE := Lib.hid (show gsE L GE i = if 64 < L.gl i then 4 else fstN (GE i) (L.gl i) from rfl)
      obtain ⟨ga, hga⟩ : ∃ ga, ga = L.ga i := ⟨_, rfl⟩
      obtain ⟨gl, hgl⟩ : ∃ gl, gl = L.gl i := ⟨_, rfl⟩
      obtain ⟨gc, hgc⟩ : ∃ gc, gc = L.gc i := ⟨_, rfl⟩
      rw [← hga, ← hgl, ← hgc] at HGG c0
      rw [← hgl] at HSE HGC
      have l0 := cell_lt c0; simp only at l0
      have hl2 : gl ≤ gc ∧ gc ≤ 9223372036854775807 := by have h1 := HGG.out.lc; have h2 := HGG.out.lm; unfold maxLen at h2; omega
      obtain ⟨hl3, hl4⟩ := hl2
      clear hc hga hgl hgc hiL
      by_cases hlg : 64 < gl
      · have hlgi : (64 : Int) < (gl : Int) := by omega
        have HV := Lib.hid (HXE.out 4 (by decide) (by rw [HSE.out, if_pos hlg]))
        go_wp2_with fail
        go_ret
        rw [HV.out]
        exact ⟨rfl, HWB.out⟩
      · have hlgi : ¬ ((64 : Int) < (gl : Int)) := by omega
        rw [if_neg hlg] at HSE
        go_wp2_with fail
        clear c0 l0
        go_loopw [42] (fun s42 wq => ∃ j : Nat, j ≤ gl ∧ s42 = .int .i64 j ∧ fstN (GE i) j = 0 ∧ Below wr.heap.size wr wq) (fun s42 _ => gl - (intOf s42).toNat)
        case atStart => exact ⟨0, Nat.zero_le _, rfl, rfl, Below.refl _ _⟩
        case round =>
          obtain ⟨j, hj, rfl, hjz, hq⟩ := hrel
          have HJZ := Lib.hid hjz; have HQ := Lib.hid hq
          have HQB := Lib.hid (HWB.out.trans (hq.mono HWB.out.size))
          have HQ1 := Lib.hid (HB.out.trans (hq.mono HB.out.size))
          clear hjz hq
          by_cases hjl : j < gl
          · have hjli : (j : Int) < (gl : Int) := by omega
            obtain ⟨bg, og, hgg, hc⟩ := (HGG.out.past HQ.out).get hjl
            subst hgg
            have HRA : Hid (wr.rangeAt bg (og + j * 49) (gradeL (L.g i j))) := Lib.hid (fun q x hx => hc q x hx)
            have HIE := Lib.hid (fun h => HXE.out _ h (by rw [HSE.out, fstN_of HJZ.out h hjl]) : GE i j ≠ 0 → E = GE i j)
            have HIS := Lib.hid (fun h => fstN_succ HJZ.out h : GE i j = 0 → _)
            have HCG := Lib.hid (fun w' hb => HGC.out j hjl w' hb : ∀ w', Below w.heap.size w w' → _)
            obtain ⟨g, hg⟩ : ∃ g, g = L.g i j := ⟨_, rfl⟩
            obtain ⟨ge, hge⟩ : ∃ ge, ge = GE i j := ⟨_, rfl⟩
            rw [← hg] at HRA HCG
            rw [← hge] at HCG HIE HIS
            clear hc hg hge
            by_cases hz : ge = 0
            · have HZ0 := Lib.hid (HIS.out hz)
              subst hz
              go_wp2_with (first
                | ((with_reducible apply wpList_ldG (g := g) HRA.out); rfl; rfl; rfl)
                | ((with_reducible apply wpList_stG (g := g) (Blk.new _ _ _ _ rfl) rfl); rfl; rfl; rfl; rfl; intro w9 hk9 hb9; have HX9 := Lib.hid (hb9 _ _ (HQB.out.alloc HQB.out.size _) HQB.out.size); have HY9 := Lib.hid (hb9 _ _ (HQ.out.alloc HQ.out.size _) HQ.out.size); clear hb9)
                | ((with_reducible apply wpList_ldG (g := g) hk9.range); rfl; rfl; rfl)
                | (go_at_call 14; refine (HCG.out _ HX9.out).mono ?_; rintro e w10 ⟨rfl, hb10⟩))
              go_roundw
              case rel => exact ⟨j + 1, by omega, by go_num, HZ0.out, HY9.out.trans (hb10.mono HY9.out.size)⟩
              case measure => simp [intOf] <;> omega
            · have HV := Lib.hid (HIE.out hz)
              go_wp2_with (first
                | ((with_reducible apply wpList_ldG (g := g) HRA.out); rfl; rfl; rfl)
                | ((with_reducible apply wpList_stG (g := g) (Blk.new _ _ _ _ rfl) rfl); rfl; rfl; rfl; rfl; intro w9 hk9 hb9; have HX9 := Lib.hid (hb9 _ _ (HQB.out.alloc HQB.out.size _) HQB.out.size); clear hb9)
                | ((with_reducible apply wpList_ldG (g := g) hk9.range); rfl; rfl; rfl)
                | (go_at_call 14; refine (HCG.out _ HX9.out).mono ?_; rintro e w10 ⟨rfl, hb10⟩))
              go_ret
              rw [HV.out]
              exact ⟨rfl, HX9.out.trans (hb10.mono HX9.out.size)⟩
          · have hjli : ¬ (j : Int) < (gl : Int) := by omega
            obtain rfl : j = gl := by omega
            have HV := Lib.hid (HS.out (by rw [HSE.out, HJZ.out]))
            go_wp2_with fail
            go_roundw
            case rel => exact ⟨i + 1, by omega, by go_num, HV.out, HQ1.out⟩
            case measure => simp [intOf] <;> omega
    · have himi : ¬ (i : Int) < (gn : Int) := by omega
      obtain rfl : i = gn := by omega
      have HE1 : Hid (E = fst2 (fstN (cuE L) cn) (fstN WE wn)) := Lib.hid (by rw [HE.out, HZ.out]; rfl)
      clear HE HZ HGH
      have HK := Lib.hid (H1.out.1.past HB.out)
      have m1 := HK.out.c 1 _ rfl; have ml := HK.out.lt
      go_wp2_with fail
      clear m1 ml
      go_loopw [56] (fun s56 wq => ∃ j : Nat, j ≤ cn ∧ s56 = .int .i64 j ∧ fstN (cuE L) j = 0 ∧ Below wr.heap.size wr wq) (fun s56 _ => cn - (intOf s56).toNat)
      case atStart => exact ⟨0, Nat.zero_le _, rfl, rfl, Below.refl _ _⟩
      case round =>
        obtain ⟨j, hj, rfl, hjz, hq⟩ := hrel
        have HJZ := Lib.hid hjz; have HQ := Lib.hid hq
        have HQB := Lib.hid (HWB.out.trans (hq.mono HWB.out.size))
        clear hjz hq
        by_cases hjc : j < cn
        · have hjci : (j : Int) < (cn : Int) := by omega
          have hjL : j < L.cn := by rw [← HCN.out]; exact hjc
          obtain ⟨b, off, hac, hc⟩ := (HH.out.c.past HQB.out).get hjL
          subst hac
          have HXE := Lib.hid (fun h => by rw [HE1.out, fstN_of HJZ.out h hjc, fst2_n h] : cuE L j ≠ 0 → E = cuE L j)
          have HXS := Lib.hid (fun h => fstN_succ HJZ.out h : cuE L j = 0 → fstN (cuE L) (j + 1) = 0)
          have HCE := Lib.hid (show cuE L j = cubErr (L.cs j) (L.cl j) (L.ch j) (L.cv j) from rfl)
          obtain ⟨x0, hx0⟩ : ∃ x, x = L.cs j := ⟨_, rfl⟩
          obtain ⟨x1, hx1⟩ : ∃ x, x = L.cl j := ⟨_, rfl⟩
          obtain ⟨x2, hx2⟩ : ∃ x, x = L.ch j := ⟨_, rfl⟩
          obtain ⟨x3, hx3⟩ : ∃ x, x = L.cv j := ⟨_, rfl⟩
          obtain ⟨x4, hx4⟩ : ∃ x, x = L.ca j := ⟨_, rfl⟩
          obtain ⟨x5, hx5⟩ : ∃ x, x = L.cc j := ⟨_, rfl⟩
          obtain ⟨x6, hx6⟩ : ∃ x, x = cuE L j := ⟨_, rfl⟩
          simp only [← hx0, ← hx1, ← hx2, ← hx3, ← hx4, ← hx5] at hc
          rw [← hx0, ← hx1, ← hx2, ← hx3, ← hx6] at HCE
          rw [← hx6] at HXE HXS
          have c0 := hc 0 _ rfl; have c1 := hc 1 _ rfl; have c2 := hc 2 _ rfl; have c3 := hc 3 _ rfl
          rw [Nat.add_zero] at c0
          have l0 := cell_lt c0; simp only at l0
          have hcc2 : cc ≤ 9223372036854775807 := hc4
          clear hc hx0 hx1 hx2 hx3 hx4 hx5 hx6 hjL
          by_cases hz : x6 = 0
          · have HZ0 := Lib.hid (HXS.out hz)
            have HC0 := Lib.hid (HCE.out.symm.trans hz)
            go_wp2_with (go_at_call 5; refine (CubeError_any x0 x1 x2 x4 x3 x5 _).mono ?_; rintro e w10 ⟨rfl, hb10⟩; rw [HC0.out])
            go_roundw
            case rel => exact ⟨j + 1, by omega, by go_num, HZ0.out, by have hh := HQ.out; have hs := hh.size; (repeat (first | exact Below.refl _ _ | assumption | (refine Below.setCell ?_ (by first | (simp; done) | (simp; omega) | omega) _) | (refine Below.drew ?_) | (refine below_drewN ?_ _) | (refine Below.alloc ?_ (by first | (simp; done) | (simp; omega) | omega) _) | (refine Below.trans ?_ (Below.mono (by assumption) (by first | (simp; done) | (simp; omega) | omega)))))⟩
            case measure => simp [intOf] <;> omega
          · have HV := Lib.hid (HXE.out hz)
            go_wp2_with (go_at_call 5; refine (CubeError_any x0 x1 x2 x4 x3 x5 _).mono ?_; rintro e w10 ⟨rfl, hb10⟩; rw [← HCE.out])
            go_ret
            rw [HV.out]
            exact ⟨rfl, by have hh := HQB.out; have hs := hh.size; (repeat (first | exact Below.refl _ _ | assumption | (refine Below.setCell ?_ (by first | (simp; done) | (simp; omega) | omega) _) | (refine Below.drew ?_) | (refine below_drewN ?_ _) | (refine Below.alloc ?_ (by first | (simp; done) | (simp; omega) | omega) _) | (refine Below.trans ?_ (Below.mono (by assumption) (by first | (simp; done) | (simp; omega) | omega)))))⟩
        · have hjci : ¬ (j : Int) < (cn : Int) := by omega
          obtain rfl : j = cn := by omega
          have HE2 : Hid (E = fstN WE wn) := Lib.hid (by rw [HE1.out, HJZ.out]; rfl)
          clear HE1 HJZ
          have HK2 := Lib.hid (HK.out.past HQ.out)
          clear HK
          have m2 := HK2.out.c 2 _ rfl; have ml := HK2.out.lt
          go_wp2_with fail
          clear m2 ml
          go_loopw [69] (fun s69 wt => ∃ k : Nat, k ≤ wn ∧ s69 = .int .i64 k ∧ fstN WE k = 0 ∧ Below wr.heap.size wr wt) (fun s69 _ => wn - (intOf s69).toNat)
          case atStart => exact ⟨0, Nat.zero_le _, rfl, rfl, Below.refl _ _⟩
          case round =>
            obtain ⟨k, hk, rfl, hkz, hq⟩ := hrel
            have HKZ := Lib.hid hkz; have HT := Lib.hid hq
            have HTB := Lib.hid (HQB.out.trans (hq.mono HQB.out.size))
            clear hkz hq
            by_cases hkw : k < wn
            · have hkwi : (k : Int) < (wn : Int) := by omega
              have hkL : k < L.wn := by rw [← HWN.out]; exact hkw
              obtain ⟨b, off, haw, hc⟩ := (HH.out.w.past HTB.out).get hkL
              subst haw
              have HXE := Lib.hid (fun h => by rw [HE2.out, fstN_of HKZ.out h hkw] : WE k ≠ 0 → E = WE k)
              have HXS := Lib.hid (fun h => fstN_succ HKZ.out h : WE k = 0 → fstN WE (k + 1) = 0)
              have HCW := Lib.hid (HWH.out k hkL _ HTB.out)
              obtain ⟨x0, hx0⟩ : ∃ x, x = L.wa k := ⟨_, rfl⟩
              obtain ⟨x1, hx1⟩ : ∃ x, x = L.wl k := ⟨_, rfl⟩
              obtain ⟨x2, hx2⟩ : ∃ x, x = L.wc k := ⟨_, rfl⟩
              obtain ⟨x6, hx6⟩ : ∃ x, x = WE k := ⟨_, rfl⟩
              simp only [← hx0, ← hx1, ← hx2] at hc
              rw [← hx0, ← hx1, ← hx2, ← hx6] at HCW
              rw [← hx6] at HXE HXS
              have c0 := hc 0 _ rfl
              rw [Nat.mul_one, Nat.add_zero] at c0
              have l0 := cell_lt c0; simp only at l0
              clear hc hx0 hx1 hx2 hx6 hkL
              by_cases hz : x6 = 0
              · have HZ0 := Lib.hid (HXS.out hz)
                subst hz
                go_wp2_with (go_at_call 15; refine HCW.out.mono ?_; rintro e w10 ⟨rfl, hb10⟩)
                go_roundw
                case rel => exact ⟨k + 1, by omega, by go_num, HZ0.out, HT.out.trans (hb10.mono HT.out.size)⟩
                case measure => simp [intOf] <;> omega
              · have HV := Lib.hid (HXE.out hz)
                go_wp2_with (go_at_call 15; refine HCW.out.mono ?_; rintro e w10 ⟨rfl, hb10⟩)
                go_ret
                rw [HV.out]
                exact ⟨rfl, HTB.out.trans (hb10.mono HTB.out.size)⟩
            · have hkwi : ¬ (k : Int) < (wn : Int) := by omega
              obtain rfl : k = wn := by omega
              go_wp2_with fail
              go_ret
              rw [HE2.out, HKZ.out]
              exact ⟨rfl, HTB.out⟩
end Go.Proofs.YthlomgbchmhjiaaGreatDoor
