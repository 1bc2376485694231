/- Work on machines, the farm's: what stands in memory; when a machine comes up; which work and which machine are next. Conditions: what each theorem names. -/
import Derived.Test.YtkadinjhfldokaaSiA
import Derived.Test.YtkadinjhfldokaaSpC
import Derived.Test.YtkadinjhfldokaaSrA
import Derived.BigQuiet
namespace Go.Proofs.Ytkadinjhfldokaa
open Go Go.RowKit
/-- n cells of a block, by their place; none is frozen. -/
structure VecV (w : World) (b n : Nat) (f : Nat → Value) : Prop where
  lt : b < w.heap.size
  c : ∀ j, j < n → w.cell? ⟨b, j, none⟩ = some (f j)
  f : ∀ o, w.frozen? ⟨b, o, none⟩ = false
theorem VecV.block {W w : World} {b n : Nat} {f : Nat → Value} (k : VecV W b n f) (hs : W.heap.size ≤ w.heap.size) (hb : w.heap[b]? = W.heap[b]?) : VecV w b n f :=
  ⟨Nat.lt_of_lt_of_le k.lt hs, fun j hj => (World.cell?_of_block hb).trans (k.c j hj), fun o => (World.frozen?_of_block hb).trans (k.f o)⟩
theorem VecV.past {W w : World} {b n : Nat} {f : Nat → Value} (k : VecV W b n f) (h : Below W.heap.size W w) : VecV w b n f := k.block h.size (h.block b k.lt)
theorem VecV.far {w : World} {b n : Nat} {f : Nat → Value} (k : VecV w b n f) (q : Addr) (t : Value) (hq : q.block ≠ b) : VecV (w.setCell q t) b n f := k.block (by simp [World.setCell]) (Below.heap_setCell _ _ _ _ (Ne.symm hq))
theorem VecV.set {w : World} {b n : Nat} {f : Nat → Value} (k : VecV w b n f) (i : Nat) (x : Value) : VecV (w.setCell ⟨b, i, none⟩ x) b n (updF f i x) := by
  refine ⟨by have := k.lt; simpa [World.setCell] using this, fun j hj => ?_, fun o => (World.frozen?_setCell _ _ _ _).trans (k.f o)⟩
  by_cases e : j = i
  · subst e; rw [updF_at]; exact World.cell?_setCell_same _ _ _ (k.c j hj)
  · rw [updF_ne _ _ e, set_other (Ne.symm e)]; exact k.c j hj
theorem VecV.congr {w : World} {b n : Nat} {f g : Nat → Value} (k : VecV w b n f) (h : ∀ j, j < n → f j = g j) : VecV w b n g := ⟨k.lt, fun j hj => by rw [← h j hj]; exact k.c j hj, k.f⟩
/-- A run's cells. -/
def runL (x : RunV) : List Value := [.int .i64 x.wk, .int .i64 x.mc, .int .i64 x.fr, .int .i64 x.to, .bool x.fl]
def bzV (S : SimS) (pb : Nat → Nat) (m : Nat) : Value := match S.bz m with
  | none => .pointer none
  | some _ => .pointer (some ⟨pb m, 0, none⟩)
/-- What the simulation holds, in memory: its own blocks lie from w0's end on, below b1; what it makes later from b1 on. -/
structure SimG (w0 : World) (aw : Option Addr) (cw : Nat) (am : Option Addr) (cm : Nat) (D : SimD) (ps gs gf gb b1 : Nat) (w : World) (S : SimS) (pb : Nat → Nat) (rv : Value) : Prop where
  kS : Blk w ps [.slice aw D.nw cw, .slice am D.nm cm, .int .i64 D.tr, .int .i64 S.now, .slice (some ⟨gs, 0, none⟩) D.nw D.nw, .slice (some ⟨gf, 0, none⟩) D.nw D.nw, .slice (some ⟨gb, 0, none⟩) D.nm D.nm, rv]
  kT : VecV w gs D.nw (fun i => .int .i64 (S.st i))
  kF : VecV w gf D.nw (fun i => .int .i64 (S.fl i))
  kB : VecV w gb D.nm (bzV S pb)
  kP : ∀ m r, m < D.nm → S.bz m = some r → Blk w (pb m) (runL r) ∧ b1 ≤ pb m ∧ some (pb m) ≠ rv.ownBlock
  kR : w.ownsRow b1 36 5 rv S.k (accL (fun i => runL (S.q i)) S.k)
  bel : Below w0.heap.size w0 w
  sz : b1 ≤ w.heap.size
theorem SimG.past {w0 : World} {aw : Option Addr} {cw : Nat} {am : Option Addr} {cm : Nat} {D : SimD} {ps gs gf gb b1 : Nat} {w wy : World} {S : SimS} {pb : Nat → Nat} {rv : Value} (k : SimG w0 aw cw am cm D ps gs gf gb b1 w S pb rv) (h : Below w.heap.size w wy) : SimG w0 aw cw am cm D ps gs gf gb b1 wy S pb rv :=
  ⟨k.kS.past h, k.kT.past h, k.kF.past h, k.kB.past h, fun m r hm hr => ⟨(k.kP m r hm hr).1.past h, (k.kP m r hm hr).2⟩, own_past k.kR h, k.bel.trans (h.mono k.bel.size), Nat.le_trans k.sz h.size⟩
/-- The simulation's blocks differ. -/
def NeS (w0 : World) (ps gs gf gb b1 : Nat) : Prop := (ps ≠ gs ∧ ps ≠ gf ∧ ps ≠ gb ∧ gs ≠ gf ∧ gs ≠ gb ∧ gf ≠ gb) ∧ (w0.heap.size ≤ ps ∧ w0.heap.size ≤ gs ∧ w0.heap.size ≤ gf ∧ w0.heap.size ≤ gb) ∧ ps < b1 ∧ gs < b1 ∧ gf < b1 ∧ gb < b1
theorem upC_yes {k : Mc} {t : Int} {j : Nat} (h : k.df j ≤ t ∧ t < k.dt j) : upC k t j = some (k.dt j) := by unfold upC; rw [if_pos h]
theorem upC_no {k : Mc} {t : Int} {j : Nat} (h : ¬ (k.df j ≤ t ∧ t < k.dt j)) : upC k t j = none := by unfold upC; rw [if_neg h]
theorem firstS_succ {c : Nat → Option Int} {i : Nat} (h0 : firstS c i = none) (hi : c i = none) : firstS c (i + 1) = none := by unfold firstS; rw [h0]; exact hi
section
variable {w0 : World} {aw : Option Addr} {cw : Nat} {am : Option Addr} {cm : Nat} {D : SimD} {ps gs gf gb b1 : Nat} {S : SimS} {pb : Nat → Nat} {rv : Value}
set_option maxRecDepth 100000 in
set_option maxHeartbeats 3200000 in
theorem upAt_any (m : Nat) (w : World) (h : SimG w0 aw cw am cm D ps gs gf gb b1 w S pb rv) (hM : IsMachines w0 am D.nm cm D.M) (hm : m < D.nm) :
    Calls Try.prog 36 #[.pointer (some ⟨ps, 0, none⟩), .int .i64 m] w fun e w' => e = .returned (.int .i64 (upAt (D.M m) S.now)) ∧ Below w.heap.size w w' := by
  have s1 := h.kS.c 1 _ rfl; have s3 := h.kS.c 3 _ rfl; have sl := h.kS.lt
  have hMw := hM.below h.bel
  have HS := Lib.hid h.kS
  obtain ⟨b, off, rfl, hc⟩ := hMw.2.2 (by omega)
  have hcm : D.nm ≤ cm := hMw.1
  have hcm2 : cm ≤ 9223372036854775807 := by have := hMw.2.1; unfold maxLen at this; omega
  have hmi : (m : Int) < (D.nm : Int) := by omega
  have hw := hc m hm
  obtain ⟨K, hK⟩ : ∃ K, K = D.M m := ⟨_, rfl⟩
  rw [← hK] at hw ⊢
  obtain ⟨sp, da, dn, dc, df, dt⟩ := K
  have c0 := hw.1; have c1 := hw.2.1
  simp only at c0 c1
  have l0 := cell_lt c0; simp only at l0
  have HI := Lib.hid (show InS w da dn dc df dt from hw.2.2.2)
  generalize S.now = now at *
  clear hw hK hc hMw hM h
  go_enter Try.func36, Try.ntmps36
  go_wp2_with fail
  clear s1 s3 c0 c1 l0 sl
  go_loopw [16] (fun s16 wr => ∃ i : Nat, i ≤ dn ∧ s16 = .int .i64 i ∧ firstS (upC ⟨sp, da, dn, dc, df, dt⟩ now) i = none ∧ Below w.heap.size w wr) (fun s16 _ => dn - (intOf s16).toNat)
  case atStart => exact ⟨0, Nat.zero_le _, rfl, rfl, Below.refl _ _⟩
  case round =>
    obtain ⟨i, hi, rfl, hz, hq⟩ := hrel
    have HZ := Lib.hid hz; have HQ := Lib.hid hq
    clear hz
    have S5 := HS.out.past hq
    have s3 := S5.c 3 _ rfl; have sl := S5.lt
    by_cases hin : i < dn
    · have hini : (i : Int) < (dn : Int) := by omega
      obtain ⟨b2, off2, rfl, hcc⟩ := HI.out.2.2 (by omega)
      have hac := HI.out.1
      have hac2 : dc ≤ 9223372036854775807 := by have := HI.out.2.1; unfold maxLen at this; omega
      obtain ⟨d0, d1, -, -⟩ := hcc i hin
      have e0 := (hq.cell (p := ⟨b2, off2 + i * 2, none⟩) (cell_lt d0)).trans d0
      have e1 := (hq.cell (p := ⟨b2, off2 + i * 2 + 1, none⟩) (cell_lt d1)).trans d1
      have el := cell_lt e0; simp only at el
      have HU := Lib.hid (fun h => firstS_some HZ.out (upC_yes h) hin : df i ≤ now ∧ now < dt i → firstS (upC ⟨sp, some ⟨b2, off2, none⟩, dn, dc, df, dt⟩ now) dn = some (dt i))
      have HV := Lib.hid (fun h => firstS_succ HZ.out (upC_no h) : ¬ (df i ≤ now ∧ now < dt i) → firstS (upC ⟨sp, some ⟨b2, off2, none⟩, dn, dc, df, dt⟩ now) (i + 1) = none)
      clear hcc d0 d1 S5
      generalize df i = z at *
      generalize dt i = y at *
      go_upto_region 4 with fail
      refine wp_world (fun W5 hW5 => ?_)
      have B5 : Below wr.heap.size wr W5 := by rw [hW5]; (repeat (first | exact Below.refl _ _ | assumption | (refine Below.setCell ?_ (by first | (simp; done) | (simp; omega) | omega) _) | (refine Below.drew ?_) | (refine below_drewN ?_ _) | (refine Below.alloc ?_ (by first | (simp; done) | (simp; omega) | omega) _) | (refine Below.trans ?_ (Below.mono (by assumption) (by first | (simp; done) | (simp; omega) | omega)))))
      have N5 : Blk W5 wr.heap.size [.int .i64 z, .int .i64 y] := by rw [hW5]; exact Blk.new _ _ _ _ rfl
      have HB5 := Lib.hid (hq.trans (B5.mono hq.size))
      have g0 := N5.c 0 _ rfl; have g1 := N5.c 1 _ rfl; have gl := N5.lt
      have S6 := HS.out.past HB5.out
      have s3' := S6.c 3 _ rfl; have sl' := S6.lt
      clear hW5 B5 N5 e0 e1 el S6 hq s3 sl
      by_cases hzn : z ≤ now
      · have hd : decide (z ≤ now) = true := decide_eq_true hzn
        by_cases hny : now < y
        · have hd1 : decide (now < y) = true := decide_eq_true hny
          have HE := Lib.hid (HU.out ⟨hzn, hny⟩)
          clear HU HV HZ
          go_quiet (fail)
          go_wp2_with fail
          go_ret
          refine ⟨by unfold upAt; rw [HE.out]; rfl, ?_⟩
          have hb5 := HB5.out
          (repeat (first | exact Below.refl _ _ | assumption | (refine Below.setCell ?_ (by first | (simp; done) | (simp; omega) | omega) _) | (refine Below.drew ?_) | (refine below_drewN ?_ _) | (refine Below.alloc ?_ (by first | (simp; done) | (simp; omega) | omega) _) | (refine Below.trans ?_ (Below.mono (by assumption) (by first | (simp; done) | (simp; omega) | omega)))))
        · have hd1 : decide (now < y) = false := decide_eq_false hny
          have HE := Lib.hid (HV.out (fun h => hny h.2))
          clear HU HV
          go_quiet (fail)
          go_wp2_with fail
          go_roundw
          case rel => exact ⟨i + 1, by omega, by go_num, HE.out, below_drewN HB5.out _⟩
          case measure => simp [intOf]; omega
      · have hd : decide (z ≤ now) = false := decide_eq_false hzn
        have HE := Lib.hid (HV.out (fun h => hzn h.1))
        clear HU HV
        go_quiet (fail)
        go_wp2_with fail
        go_roundw
        case rel => exact ⟨i + 1, by omega, by go_num, HE.out, below_drewN HB5.out _⟩
        case measure => simp [intOf]; omega
    · have hini : ¬ (i : Int) < (dn : Int) := by omega
      have hie : i = dn := by omega
      have HE := Lib.hid (show upAt ⟨sp, da, dn, dc, df, dt⟩ now = now by unfold upAt; rw [show (⟨sp, da, dn, dc, df, dt⟩ : Mc).dn = i from hie.symm, HZ.out]; rfl)
      clear S5 hq hie
      go_wp2_with fail
      go_ret
      exact ⟨by rw [HE.out]; rfl, HQ.out⟩
end
end Go.Proofs.Ytkadinjhfldokaa
