/- Two rows of nodes that hold the same. Conditions: what each theorem names. -/
import Derived.Test.YtbaocallhnehfaaGreatDoorPsB
set_option linter.unusedSimpArgs false
set_option linter.unusedVariables false
namespace Go.Proofs.YtbaocallhnehfaaGreatDoor
open Go Go.RowKit
theorem NdAt.past {X : Nat → Prop} {w w' : World} {nd : NodeD} {p : PN} (h : NdAt w X nd p) (hb : Below w.heap.size w w') : NdAt w' X nd p := h.tch (S := fun _ => False) (Tch.of_below hb) (fun _ _ h => h.elim)
def nodeV (n : NodeD) : Value := .agg #[.string n.op, .slice n.ia n.ins.length n.ic, .slice n.na n.ints.length n.nc, .slice n.ra n.reals.length n.rc]
set_option maxRecDepth 100000 in
set_option maxHeartbeats 1600000 in
theorem nodeEq_any {X X' : Nat → Prop} (nd nd' : NodeD) (p : PN) (w : World) (hl : p.ins.length ≤ 65536 ∧ p.ints.length ≤ 65536 ∧ p.reals.length ≤ 65536) (h : NdAt w X nd p) (h' : NdAt w X' nd' p) :
    Calls Tryz.prog 9 #[nodeV nd, nodeV nd'] w fun e w' => e = .returned (.bool true) ∧ Below w.heap.size w w' := by
  obtain ⟨d1, d2, d3, d4, di, dk, dr, db, -, -, -⟩ := h
  obtain ⟨e1, e2, e3, e4, ei, ek, er, eb, -, -, -⟩ := h'
  obtain ⟨op, ins, ints, reals⟩ := p
  obtain ⟨op2, ins2, ints2, reals2, ia2, ic2, na2, nc2, ra2, rc2⟩ := nd
  obtain ⟨op3, ins3, ints3, reals3, ia3, ic3, na3, nc3, ra3, rc3⟩ := nd'
  simp only at d1 d2 d3 d4 di dk dr e1 e2 e3 e4 ei ek er hl
  subst d1 d2 d3 d4
  subst e1 e2 e3 e4
  obtain ⟨db1, db2, db3, db4, db5, db6⟩ := db
  obtain ⟨eb1, eb2, eb3, eb4, eb5, eb6⟩ := eb
  simp only at db1 db2 db3 db4 db5 db6 eb1 eb2 eb3 eb4 eb5 eb6
  have HE1 := Lib.hid (fun w' (hb : Below w.heap.size w w') => eqI_dec ins3 ins3 ic2 ic3 ia2 ia3 w' hl.1 hl.1 ⟨db1, db2⟩ ⟨eb1, eb2⟩ (di.past hb) (ei.past hb))
  have HE2 := Lib.hid (fun w' (hb : Below w.heap.size w w') => eqI_dec ints3 ints3 nc2 nc3 na2 na3 w' hl.2.1 hl.2.1 ⟨db3, db4⟩ ⟨eb3, eb4⟩ (dk.past hb) (ek.past hb))
  have HE3 := Lib.hid (fun w' (hb : Below w.heap.size w w') => eqR_dec reals3 reals3 rc2 rc3 ra2 ra3 w' hl.2.2 hl.2.2 ⟨db5, db6⟩ ⟨eb5, eb6⟩ (dr.past hb) (er.past hb))
  simp only [decide_true] at HE1 HE2 HE3
  have hop : (op3.toList == op3.toList) = true := by simp
  unfold nodeV
  simp only
  clear di dk dr ei ek er db1 db2 db3 db4 db5 db6 eb1 eb2 eb3 eb4 eb5 eb6 hl
  go_enter Tryz.func9, Tryz.ntmps9
  go_upto_region 1 with fail
  refine wp_world (fun WZ hWZ => ?_)
  obtain ⟨pz, hpz⟩ : ∃ pz, pz = w.heap.size := ⟨_, rfl⟩
  have HZ : Hid (Blk WZ pz [.string op3, .slice ia2 ins3.length ic2, .slice na2 ints3.length nc2, .slice ra2 reals3.length rc2] ∧ Blk WZ (pz + 1) [.string op3, .slice ia3 ins3.length ic3, .slice na3 ints3.length nc3, .slice ra3 reals3.length rc3] ∧ Below w.heap.size w WZ) := Lib.hid (by
    rw [hWZ, hpz]
    exact ⟨(Blk.new _ _ _ _ rfl).alloc _, Blk.new _ _ _ _ (by simp), by (repeat (first | exact Below.refl _ _ | assumption | (refine Below.setCell ?_ (by first | (simp; done) | (simp; omega) | omega) _) | (refine Below.drew ?_) | (refine below_drewN ?_ _) | (refine Below.alloc ?_ (by first | (simp; done) | (simp; omega) | omega) _) | (refine Below.trans ?_ (Below.mono (by assumption) (by first | (simp; done) | (simp; omega) | omega)))))⟩)
  rw [← hpz]
  clear hWZ hpz
  have y0 := HZ.out.1.c 0 _ rfl
  have y1 := HZ.out.1.c 1 _ rfl
  have y2 := HZ.out.1.c 2 _ rfl
  have y3 := HZ.out.1.c 3 _ rfl
  have yl := HZ.out.1.lt
  have z0 := HZ.out.2.1.c 0 _ rfl
  have z1 := HZ.out.2.1.c 1 _ rfl
  have z2 := HZ.out.2.1.c 2 _ rfl
  have z3 := HZ.out.2.1.c 3 _ rfl
  have zl := HZ.out.2.1.lt
  go_wp2_with (first | (go_at_call 10; (first | (with_reducible refine (HE1.out _ HZ.out.2.2).mono ?_) | (with_reducible refine (HE2.out _ HZ.out.2.2).mono ?_)); rintro e w1 ⟨rfl, hb⟩; have HZ := Lib.hid (And.intro (HZ.out.1.past hb) (And.intro (HZ.out.2.1.past hb) (HZ.out.2.2.trans (hb.mono HZ.out.2.2.size)))); clear hb y0 y1 y2 y3 yl z0 z1 z2 z3 zl; have y0 := HZ.out.1.c 0 _ rfl; have y1 := HZ.out.1.c 1 _ rfl; have y2 := HZ.out.1.c 2 _ rfl; have y3 := HZ.out.1.c 3 _ rfl; have yl := HZ.out.1.lt; have z0 := HZ.out.2.1.c 0 _ rfl; have z1 := HZ.out.2.1.c 1 _ rfl; have z2 := HZ.out.2.1.c 2 _ rfl; have z3 := HZ.out.2.1.c 3 _ rfl; have zl := HZ.out.2.1.lt) | (go_at_call 11; refine (HE3.out _ HZ.out.2.2).mono ?_; rintro e w1 ⟨rfl, hb⟩; have HZ := Lib.hid (And.intro (HZ.out.1.past hb) (And.intro (HZ.out.2.1.past hb) (HZ.out.2.2.trans (hb.mono HZ.out.2.2.size)))); clear hb y0 y1 y2 y3 yl z0 z1 z2 z3 zl; have y0 := HZ.out.1.c 0 _ rfl; have y1 := HZ.out.1.c 1 _ rfl; have y2 := HZ.out.1.c 2 _ rfl; have y3 := HZ.out.1.c 3 _ rfl; have yl := HZ.out.1.lt; have z0 := HZ.out.2.1.c 0 _ rfl; have z1 := HZ.out.2.1.c 1 _ rfl; have z2 := HZ.out.2.1.c 2 _ rfl; have z3 := HZ.out.2.1.c 3 _ rfl; have zl := HZ.out.2.1.lt))
  go_ret
  exact ⟨rfl, HZ.out.2.2⟩
theorem entEq : ∀ args w, (callFunc 9 args).run Tryz.prog w = .ok (.enter 9 args) w := body_enters Tryz.func9 (by kernel_rfl) rfl
set_option maxRecDepth 100000 in
set_option maxHeartbeats 1600000 in
theorem EqNodes {X X' : Nat → Prop} (G : List PN) (hG : ∀ p ∈ G, PnOk p) (u u' : Value) (w : World) (h1 : NodesM w X u G) (h2 : NodesM w X' u' G) :
    Calls Tryz.prog 8 #[u, u', .func (.func 9) #[] #[]] w fun e w' => e = .returned (.bool true) ∧ Below w.heap.size w w' := by
  obtain ⟨ns, ao, cap, rfl, hN, hnl, hAt⟩ := h1.isNodes
  obtain ⟨ns', ao', cap', rfl, hN', hnl', hAt'⟩ := h2.isNodes
  have c1 := hN.lc
  have c2 : cap ≤ 9223372036854775807 := by have := hN.lm; unfold maxLen at this; omega
  have c3 := hN'.lc
  have c4 : cap' ≤ 9223372036854775807 := by have := hN'.lm; unfold maxLen at this; omega
  rw [hnl] at c1
  rw [hnl'] at c3
  have HG := Lib.hid hG
  have HA := Lib.hid (And.intro hN hAt)
  have HA' := Lib.hid (And.intro hN' hAt')
  have HNL := Lib.hid (And.intro hnl hnl')
  obtain ⟨n, hn⟩ : ∃ n, n = G.length := ⟨_, rfl⟩
  have HNN := Lib.hid hn
  rw [← hn] at c1 c3
  rw [← hn]
  have hent := entEq
  clear h1 h2 hN hN' hnl hnl' hAt hAt' hG hn
  go_enter Tryz.func8, Tryz.ntmps8
  go_wp2_with fail
  go_loopw [17] (fun s17 wr => ∃ k : Nat, k ≤ n ∧ s17 = .int .i64 k ∧ Below w.heap.size w wr) (fun s17 _ => n - (intOf s17).toNat)
  case atStart => exact ⟨0, Nat.zero_le _, rfl, Below.refl _ _⟩
  case round =>
    obtain ⟨k, hk, rfl, hB⟩ := hrel
    have HB := Lib.hid hB
    clear hB
    by_cases hkn : k < n
    · have hkmi : (k : Int) < (n : Int) := by omega
      have hkg : k < G.length := by rw [← HNN.out]; exact hkn
      obtain ⟨p, hp⟩ : ∃ p, G[k]? = some p := ⟨_, List.getElem?_eq_getElem hkg⟩
      obtain ⟨nd, hnd⟩ : ∃ nd, ns[k]? = some nd := ⟨_, List.getElem?_eq_getElem (by rw [HNL.out.1]; exact hkg)⟩
      obtain ⟨nd', hnd'⟩ : ∃ nd, ns'[k]? = some nd := ⟨_, List.getElem?_eq_getElem (by rw [HNL.out.2]; exact hkg)⟩
      obtain ⟨b, off, rfl, hc, -⟩ := (HA.out.1.past HB.out).get hnd
      obtain ⟨b', off', rfl, hc', -⟩ := (HA'.out.1.past HB.out).get hnd'
      have HL3 : Hid (p.ins.length ≤ 65536 ∧ p.ints.length ≤ 65536 ∧ p.reals.length ≤ 65536) := Lib.hid (by
        obtain ⟨k3, hk3, e1, e2, e3, e4, e5, e6⟩ := HG.out p (List.mem_of_getElem? hp)
        obtain ⟨h1, h2, h3⟩ := F_lens hk3
        omega)
      have HQ := Lib.hid (fun w' (hb : Below wr.heap.size wr w') => nodeEq_any nd nd' p w' HL3.out ((HA.out.2 k nd p hnd hp).past (HB.out.trans (hb.mono HB.out.size))) ((HA'.out.2 k nd' p hnd' hp).past (HB.out.trans (hb.mono HB.out.size))))
      have x0 := hc.c0; have x1 := hc.c1; have x2 := hc.c2; have x3 := hc.c3; have xl := cell_lt x0
      have y0 := hc'.c0; have y1 := hc'.c1; have y2 := hc'.c2; have y3 := hc'.c3; have yl := cell_lt y0
      simp only at xl yl
      unfold nodeV at HQ
      obtain ⟨op2, ins2, ints2, reals2, ia2, ic2, na2, nc2, ra2, rc2⟩ := nd
      obtain ⟨op3, ins3, ints3, reals3, ia3, ic3, na3, nc3, ra3, rc3⟩ := nd'
      simp only at x0 x1 x2 x3 y0 y1 y2 y3 HQ
      clear hc hc' hp hnd hnd' HL3
      go_wp2_with (refine (HQ.out _ (by (repeat (first | exact Below.refl _ _ | assumption | (refine Below.setCell ?_ (by first | (simp; done) | (simp; omega) | omega) _) | (refine Below.drew ?_) | (refine below_drewN ?_ _) | (refine Below.alloc ?_ (by first | (simp; done) | (simp; omega) | omega) _) | (refine Below.trans ?_ (Below.mono (by assumption) (by first | (simp; done) | (simp; omega) | omega))))))).mono ?_; rintro e w5 ⟨rfl, hb5⟩; have HB5 : Hid (Below w.heap.size w w5) := Lib.hid (HB.out.trans ((show Below wr.heap.size wr w5 by (repeat (first | exact Below.refl _ _ | assumption | (refine Below.setCell ?_ (by first | (simp; done) | (simp; omega) | omega) _) | (refine Below.drew ?_) | (refine below_drewN ?_ _) | (refine Below.alloc ?_ (by first | (simp; done) | (simp; omega) | omega) _) | (refine Below.trans ?_ (Below.mono (by assumption) (by first | (simp; done) | (simp; omega) | omega)))))).mono HB.out.size)); clear hb5 x0 x1 x2 x3 xl y0 y1 y2 y3 yl HQ)
      go_roundw
      case rel => exact ⟨k + 1, by omega, by go_num, HB5.out⟩
      case measure => simp [intOf]; omega
    · have hkk : ¬ (k : Int) < (n : Int) := by omega
      go_wp2_with fail
      go_ret
      exact ⟨rfl, HB.out⟩
end Go.Proofs.YtbaocallhnehfaaGreatDoor
