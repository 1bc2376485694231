/- Work on machines, the farm's: how what stands changes when runs end. Conditions: what each theorem names. -/
import Derived.Test.YtkadinjhfldokaaSiE
import Derived.Deep.RegionLaw
namespace Go.Proofs.Ytkadinjhfldokaa
open Go Go.RowKit
theorem updF_updF {α : Type} (f : Nat → α) (i : Nat) (a b : α) : updF (updF f i a) i b = updF f i b := by
  funext j; unfold updF; split <;> rfl
theorem infoRunS : (Try.prog.info? 36).map (fun i => (i.zero, i.size, i.bytes)) = some (some (.agg #[.int .i64 0, .int .i64 0, .int .i64 0, .int .i64 0, .bool false]), 5, 40) := by kernel_rfl
theorem Blk.grownO {w V w' : World} {n : Nat} {vs : List Value} {o : Option Nat} (k : Blk w n vs) (hV : Below w.heap.size w V) (hg : V.grownBy w' o) (hn : some n ≠ o) : Blk w' n vs :=
  (k.past hV).block hg.size (hg.block n (k.past hV).lt hn)
theorem VecV.grownO {w V w' : World} {n N : Nat} {f : Nat → Value} {o : Option Nat} (k : VecV w n N f) (hV : Below w.heap.size w V) (hg : V.grownBy w' o) (hn : some n ≠ o) : VecV w' n N f :=
  (k.past hV).block hg.size (hg.block n (k.past hV).lt hn)
theorem accL_congr {f g : Nat → List Value} {n : Nat} (h : ∀ i, i < n → f i = g i) : accL f n = accL g n := by
  induction n with
  | zero => rfl
  | succ n ih => unfold accL; rw [ih (fun i hi => h i (by omega)), h n (by omega)]
section
variable {w0 : World} {aw : Option Addr} {cw : Nat} {am : Option Addr} {cm : Nat} {D : SimD} {ps gs gf gb b1 : Nat} {S : SimS} {pb : Nat → Nat} {rv : Value}
theorem SimG.setB {w : World} (k : SimG w0 aw cw am cm D ps gs gf gb b1 w S pb rv) (hne : NeS w0 ps gs gf gb b1) (m : Nat) : SimG w0 aw cw am cm D ps gs gf gb b1 (w.setCell ⟨gb, m, none⟩ (.pointer none)) { S with bz := updF S.bz m none } pb rv := by
  obtain ⟨⟨e1, e2, e3, e4, e5, e6⟩, ⟨f1, f2, f3, f4⟩, l1, l2, l3, l4⟩ := hne
  refine ⟨k.kS.far _ _ (by simp; omega), k.kT.far _ _ (by simp; omega), k.kF.far _ _ (by simp; omega), VecV.congr (k.kB.set m _) (fun j _ => ?_), fun j r hj hr => ?_, own_far k.kR _ _ (by simpa using l4), k.bel.setCell (by simpa using f4) _, by simp [World.setCell]; exact k.sz⟩
  · show updF _ m _ j = match (updF S.bz m none) j with | none => _ | some _ => _
    by_cases e : j = m
    · subst e; rw [updF_at, updF_at]
    · rw [updF_ne _ _ e, updF_ne _ _ e]; rfl
  · have hr' : updF S.bz m none j = some r := hr
    by_cases e : j = m
    · subst e; rw [updF_at] at hr'; cases hr'
    · rw [updF_ne _ _ e] at hr'
      obtain ⟨k1, k2, k3⟩ := k.kP j r hj hr'
      exact ⟨k1.far _ _ (by simp; omega), k2, k3⟩
theorem SimG.setT {w : World} (k : SimG w0 aw cw am cm D ps gs gf gb b1 w S pb rv) (hne : NeS w0 ps gs gf gb b1) (i : Nat) (v : Int) : SimG w0 aw cw am cm D ps gs gf gb b1 (w.setCell ⟨gs, i, none⟩ (.int .i64 v)) { S with st := updF S.st i v } pb rv := by
  obtain ⟨⟨e1, e2, e3, e4, e5, e6⟩, ⟨f1, f2, f3, f4⟩, l1, l2, l3, l4⟩ := hne
  refine ⟨k.kS.far _ _ (by simp; omega), VecV.congr (k.kT.set i _) (fun j _ => ?_), k.kF.far _ _ (by simp; omega), VecV.congr (k.kB.far _ _ (by simp; omega)) (fun j _ => rfl), fun j r hj hr => ?_, own_far k.kR _ _ (by simpa using l2), k.bel.setCell (by simpa using f2) _, by simp [World.setCell]; exact k.sz⟩
  · show updF _ i _ j = Value.int .i64 (updF S.st i v j)
    unfold updF; split <;> rfl
  · obtain ⟨k1, k2, k3⟩ := k.kP j r hj hr
    exact ⟨k1.far _ _ (by simp; omega), k2, k3⟩
theorem SimG.setF {w : World} (k : SimG w0 aw cw am cm D ps gs gf gb b1 w S pb rv) (hne : NeS w0 ps gs gf gb b1) (i : Nat) (v : Int) : SimG w0 aw cw am cm D ps gs gf gb b1 (w.setCell ⟨gf, i, none⟩ (.int .i64 v)) { S with fl := updF S.fl i v } pb rv := by
  obtain ⟨⟨e1, e2, e3, e4, e5, e6⟩, ⟨f1, f2, f3, f4⟩, l1, l2, l3, l4⟩ := hne
  refine ⟨k.kS.far _ _ (by simp; omega), k.kT.far _ _ (by simp; omega), VecV.congr (k.kF.set i _) (fun j _ => ?_), VecV.congr (k.kB.far _ _ (by simp; omega)) (fun j _ => rfl), fun j r hj hr => ?_, own_far k.kR _ _ (by simpa using l3), k.bel.setCell (by simpa using f3) _, by simp [World.setCell]; exact k.sz⟩
  · show updF _ i _ j = Value.int .i64 (updF S.fl i v j)
    unfold updF; split <;> rfl
  · obtain ⟨k1, k2, k3⟩ := k.kP j r hj hr
    exact ⟨k1.far _ _ (by simp; omega), k2, k3⟩
theorem SimG.setN {w : World} (k : SimG w0 aw cw am cm D ps gs gf gb b1 w S pb rv) (hne : NeS w0 ps gs gf gb b1) (t : Int) : SimG w0 aw cw am cm D ps gs gf gb b1 (w.setCell ⟨ps, 3, none⟩ (.int .i64 t)) { S with now := t } pb rv := by
  obtain ⟨⟨e1, e2, e3, e4, e5, e6⟩, ⟨f1, f2, f3, f4⟩, l1, l2, l3, l4⟩ := hne
  refine ⟨k.kS.set 3 _, k.kT.far _ _ (by simp; omega), k.kF.far _ _ (by simp; omega), VecV.congr (k.kB.far _ _ (by simp; omega)) (fun j _ => rfl), fun j r hj hr => ?_, own_far k.kR _ _ (by simpa using l1), k.bel.setCell (by simpa using f1) _, by simp [World.setCell]; exact k.sz⟩
  obtain ⟨k1, k2, k3⟩ := k.kP j r hj hr
  exact ⟨k1.far _ _ (by simp; omega), k2, k3⟩
theorem SimG.ownB {w : World} (k : SimG w0 aw cw am cm D ps gs gf gb b1 w S pb rv) {j : Nat} (h : rv.ownBlock = some j) : b1 ≤ j ∧ j < w.heap.size := k.kR.lt j h
theorem SimG.app {W5 V W6 : World} {r : RunV} {gr cap : Nat} (k : SimG w0 aw cw am cm D ps gs gf gb b1 W5 S pb rv) (hne : NeS w0 ps gs gf gb b1) (hV : Below W5.heap.size W5 V) (hg : V.grownBy W6 rv.ownBlock)
    (hown : W6.ownsRow b1 36 5 (.slice (some ⟨gr, 0, none⟩) (S.k + 1) cap) (S.k + 1) (accL (fun i => runL (S.q i)) S.k ++ runL r)) (hat : rv.ownBlock = some gr ∨ W5.heap.size ≤ gr) :
    Blk W6 ps [.slice aw D.nw cw, .slice am D.nm cm, .int .i64 D.tr, .int .i64 S.now, .slice (some ⟨gs, 0, none⟩) D.nw D.nw, .slice (some ⟨gf, 0, none⟩) D.nw D.nw, .slice (some ⟨gb, 0, none⟩) D.nm D.nm, rv] ∧
    (∀ n vs, Blk W5 n vs → some n ≠ rv.ownBlock → n ≠ ps → Blk (W6.setCell ⟨ps, 7, none⟩ (.slice (some ⟨gr, 0, none⟩) (S.k + 1) cap)) n vs) ∧
    SimG w0 aw cw am cm D ps gs gf gb b1 (W6.setCell ⟨ps, 7, none⟩ (.slice (some ⟨gr, 0, none⟩) (S.k + 1) cap)) { S with k := S.k + 1, q := updF S.q S.k r } pb (.slice (some ⟨gr, 0, none⟩) (S.k + 1) cap) := by
  obtain ⟨⟨e1, e2, e3, e4, e5, e6⟩, ⟨f1, f2, f3, f4⟩, l1, l2, l3, l4⟩ := hne
  have hlow : ∀ j, j < b1 → some j ≠ rv.ownBlock := fun j hj h => by have := (k.ownB h.symm).1; omega
  have kS := k.kS.grownO hV hg (hlow ps l1)
  have hzV := hV.size
  have hz6 := hg.size
  have hsz := k.sz
  refine ⟨kS, fun n vs hb hn hps => (hb.grownO hV hg hn).far _ _ (by simp; omega), kS.set 7 _, (k.kT.grownO hV hg (hlow gs l2)).far _ _ (by simp; omega), (k.kF.grownO hV hg (hlow gf l3)).far _ _ (by simp; omega), VecV.congr ((k.kB.grownO hV hg (hlow gb l4)).far _ _ (by simp; omega)) (fun j _ => rfl), fun j r' hj hr => ?_, ?_, ?_, ?_⟩
  · obtain ⟨k1, k2, k3⟩ := k.kP j r' hj hr
    refine ⟨(k1.grownO hV hg k3).far _ _ (by simp; omega), k2, ?_⟩
    show some (pb j) ≠ some gr
    intro h
    injection h with h
    rcases hat with h1 | h1
    · exact k3 (by rw [h1, h])
    · have := k1.lt; omega
  · refine own_far ?_ _ _ (by simpa using l1)
    show W6.ownsRow b1 _ 5 _ (S.k + 1) (accL (fun i => runL (updF S.q S.k r i)) (S.k + 1))
    unfold accL
    rw [updF_at, accL_congr (f := fun i => runL (updF S.q S.k r i)) (g := fun i => runL (S.q i)) (fun i hi => by rw [updF_ne _ _ (by omega)])]
    exact hown
  · refine (Below.grown (k.bel.trans (hV.mono k.bel.size)) hg (by have := k.bel.size; omega) (fun j hj => ?_)).setCell (by simpa using f1) _
    have := (k.ownB hj).1
    omega
  · simp [World.setCell]; omega
end
/-- What stands while runs end, machine by machine. -/
theorem endS_inv (tr : Int) (S : SimS) (m : Nat) : (endS tr S m).now = S.now ∧ (∀ j, m ≤ j → (endS tr S m).bz j = S.bz j) ∧ (S.k ≤ (endS tr S m).k ∧ (endS tr S m).k ≤ S.k + m) ∧ ∀ i, S.fl i ≤ (endS tr S m).fl i ∧ (endS tr S m).fl i ≤ S.fl i + m := by
  induction m with
  | zero => exact ⟨rfl, fun _ _ => rfl, ⟨Nat.le_refl _, Nat.le_refl _⟩, fun i => ⟨Int.le_refl _, by show S.fl i ≤ S.fl i + ((0 : Nat) : Int); omega⟩⟩
  | succ m ih =>
    obtain ⟨h1, h2, h3, h4⟩ := ih
    show (endS1 tr (endS tr S m) m).now = _ ∧ _
    have e : endS tr S (m + 1) = endS1 tr (endS tr S m) m := rfl
    rw [e]
    generalize endS tr S m = T at *
    unfold endS1
    cases hb : T.bz m with
    | none =>
      dsimp only
      exact ⟨h1, fun j hj => h2 j (by omega), by omega, fun i => by have := h4 i; omega⟩
    | some r =>
      simp only
      by_cases ht : r.to = T.now
      · rw [if_pos ht]
        refine ⟨h1, fun j hj => ?_, ?_, fun i => ?_⟩
        · show updF T.bz m none j = _
          rw [updF_ne _ _ (by omega)]; exact h2 j (by omega)
        · show S.k ≤ T.k + 1 ∧ T.k + 1 ≤ _
          omega
        · show S.fl i ≤ (if r.fl = true then updF T.fl r.wk.toNat (T.fl r.wk.toNat + 1) else T.fl) i ∧ (if r.fl = true then updF T.fl r.wk.toNat (T.fl r.wk.toNat + 1) else T.fl) i ≤ _
          have a := h4 i
          split
          · by_cases hi : i = r.wk.toNat
            · rw [← hi, updF_at]; omega
            · rw [updF_ne _ _ hi]; omega
          · omega
      · rw [if_neg ht]
        exact ⟨h1, fun j hj => h2 j (by omega), by omega, fun i => by have := h4 i; omega⟩
end Go.Proofs.Ytkadinjhfldokaa
