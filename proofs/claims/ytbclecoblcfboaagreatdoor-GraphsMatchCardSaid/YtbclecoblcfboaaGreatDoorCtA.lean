/- Cuts of a graph as plain data: what is wrong with a cut, the fuser's cut, what is stored. No program. No condition. -/
import Derived.Test.YtbclecoblcfboaaGreatDoorQF
namespace Go.Proofs.YtbclecoblcfboaaGreatDoor
open Go Go.RowKit
/-- Whether node j looks around. -/
def arO (ns : List NodeD) (j : Nat) : Bool := match ns[j]? with
  | none => false
  | some n => match opK n.op.data.toList with
    | none => false
    | some k => (F k).area
theorem arO_at {ns : List NodeD} {j k : Nat} {n : NodeD} (hj : ns[j]? = some n) (hk : opK n.op.data.toList = some k) : arO ns j = (F k).area := by
  unfold arO; rw [hj]; simp only; rw [hk]
/-- What a cut says of x. -/
def cv (C : Nat → Int) (x : Int) : Int := C x.toNat
def ckI (C : Nat → Int) (i : Nat) (ins : List Int) : Nat → Int := fun j => if C i < cv C (ins.getD j 0) then 8 else 0
def ckA (C : Nat → Int) (i : Nat) (ar : Bool) (ins : List Int) : Nat → Int := fun j => if ar = true ∧ cv C (ins.getD j 0) = C i then 12 else 0
def ck1 (C : Nat → Int) (i : Nat) (ar : Bool) (ins : List Int) : Int := if C i < 0 ∨ 99 < C i then 3 else fst2 (fstN (ckI C i ins) ins.length) (fstN (ckA C i ar ins) ins.length)
def insO (ns : List NodeD) (j : Nat) : List Int := match ns[j]? with
  | none => []
  | some n => n.ins
def ckE (ns : List NodeD) (C : Nat → Int) (i : Nat) : Int := ck1 C i (arO ns i) (insO ns i)
/-- What is wrong with a cut. -/
def cE (ns : List NodeD) (out : Int) (cut : List Int) : Int := fst2 (gE ns out) (if cut.length = ns.length then fstN (ckE ns (fun i => cut.getD i 0)) ns.length else 2)
/-- The greatest level of the first j that go in. -/
def lvM (L : Nat → Int) (ins : List Int) : Nat → Int
  | 0 => 0
  | j + 1 => max (lvM L ins j) (L (ins.getD j 0).toNat)
/-- The levels when i nodes are done. -/
def lvS (ns : List NodeD) : Nat → Nat → Int
  | 0 => fun _ => 0
  | i + 1 => fun q => if q = i then lvM (lvS ns i) (insO ns i) (insO ns i).length + (if arO ns i = true then 1 else 0) else lvS ns i q
theorem lvS_new (ns : List NodeD) (i : Nat) : lvS ns (i + 1) i = lvM (lvS ns i) (insO ns i) (insO ns i).length + (if arO ns i = true then 1 else 0) := by
  simp [lvS]
theorem lvS_old (ns : List NodeD) {i q : Nat} (h : q ≠ i) : lvS ns (i + 1) q = lvS ns i q := by
  simp [lvS, h]
theorem lvS_far (ns : List NodeD) {i q : Nat} (h : i ≤ q) : lvS ns i q = 0 := by
  induction i with
  | zero => rfl
  | succ i ih => rw [lvS_old ns (by omega)]; exact ih (by omega)
theorem lvS_stay (ns : List NodeD) {q i j : Nat} (h : q < i) (hj : i ≤ j) : lvS ns j q = lvS ns i q := by
  induction j with
  | zero => omega
  | succ j ih =>
    by_cases e : i = j + 1
    · rw [e]
    · rw [lvS_old ns (by omega)]; exact ih (by omega)
theorem lvM_le {L : Nat → Int} {ins : List Int} {b : Int} (hb : 0 ≤ b) : ∀ n, (∀ j, j < n → L (ins.getD j 0).toNat ≤ b) → lvM L ins n ≤ b
  | 0, _ => hb
  | n + 1, h => by
    have h1 := lvM_le hb n (fun j hj => h j (by omega))
    have h2 := h n (by omega)
    unfold lvM
    omega
theorem lvM_ge {L : Nat → Int} {ins : List Int} : ∀ n j, j < n → L (ins.getD j 0).toNat ≤ lvM L ins n
  | 0, j, h => by omega
  | n + 1, j, h => by
    unfold lvM
    by_cases e : j = n
    · subst e; omega
    · have := lvM_ge (L := L) (ins := ins) n j (by omega)
      omega
theorem lvM_nn {L : Nat → Int} {ins : List Int} : ∀ n, 0 ≤ lvM L ins n
  | 0 => Int.le_refl 0
  | n + 1 => by
    have := lvM_nn (L := L) (ins := ins) n
    unfold lvM
    omega
theorem area_in {k : Nat} (hk : k < 27) (h : (F k).area = true) : 0 < (F k).ins.length := by
  have : ∀ k, k < 27 → (F k).area = true → 0 < (F k).ins.length := by decide +kernel
  exact this k hk h
/-- What a right graph's node is. -/
theorem nd_in {ns : List NodeD} (hz : fstN (ndE ns) ns.length = 0) {i : Nat} (hi : i < ns.length) : (∀ j, j < (insO ns i).length → 0 ≤ (insO ns i).getD j 0 ∧ (insO ns i).getD j 0 < (i : Int)) ∧ (insO ns i).length ≤ 3 ∧ (arO ns i = true → 0 < (insO ns i).length) := by
  obtain ⟨n, hn⟩ : ∃ n, ns[i]? = some n := ⟨_, List.getElem?_eq_getElem hi⟩
  obtain ⟨k, h1, h2, h3, h4, h5, h6, h7, h8⟩ := nd_ok hn (fstN_zero hz i hi)
  have e : insO ns i = n.ins := by unfold insO; rw [hn]
  rw [e]
  refine ⟨h7, by rw [h4]; exact (F_small h1).2.1, fun ha => ?_⟩
  rw [arO_at hn h3] at ha
  rw [h4]
  exact area_in h1 ha
theorem lvS_bd {ns : List NodeD} (hz : fstN (ndE ns) ns.length = 0) : ∀ i, i ≤ ns.length → ∀ q, q < i → 0 ≤ lvS ns i q ∧ lvS ns i q ≤ (q : Int) := by
  intro i
  induction i with
  | zero => intro _ q hq; omega
  | succ i ih =>
    intro hi q hq
    have IH := ih (by omega)
    by_cases e : q = i
    · subst e
      obtain ⟨hin, -, har⟩ := nd_in hz (show q < ns.length by omega)
      rw [lvS_new]
      have hnn := lvM_nn (L := lvS ns q) (ins := insO ns q) (insO ns q).length
      have hone : ∀ j, j < (insO ns q).length → lvS ns q ((insO ns q).getD j 0).toNat ≤ (q : Int) - 1 := fun j hj => by
        have h1 := hin j hj
        have h2 := (IH ((insO ns q).getD j 0).toNat (by omega)).2
        omega
      by_cases h0 : (insO ns q).length = 0
      · have ha : ¬ arO ns q = true := fun h => by have := har h; omega
        rw [if_neg ha, h0]
        simp only [lvM]
        omega
      · have h1 := hin 0 (by omega)
        have h2 := lvM_le (L := lvS ns q) (ins := insO ns q) (b := (q : Int) - 1) (by omega) (insO ns q).length hone
        split <;> omega
    · rw [lvS_old ns e]
      exact IH q (by omega)
theorem fstN_all {f : Nat → Int} : ∀ n, (∀ k, k < n → f k = 0) → fstN f n = 0
  | 0, _ => rfl
  | n + 1, h => by
    unfold fstN
    rw [if_pos (fstN_all n (fun k hk => h k (by omega)))]
    exact h n (by omega)
theorem lv_zero {ns : List NodeD} (h1 : ns.length ≤ 100) (hz : fstN (ndE ns) ns.length = 0) (C : Nat → Int) (hC : ∀ q, q < ns.length → C q = lvS ns ns.length q) {i : Nat} (hi : i < ns.length) : ckE ns C i = 0 := by
  obtain ⟨hin, -, har⟩ := nd_in hz hi
  have hbd := lvS_bd hz ns.length (Nat.le_refl _)
  have hnew : C i = lvM (lvS ns i) (insO ns i) (insO ns i).length + (if arO ns i = true then 1 else 0) := by
    rw [hC i hi, lvS_stay ns (show i < i + 1 by omega) (by omega), lvS_new]
  have hone : ∀ j, j < (insO ns i).length → cv C ((insO ns i).getD j 0) ≤ lvM (lvS ns i) (insO ns i) (insO ns i).length := fun j hj => by
    have h2 := hin j hj
    unfold cv
    rw [hC _ (by omega), lvS_stay ns (show ((insO ns i).getD j 0).toNat < i by omega) (by omega)]
    exact lvM_ge _ j hj
  have hb := hbd i hi
  rw [← hC i hi] at hb
  unfold ckE ck1
  rw [if_neg (by omega)]
  have e1 : fstN (ckI C i (insO ns i)) (insO ns i).length = 0 := fstN_all _ fun j hj => by
    unfold ckI
    have h3 := hone j hj
    rw [if_neg (by rw [hnew]; split <;> omega)]
  rw [e1, fst2_0]
  refine fstN_all _ fun j hj => ?_
  unfold ckA
  have h3 := hone j hj
  by_cases ha : arO ns i = true
  · rw [if_pos ha] at hnew
    rw [if_neg (by rintro ⟨-, h4⟩; omega)]
  · rw [if_neg (fun h => ha h.1)]
/-- The fuser's cut is right. -/
theorem lv_right {ns : List NodeD} {out : Int} (hg : gE ns out = 0) : cE ns out ((List.range ns.length).map (lvS ns ns.length)) = 0 := by
  obtain ⟨h0, h1, hz, -, -, -⟩ := gE_ok hg
  unfold cE
  rw [hg, fst2_0, if_pos (by simp)]
  exact fstN_all _ fun i hi => lv_zero h1 hz _ (fun q hq => by simp [List.getD_eq_getElem?_getD, List.getElem?_range hq]) hi
/-- Whether what node m takes in leads from q over a cut. -/
def stO (ns : List NodeD) (C : Nat → Int) (q m : Nat) : Bool := (insO ns m).any (fun x => x == (q : Int) && C q != C m)
/-- What is stored when i nodes are done. -/
def stS (ns : List NodeD) (out : Nat) (C : Nat → Int) (i q : Nat) : Bool := decide (q = out) || (List.range i).any (stO ns C q)
/-- .. and j of those that go into node i. -/
def stT (ns : List NodeD) (out : Nat) (C : Nat → Int) (i j q : Nat) : Bool := stS ns out C i q || ((insO ns i).take j).any (fun x => x == (q : Int) && C q != C i)
theorem stT_zero (ns : List NodeD) (out : Nat) (C : Nat → Int) (i q : Nat) : stT ns out C i 0 q = stS ns out C i q := by simp [stT]
theorem stT_all (ns : List NodeD) (out : Nat) (C : Nat → Int) (i q : Nat) : stT ns out C i (insO ns i).length q = stS ns out C (i + 1) q := by
  simp [stT, stS, List.range_succ, stO, Bool.or_assoc]
theorem stT_succ (ns : List NodeD) (out : Nat) (C : Nat → Int) (i j q : Nat) {x : Nat} (hx : (insO ns i)[j]? = some (x : Int)) : stT ns out C i (j + 1) q = if q = x then (stT ns out C i j x || C x != C i) else stT ns out C i j q := by
  unfold stT
  rw [List.take_add_one, hx]
  simp only [Option.toList_some, List.any_append, List.any_cons, List.any_nil, Bool.or_false]
  by_cases e : q = x
  · subst e
    simp [Bool.or_assoc]
  · rw [if_neg e]
    have h1 : ((x : Int) == (q : Int)) = false := by simpa using fun h => e (by omega)
    simp [h1]
/-- What is stored. -/
def stL (ns : List NodeD) (out : Nat) (C : Nat → Int) (i : Nat) : List Int := ((List.range i).filter (fun q => stS ns out C ns.length q)).map (fun q : Nat => (q : Int))
theorem stL_succ (ns : List NodeD) (out : Nat) (C : Nat → Int) (i : Nat) : stL ns out C (i + 1) = if stS ns out C ns.length i = true then stL ns out C i ++ [(i : Int)] else stL ns out C i := by
  unfold stL
  rw [List.range_succ, List.filter_append, List.map_append]
  by_cases e : stS ns out C ns.length i = true
  · rw [if_pos e]; simp [e]
  · rw [if_neg e]; simp [e]
end Go.Proofs.YtbclecoblcfboaaGreatDoor
