/- How far a graph looks, what it uses and what lies below a node, as plain data. No program. No condition. -/
import Derived.Test.YtbclecoblcfboaaGreatDoorCtA
import Derived.Test.YtbclecoblcfboaaGreatDoorCtN
namespace Go.Proofs.YtbclecoblcfboaaGreatDoor
open Go Go.RowKit
/-- How far an operation looks around. -/
def rcK (k : Nat) (is : List Int) : Int := if k = 12 then 1 else if k = 13 ∨ k = 24 ∨ k = 25 ∨ k = 26 then is.getD 0 0 else 0
def rcO (ns : List NodeD) (j : Nat) : Int := match ns[j]? with
  | none => 0
  | some n => match opK n.op.data.toList with
    | none => 0
    | some k => rcK k n.ints
theorem rcO_at {ns : List NodeD} {j k : Nat} {n : NodeD} (hj : ns[j]? = some n) (hk : opK n.op.data.toList = some k) : rcO ns j = rcK k n.ints := by
  unfold rcO; rw [hj]; simp only; rw [hk]
/-- The distances when j of what goes in are done. -/
def dsI (D : Nat → Int) (r : Int) (ins : List Int) : Nat → Nat → Int
  | 0 => D
  | j + 1 => fun q => if q = (ins.getD j 0).toNat then max (dsI D r ins j (ins.getD j 0).toNat) r else dsI D r ins j q
/-- The distances when t nodes are done, from the last on. -/
def dsS (ns : List NodeD) (o : Nat) : Nat → Nat → Int
  | 0 => fun q => if q = o then 0 else -1
  | t + 1 => if dsS ns o t (ns.length - 1 - t) < 0 then dsS ns o t else dsI (dsS ns o t) (wrap64 (dsS ns o t (ns.length - 1 - t) + rcO ns (ns.length - 1 - t))) (insO ns (ns.length - 1 - t)) (insO ns (ns.length - 1 - t)).length
theorem dsI_far {D : Nat → Int} {r : Int} {ins : List Int} {i : Nat} : ∀ n, (∀ j, j < n → (ins.getD j 0).toNat ≠ i) → dsI D r ins n i = D i
  | 0, _ => rfl
  | n + 1, h => by
    show (if i = (ins.getD n 0).toNat then _ else dsI D r ins n i) = D i
    rw [if_neg (fun e => h n (by omega) e.symm)]
    exact dsI_far n (fun j hj => h j (by omega))
/-- How far the first i look. -/
def mgS (ns : List NodeD) (D : Nat → Int) : Nat → Int
  | 0 => 0
  | i + 1 => if 0 ≤ D i then max (mgS ns D i) (wrap64 (D i + rcO ns i)) else mgS ns D i
/-- How many places the first i are evaluated at. -/
def csS (W H : Int) (D : Nat → Int) : Nat → Int
  | 0 => 0
  | i + 1 => if 0 ≤ D i then wrap64 (csS W H D i + wrap64 (wrap64 (W + wrap64 (2 * D i)) * wrap64 (H + wrap64 (2 * D i)))) else csS W H D i
/-- Whether node m is the source s. -/
def srcO (ns : List NodeD) (s m : Nat) : Bool := match ns[m]? with
  | none => false
  | some n => match opK n.op.data.toList with
    | none => false
    | some k => k == 0 && n.ints.getD 0 0 == (s : Int)
theorem srcO_at {ns : List NodeD} {m k s : Nat} {n : NodeD} (hj : ns[m]? = some n) (hk : opK n.op.data.toList = some k) : srcO ns s m = (k == 0 && n.ints.getD 0 0 == (s : Int)) := by
  unfold srcO; rw [hj]; simp only; rw [hk]
theorem paE_0 {is : List Int} {rs : List Nat} (h : paE 0 is rs = 0) : 0 ≤ is.getD 0 0 ∧ is.getD 0 0 ≤ 7 := by
  unfold paE at h
  split at h
  · exact absurd h (by decide)
  · split at h
    · rename_i h1
      simp only [rngK, inB, Bool.and_eq_true, decide_eq_true_eq] at h1
      exact h1
    · exact absurd h (by decide)
/-- Which nodes are needed when t nodes are done, from top down. -/
def blS (ns : List NodeD) (K top : Nat) : Nat → Nat → Bool
  | 0 => fun q => decide (q = K)
  | t + 1 => fun q => blS ns K top t q || (blS ns K top t (top - t) && (insO ns (top - t)).any (fun x => x == (q : Int)))
theorem blS_le {ns : List NodeD} (hz : fstN (ndE ns) ns.length = 0) {K top : Nat} (ht : top < ns.length) : ∀ t q, t ≤ top + 1 → blS ns K top t q = true → q ≤ K
  | 0, q, _, h => by
    have h1 : q = K := by simpa [blS] using h
    omega
  | t + 1, q, ht1, h => by
    have h1 : (blS ns K top t q || (blS ns K top t (top - t) && (insO ns (top - t)).any (fun x => x == (q : Int)))) = true := h
    rw [Bool.or_eq_true, Bool.and_eq_true] at h1
    rcases h1 with h1 | ⟨h1, h2⟩
    · exact blS_le hz ht t q (by omega) h1
    · have h3 := blS_le hz ht t (top - t) (by omega) h1
      rw [List.any_eq_true] at h2
      obtain ⟨x, hx, hxq⟩ := h2
      obtain ⟨j, hj, hjx⟩ := List.getElem_of_mem hx
      have h4 := (nd_in hz (show top - t < ns.length by omega)).1 j hj
      rw [List.getD_eq_getElem?_getD, List.getElem?_eq_getElem hj, Option.getD_some, hjx] at h4
      have h5 : x = (q : Int) := by simpa using hxq
      omega
theorem blS_top {ns : List NodeD} {K top : Nat} (hK : K ≤ top) : ∀ t, t ≤ top - K → blS ns K top t = fun q => decide (q = K)
  | 0, _ => rfl
  | t + 1, h => by
    have ih := blS_top (ns := ns) hK t (by omega)
    funext q
    show (blS ns K top t q || (blS ns K top t (top - t) && _)) = _
    rw [ih]
    simp only
    rw [decide_eq_false (show ¬ top - t = K by omega)]
    simp
theorem blS_shift {ns : List NodeD} {K top : Nat} (hK : K ≤ top) : ∀ s, s ≤ K + 1 → blS ns K top (top - K + s) = blS ns K K s
  | 0, _ => blS_top hK _ (Nat.le_refl _)
  | s + 1, h => by
    have ih := blS_shift (ns := ns) hK s (by omega)
    funext q
    show (blS ns K top (top - K + s) q || (blS ns K top (top - K + s) (top - (top - K + s)) && (insO ns (top - (top - K + s))).any (fun x => x == (q : Int)))) = _
    rw [ih, show top - (top - K + s) = K - s by omega]
    rfl
theorem blS_same {ns : List NodeD} {K : Nat} (hK : K < ns.length) : blS ns K (ns.length - 1) ns.length = blS ns K K (K + 1) := by
  have h := blS_shift (ns := ns) (K := K) (top := ns.length - 1) (by omega) (K + 1) (Nat.le_refl _)
  rw [show ns.length - 1 - K + (K + 1) = ns.length by omega] at h
  exact h
theorem nmZ_more (f : Nat → Bool) (n : Nat) : ∀ m, (∀ q, n ≤ q → f q = false) → nmZ f (n + m) = nmZ f n
  | 0, _ => rfl
  | m + 1, h => by
    show (if f (n + m) = true then _ else nmZ f (n + m)) = _
    rw [if_neg (by rw [h (n + m) (by omega)]; decide), nmZ_more f n m h]
/-- Both rows tell the same. -/
theorem below_same {ns : List NodeD} (hz : fstN (ndE ns) ns.length = 0) {K : Nat} (hK : K < ns.length) : nmZ (blS ns K (ns.length - 1) ns.length) ns.length = nmZ (blS ns K K (K + 1)) (K + 1) := by
  rw [blS_same hK]
  have h := nmZ_more (blS ns K K (K + 1)) (K + 1) (ns.length - (K + 1)) (fun q hq => by
    cases e : blS ns K K (K + 1) q with
    | false => rfl
    | true => have := blS_le hz hK (K + 1) q (Nat.le_refl _) e; omega)
  rw [show K + 1 + (ns.length - (K + 1)) = ns.length by omega] at h
  exact h
/-- .. and j of those that go into the node. -/
def blT (B : Nat → Bool) (ins : List Int) (j q : Nat) : Bool := B q || (ins.take j).any (fun x => x == (q : Int))
theorem blT_zero (B : Nat → Bool) (ins : List Int) (q : Nat) : blT B ins 0 q = B q := by simp [blT]
theorem blT_succ (B : Nat → Bool) (ins : List Int) (j q : Nat) {x : Nat} (hx : ins[j]? = some (x : Int)) : blT B ins (j + 1) q = if q = x then true else blT B ins j q := by
  unfold blT
  rw [List.take_add_one, hx]
  simp only [Option.toList_some, List.any_append, List.any_cons, List.any_nil, Bool.or_false]
  by_cases e : q = x
  · subst e; simp
  · rw [if_neg e]
    have h1 : ((x : Int) == (q : Int)) = false := by simpa using fun h => e (by omega)
    simp [h1]
theorem blT_all (B : Nat → Bool) (ins : List Int) (q : Nat) : blT B ins ins.length q = (B q || ins.any (fun x => x == (q : Int))) := by simp [blT]
end Go.Proofs.YtbclecoblcfboaaGreatDoor
