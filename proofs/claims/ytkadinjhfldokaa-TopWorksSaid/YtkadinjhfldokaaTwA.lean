/- dyetop.TopWorks: the runs in memory, the map of ends. Conditions: what each theorem names. -/
import Derived.Test.YtkadinjhfldokaaSiT
import Derived.Test.YtkadinjhfldokaaSiJ
import Derived.Test.YtkadinjhfldokaaMcB
import Derived.Maps.OwnSet
import Derived.Maps.OwnOps
import Derived.Maps.Views
import Derived.Maps.Keyed
namespace Go.Proofs.Ytkadinjhfldokaa
open Go Go.RowKit Go.Maps
/-- A row of runs, as far as it is read. -/
def RowQ (w : World) (ad : Option Addr) (k c : Nat) (q : Nat → RunV) : Prop := k ≤ c ∧ c ≤ 9223372036854775807 ∧ (0 < k → ∃ g, ad = some ⟨g, 0, none⟩ ∧ VecR w g k q)
theorem RowQ.past {w wy : World} {ad : Option Addr} {k c : Nat} {q : Nat → RunV} (h : RowQ w ad k c q) (hb : Below w.heap.size w wy) : RowQ wy ad k c q := ⟨h.1, h.2.1, fun h0 => by
  obtain ⟨g, h1, h2⟩ := h.2.2 h0
  exact ⟨g, h1, h2.past hb⟩⟩
theorem simOut_row {D : SimD} (g : GoodD D) {lo : Nat} {w : World} {rv : Value} (h : SimOut D lo w rv) : ∃ k q ad c, rv = .slice ad k c ∧ k ≤ 22000 ∧ RowQ w ad k c q ∧ TwR D k q := by
  obtain ⟨S, q, h1, h2, h3, h4, h5, h6⟩ := h
  have ht := twR_of g h1 h2 h3 h4
  have hk : S.k ≤ 22000 := (h1.inv g).kle g
  rcases h6 with ⟨h7, h8⟩ | ⟨g', c, h7, h8, h9, h10, h11⟩
  · rw [h7] at ht hk
    exact ⟨0, q, none, 0, h8, hk, ⟨Nat.le_refl _, by omega, fun h0 => by omega⟩, ht⟩
  · exact ⟨S.k, q, _, c, h7, hk, ⟨h9, h10, fun _ => ⟨g', rfl, h11⟩⟩, ht⟩
/-- How many of the first runs did not fail. -/
def cntU (q : Nat → RunV) : Nat → Nat
  | 0 => 0
  | i + 1 => cntU q i + if (q i).fl = true then 0 else 1
theorem cntU_all {q : Nat → RunV} {k : Nat} (h : ∀ i, i < k → (q i).fl = false) : cntU q k = k := by
  induction k with
  | zero => rfl
  | succ k ih =>
    unfold cntU
    rw [ih (fun i hi => h i (by omega)), h k (by omega)]; rfl
/-- The map so far. -/
structure EnR (q : Nat → RunV) (i : Nat) (E : DataW Unit) : Prop where
  has : ∀ n : Int, Maps.has E (.int .i64 n) = true ↔ ∃ j, j < i ∧ (q j).wk = n ∧ (q j).fl = false
  val : ∀ j, j < i → (q j).fl = false → E.atKey (.int .i64 (q j).wk) (.lit (.int .i64 0)) = .lit (.int .i64 (q j).to)
  siz : Maps.size E = cntU q i
theorem EnR.start (q : Nat → RunV) : EnR q 0 (.map []) := ⟨fun n => ⟨fun h => (by cases h), fun ⟨j, h, _⟩ => by omega⟩, fun j h => by omega, rfl⟩
theorem EnR.skip {q : Nat → RunV} {i : Nat} {E : DataW Unit} (h : EnR q i E) (hf : (q i).fl = true) : EnR q (i + 1) E := by
  refine ⟨fun n => (h.has n).trans ⟨fun ⟨j, h1, h2⟩ => ⟨j, by omega, h2⟩, fun ⟨j, h1, h2, h3⟩ => ⟨j, ?_, h2, h3⟩⟩, fun j hj hjf => ?_, ?_⟩
  · rcases Nat.lt_or_ge j i with h4 | h4
    · exact h4
    · obtain rfl : j = i := by omega
      rw [hf] at h3; cases h3
  · rcases Nat.lt_or_ge j i with h4 | h4
    · exact h.val j h4 hjf
    · obtain rfl : j = i := by omega
      rw [hf] at hjf; cases hjf
  · unfold cntU; rw [h.siz, hf]; rfl
theorem EnR.put {q : Nat → RunV} {i : Nat} {E : DataW Unit} (h : EnR q i E) (hT : Maps.Tidy E) (hf : (q i).fl = false) (hno : Maps.has E (.int .i64 (q i).wk) = false) : EnR q (i + 1) (E.put (.int .i64 (q i).wk) (.lit (.int .i64 (q i).to))) := by
  have hk : ∀ n : Int, WideAt.IsKeyLit (.int .i64 n) := fun _ => trivial
  have hnot : ∀ j, j < i → (q j).fl = false → (q j).wk ≠ (q i).wk := fun j hj hjf he => by
    have := (h.has (q i).wk).2 ⟨j, hj, he, hjf⟩
    rw [hno] at this; cases this
  refine ⟨fun n => ?_, fun j hj hjf => ?_, ?_⟩
  · by_cases e : n = (q i).wk
    · subst e
      rw [has_put_same hT.isMap (hk _)]
      exact ⟨fun _ => ⟨i, by omega, rfl, hf⟩, fun _ => rfl⟩
    · rw [has_put_other (fun he => e (by injection he))]
      refine (h.has n).trans ⟨fun ⟨j, h1, h2⟩ => ⟨j, by omega, h2⟩, fun ⟨j, h1, h2, h3⟩ => ⟨j, ?_, h2, h3⟩⟩
      rcases Nat.lt_or_ge j i with h4 | h4
      · exact h4
      · obtain rfl : j = i := by omega
        exact absurd h2.symm e
  · rcases Nat.lt_or_ge j i with h4 | h4
    · rw [atKey_put_other (fun he => hnot j h4 hjf (by injection he))]
      exact h.val j h4 hjf
    · obtain rfl : j = i := by omega
      exact atKey_put_same hT.isMap (hk _) _ _
  · rw [Maps.size_put hT, hno, h.siz, show cntU q (i + 1) = cntU q i + if (q i).fl = true then 0 else 1 from rfl, hf]; rfl
theorem ownsMap_block {P : Program} {k : TypeId} {R : Value → Option (DataW Unit × List MemPlace)} {W w : World} {b n : Nat} {E : DataW Unit} (h : W.ownsMap P k R b n E) (hb : w.heap[b]? = W.heap[b]?) : w.ownsMap P k R b n E := by
  obtain ⟨es, clock, h1, h2⟩ := h
  exact ⟨es, clock, hb.trans h1, h2⟩
theorem lawK : Keyed Try.prog 3 := int_keyed Try.underlying3
theorem zeroI (w : World) : (zeroValue 3).run Try.prog w = .ok (.int .i64 0) w := by kernel_rfl
theorem landedW_any (w : World) : Calls Try.prog 16 #[] w fun e w' => e = .returned (.bool true) ∧ w = w' := by
  go_enter Try.func16, Try.ntmps16
  go_wp2_with (first | (go_at_call 34; refine (Bits_any _ _).mono ?_; rintro e w2 ⟨rfl, rfl⟩))
  all_goals (go_ret; refine ⟨ret_b ?_, rfl⟩; decide +kernel)
theorem litwf {n : Int} (h : -9223372036854775808 ≤ n ∧ n ≤ 9223372036854775807) : (Lit.int .i64 n).wf = true := by
  simp only [Lit.wf, IntKind.min, IntKind.max, IntKind.signed, IntKind.bits, Bool.and_eq_true, decide_eq_true_eq, if_true]
  omega
/-- Go's max. -/
def maxT (a b : Int) : Int := if a < b then b else a
/-- Whether the first machines are of speed 1 and never down. -/
def simM (D : SimD) : Nat → Bool
  | 0 => true
  | m + 1 => (simM D m && ((D.M m).sp == 1)) && (((D.M m).dn : Int) == 0)
/-- .. and the first works come after none. -/
def simW (D : SimD) : Nat → Bool
  | 0 => simM D D.nm
  | w + 1 => simW D w && (((D.W w).an : Int) == 0)
def mostW (D : SimD) : Nat → Int
  | 0 => 0
  | w + 1 => maxT (mostW D w) (D.W w).cost
def lastQ (q : Nat → RunV) : Nat → Int
  | 0 => 0
  | i + 1 => maxT (lastQ q i) (q i).to
theorem simM_all {D : SimD} {n : Nat} (h : simM D n = true) : ∀ m, m < n → (D.M m).sp = 1 ∧ (D.M m).dn = 0 := by
  induction n with
  | zero => intro m hm; omega
  | succ n ih =>
    have h' : ((simM D n && ((D.M n).sp == 1)) && (((D.M n).dn : Int) == 0)) = true := h
    rw [Bool.and_eq_true, Bool.and_eq_true] at h'
    intro m hm
    rcases Nat.lt_or_ge m n with h1 | h1
    · exact ih h'.1.1 m h1
    · obtain rfl : m = n := by omega
      have a := h'.1.2; have b := h'.2
      simp at a b
      exact ⟨a, b⟩
theorem simW_all {D : SimD} {n : Nat} (h : simW D n = true) : simM D D.nm = true ∧ ∀ w, w < n → (D.W w).an = 0 := by
  induction n with
  | zero => exact ⟨h, fun m hm => by omega⟩
  | succ n ih =>
    have h' : (simW D n && (((D.W n).an : Int) == 0)) = true := h
    rw [Bool.and_eq_true] at h'
    refine ⟨(ih h'.1).1, fun w hw => ?_⟩
    rcases Nat.lt_or_ge w n with h1 | h1
    · exact (ih h'.1).2 w h1
    · obtain rfl : w = n := by omega
      have b := h'.2
      simp at b
      exact b
theorem simpleD_of {D : SimD} (h : simW D D.nw = true) : SimpleD D := ⟨simM_all (simW_all h).1, (simW_all h).2⟩
theorem mostW_ge {D : SimD} {n : Nat} : ∀ w, w < n → (D.W w).cost ≤ mostW D n := by
  induction n with
  | zero => intro w hw; omega
  | succ n ih =>
    intro w hw
    show _ ≤ maxT (mostW D n) (D.W n).cost
    unfold maxT
    rcases Nat.lt_or_ge w n with h1 | h1
    · have := ih w h1; split <;> omega
    · obtain rfl : w = n := by omega
      split <;> omega
theorem mostW_bd {D : SimD} (g : GoodD D) : ∀ n, n ≤ D.nw → 0 ≤ mostW D n ∧ mostW D n ≤ 1000000
  | 0, _ => ⟨Int.le_refl _, by show (0 : Int) ≤ _; omega⟩
  | n + 1, h => by
    have h1 := mostW_bd g n (by omega)
    have h2 := (g.work.2 n (by omega)).1
    show 0 ≤ maxT (mostW D n) (D.W n).cost ∧ maxT (mostW D n) (D.W n).cost ≤ _
    unfold maxT
    split <;> omega
theorem sumC_bd {D : SimD} (g : GoodD D) : ∀ n, n ≤ D.nw → 0 ≤ sumI (fun w => (D.W w).cost) n ∧ sumI (fun w => (D.W w).cost) n ≤ 1000000 * n
  | 0, _ => ⟨Int.le_refl _, by show (0 : Int) ≤ _; omega⟩
  | n + 1, h => by
    have h1 := sumC_bd g n (by omega)
    have h2 := (g.work.2 n (by omega)).1
    show 0 ≤ sumI (fun w => (D.W w).cost) n + (D.W n).cost ∧ sumI (fun w => (D.W w).cost) n + (D.W n).cost ≤ _
    omega
theorem lastQ_bd {D : SimD} {k : Nat} {q : Nat → RunV} (h : TwR D k q) : ∀ i, i ≤ k → 0 ≤ lastQ q i ∧ lastQ q i < 1099511627776
  | 0, _ => ⟨Int.le_refl _, by show (0 : Int) < _; omega⟩
  | i + 1, hi => by
    have h1 := lastQ_bd h i (by omega)
    have h2 := (h.a i (by omega)).2.2.1
    show 0 ≤ maxT (lastQ q i) (q i).to ∧ maxT (lastQ q i) (q i).to < _
    unfold maxT
    split <;> omega
theorem lastQ_le {D : SimD} {k : Nat} {q : Nat → RunV} {s : Int} (hs : 0 ≤ s) (h : ∀ i, i < k → (q i).to * D.nm ≤ s) : ∀ i, i ≤ k → lastQ q i * D.nm ≤ s
  | 0, _ => by show (0 : Int) * _ ≤ s; rw [Int.zero_mul]; exact hs
  | i + 1, hi => by
    have h1 := lastQ_le hs h i (by omega)
    have h2 := h i (by omega)
    show maxT (lastQ q i) (q i).to * _ ≤ s
    unfold maxT
    split
    · exact h2
    · exact h1
/-- The last words of the statement. -/
theorem tw_last {D : SimD} (g : GoodD D) {k : Nat} {q : Nat → RunV} {E : DataW Unit} (h : TwR D k q) (e : EnR q k E) (hs : simW D D.nw = true) : (Maps.size E : Int) = (D.nw : Int) ∧ lastQ q k * (D.nm : Int) ≤ sumI (fun w => (D.W w).cost) D.nw + mostW D D.nw * (D.nm : Int) := by
  obtain ⟨h1, h2, h3⟩ := h.simple (simpleD_of hs)
  refine ⟨by rw [e.siz, cntU_all h2, h1], ?_⟩
  have a := sumC_bd g D.nw (Nat.le_refl _)
  have b := mostW_bd g D.nw (Nat.le_refl _)
  refine lastQ_le ?_ (h3 _ (fun n hn => mostW_ge n hn)) k (Nat.le_refl _)
  have := Int.mul_nonneg b.1 (show (0 : Int) ≤ (D.nm : Int) by omega)
  omega
end Go.Proofs.Ytkadinjhfldokaa
