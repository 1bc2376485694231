/- Polynomials over the rationals as lists: values, products, compositions, and bounds by the sum of magnitudes. Plain Lean. No condition. -/
namespace Go.Proofs.Ytokmjboaeamogaa
def pev : List Rat → Rat → Rat
  | [], _ => 0
  | a :: l, x => a + x * pev l x
def padd : List Rat → List Rat → List Rat
  | [], m => m
  | a :: l, [] => a :: l
  | a :: l, b :: m => (a + b) :: padd l m
def pscale (c : Rat) : List Rat → List Rat
  | [] => []
  | a :: l => (c * a) :: pscale c l
def pmul : List Rat → List Rat → List Rat
  | [], _ => []
  | a :: l, m => padd (pscale a m) (0 :: pmul l m)
def pcomp : List Rat → List Rat → List Rat
  | [], _ => []
  | a :: l, q => padd [a] (pmul q (pcomp l q))
theorem pev_add (l m : List Rat) (x : Rat) : pev (padd l m) x = pev l x + pev m x := by
  induction l generalizing m with
  | nil => show pev m x = 0 + pev m x; grind
  | cons a l ih =>
    cases m with
    | nil => show a + x * pev l x = a + x * pev l x + 0; grind
    | cons b m =>
      show a + b + x * pev (padd l m) x = a + x * pev l x + (b + x * pev m x)
      rw [ih]; grind
theorem pev_scale (c : Rat) (l : List Rat) (x : Rat) : pev (pscale c l) x = c * pev l x := by
  induction l with
  | nil => show (0 : Rat) = c * 0; grind
  | cons a l ih =>
    show c * a + x * pev (pscale c l) x = c * (a + x * pev l x)
    rw [ih]; grind
theorem pev_mul (l m : List Rat) (x : Rat) : pev (pmul l m) x = pev l x * pev m x := by
  induction l with
  | nil => show (0 : Rat) = 0 * pev m x; grind
  | cons a l ih =>
    show pev (padd (pscale a m) (0 :: pmul l m)) x = (a + x * pev l x) * pev m x
    rw [pev_add, pev_scale]
    show a * pev m x + (0 + x * pev (pmul l m) x) = _
    rw [ih]; grind
theorem pev_comp (l q : List Rat) (x : Rat) : pev (pcomp l q) x = pev l (pev q x) := by
  induction l with
  | nil => rfl
  | cons a l ih =>
    show pev (padd [a] (pmul q (pcomp l q))) x = a + pev q x * pev l (pev q x)
    rw [pev_add, pev_mul, ih]
    show a + x * 0 + _ = _
    grind
def qabs (a : Rat) : Rat := if 0 ≤ a then a else -a
/-- The sum of magnitudes at b. -/
def pabs : List Rat → Rat → Rat
  | [], _ => 0
  | a :: l, b => qabs a + b * pabs l b
theorem qabs_le (a : Rat) : -(qabs a) ≤ a ∧ a ≤ qabs a ∧ 0 ≤ qabs a := by
  unfold qabs; split <;> grind
theorem pabs_nonneg (l : List Rat) {b : Rat} (hb : 0 ≤ b) : 0 ≤ pabs l b := by
  induction l with
  | nil => exact Rat.le_refl
  | cons a l ih =>
    have h := (qabs_le a).2.2
    have h2 := Rat.mul_nonneg hb ih
    show 0 ≤ qabs a + b * pabs l b
    grind
theorem mul_in {x y b c : Rat} (h1 : -b ≤ x) (h2 : x ≤ b) (h3 : -c ≤ y) (h4 : y ≤ c) : -(b * c) ≤ x * y ∧ x * y ≤ b * c := by
  have b0 : 0 ≤ b := by grind
  have c0 : 0 ≤ c := by grind
  have p1 := Rat.mul_nonneg (show 0 ≤ b - x by grind) (show 0 ≤ c - y by grind)
  have p2 := Rat.mul_nonneg (show 0 ≤ b + x by grind) (show 0 ≤ c + y by grind)
  have p3 := Rat.mul_nonneg (show 0 ≤ b - x by grind) (show 0 ≤ c + y by grind)
  have p4 := Rat.mul_nonneg (show 0 ≤ b + x by grind) (show 0 ≤ c - y by grind)
  constructor <;> grind
theorem pev_bd (l : List Rat) {x b : Rat} (h1 : -b ≤ x) (h2 : x ≤ b) : -(pabs l b) ≤ pev l x ∧ pev l x ≤ pabs l b := by
  have hb : 0 ≤ b := by grind
  induction l with
  | nil => exact ⟨by show -(0 : Rat) ≤ 0; grind, by show (0 : Rat) ≤ 0; grind⟩
  | cons a l ih =>
    obtain ⟨a1, a2, -⟩ := qabs_le a
    obtain ⟨m1, m2⟩ := mul_in h1 h2 ih.1 ih.2
    show -(qabs a + b * pabs l b) ≤ a + x * pev l x ∧ a + x * pev l x ≤ qabs a + b * pabs l b
    constructor <;> grind
/-- How much a value turns where the place turns by d: at most d times this. -/
def pdif : List Rat → Rat → Rat
  | [], _ => 0
  | _ :: l, b => pabs l b + b * pdif l b
theorem pdif_nonneg (l : List Rat) {b : Rat} (hb : 0 ≤ b) : 0 ≤ pdif l b := by
  induction l with
  | nil => exact Rat.le_refl
  | cons a l ih =>
    have h := pabs_nonneg l hb
    have h2 := Rat.mul_nonneg hb ih
    show 0 ≤ pabs l b + b * pdif l b
    grind
theorem pev_lip (l : List Rat) {x y b d : Rat} (h1 : -b ≤ x) (h2 : x ≤ b) (h3 : -b ≤ y) (h4 : y ≤ b) (d1 : -d ≤ x - y) (d2 : x - y ≤ d) : -(d * pdif l b) ≤ pev l x - pev l y ∧ pev l x - pev l y ≤ d * pdif l b := by
  have hb : 0 ≤ b := by grind
  induction l with
  | nil => exact ⟨by show -(d * 0) ≤ (0 : Rat) - 0; grind, by show (0 : Rat) - 0 ≤ d * 0; grind⟩
  | cons a l ih =>
    obtain ⟨e1, e2⟩ := pev_bd l h1 h2
    obtain ⟨m1, m2⟩ := mul_in d1 d2 e1 e2
    obtain ⟨m3, m4⟩ := mul_in h3 h4 ih.1 ih.2
    show -(d * (pabs l b + b * pdif l b)) ≤ a + x * pev l x - (a + y * pev l y) ∧ a + x * pev l x - (a + y * pev l y) ≤ d * (pabs l b + b * pdif l b)
    have e : a + x * pev l x - (a + y * pev l y) = (x - y) * pev l x + y * (pev l x - pev l y) := by grind
    rw [e]
    constructor <;> grind
end Go.Proofs.Ytokmjboaeamogaa
