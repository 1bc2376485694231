/- An entry and its neighbours, mixed: cube.soft. Conditions: the cube is right, the place within it. -/
import Derived.Test.YtalgepfammpmbaaCuB
namespace Go.Proofs.Ytalgepfammpmbaa
open Go.RowKit
/-- The neighbours of a place, in turn: whether they are there, their numbers. -/
def nbOK (S i j k : Nat) : Nat → Bool
  | 0 => decide (0 < i)
  | 1 => decide (i + 1 < S)
  | 2 => decide (0 < j)
  | 3 => decide (j + 1 < S)
  | 4 => decide (0 < k)
  | _ => decide (k + 1 < S)
def nbE (S i j k : Nat) : Nat → Nat
  | 0 => enI S (i - 1) j k
  | 1 => enI S (i + 1) j k
  | 2 => enI S i (j - 1) k
  | 3 => enI S i (j + 1) k
  | 4 => enI S i j (k - 1)
  | _ => enI S i j (k + 1)
/-- How many of the first p are there; their sum. -/
def smN (S i j k : Nat) : Nat → Nat
  | 0 => 0
  | p + 1 => if nbOK S i j k p = true then smN S i j k p + 1 else smN S i j k p
def smV (fs : Nat → Nat) (S i j k m : Nat) : Nat → Nat
  | 0 => 0
  | p + 1 => if nbOK S i j k p = true then (if smN S i j k p = 0 then cn .f32 (fs (3 * nbE S i j k p + m)) else fop .add .f32 (smV fs S i j k m p) (fs (3 * nbE S i j k p + m))) else smV fs S i j k m p
/-- A smooth entry. -/
def softV (fs : Nat → Nat) (S i j k m : Nat) : Nat := fop .quo .f32 (fop .add .f32 (fop .mul .f32 (fs (3 * enI S i j k + m)) 1073741824) (smV fs S i j k m 6)) (floatOfInt .f32 (2 + (smN S i j k 6 : Nat)))
theorem smN_le (S i j k : Nat) : ∀ p, smN S i j k p ≤ p
  | 0 => Nat.le_refl _
  | p + 1 => by
    have := smN_le S i j k p
    unfold smN; split <;> omega
theorem smN_yes {S i j k p : Nat} (h : nbOK S i j k p = true) : smN S i j k (p + 1) = smN S i j k p + 1 := by
  show (if nbOK S i j k p = true then _ else _) = _; rw [if_pos h]
theorem smN_no {S i j k p : Nat} (h : nbOK S i j k p = false) : smN S i j k (p + 1) = smN S i j k p := by
  show (if nbOK S i j k p = true then _ else _) = _; rw [if_neg (by rw [h]; decide)]
theorem smV_no {fs : Nat → Nat} {S i j k m p : Nat} (h : nbOK S i j k p = false) : smV fs S i j k m (p + 1) = smV fs S i j k m p := by
  show (if nbOK S i j k p = true then _ else _) = _; rw [if_neg (by rw [h]; decide)]
theorem smV_first {fs : Nat → Nat} {S i j k m p : Nat} (h : nbOK S i j k p = true) (h0 : smN S i j k p = 0) : smV fs S i j k m (p + 1) = cn .f32 (fs (3 * nbE S i j k p + m)) := by
  show (if nbOK S i j k p = true then _ else _) = _; rw [if_pos h, if_pos h0]
theorem smV_more {fs : Nat → Nat} {S i j k m p : Nat} (h : nbOK S i j k p = true) (h0 : smN S i j k p ≠ 0) : smV fs S i j k m (p + 1) = fop .add .f32 (smV fs S i j k m p) (fs (3 * nbE S i j k p + m)) := by
  show (if nbOK S i j k p = true then _ else _) = _; rw [if_pos h, if_neg h0]
theorem smV_cn (fs : Nat → Nat) (S i j k m : Nat) : ∀ p, cn .f32 (smV fs S i j k m p) = smV fs S i j k m p
  | 0 => by show cn .f32 0 = 0; decide +kernel
  | p + 1 => by
    have := smV_cn fs S i j k m p
    unfold smV
    split
    · split
      · exact cn_cn _ _
      · exact cn_fop _ _ _ _
    · exact this
/-- What stands while the neighbours are summed. -/
structure SoftR (w wr : World) (L : List Value) (r : Nat → Nat) : Prop where
  c : Blk wr w.heap.size L
  z : Blk wr (w.heap.size + 1) [.float .f32 0, .float .f32 0, .float .f32 0]
  s : Blk wr (w.heap.size + 2) [.float .f32 (r 0), .float .f32 (r 1), .float .f32 (r 2)]
  b : Below w.heap.size w wr
theorem SoftR.past {w wr wy : World} {L : List Value} {r : Nat → Nat} (k : SoftR w wr L r) (h : Below wr.heap.size wr wy) : SoftR w wy L r := ⟨k.c.past h, k.z.past h, k.s.past h, k.b.trans (h.mono k.b.size)⟩
theorem SoftR.set0 {w wr : World} {L : List Value} {r : Nat → Nat} (k : SoftR w wr L r) (x : Nat) : SoftR w (wr.setCell ⟨w.heap.size + 2, 0, none⟩ (.float .f32 x)) L (fun m => if m = 0 then x else r m) :=
  ⟨k.c.far _ _ (by simp), k.z.far _ _ (by simp), k.s.set 0 _, k.b.setCell (by simp) _⟩
theorem SoftR.set1 {w wr : World} {L : List Value} {r : Nat → Nat} (k : SoftR w wr L r) (x : Nat) : SoftR w (wr.setCell ⟨w.heap.size + 2, 1, none⟩ (.float .f32 x)) L (fun m => if m = 1 then x else r m) :=
  ⟨k.c.far _ _ (by simp), k.z.far _ _ (by simp), k.s.set 1 _, k.b.setCell (by simp) _⟩
theorem SoftR.set2 {w wr : World} {L : List Value} {r : Nat → Nat} (k : SoftR w wr L r) (x : Nat) : SoftR w (wr.setCell ⟨w.heap.size + 2, 2, none⟩ (.float .f32 x)) L (fun m => if m = 2 then x else r m) :=
  ⟨k.c.far _ _ (by simp), k.z.far _ _ (by simp), k.s.set 2 _, k.b.setCell (by simp) _⟩
/-- One channel is added. -/
theorem soft_add {fs : Nat → Nat} {S i j k p c : Nat} {r : Nat → Nat} {x : Nat} (hc : c < 3) (hOK : nbOK S i j k p = true) (h0 : smN S i j k p ≠ 0) (he : ∀ m, m < 3 → cn .f32 (r m) = if m < c then smV fs S i j k m (p + 1) else smV fs S i j k m p)
    (hx : FR .f32 x (fop .add .f32 (cn .f32 (r c)) (cn .f32 (fs (3 * nbE S i j k p + c))))) : ∀ m, m < 3 → cn .f32 (if m = c then x else r m) = if m < c + 1 then smV fs S i j k m (p + 1) else smV fs S i j k m p := fun m hm => by
  by_cases h : m = c
  · subst h
    rw [if_pos rfl, if_pos (by omega), hx.eq, he m hm, if_neg (by omega), fop_cn_right, smV_more hOK h0]
  · rw [if_neg h, he m hm]
    by_cases h2 : m < c
    · rw [if_pos h2, if_pos (by omega)]
    · rw [if_neg h2, if_neg (by omega)]
theorem soft_set {fs : Nat → Nat} {S i j k p c : Nat} {r : Nat → Nat} {x y : Nat} (hc : c < 3) (hOK : nbOK S i j k p = true) (h0 : smN S i j k p = 0) (he : ∀ m, m < 3 → cn .f32 (r m) = if m < c then smV fs S i j k m (p + 1) else smV fs S i j k m p)
    (hx : y = fs (3 * nbE S i j k p + c)) : ∀ m, m < 3 → cn .f32 (if m = c then y else if m = c then x else r m) = if m < c + 1 then smV fs S i j k m (p + 1) else smV fs S i j k m p := fun m hm => by
  by_cases h : m = c
  · subst h
    rw [if_pos rfl, if_pos (by omega), hx, smV_first hOK h0]
  · rw [if_neg h, if_neg h, he m hm]
    by_cases h2 : m < c
    · rw [if_pos h2, if_pos (by omega)]
    · rw [if_neg h2, if_neg (by omega)]
theorem SoftR.far' {w wr : World} {L : List Value} {r : Nat → Nat} (k : SoftR w wr L r) (q : Addr) (x : Value) (hq : w.heap.size + 2 < q.block) : SoftR w (wr.setCell q x) L r :=
  ⟨k.c.far _ _ (by omega), k.z.far _ _ (by omega), k.s.far _ _ (by omega), k.b.setCell (by omega) _⟩
theorem soft_out {fs : Nat → Nat} {S i j k c nn e r x1 x2 x3 : Nat} (he : e = fs (3 * enI S i j k + c)) (hN : nn = smN S i j k 6) (hr : cn .f32 r = smV fs S i j k c 6)
    (h1 : FR .f32 x1 (fop .mul .f32 (cn .f32 e) (cn .f32 1073741824))) (h2 : FR .f32 x2 (fop .add .f32 (cn .f32 x1) (cn .f32 r))) (h3 : FR .f32 x3 (fop .quo .f32 (cn .f32 x2) (cn .f32 (floatOfInt .f32 (2 + (nn : Int)))))) : cn .f32 x3 = softV fs S i j k c := by
  rw [h3.eq, h2.eq, h1.eq, hr, he, hN]
  unfold softV
  simp only [fop_cn_left, fop_cn_right]
set_option maxRecDepth 100000 in
set_option maxHeartbeats 16000000 in
theorem soft_any (S i j k : Nat) (lo hi b off n cap : Nat) (fs : Nat → Nat) (w : World) (hS : S ≤ 17) (h1 : i < S) (h2 : j < S) (h3 : k < S) (hn : n = 3 * (S * S * S)) (hcap : n ≤ cap) (hc : Row w b off n fs) :
    Calls Try.prog 152 #[.agg #[.int .i64 S, .float .f32 lo, .float .f32 hi, .slice (some ⟨b, off, none⟩) n cap], .int .i64 i, .int .i64 j, .int .i64 k] w fun e w' =>
      (∃ q : Nat → Nat, e = .returned (.agg #[.float .f32 (q 0), .float .f32 (q 1), .float .f32 (q 2)]) ∧ ∀ m, m < 3 → cn .f32 (q m) = softV fs S i j k m) ∧ Below w.heap.size w w' := by
  have hn0 : 0 < n := by have := enI_lt h1 h2 h3; omega
  have hbw := hc.lt hn0
  have HE : Hid (∀ x y z w', x < S → y < S → z < S → Below w.heap.size w w' → Calls Try.prog 150 #[.agg #[.int .i64 S, .float .f32 lo, .float .f32 hi, .slice (some ⟨b, off, none⟩) n cap], .int .i64 (x : Nat), .int .i64 (y : Nat), .int .i64 (z : Nat)] w' fun e w'' =>
      e = .returned (.agg #[.float .f32 (fs (3 * enI S x y z)), .float .f32 (fs (3 * enI S x y z + 1)), .float .f32 (fs (3 * enI S x y z + 2))]) ∧ Below w'.heap.size w' w'') := fun x y z w' hx hy hz hb => entry_any S x y z lo hi b off n cap fs w' hS hx hy hz hn hcap (hc.below hb hbw)
  clear hc hn hcap hn0 hbw
  have ix0 : ∀ w, (Instr.index 183 (.agg #[.int .i64 (-1), .int .i64 1]) (.int .i64 0)).run Try.prog w = .ok (.int .i64 (-1)) w := fun w => by kernel_rfl
  have ix1 : ∀ w, (Instr.index 183 (.agg #[.int .i64 (-1), .int .i64 1]) (.int .i64 1)).run Try.prog w = .ok (.int .i64 1) w := fun w => by kernel_rfl
  go_enter Try.func152, Try.ntmps152
  go_wp2_with fail
  refine wp_world (fun W hW => ?_)
  have R0 : SoftR w W [.int .i64 S, .float .f32 lo, .float .f32 hi, .slice (some ⟨b, off, none⟩) n cap] (fun _ => 0) := by
    rw [hW]
    exact ⟨((Blk.new _ _ _ _ rfl).alloc _).alloc _, (Blk.new _ _ _ _ (by simp)).alloc _, Blk.new _ _ _ _ (by simp), by (repeat (first | exact Below.refl _ _ | assumption | (refine Below.setCell ?_ (by first | (simp; done) | (simp; omega) | omega) _) | (refine Below.drew ?_) | (refine below_drewN ?_ _) | (refine Below.alloc ?_ (by first | (simp; done) | (simp; omega) | omega) _) | (refine Below.trans ?_ (Below.mono (by assumption) (by first | (simp; done) | (simp; omega) | omega)))))⟩
  have HR0 := Lib.hid R0
  clear hW R0
  go_loopw [20, 10] (fun s20 s10 wr => ∃ a : Nat, a ≤ 3 ∧ s20 = .int .i64 a ∧ s10 = .int .i64 (smN S i j k (2 * a) : Nat) ∧ ∃ r, SoftR w wr [.int .i64 S, .float .f32 lo, .float .f32 hi, .slice (some ⟨b, off, none⟩) n cap] r ∧ ∀ m, m < 3 → cn .f32 (r m) = smV fs S i j k m (2 * a)) (fun s20 _ _ => 3 - (intOf s20).toNat)
  case atStart => exact ⟨0, by omega, rfl, rfl, _, HR0.out, fun m _ => smV_cn fs S i j k m 0⟩
  case round =>
    obtain ⟨a, ha, rfl, rfl, r, hR, he⟩ := hrel
    have HR := Lib.hid (And.intro hR he)
    clear hR he HR0
    by_cases ha3 : a < 3
    · rcases (show a = 0 ∨ a = 1 ∨ a = 2 by omega) with rfl | rfl | rfl
      · rw [show ((0 : Nat) : Int) = 0 from rfl]
        go_wp2_with fail
        go_loopw [24, 10] (fun s24 s10 wr => ∃ d : Nat, d ≤ 2 ∧ s24 = .int .i64 d ∧ s10 = .int .i64 (smN S i j k (0 + d) : Nat) ∧ ∃ r, SoftR w wr [.int .i64 S, .float .f32 lo, .float .f32 hi, .slice (some ⟨b, off, none⟩) n cap] r ∧ ∀ m, m < 3 → cn .f32 (r m) = smV fs S i j k m (0 + d)) (fun s24 _ _ => 2 - (intOf s24).toNat)
        case atStart => exact ⟨0, by omega, rfl, rfl, _, HR.out.1, HR.out.2⟩
        case round =>
          obtain ⟨d, hd, rfl, rfl, r, hR, he⟩ := hrel
          have HR2 := Lib.hid (And.intro hR he)
          clear hR he HR
          by_cases hd2 : d < 2
          · rcases (show d = 0 ∨ d = 1 by omega) with rfl | rfl
            · rw [show ((0 : Nat) : Int) = 0 from rfl]
              have hnn := smN_le S i j k 0
              obtain ⟨nn, hN⟩ : ∃ nn, nn = smN S i j k 0 := ⟨_, rfl⟩
              have HN := Lib.hid hN
              rw [show 0 + 0 = 0 from rfl] at HR2 ⊢
              rw [← hN] at hnn ⊢
              clear hN
              by_cases hO : 0 < i
              · have hOK : nbOK S i j k 0 = true := by show decide _ = true; simpa using hO
                obtain ⟨X, hX⟩ : ∃ X : Nat, X = i - 1 := ⟨_, rfl⟩
                have u : IntKind.i64.wrap ((i : Int) + -1) = (X : Int) := by rw [IntKind.wrap_i64]; omega
                have hXS : X < S := by omega
                have hE : enI S X j k = nbE S i j k 0 := by subst hX; rfl
                have HE2 := Lib.hid (HE.out X j k)
                rw [hE] at HE2
                have HOK := Lib.hid hOK
                clear hX hE hOK hO
                go_wp2_with fail
                refine wp_world (fun W2 hW2 => ?_)
                have AB : Blk W2 wr.heap.size [.int .i64 X, .int .i64 j, .int .i64 k] := by rw [hW2]; first | exact Blk.new _ _ _ _ rfl | exact (Blk.new _ _ _ _ rfl).set 0 _ | exact ((((Blk.new _ _ _ _ rfl).set 0 _).set 1 _).set 2 _).set 0 _
                have B2 : Below wr.heap.size wr W2 := by rw [hW2]; (repeat (first | exact Below.refl _ _ | assumption | (refine Below.setCell ?_ (by first | (simp; done) | (simp; omega) | omega) _) | (refine Below.drew ?_) | (refine below_drewN ?_ _) | (refine Below.alloc ?_ (by first | (simp; done) | (simp; omega) | omega) _) | (refine Below.trans ?_ (Below.mono (by assumption) (by first | (simp; done) | (simp; omega) | omega)))))
                have HR3 := Lib.hid (And.intro (HR2.out.1.past B2) HR2.out.2)
                have HAB := Lib.hid AB
                have a0 := AB.c 0 _ rfl; have a1 := AB.c 1 _ rfl; have a2 := AB.c 2 _ rfl; have al := AB.lt
                have c0 := HR3.out.1.c.c 0 _ rfl; have cl := HR3.out.1.c.lt
                clear hW2 HR2 B2 AB
                refine wp_region_loose 11 (fun _ _ _ => False) (by kernel_rfl) (by kernel_rfl) ?_
                simp only [List.take_succ_cons, List.take_zero, List.drop_succ_cons, List.drop_zero]
                iterate 11 (refine loose_wanted rfl (fun K hK => ?_); go_simp; refine hK _ ?_; clear hK K)
                refine loose_nil (fun w5 hb5 => ?_)
                have A5 := HAB.out.past hb5
                have HR5 := Lib.hid (And.intro (HR3.out.1.past hb5) HR3.out.2)
                clear hb5 a0 a1 a2 al c0 cl HR3 HAB
                have a0 := A5.c 0 _ rfl; have a1 := A5.c 1 _ rfl; have a2 := A5.c 2 _ rfl; have al := A5.lt
                have c0 := HR5.out.1.c.c 0 _ rfl; have c1 := HR5.out.1.c.c 1 _ rfl; have c2 := HR5.out.1.c.c 2 _ rfl; have c3 := HR5.out.1.c.c 3 _ rfl; have cl := HR5.out.1.c.lt
                go_wp2_with fail
                refine (HE2.out _ (by omega) (by omega) (by omega) HR5.out.1.b).mono ?_
                rintro e w6 ⟨rfl, hb6⟩
                have HR6 := Lib.hid (And.intro (HR5.out.1.past hb6) HR5.out.2)
                clear hb6 a0 a1 a2 al c0 c1 c2 c3 cl HR5 A5
                go_wp2_with fail
                refine wp_world (fun W7 hW7 => ?_)
                have VB : Blk W7 w6.heap.size [.float .f32 (fs (3 * nbE S i j k 0)), .float .f32 (fs (3 * nbE S i j k 0 + 1)), .float .f32 (fs (3 * nbE S i j k 0 + 2))] := by rw [hW7]; first | exact Blk.new _ _ _ _ rfl | exact (((Blk.new _ _ _ _ rfl).set 0 _).set 1 _).set 2 _
                have B7 : Below w6.heap.size w6 W7 := by rw [hW7]; (repeat (first | exact Below.refl _ _ | assumption | (refine Below.setCell ?_ (by first | (simp; done) | (simp; omega) | omega) _) | (refine Below.drew ?_) | (refine below_drewN ?_ _) | (refine Below.alloc ?_ (by first | (simp; done) | (simp; omega) | omega) _) | (refine Below.trans ?_ (Below.mono (by assumption) (by first | (simp; done) | (simp; omega) | omega)))))
                have HR7 := Lib.hid (And.intro (HR6.out.1.past B7) HR6.out.2)
                have HVB := Lib.hid VB
                have hvs : w.heap.size + 2 < w6.heap.size := HR6.out.1.s.lt
                clear hW7 HR6 B7 VB
                go_loopw [57] (fun s57 wt => ∃ c : Nat, c ≤ 3 ∧ s57 = .int .i64 c ∧ ∃ r', SoftR w wt [.int .i64 S, .float .f32 lo, .float .f32 hi, .slice (some ⟨b, off, none⟩) n cap] r' ∧ Blk wt w6.heap.size [.float .f32 (fs (3 * nbE S i j k 0)), .float .f32 (fs (3 * nbE S i j k 0 + 1)), .float .f32 (fs (3 * nbE S i j k 0 + 2))] ∧ ∀ m, m < 3 → cn .f32 (r' m) = if m < c then smV fs S i j k m (0 + 1) else smV fs S i j k m 0) (fun s57 _ => 3 - (intOf s57).toNat)
                case atStart => exact ⟨0, by omega, rfl, r, HR7.out.1, HVB.out, fun m hm => by rw [if_neg (by omega)]; exact HR7.out.2 m hm⟩
                case round =>
                  obtain ⟨c, hc3, rfl, r', hR, hV, he⟩ := hrel
                  have HR8 := Lib.hid hR; have HV8 := Lib.hid hV; have HE8 := Lib.hid he
                  clear hR hV he HR7 HVB
                  by_cases hc : c < 3
                  · by_cases hz : nn = 0
                    · have hz1 : ((nn : Int) == 0) = true := by simpa using hz
                      have HZ := Lib.hid hz; clear hz
                      rcases (show c = 0 ∨ c = 1 ∨ c = 2 by omega) with rfl | rfl | rfl
                      · rw [show ((0 : Nat) : Int) = 0 from rfl]
                        have s0 := HR8.out.s.c 0 _ rfl; have v0 := HV8.out.c 0 _ rfl; have sf := HR8.out.s.f; have sl := HR8.out.s.lt; have vl := HV8.out.lt
                        go_wp2_with fail
                        refine wp_region_loose 8 (fun _ _ _ => False) (by kernel_rfl) (by kernel_rfl) ?_
                        simp only [List.take_succ_cons, List.take_zero, List.drop_succ_cons, List.drop_zero]
                        iterate 6 (refine loose_wanted rfl (fun K hK => ?_); go_simp; refine hK _ ?_; clear hK K)
                        (first | ((with_reducible apply loose_farith); rfl; rfl; rfl; rfl; intro _ _) | ((with_reducible apply loose_up); rfl; rfl; exact Try.underlying27; exact Try.underlying151; intro _ _))
                        iterate 1 (refine loose_wanted rfl (fun K hK => ?_); go_simp; refine hK _ ?_; clear hK K)
                        rename_i x hx
                        refine loose_nil (fun w9 hb9 => ?_)
                        have R9 := HR8.out.past hb9
                        have V9 := HV8.out.past hb9
                        have HR9 := Lib.hid R9; have HV9 := Lib.hid V9
                        clear hb9 s0 v0 sf sl vl R9 V9
                        have s0 := HR9.out.s.c 0 _ rfl; have v0 := HV9.out.c 0 _ rfl; have sf := HR9.out.s.f; have sl := HR9.out.s.lt; have vl := HV9.out.lt
                        go_wp2_with fail
                        go_roundw
                        case rel => exact ⟨0 + 1, by omega, by first | rfl | go_num, _, (HR9.out.set0 x).set0 _, (HV9.out.far _ _ (by simp; omega)).far _ _ (by simp; omega), soft_set (by omega) HOK.out (HN.out.symm.trans HZ.out) HE8.out rfl⟩
                        case measure => simp [intOf]
                      · rw [show ((1 : Nat) : Int) = 1 from rfl]
                        have s0 := HR8.out.s.c 1 _ rfl; have v0 := HV8.out.c 1 _ rfl; have sf := HR8.out.s.f; have sl := HR8.out.s.lt; have vl := HV8.out.lt
                        go_wp2_with fail
                        refine wp_region_loose 8 (fun _ _ _ => False) (by kernel_rfl) (by kernel_rfl) ?_
                        simp only [List.take_succ_cons, List.take_zero, List.drop_succ_cons, List.drop_zero]
                        iterate 6 (refine loose_wanted rfl (fun K hK => ?_); go_simp; refine hK _ ?_; clear hK K)
                        (first | ((with_reducible apply loose_farith); rfl; rfl; rfl; rfl; intro _ _) | ((with_reducible apply loose_up); rfl; rfl; exact Try.underlying27; exact Try.underlying151; intro _ _))
                        iterate 1 (refine loose_wanted rfl (fun K hK => ?_); go_simp; refine hK _ ?_; clear hK K)
                        rename_i x hx
                        refine loose_nil (fun w9 hb9 => ?_)
                        have R9 := HR8.out.past hb9
                        have V9 := HV8.out.past hb9
                        have HR9 := Lib.hid R9; have HV9 := Lib.hid V9
                        clear hb9 s0 v0 sf sl vl R9 V9
                        have s0 := HR9.out.s.c 1 _ rfl; have v0 := HV9.out.c 1 _ rfl; have sf := HR9.out.s.f; have sl := HR9.out.s.lt; have vl := HV9.out.lt
                        go_wp2_with fail
                        go_roundw
                        case rel => exact ⟨1 + 1, by omega, by first | rfl | go_num, _, (HR9.out.set1 x).set1 _, (HV9.out.far _ _ (by simp; omega)).far _ _ (by simp; omega), soft_set (by omega) HOK.out (HN.out.symm.trans HZ.out) HE8.out rfl⟩
                        case measure => simp [intOf]
                      · rw [show ((2 : Nat) : Int) = 2 from rfl]
                        have s0 := HR8.out.s.c 2 _ rfl; have v0 := HV8.out.c 2 _ rfl; have sf := HR8.out.s.f; have sl := HR8.out.s.lt; have vl := HV8.out.lt
                        go_wp2_with fail
                        refine wp_region_loose 8 (fun _ _ _ => False) (by kernel_rfl) (by kernel_rfl) ?_
                        simp only [List.take_succ_cons, List.take_zero, List.drop_succ_cons, List.drop_zero]
                        iterate 6 (refine loose_wanted rfl (fun K hK => ?_); go_simp; refine hK _ ?_; clear hK K)
                        (first | ((with_reducible apply loose_farith); rfl; rfl; rfl; rfl; intro _ _) | ((with_reducible apply loose_up); rfl; rfl; exact Try.underlying27; exact Try.underlying151; intro _ _))
                        iterate 1 (refine loose_wanted rfl (fun K hK => ?_); go_simp; refine hK _ ?_; clear hK K)
                        rename_i x hx
                        refine loose_nil (fun w9 hb9 => ?_)
                        have R9 := HR8.out.past hb9
                        have V9 := HV8.out.past hb9
                        have HR9 := Lib.hid R9; have HV9 := Lib.hid V9
                        clear hb9 s0 v0 sf sl vl R9 V9
                        have s0 := HR9.out.s.c 2 _ rfl; have v0 := HV9.out.c 2 _ rfl; have sf := HR9.out.s.f; have sl := HR9.out.s.lt; have vl := HV9.out.lt
                        go_wp2_with fail
                        go_roundw
                        case rel => exact ⟨2 + 1, by omega, by first | rfl | go_num, _, (HR9.out.set2 x).set2 _, (HV9.out.far _ _ (by simp; omega)).far _ _ (by simp; omega), soft_set (by omega) HOK.out (HN.out.symm.trans HZ.out) HE8.out rfl⟩
                        case measure => simp [intOf]
                    · have hz1 : ((nn : Int) == 0) = false := by simpa using hz
                      have HZ := Lib.hid hz; clear hz
                      rcases (show c = 0 ∨ c = 1 ∨ c = 2 by omega) with rfl | rfl | rfl
                      · rw [show ((0 : Nat) : Int) = 0 from rfl]
                        have s0 := HR8.out.s.c 0 _ rfl; have v0 := HV8.out.c 0 _ rfl; have sf := HR8.out.s.f; have sl := HR8.out.s.lt; have vl := HV8.out.lt
                        go_wp2_with fail
                        refine wp_region_loose 8 (fun _ _ _ => False) (by kernel_rfl) (by kernel_rfl) ?_
                        simp only [List.take_succ_cons, List.take_zero, List.drop_succ_cons, List.drop_zero]
                        iterate 6 (refine loose_wanted rfl (fun K hK => ?_); go_simp; refine hK _ ?_; clear hK K)
                        (first | ((with_reducible apply loose_farith); rfl; rfl; rfl; rfl; intro _ _) | ((with_reducible apply loose_up); rfl; rfl; exact Try.underlying27; exact Try.underlying151; intro _ _))
                        iterate 1 (refine loose_wanted rfl (fun K hK => ?_); go_simp; refine hK _ ?_; clear hK K)
                        rename_i x hx
                        refine loose_nil (fun w9 hb9 => ?_)
                        have R9 := HR8.out.past hb9
                        have V9 := HV8.out.past hb9
                        have HR9 := Lib.hid R9; have HV9 := Lib.hid V9
                        clear hb9 s0 v0 sf sl vl R9 V9
                        have s0 := HR9.out.s.c 0 _ rfl; have sf := HR9.out.s.f; have sl := HR9.out.s.lt
                        go_wp2_with fail
                        go_roundw
                        case rel => exact ⟨0 + 1, by omega, by first | rfl | go_num, _, HR9.out.set0 x, HV9.out.far _ _ (by simp; omega), soft_add (by omega) HOK.out (fun h => HZ.out (HN.out.trans h)) HE8.out hx⟩
                        case measure => simp [intOf]
                      · rw [show ((1 : Nat) : Int) = 1 from rfl]
                        have s0 := HR8.out.s.c 1 _ rfl; have v0 := HV8.out.c 1 _ rfl; have sf := HR8.out.s.f; have sl := HR8.out.s.lt; have vl := HV8.out.lt
                        go_wp2_with fail
                        refine wp_region_loose 8 (fun _ _ _ => False) (by kernel_rfl) (by kernel_rfl) ?_
                        simp only [List.take_succ_cons, List.take_zero, List.drop_succ_cons, List.drop_zero]
                        iterate 6 (refine loose_wanted rfl (fun K hK => ?_); go_simp; refine hK _ ?_; clear hK K)
                        (first | ((with_reducible apply loose_farith); rfl; rfl; rfl; rfl; intro _ _) | ((with_reducible apply loose_up); rfl; rfl; exact Try.underlying27; exact Try.underlying151; intro _ _))
                        iterate 1 (refine loose_wanted rfl (fun K hK => ?_); go_simp; refine hK _ ?_; clear hK K)
                        rename_i x hx
                        refine loose_nil (fun w9 hb9 => ?_)
                        have R9 := HR8.out.past hb9
                        have V9 := HV8.out.past hb9
                        have HR9 := Lib.hid R9; have HV9 := Lib.hid V9
                        clear hb9 s0 v0 sf sl vl R9 V9
                        have s0 := HR9.out.s.c 1 _ rfl; have sf := HR9.out.s.f; have sl := HR9.out.s.lt
                        go_wp2_with fail
                        go_roundw
                        case rel => exact ⟨1 + 1, by omega, by first | rfl | go_num, _, HR9.out.set1 x, HV9.out.far _ _ (by simp; omega), soft_add (by omega) HOK.out (fun h => HZ.out (HN.out.trans h)) HE8.out hx⟩
                        case measure => simp [intOf]
                      · rw [show ((2 : Nat) : Int) = 2 from rfl]
                        have s0 := HR8.out.s.c 2 _ rfl; have v0 := HV8.out.c 2 _ rfl; have sf := HR8.out.s.f; have sl := HR8.out.s.lt; have vl := HV8.out.lt
                        go_wp2_with fail
                        refine wp_region_loose 8 (fun _ _ _ => False) (by kernel_rfl) (by kernel_rfl) ?_
                        simp only [List.take_succ_cons, List.take_zero, List.drop_succ_cons, List.drop_zero]
                        iterate 6 (refine loose_wanted rfl (fun K hK => ?_); go_simp; refine hK _ ?_; clear hK K)
                        (first | ((with_reducible apply loose_farith); rfl; rfl; rfl; rfl; intro _ _) | ((with_reducible apply loose_up); rfl; rfl; exact Try.underlying27; exact Try.underlying151; intro _ _))
                        iterate 1 (refine loose_wanted rfl (fun K hK => ?_); go_simp; refine hK _ ?_; clear hK K)
                        rename_i x hx
                        refine loose_nil (fun w9 hb9 => ?_)
                        have R9 := HR8.out.past hb9
                        have V9 := HV8.out.past hb9
                        have HR9 := Lib.hid R9; have HV9 := Lib.hid V9
                        clear hb9 s0 v0 sf sl vl R9 V9
                        have s0 := HR9.out.s.c 2 _ rfl; have sf := HR9.out.s.f; have sl := HR9.out.s.lt
                        go_wp2_with fail
                        go_roundw
                        case rel => exact ⟨2 + 1, by omega, by first | rfl | go_num, _, HR9.out.set2 x, HV9.out.far _ _ (by simp; omega), soft_add (by omega) HOK.out (fun h => HZ.out (HN.out.trans h)) HE8.out hx⟩
                        case measure => simp [intOf]
                  · have hc' : c = 3 := by omega
                    subst hc'
                    rw [show ((3 : Nat) : Int) = 3 from rfl]
                    go_wp2_with fail
                    go_roundw
                    case rel => exact ⟨0 + 1, by omega, by first | rfl | go_num, by rw [show 0 + (0 + 1) = 0 + 1 from rfl, smN_yes HOK.out, ← HN.out]; go_num, r', HR8.out, fun m hm => by rw [HE8.out m hm, if_pos hm]⟩
                    case measure => simp [intOf]
              · have hOK : nbOK S i j k 0 = false := by show decide _ = false; simpa using hO
                have u : IntKind.i64.wrap ((i : Int) + -1) = -1 := by rw [IntKind.wrap_i64]; omega
                have e1 := Lib.hid (smN_no hOK)
                have e2 := Lib.hid (fun m => smV_no (fs := fs) (m := m) hOK)
                clear hOK
                go_wp2_with fail
                refine wp_world (fun W2 hW2 => ?_)
                have AB : Blk W2 wr.heap.size [.int .i64 (-1), .int .i64 j, .int .i64 k] := by rw [hW2]; first | exact Blk.new _ _ _ _ rfl | exact (Blk.new _ _ _ _ rfl).set 0 _ | exact ((((Blk.new _ _ _ _ rfl).set 0 _).set 1 _).set 2 _).set 0 _
                have B2 : Below wr.heap.size wr W2 := by rw [hW2]; (repeat (first | exact Below.refl _ _ | assumption | (refine Below.setCell ?_ (by first | (simp; done) | (simp; omega) | omega) _) | (refine Below.drew ?_) | (refine below_drewN ?_ _) | (refine Below.alloc ?_ (by first | (simp; done) | (simp; omega) | omega) _) | (refine Below.trans ?_ (Below.mono (by assumption) (by first | (simp; done) | (simp; omega) | omega)))))
                have HR3 := Lib.hid (And.intro (HR2.out.1.past B2) HR2.out.2)
                have a0 := AB.c 0 _ rfl; have a1 := AB.c 1 _ rfl; have a2 := AB.c 2 _ rfl; have al := AB.lt
                have c0 := HR3.out.1.c.c 0 _ rfl; have cl := HR3.out.1.c.lt
                clear hW2 HR2 B2 AB
                refine wp_region_loose 11 (fun _ _ _ => False) (by kernel_rfl) (by kernel_rfl) ?_
                simp only [List.take_succ_cons, List.take_zero, List.drop_succ_cons, List.drop_zero]
                iterate 5 (refine loose_wanted rfl (fun K hK => ?_); go_simp; refine hK _ ?_; clear hK K)
                iterate 6 ((with_reducible refine loose_pass (by kernel_rfl) (fun K hK => ?_)); go_simp; refine hK _ ?_; clear hK K)
                refine loose_nil (fun w5 hb5 => ?_)
                have HR5 := Lib.hid (And.intro (HR3.out.1.past hb5) HR3.out.2)
                clear hb5 a0 a1 a2 al c0 cl HR3
                go_wp2_with fail
                go_roundw
                case rel => exact ⟨0 + 1, by omega, by first | rfl | go_num, by rw [HN.out, ← e1.out], r, HR5.out.1, fun m hm => (HR5.out.2 m hm).trans (e2.out m).symm⟩
                case measure => simp [intOf]
            · rw [show ((1 : Nat) : Int) = 1 from rfl]
              have hnn := smN_le S i j k 1
              obtain ⟨nn, hN⟩ : ∃ nn, nn = smN S i j k 1 := ⟨_, rfl⟩
              have HN := Lib.hid hN
              rw [show 0 + 1 = 1 from rfl] at HR2 ⊢
              rw [← hN] at hnn ⊢
              clear hN
              by_cases hO : i + 1 < S
              · have hOK : nbOK S i j k 1 = true := by show decide _ = true; simpa using hO
                obtain ⟨X, hX⟩ : ∃ X : Nat, X = i + 1 := ⟨_, rfl⟩
                have u : IntKind.i64.wrap ((i : Int) + 1) = (X : Int) := by rw [IntKind.wrap_i64]; omega
                have hXS : X < S := by omega
                have hE : enI S X j k = nbE S i j k 1 := by subst hX; rfl
                have HE2 := Lib.hid (HE.out X j k)
                rw [hE] at HE2
                have HOK := Lib.hid hOK
                clear hX hE hOK hO
                go_wp2_with fail
                refine wp_world (fun W2 hW2 => ?_)
                have AB : Blk W2 wr.heap.size [.int .i64 X, .int .i64 j, .int .i64 k] := by rw [hW2]; first | exact Blk.new _ _ _ _ rfl | exact (Blk.new _ _ _ _ rfl).set 0 _ | exact ((((Blk.new _ _ _ _ rfl).set 0 _).set 1 _).set 2 _).set 0 _
                have B2 : Below wr.heap.size wr W2 := by rw [hW2]; (repeat (first | exact Below.refl _ _ | assumption | (refine Below.setCell ?_ (by first | (simp; done) | (simp; omega) | omega) _) | (refine Below.drew ?_) | (refine below_drewN ?_ _) | (refine Below.alloc ?_ (by first | (simp; done) | (simp; omega) | omega) _) | (refine Below.trans ?_ (Below.mono (by assumption) (by first | (simp; done) | (simp; omega) | omega)))))
                have HR3 := Lib.hid (And.intro (HR2.out.1.past B2) HR2.out.2)
                have HAB := Lib.hid AB
                have a0 := AB.c 0 _ rfl; have a1 := AB.c 1 _ rfl; have a2 := AB.c 2 _ rfl; have al := AB.lt
                have c0 := HR3.out.1.c.c 0 _ rfl; have cl := HR3.out.1.c.lt
                clear hW2 HR2 B2 AB
                refine wp_region_loose 11 (fun _ _ _ => False) (by kernel_rfl) (by kernel_rfl) ?_
                simp only [List.take_succ_cons, List.take_zero, List.drop_succ_cons, List.drop_zero]
                iterate 11 (refine loose_wanted rfl (fun K hK => ?_); go_simp; refine hK _ ?_; clear hK K)
                refine loose_nil (fun w5 hb5 => ?_)
                have A5 := HAB.out.past hb5
                have HR5 := Lib.hid (And.intro (HR3.out.1.past hb5) HR3.out.2)
                clear hb5 a0 a1 a2 al c0 cl HR3 HAB
                have a0 := A5.c 0 _ rfl; have a1 := A5.c 1 _ rfl; have a2 := A5.c 2 _ rfl; have al := A5.lt
                have c0 := HR5.out.1.c.c 0 _ rfl; have c1 := HR5.out.1.c.c 1 _ rfl; have c2 := HR5.out.1.c.c 2 _ rfl; have c3 := HR5.out.1.c.c 3 _ rfl; have cl := HR5.out.1.c.lt
                go_wp2_with fail
                refine (HE2.out _ (by omega) (by omega) (by omega) HR5.out.1.b).mono ?_
                rintro e w6 ⟨rfl, hb6⟩
                have HR6 := Lib.hid (And.intro (HR5.out.1.past hb6) HR5.out.2)
                clear hb6 a0 a1 a2 al c0 c1 c2 c3 cl HR5 A5
                go_wp2_with fail
                refine wp_world (fun W7 hW7 => ?_)
                have VB : Blk W7 w6.heap.size [.float .f32 (fs (3 * nbE S i j k 1)), .float .f32 (fs (3 * nbE S i j k 1 + 1)), .float .f32 (fs (3 * nbE S i j k 1 + 2))] := by rw [hW7]; first | exact Blk.new _ _ _ _ rfl | exact (((Blk.new _ _ _ _ rfl).set 0 _).set 1 _).set 2 _
                have B7 : Below w6.heap.size w6 W7 := by rw [hW7]; (repeat (first | exact Below.refl _ _ | assumption | (refine Below.setCell ?_ (by first | (simp; done) | (simp; omega) | omega) _) | (refine Below.drew ?_) | (refine below_drewN ?_ _) | (refine Below.alloc ?_ (by first | (simp; done) | (simp; omega) | omega) _) | (refine Below.trans ?_ (Below.mono (by assumption) (by first | (simp; done) | (simp; omega) | omega)))))
                have HR7 := Lib.hid (And.intro (HR6.out.1.past B7) HR6.out.2)
                have HVB := Lib.hid VB
                have hvs : w.heap.size + 2 < w6.heap.size := HR6.out.1.s.lt
                clear hW7 HR6 B7 VB
                go_loopw [57] (fun s57 wt => ∃ c : Nat, c ≤ 3 ∧ s57 = .int .i64 c ∧ ∃ r', SoftR w wt [.int .i64 S, .float .f32 lo, .float .f32 hi, .slice (some ⟨b, off, none⟩) n cap] r' ∧ Blk wt w6.heap.size [.float .f32 (fs (3 * nbE S i j k 1)), .float .f32 (fs (3 * nbE S i j k 1 + 1)), .float .f32 (fs (3 * nbE S i j k 1 + 2))] ∧ ∀ m, m < 3 → cn .f32 (r' m) = if m < c then smV fs S i j k m (1 + 1) else smV fs S i j k m 1) (fun s57 _ => 3 - (intOf s57).toNat)
                case atStart => exact ⟨0, by omega, rfl, r, HR7.out.1, HVB.out, fun m hm => by rw [if_neg (by omega)]; exact HR7.out.2 m hm⟩
                case round =>
                  obtain ⟨c, hc3, rfl, r', hR, hV, he⟩ := hrel
                  have HR8 := Lib.hid hR; have HV8 := Lib.hid hV; have HE8 := Lib.hid he
                  clear hR hV he HR7 HVB
                  by_cases hc : c < 3
                  · by_cases hz : nn = 0
                    · have hz1 : ((nn : Int) == 0) = true := by simpa using hz
                      have HZ := Lib.hid hz; clear hz
                      rcases (show c = 0 ∨ c = 1 ∨ c = 2 by omega) with rfl | rfl | rfl
                      · rw [show ((0 : Nat) : Int) = 0 from rfl]
                        have s0 := HR8.out.s.c 0 _ rfl; have v0 := HV8.out.c 0 _ rfl; have sf := HR8.out.s.f; have sl := HR8.out.s.lt; have vl := HV8.out.lt
                        go_wp2_with fail
                        refine wp_region_loose 8 (fun _ _ _ => False) (by kernel_rfl) (by kernel_rfl) ?_
                        simp only [List.take_succ_cons, List.take_zero, List.drop_succ_cons, List.drop_zero]
                        iterate 6 (refine loose_wanted rfl (fun K hK => ?_); go_simp; refine hK _ ?_; clear hK K)
                        (first | ((with_reducible apply loose_farith); rfl; rfl; rfl; rfl; intro _ _) | ((with_reducible apply loose_up); rfl; rfl; exact Try.underlying27; exact Try.underlying151; intro _ _))
                        iterate 1 (refine loose_wanted rfl (fun K hK => ?_); go_simp; refine hK _ ?_; clear hK K)
                        rename_i x hx
                        refine loose_nil (fun w9 hb9 => ?_)
                        have R9 := HR8.out.past hb9
                        have V9 := HV8.out.past hb9
                        have HR9 := Lib.hid R9; have HV9 := Lib.hid V9
                        clear hb9 s0 v0 sf sl vl R9 V9
                        have s0 := HR9.out.s.c 0 _ rfl; have v0 := HV9.out.c 0 _ rfl; have sf := HR9.out.s.f; have sl := HR9.out.s.lt; have vl := HV9.out.lt
                        go_wp2_with fail
                        go_roundw
                        case rel => exact ⟨0 + 1, by omega, by first | rfl | go_num, _, (HR9.out.set0 x).set0 _, (HV9.out.far _ _ (by simp; omega)).far _ _ (by simp; omega), soft_set (by omega) HOK.out (HN.out.symm.trans HZ.out) HE8.out rfl⟩
                        case measure => simp [intOf]
                      · rw [show ((1 : Nat) : Int) = 1 from rfl]
                        have s0 := HR8.out.s.c 1 _ rfl; have v0 := HV8.out.c 1 _ rfl; have sf := HR8.out.s.f; have sl := HR8.out.s.lt; have vl := HV8.out.lt
                        go_wp2_with fail
                        refine wp_region_loose 8 (fun _ _ _ => False) (by kernel_rfl) (by kernel_rfl) ?_
                        simp only [List.take_succ_cons, List.take_zero, List.drop_succ_cons, List.drop_zero]
                        iterate 6 (refine loose_wanted rfl (fun K hK => ?_); go_simp; refine hK _ ?_; clear hK K)
                        (first | ((with_reducible apply loose_farith); rfl; rfl; rfl; rfl; intro _ _) | ((with_reducible apply loose_up); rfl; rfl; exact Try.underlying27; exact Try.underlying151; intro _ _))
                        iterate 1 (refine loose_wanted rfl (fun K hK => ?_); go_simp; refine hK _ ?_; clear hK K)
                        rename_i x hx
                        refine loose_nil (fun w9 hb9 => ?_)
                        have R9 := HR8.out.past hb9
                        have V9 := HV8.out.past hb9
                        have HR9 := Lib.hid R9; have HV9 := Lib.hid V9
                        clear hb9 s0 v0 sf sl vl R9 V9
                        have s0 := HR9.out.s.c 1 _ rfl; have v0 := HV9.out.c 1 _ rfl; have sf := HR9.out.s.f; have sl := HR9.out.s.lt; have vl := HV9.out.lt
                        go_wp2_with fail
                        go_roundw
                        case rel => exact ⟨1 + 1, by omega, by first | rfl | go_num, _, (HR9.out.set1 x).set1 _, (HV9.out.far _ _ (by simp; omega)).far _ _ (by simp; omega), soft_set (by omega) HOK.out (HN.out.symm.trans HZ.out) HE8.out rfl⟩
                        case measure => simp [intOf]
                      · rw [show ((2 : Nat) : Int) = 2 from rfl]
                        have s0 := HR8.out.s.c 2 _ rfl; have v0 := HV8.out.c 2 _ rfl; have sf := HR8.out.s.f; have sl := HR8.out.s.lt; have vl := HV8.out.lt
                        go_wp2_with fail
                        refine wp_region_loose 8 (fun _ _ _ => False) (by kernel_rfl) (by kernel_rfl) ?_
                        simp only [List.take_succ_cons, List.take_zero, List.drop_succ_cons, List.drop_zero]
                        iterate 6 (refine loose_wanted rfl (fun K hK => ?_); go_simp; refine hK _ ?_; clear hK K)
                        (first | ((with_reducible apply loose_farith); rfl; rfl; rfl; rfl; intro _ _) | ((with_reducible apply loose_up); rfl; rfl; exact Try.underlying27; exact Try.underlying151; intro _ _))
                        iterate 1 (refine loose_wanted rfl (fun K hK => ?_); go_simp; refine hK _ ?_; clear hK K)
                        rename_i x hx
                        refine loose_nil (fun w9 hb9 => ?_)
                        have R9 := HR8.out.past hb9
                        have V9 := HV8.out.past hb9
                        have HR9 := Lib.hid R9; have HV9 := Lib.hid V9
                        clear hb9 s0 v0 sf sl vl R9 V9
                        have s0 := HR9.out.s.c 2 _ rfl; have v0 := HV9.out.c 2 _ rfl; have sf := HR9.out.s.f; have sl := HR9.out.s.lt; have vl := HV9.out.lt
                        go_wp2_with fail
                        go_roundw
                        case rel => exact ⟨2 + 1, by omega, by first | rfl | go_num, _, (HR9.out.set2 x).set2 _, (HV9.out.far _ _ (by simp; omega)).far _ _ (by simp; omega), soft_set (by omega) HOK.out (HN.out.symm.trans HZ.out) HE8.out rfl⟩
                        case measure => simp [intOf]
                    · have hz1 : ((nn : Int) == 0) = false := by simpa using hz
                      have HZ := Lib.hid hz; clear hz
                      rcases (show c = 0 ∨ c = 1 ∨ c = 2 by omega) with rfl | rfl | rfl
                      · rw [show ((0 : Nat) : Int) = 0 from rfl]
                        have s0 := HR8.out.s.c 0 _ rfl; have v0 := HV8.out.c 0 _ rfl; have sf := HR8.out.s.f; have sl := HR8.out.s.lt; have vl := HV8.out.lt
                        go_wp2_with fail
                        refine wp_region_loose 8 (fun _ _ _ => False) (by kernel_rfl) (by kernel_rfl) ?_
                        simp only [List.take_succ_cons, List.take_zero, List.drop_succ_cons, List.drop_zero]
                        iterate 6 (refine loose_wanted rfl (fun K hK => ?_); go_simp; refine hK _ ?_; clear hK K)
                        (first | ((with_reducible apply loose_farith); rfl; rfl; rfl; rfl; intro _ _) | ((with_reducible apply loose_up); rfl; rfl; exact Try.underlying27; exact Try.underlying151; intro _ _))
                        iterate 1 (refine loose_wanted rfl (fun K hK => ?_); go_simp; refine hK _ ?_; clear hK K)
                        rename_i x hx
                        refine loose_nil (fun w9 hb9 => ?_)
                        have R9 := HR8.out.past hb9
                        have V9 := HV8.out.past hb9
                        have HR9 := Lib.hid R9; have HV9 := Lib.hid V9
                        clear hb9 s0 v0 sf sl vl R9 V9
                        have s0 := HR9.out.s.c 0 _ rfl; have sf := HR9.out.s.f; have sl := HR9.out.s.lt
                        go_wp2_with fail
                        go_roundw
                        case rel => exact ⟨0 + 1, by omega, by first | rfl | go_num, _, HR9.out.set0 x, HV9.out.far _ _ (by simp; omega), soft_add (by omega) HOK.out (fun h => HZ.out (HN.out.trans h)) HE8.out hx⟩
                        case measure => simp [intOf]
                      · rw [show ((1 : Nat) : Int) = 1 from rfl]
                        have s0 := HR8.out.s.c 1 _ rfl; have v0 := HV8.out.c 1 _ rfl; have sf := HR8.out.s.f; have sl := HR8.out.s.lt; have vl := HV8.out.lt
                        go_wp2_with fail
                        refine wp_region_loose 8 (fun _ _ _ => False) (by kernel_rfl) (by kernel_rfl) ?_
                        simp only [List.take_succ_cons, List.take_zero, List.drop_succ_cons, List.drop_zero]
                        iterate 6 (refine loose_wanted rfl (fun K hK => ?_); go_simp; refine hK _ ?_; clear hK K)
                        (first | ((with_reducible apply loose_farith); rfl; rfl; rfl; rfl; intro _ _) | ((with_reducible apply loose_up); rfl; rfl; exact Try.underlying27; exact Try.underlying151; intro _ _))
                        iterate 1 (refine loose_wanted rfl (fun K hK => ?_); go_simp; refine hK _ ?_; clear hK K)
                        rename_i x hx
                        refine loose_nil (fun w9 hb9 => ?_)
                        have R9 := HR8.out.past hb9
                        have V9 := HV8.out.past hb9
                        have HR9 := Lib.hid R9; have HV9 := Lib.hid V9
                        clear hb9 s0 v0 sf sl vl R9 V9
                        have s0 := HR9.out.s.c 1 _ rfl; have sf := HR9.out.s.f; have sl := HR9.out.s.lt
                        go_wp2_with fail
                        go_roundw
                        case rel => exact ⟨1 + 1, by omega, by first | rfl | go_num, _, HR9.out.set1 x, HV9.out.far _ _ (by simp; omega), soft_add (by omega) HOK.out (fun h => HZ.out (HN.out.trans h)) HE8.out hx⟩
                        case measure => simp [intOf]
                      · rw [show ((2 : Nat) : Int) = 2 from rfl]
                        have s0 := HR8.out.s.c 2 _ rfl; have v0 := HV8.out.c 2 _ rfl; have sf := HR8.out.s.f; have sl := HR8.out.s.lt; have vl := HV8.out.lt
                        go_wp2_with fail
                        refine wp_region_loose 8 (fun _ _ _ => False) (by kernel_rfl) (by kernel_rfl) ?_
                        simp only [List.take_succ_cons, List.take_zero, List.drop_succ_cons, List.drop_zero]
                        iterate 6 (refine loose_wanted rfl (fun K hK => ?_); go_simp; refine hK _ ?_; clear hK K)
                        (first | ((with_reducible apply loose_farith); rfl; rfl; rfl; rfl; intro _ _) | ((with_reducible apply loose_up); rfl; rfl; exact Try.underlying27; exact Try.underlying151; intro _ _))
                        iterate 1 (refine loose_wanted rfl (fun K hK => ?_); go_simp; refine hK _ ?_; clear hK K)
                        rename_i x hx
                        refine loose_nil (fun w9 hb9 => ?_)
                        have R9 := HR8.out.past hb9
                        have V9 := HV8.out.past hb9
                        have HR9 := Lib.hid R9; have HV9 := Lib.hid V9
                        clear hb9 s0 v0 sf sl vl R9 V9
                        have s0 := HR9.out.s.c 2 _ rfl; have sf := HR9.out.s.f; have sl := HR9.out.s.lt
                        go_wp2_with fail
                        go_roundw
                        case rel => exact ⟨2 + 1, by omega, by first | rfl | go_num, _, HR9.out.set2 x, HV9.out.far _ _ (by simp; omega), soft_add (by omega) HOK.out (fun h => HZ.out (HN.out.trans h)) HE8.out hx⟩
                        case measure => simp [intOf]
                  · have hc' : c = 3 := by omega
                    subst hc'
                    rw [show ((3 : Nat) : Int) = 3 from rfl]
                    go_wp2_with fail
                    go_roundw
                    case rel => exact ⟨1 + 1, by omega, by first | rfl | go_num, by rw [show 0 + (1 + 1) = 1 + 1 from rfl, smN_yes HOK.out, ← HN.out]; go_num, r', HR8.out, fun m hm => by rw [HE8.out m hm, if_pos hm]⟩
                    case measure => simp [intOf]
              · have hOK : nbOK S i j k 1 = false := by show decide _ = false; simpa using hO
                have u : IntKind.i64.wrap ((i : Int) + 1) = (S : Int) := by rw [IntKind.wrap_i64]; omega
                have e1 := Lib.hid (smN_no hOK)
                have e2 := Lib.hid (fun m => smV_no (fs := fs) (m := m) hOK)
                clear hOK
                go_wp2_with fail
                refine wp_world (fun W2 hW2 => ?_)
                have AB : Blk W2 wr.heap.size [.int .i64 S, .int .i64 j, .int .i64 k] := by rw [hW2]; first | exact Blk.new _ _ _ _ rfl | exact (Blk.new _ _ _ _ rfl).set 0 _ | exact ((((Blk.new _ _ _ _ rfl).set 0 _).set 1 _).set 2 _).set 0 _
                have B2 : Below wr.heap.size wr W2 := by rw [hW2]; (repeat (first | exact Below.refl _ _ | assumption | (refine Below.setCell ?_ (by first | (simp; done) | (simp; omega) | omega) _) | (refine Below.drew ?_) | (refine below_drewN ?_ _) | (refine Below.alloc ?_ (by first | (simp; done) | (simp; omega) | omega) _) | (refine Below.trans ?_ (Below.mono (by assumption) (by first | (simp; done) | (simp; omega) | omega)))))
                have HR3 := Lib.hid (And.intro (HR2.out.1.past B2) HR2.out.2)
                have a0 := AB.c 0 _ rfl; have a1 := AB.c 1 _ rfl; have a2 := AB.c 2 _ rfl; have al := AB.lt
                have c0 := HR3.out.1.c.c 0 _ rfl; have cl := HR3.out.1.c.lt
                clear hW2 HR2 B2 AB
                refine wp_region_loose 11 (fun _ _ _ => False) (by kernel_rfl) (by kernel_rfl) ?_
                simp only [List.take_succ_cons, List.take_zero, List.drop_succ_cons, List.drop_zero]
                iterate 5 (refine loose_wanted rfl (fun K hK => ?_); go_simp; refine hK _ ?_; clear hK K)
                iterate 6 (refine loose_wanted rfl (fun K hK => ?_); go_simp; refine hK _ ?_; clear hK K)
                refine loose_nil (fun w5 hb5 => ?_)
                have HR5 := Lib.hid (And.intro (HR3.out.1.past hb5) HR3.out.2)
                clear hb5 a0 a1 a2 al c0 cl HR3
                go_wp2_with fail
                go_roundw
                case rel => exact ⟨1 + 1, by omega, by first | rfl | go_num, by rw [HN.out, ← e1.out], r, HR5.out.1, fun m hm => (HR5.out.2 m hm).trans (e2.out m).symm⟩
                case measure => simp [intOf]
          · have hd' : d = 2 := by omega
            subst hd'
            rw [show ((2 : Nat) : Int) = 2 from rfl]
            go_wp2_with fail
            go_roundw
            case rel => exact ⟨0 + 1, by omega, by first | rfl | go_num, rfl, r, HR2.out.1, HR2.out.2⟩
            case measure => simp [intOf]
      · rw [show ((1 : Nat) : Int) = 1 from rfl]
        go_wp2_with fail
        go_loopw [24, 10] (fun s24 s10 wr => ∃ d : Nat, d ≤ 2 ∧ s24 = .int .i64 d ∧ s10 = .int .i64 (smN S i j k (2 + d) : Nat) ∧ ∃ r, SoftR w wr [.int .i64 S, .float .f32 lo, .float .f32 hi, .slice (some ⟨b, off, none⟩) n cap] r ∧ ∀ m, m < 3 → cn .f32 (r m) = smV fs S i j k m (2 + d)) (fun s24 _ _ => 2 - (intOf s24).toNat)
        case atStart => exact ⟨0, by omega, rfl, rfl, _, HR.out.1, HR.out.2⟩
        case round =>
          obtain ⟨d, hd, rfl, rfl, r, hR, he⟩ := hrel
          have HR2 := Lib.hid (And.intro hR he)
          clear hR he HR
          by_cases hd2 : d < 2
          · rcases (show d = 0 ∨ d = 1 by omega) with rfl | rfl
            · rw [show ((0 : Nat) : Int) = 0 from rfl]
              have hnn := smN_le S i j k 2
              obtain ⟨nn, hN⟩ : ∃ nn, nn = smN S i j k 2 := ⟨_, rfl⟩
              have HN := Lib.hid hN
              rw [show 2 + 0 = 2 from rfl] at HR2 ⊢
              rw [← hN] at hnn ⊢
              clear hN
              by_cases hO : 0 < j
              · have hOK : nbOK S i j k 2 = true := by show decide _ = true; simpa using hO
                obtain ⟨X, hX⟩ : ∃ X : Nat, X = j - 1 := ⟨_, rfl⟩
                have u : IntKind.i64.wrap ((j : Int) + -1) = (X : Int) := by rw [IntKind.wrap_i64]; omega
                have hXS : X < S := by omega
                have hE : enI S i X k = nbE S i j k 2 := by subst hX; rfl
                have HE2 := Lib.hid (HE.out i X k)
                rw [hE] at HE2
                have HOK := Lib.hid hOK
                clear hX hE hOK hO
                go_wp2_with fail
                refine wp_world (fun W2 hW2 => ?_)
                have AB : Blk W2 wr.heap.size [.int .i64 i, .int .i64 X, .int .i64 k] := by rw [hW2]; first | exact Blk.new _ _ _ _ rfl | exact (Blk.new _ _ _ _ rfl).set 1 _ | exact ((((Blk.new _ _ _ _ rfl).set 0 _).set 1 _).set 2 _).set 1 _
                have B2 : Below wr.heap.size wr W2 := by rw [hW2]; (repeat (first | exact Below.refl _ _ | assumption | (refine Below.setCell ?_ (by first | (simp; done) | (simp; omega) | omega) _) | (refine Below.drew ?_) | (refine below_drewN ?_ _) | (refine Below.alloc ?_ (by first | (simp; done) | (simp; omega) | omega) _) | (refine Below.trans ?_ (Below.mono (by assumption) (by first | (simp; done) | (simp; omega) | omega)))))
                have HR3 := Lib.hid (And.intro (HR2.out.1.past B2) HR2.out.2)
                have HAB := Lib.hid AB
                have a0 := AB.c 0 _ rfl; have a1 := AB.c 1 _ rfl; have a2 := AB.c 2 _ rfl; have al := AB.lt
                have c0 := HR3.out.1.c.c 0 _ rfl; have cl := HR3.out.1.c.lt
                clear hW2 HR2 B2 AB
                refine wp_region_loose 11 (fun _ _ _ => False) (by kernel_rfl) (by kernel_rfl) ?_
                simp only [List.take_succ_cons, List.take_zero, List.drop_succ_cons, List.drop_zero]
                iterate 11 (refine loose_wanted rfl (fun K hK => ?_); go_simp; refine hK _ ?_; clear hK K)
                refine loose_nil (fun w5 hb5 => ?_)
                have A5 := HAB.out.past hb5
                have HR5 := Lib.hid (And.intro (HR3.out.1.past hb5) HR3.out.2)
                clear hb5 a0 a1 a2 al c0 cl HR3 HAB
                have a0 := A5.c 0 _ rfl; have a1 := A5.c 1 _ rfl; have a2 := A5.c 2 _ rfl; have al := A5.lt
                have c0 := HR5.out.1.c.c 0 _ rfl; have c1 := HR5.out.1.c.c 1 _ rfl; have c2 := HR5.out.1.c.c 2 _ rfl; have c3 := HR5.out.1.c.c 3 _ rfl; have cl := HR5.out.1.c.lt
                go_wp2_with fail
                refine (HE2.out _ (by omega) (by omega) (by omega) HR5.out.1.b).mono ?_
                rintro e w6 ⟨rfl, hb6⟩
                have HR6 := Lib.hid (And.intro (HR5.out.1.past hb6) HR5.out.2)
                clear hb6 a0 a1 a2 al c0 c1 c2 c3 cl HR5 A5
                go_wp2_with fail
                refine wp_world (fun W7 hW7 => ?_)
                have VB : Blk W7 w6.heap.size [.float .f32 (fs (3 * nbE S i j k 2)), .float .f32 (fs (3 * nbE S i j k 2 + 1)), .float .f32 (fs (3 * nbE S i j k 2 + 2))] := by rw [hW7]; first | exact Blk.new _ _ _ _ rfl | exact (((Blk.new _ _ _ _ rfl).set 0 _).set 1 _).set 2 _
                have B7 : Below w6.heap.size w6 W7 := by rw [hW7]; (repeat (first | exact Below.refl _ _ | assumption | (refine Below.setCell ?_ (by first | (simp; done) | (simp; omega) | omega) _) | (refine Below.drew ?_) | (refine below_drewN ?_ _) | (refine Below.alloc ?_ (by first | (simp; done) | (simp; omega) | omega) _) | (refine Below.trans ?_ (Below.mono (by assumption) (by first | (simp; done) | (simp; omega) | omega)))))
                have HR7 := Lib.hid (And.intro (HR6.out.1.past B7) HR6.out.2)
                have HVB := Lib.hid VB
                have hvs : w.heap.size + 2 < w6.heap.size := HR6.out.1.s.lt
                clear hW7 HR6 B7 VB
                go_loopw [57] (fun s57 wt => ∃ c : Nat, c ≤ 3 ∧ s57 = .int .i64 c ∧ ∃ r', SoftR w wt [.int .i64 S, .float .f32 lo, .float .f32 hi, .slice (some ⟨b, off, none⟩) n cap] r' ∧ Blk wt w6.heap.size [.float .f32 (fs (3 * nbE S i j k 2)), .float .f32 (fs (3 * nbE S i j k 2 + 1)), .float .f32 (fs (3 * nbE S i j k 2 + 2))] ∧ ∀ m, m < 3 → cn .f32 (r' m) = if m < c then smV fs S i j k m (2 + 1) else smV fs S i j k m 2) (fun s57 _ => 3 - (intOf s57).toNat)
                case atStart => exact ⟨0, by omega, rfl, r, HR7.out.1, HVB.out, fun m hm => by rw [if_neg (by omega)]; exact HR7.out.2 m hm⟩
                case round =>
                  obtain ⟨c, hc3, rfl, r', hR, hV, he⟩ := hrel
                  have HR8 := Lib.hid hR; have HV8 := Lib.hid hV; have HE8 := Lib.hid he
                  clear hR hV he HR7 HVB
                  by_cases hc : c < 3
                  · by_cases hz : nn = 0
                    · have hz1 : ((nn : Int) == 0) = true := by simpa using hz
                      have HZ := Lib.hid hz; clear hz
                      rcases (show c = 0 ∨ c = 1 ∨ c = 2 by omega) with rfl | rfl | rfl
                      · rw [show ((0 : Nat) : Int) = 0 from rfl]
                        have s0 := HR8.out.s.c 0 _ rfl; have v0 := HV8.out.c 0 _ rfl; have sf := HR8.out.s.f; have sl := HR8.out.s.lt; have vl := HV8.out.lt
                        go_wp2_with fail
                        refine wp_region_loose 8 (fun _ _ _ => False) (by kernel_rfl) (by kernel_rfl) ?_
                        simp only [List.take_succ_cons, List.take_zero, List.drop_succ_cons, List.drop_zero]
                        iterate 6 (refine loose_wanted rfl (fun K hK => ?_); go_simp; refine hK _ ?_; clear hK K)
                        (first | ((with_reducible apply loose_farith); rfl; rfl; rfl; rfl; intro _ _) | ((with_reducible apply loose_up); rfl; rfl; exact Try.underlying27; exact Try.underlying151; intro _ _))
                        iterate 1 (refine loose_wanted rfl (fun K hK => ?_); go_simp; refine hK _ ?_; clear hK K)
                        rename_i x hx
                        refine loose_nil (fun w9 hb9 => ?_)
                        have R9 := HR8.out.past hb9
                        have V9 := HV8.out.past hb9
                        have HR9 := Lib.hid R9; have HV9 := Lib.hid V9
                        clear hb9 s0 v0 sf sl vl R9 V9
                        have s0 := HR9.out.s.c 0 _ rfl; have v0 := HV9.out.c 0 _ rfl; have sf := HR9.out.s.f; have sl := HR9.out.s.lt; have vl := HV9.out.lt
                        go_wp2_with fail
                        go_roundw
                        case rel => exact ⟨0 + 1, by omega, by first | rfl | go_num, _, (HR9.out.set0 x).set0 _, (HV9.out.far _ _ (by simp; omega)).far _ _ (by simp; omega), soft_set (by omega) HOK.out (HN.out.symm.trans HZ.out) HE8.out rfl⟩
                        case measure => simp [intOf]
                      · rw [show ((1 : Nat) : Int) = 1 from rfl]
                        have s0 := HR8.out.s.c 1 _ rfl; have v0 := HV8.out.c 1 _ rfl; have sf := HR8.out.s.f; have sl := HR8.out.s.lt; have vl := HV8.out.lt
                        go_wp2_with fail
                        refine wp_region_loose 8 (fun _ _ _ => False) (by kernel_rfl) (by kernel_rfl) ?_
                        simp only [List.take_succ_cons, List.take_zero, List.drop_succ_cons, List.drop_zero]
                        iterate 6 (refine loose_wanted rfl (fun K hK => ?_); go_simp; refine hK _ ?_; clear hK K)
                        (first | ((with_reducible apply loose_farith); rfl; rfl; rfl; rfl; intro _ _) | ((with_reducible apply loose_up); rfl; rfl; exact Try.underlying27; exact Try.underlying151; intro _ _))
                        iterate 1 (refine loose_wanted rfl (fun K hK => ?_); go_simp; refine hK _ ?_; clear hK K)
                        rename_i x hx
                        refine loose_nil (fun w9 hb9 => ?_)
                        have R9 := HR8.out.past hb9
                        have V9 := HV8.out.past hb9
                        have HR9 := Lib.hid R9; have HV9 := Lib.hid V9
                        clear hb9 s0 v0 sf sl vl R9 V9
                        have s0 := HR9.out.s.c 1 _ rfl; have v0 := HV9.out.c 1 _ rfl; have sf := HR9.out.s.f; have sl := HR9.out.s.lt; have vl := HV9.out.lt
                        go_wp2_with fail
                        go_roundw
                        case rel => exact ⟨1 + 1, by omega, by first | rfl | go_num, _, (HR9.out.set1 x).set1 _, (HV9.out.far _ _ (by simp; omega)).far _ _ (by simp; omega), soft_set (by omega) HOK.out (HN.out.symm.trans HZ.out) HE8.out rfl⟩
                        case measure => simp [intOf]
                      · rw [show ((2 : Nat) : Int) = 2 from rfl]
                        have s0 := HR8.out.s.c 2 _ rfl; have v0 := HV8.out.c 2 _ rfl; have sf := HR8.out.s.f; have sl := HR8.out.s.lt; have vl := HV8.out.lt
                        go_wp2_with fail
                        refine wp_region_loose 8 (fun _ _ _ => False) (by kernel_rfl) (by kernel_rfl) ?_
                        simp only [List.take_succ_cons, List.take_zero, List.drop_succ_cons, List.drop_zero]
                        iterate 6 (refine loose_wanted rfl (fun K hK => ?_); go_simp; refine hK _ ?_; clear hK K)
                        (first | ((with_reducible apply loose_farith); rfl; rfl; rfl; rfl; intro _ _) | ((with_reducible apply loose_up); rfl; rfl; exact Try.underlying27; exact Try.underlying151; intro _ _))
                        iterate 1 (refine loose_wanted rfl (fun K hK => ?_); go_simp; refine hK _ ?_; clear hK K)
                        rename_i x hx
                        refine loose_nil (fun w9 hb9 => ?_)
                        have R9 := HR8.out.past hb9
                        have V9 := HV8.out.past hb9
                        have HR9 := Lib.hid R9; have HV9 := Lib.hid V9
                        clear hb9 s0 v0 sf sl vl R9 V9
                        have s0 := HR9.out.s.c 2 _ rfl; have v0 := HV9.out.c 2 _ rfl; have sf := HR9.out.s.f; have sl := HR9.out.s.lt; have vl := HV9.out.lt
                        go_wp2_with fail
                        go_roundw
                        case rel => exact ⟨2 + 1, by omega, by first | rfl | go_num, _, (HR9.out.set2 x).set2 _, (HV9.out.far _ _ (by simp; omega)).far _ _ (by simp; omega), soft_set (by omega) HOK.out (HN.out.symm.trans HZ.out) HE8.out rfl⟩
                        case measure => simp [intOf]
                    · have hz1 : ((nn : Int) == 0) = false := by simpa using hz
                      have HZ := Lib.hid hz; clear hz
                      rcases (show c = 0 ∨ c = 1 ∨ c = 2 by omega) with rfl | rfl | rfl
                      · rw [show ((0 : Nat) : Int) = 0 from rfl]
                        have s0 := HR8.out.s.c 0 _ rfl; have v0 := HV8.out.c 0 _ rfl; have sf := HR8.out.s.f; have sl := HR8.out.s.lt; have vl := HV8.out.lt
                        go_wp2_with fail
                        refine wp_region_loose 8 (fun _ _ _ => False) (by kernel_rfl) (by kernel_rfl) ?_
                        simp only [List.take_succ_cons, List.take_zero, List.drop_succ_cons, List.drop_zero]
                        iterate 6 (refine loose_wanted rfl (fun K hK => ?_); go_simp; refine hK _ ?_; clear hK K)
                        (first | ((with_reducible apply loose_farith); rfl; rfl; rfl; rfl; intro _ _) | ((with_reducible apply loose_up); rfl; rfl; exact Try.underlying27; exact Try.underlying151; intro _ _))
                        iterate 1 (refine loose_wanted rfl (fun K hK => ?_); go_simp; refine hK _ ?_; clear hK K)
                        rename_i x hx
                        refine loose_nil (fun w9 hb9 => ?_)
                        have R9 := HR8.out.past hb9
                        have V9 := HV8.out.past hb9
                        have HR9 := Lib.hid R9; have HV9 := Lib.hid V9
                        clear hb9 s0 v0 sf sl vl R9 V9
                        have s0 := HR9.out.s.c 0 _ rfl; have sf := HR9.out.s.f; have sl := HR9.out.s.lt
                        go_wp2_with fail
                        go_roundw
                        case rel => exact ⟨0 + 1, by omega, by first | rfl | go_num, _, HR9.out.set0 x, HV9.out.far _ _ (by simp; omega), soft_add (by omega) HOK.out (fun h => HZ.out (HN.out.trans h)) HE8.out hx⟩
                        case measure => simp [intOf]
                      · rw [show ((1 : Nat) : Int) = 1 from rfl]
                        have s0 := HR8.out.s.c 1 _ rfl; have v0 := HV8.out.c 1 _ rfl; have sf := HR8.out.s.f; have sl := HR8.out.s.lt; have vl := HV8.out.lt
                        go_wp2_with fail
                        refine wp_region_loose 8 (fun _ _ _ => False) (by kernel_rfl) (by kernel_rfl) ?_
                        simp only [List.take_succ_cons, List.take_zero, List.drop_succ_cons, List.drop_zero]
                        iterate 6 (refine loose_wanted rfl (fun K hK => ?_); go_simp; refine hK _ ?_; clear hK K)
                        (first | ((with_reducible apply loose_farith); rfl; rfl; rfl; rfl; intro _ _) | ((with_reducible apply loose_up); rfl; rfl; exact Try.underlying27; exact Try.underlying151; intro _ _))
                        iterate 1 (refine loose_wanted rfl (fun K hK => ?_); go_simp; refine hK _ ?_; clear hK K)
                        rename_i x hx
                        refine loose_nil (fun w9 hb9 => ?_)
                        have R9 := HR8.out.past hb9
                        have V9 := HV8.out.past hb9
                        have HR9 := Lib.hid R9; have HV9 := Lib.hid V9
                        clear hb9 s0 v0 sf sl vl R9 V9
                        have s0 := HR9.out.s.c 1 _ rfl; have sf := HR9.out.s.f; have sl := HR9.out.s.lt
                        go_wp2_with fail
                        go_roundw
                        case rel => exact ⟨1 + 1, by omega, by first | rfl | go_num, _, HR9.out.set1 x, HV9.out.far _ _ (by simp; omega), soft_add (by omega) HOK.out (fun h => HZ.out (HN.out.trans h)) HE8.out hx⟩
                        case measure => simp [intOf]
                      · rw [show ((2 : Nat) : Int) = 2 from rfl]
                        have s0 := HR8.out.s.c 2 _ rfl; have v0 := HV8.out.c 2 _ rfl; have sf := HR8.out.s.f; have sl := HR8.out.s.lt; have vl := HV8.out.lt
                        go_wp2_with fail
                        refine wp_region_loose 8 (fun _ _ _ => False) (by kernel_rfl) (by kernel_rfl) ?_
                        simp only [List.take_succ_cons, List.take_zero, List.drop_succ_cons, List.drop_zero]
                        iterate 6 (refine loose_wanted rfl (fun K hK => ?_); go_simp; refine hK _ ?_; clear hK K)
                        (first | ((with_reducible apply loose_farith); rfl; rfl; rfl; rfl; intro _ _) | ((with_reducible apply loose_up); rfl; rfl; exact Try.underlying27; exact Try.underlying151; intro _ _))
                        iterate 1 (refine loose_wanted rfl (fun K hK => ?_); go_simp; refine hK _ ?_; clear hK K)
                        rename_i x hx
                        refine loose_nil (fun w9 hb9 => ?_)
                        have R9 := HR8.out.past hb9
                        have V9 := HV8.out.past hb9
                        have HR9 := Lib.hid R9; have HV9 := Lib.hid V9
                        clear hb9 s0 v0 sf sl vl R9 V9
                        have s0 := HR9.out.s.c 2 _ rfl; have sf := HR9.out.s.f; have sl := HR9.out.s.lt
                        go_wp2_with fail
                        go_roundw
                        case rel => exact ⟨2 + 1, by omega, by first | rfl | go_num, _, HR9.out.set2 x, HV9.out.far _ _ (by simp; omega), soft_add (by omega) HOK.out (fun h => HZ.out (HN.out.trans h)) HE8.out hx⟩
                        case measure => simp [intOf]
                  · have hc' : c = 3 := by omega
                    subst hc'
                    rw [show ((3 : Nat) : Int) = 3 from rfl]
                    go_wp2_with fail
                    go_roundw
                    case rel => exact ⟨0 + 1, by omega, by first | rfl | go_num, by rw [show 2 + (0 + 1) = 2 + 1 from rfl, smN_yes HOK.out, ← HN.out]; go_num, r', HR8.out, fun m hm => by rw [HE8.out m hm, if_pos hm]⟩
                    case measure => simp [intOf]
              · have hOK : nbOK S i j k 2 = false := by show decide _ = false; simpa using hO
                have u : IntKind.i64.wrap ((j : Int) + -1) = -1 := by rw [IntKind.wrap_i64]; omega
                have e1 := Lib.hid (smN_no hOK)
                have e2 := Lib.hid (fun m => smV_no (fs := fs) (m := m) hOK)
                clear hOK
                go_wp2_with fail
                refine wp_world (fun W2 hW2 => ?_)
                have AB : Blk W2 wr.heap.size [.int .i64 i, .int .i64 (-1), .int .i64 k] := by rw [hW2]; first | exact Blk.new _ _ _ _ rfl | exact (Blk.new _ _ _ _ rfl).set 1 _ | exact ((((Blk.new _ _ _ _ rfl).set 0 _).set 1 _).set 2 _).set 1 _
                have B2 : Below wr.heap.size wr W2 := by rw [hW2]; (repeat (first | exact Below.refl _ _ | assumption | (refine Below.setCell ?_ (by first | (simp; done) | (simp; omega) | omega) _) | (refine Below.drew ?_) | (refine below_drewN ?_ _) | (refine Below.alloc ?_ (by first | (simp; done) | (simp; omega) | omega) _) | (refine Below.trans ?_ (Below.mono (by assumption) (by first | (simp; done) | (simp; omega) | omega)))))
                have HR3 := Lib.hid (And.intro (HR2.out.1.past B2) HR2.out.2)
                have a0 := AB.c 0 _ rfl; have a1 := AB.c 1 _ rfl; have a2 := AB.c 2 _ rfl; have al := AB.lt
                have c0 := HR3.out.1.c.c 0 _ rfl; have cl := HR3.out.1.c.lt
                clear hW2 HR2 B2 AB
                refine wp_region_loose 11 (fun _ _ _ => False) (by kernel_rfl) (by kernel_rfl) ?_
                simp only [List.take_succ_cons, List.take_zero, List.drop_succ_cons, List.drop_zero]
                iterate 5 (refine loose_wanted rfl (fun K hK => ?_); go_simp; refine hK _ ?_; clear hK K)
                iterate 6 ((with_reducible refine loose_pass (by kernel_rfl) (fun K hK => ?_)); go_simp; refine hK _ ?_; clear hK K)
                refine loose_nil (fun w5 hb5 => ?_)
                have HR5 := Lib.hid (And.intro (HR3.out.1.past hb5) HR3.out.2)
                clear hb5 a0 a1 a2 al c0 cl HR3
                go_wp2_with fail
                go_roundw
                case rel => exact ⟨0 + 1, by omega, by first | rfl | go_num, by rw [HN.out, ← e1.out], r, HR5.out.1, fun m hm => (HR5.out.2 m hm).trans (e2.out m).symm⟩
                case measure => simp [intOf]
            · rw [show ((1 : Nat) : Int) = 1 from rfl]
              have hnn := smN_le S i j k 3
              obtain ⟨nn, hN⟩ : ∃ nn, nn = smN S i j k 3 := ⟨_, rfl⟩
              have HN := Lib.hid hN
              rw [show 2 + 1 = 3 from rfl] at HR2 ⊢
              rw [← hN] at hnn ⊢
              clear hN
              by_cases hO : j + 1 < S
              · have hOK : nbOK S i j k 3 = true := by show decide _ = true; simpa using hO
                obtain ⟨X, hX⟩ : ∃ X : Nat, X = j + 1 := ⟨_, rfl⟩
                have u : IntKind.i64.wrap ((j : Int) + 1) = (X : Int) := by rw [IntKind.wrap_i64]; omega
                have hXS : X < S := by omega
                have hE : enI S i X k = nbE S i j k 3 := by subst hX; rfl
                have HE2 := Lib.hid (HE.out i X k)
                rw [hE] at HE2
                have HOK := Lib.hid hOK
                clear hX hE hOK hO
                go_wp2_with fail
                refine wp_world (fun W2 hW2 => ?_)
                have AB : Blk W2 wr.heap.size [.int .i64 i, .int .i64 X, .int .i64 k] := by rw [hW2]; first | exact Blk.new _ _ _ _ rfl | exact (Blk.new _ _ _ _ rfl).set 1 _ | exact ((((Blk.new _ _ _ _ rfl).set 0 _).set 1 _).set 2 _).set 1 _
                have B2 : Below wr.heap.size wr W2 := by rw [hW2]; (repeat (first | exact Below.refl _ _ | assumption | (refine Below.setCell ?_ (by first | (simp; done) | (simp; omega) | omega) _) | (refine Below.drew ?_) | (refine below_drewN ?_ _) | (refine Below.alloc ?_ (by first | (simp; done) | (simp; omega) | omega) _) | (refine Below.trans ?_ (Below.mono (by assumption) (by first | (simp; done) | (simp; omega) | omega)))))
                have HR3 := Lib.hid (And.intro (HR2.out.1.past B2) HR2.out.2)
                have HAB := Lib.hid AB
                have a0 := AB.c 0 _ rfl; have a1 := AB.c 1 _ rfl; have a2 := AB.c 2 _ rfl; have al := AB.lt
                have c0 := HR3.out.1.c.c 0 _ rfl; have cl := HR3.out.1.c.lt
                clear hW2 HR2 B2 AB
                refine wp_region_loose 11 (fun _ _ _ => False) (by kernel_rfl) (by kernel_rfl) ?_
                simp only [List.take_succ_cons, List.take_zero, List.drop_succ_cons, List.drop_zero]
                iterate 11 (refine loose_wanted rfl (fun K hK => ?_); go_simp; refine hK _ ?_; clear hK K)
                refine loose_nil (fun w5 hb5 => ?_)
                have A5 := HAB.out.past hb5
                have HR5 := Lib.hid (And.intro (HR3.out.1.past hb5) HR3.out.2)
                clear hb5 a0 a1 a2 al c0 cl HR3 HAB
                have a0 := A5.c 0 _ rfl; have a1 := A5.c 1 _ rfl; have a2 := A5.c 2 _ rfl; have al := A5.lt
                have c0 := HR5.out.1.c.c 0 _ rfl; have c1 := HR5.out.1.c.c 1 _ rfl; have c2 := HR5.out.1.c.c 2 _ rfl; have c3 := HR5.out.1.c.c 3 _ rfl; have cl := HR5.out.1.c.lt
                go_wp2_with fail
                refine (HE2.out _ (by omega) (by omega) (by omega) HR5.out.1.b).mono ?_
                rintro e w6 ⟨rfl, hb6⟩
                have HR6 := Lib.hid (And.intro (HR5.out.1.past hb6) HR5.out.2)
                clear hb6 a0 a1 a2 al c0 c1 c2 c3 cl HR5 A5
                go_wp2_with fail
                refine wp_world (fun W7 hW7 => ?_)
                have VB : Blk W7 w6.heap.size [.float .f32 (fs (3 * nbE S i j k 3)), .float .f32 (fs (3 * nbE S i j k 3 + 1)), .float .f32 (fs (3 * nbE S i j k 3 + 2))] := by rw [hW7]; first | exact Blk.new _ _ _ _ rfl | exact (((Blk.new _ _ _ _ rfl).set 0 _).set 1 _).set 2 _
                have B7 : Below w6.heap.size w6 W7 := by rw [hW7]; (repeat (first | exact Below.refl _ _ | assumption | (refine Below.setCell ?_ (by first | (simp; done) | (simp; omega) | omega) _) | (refine Below.drew ?_) | (refine below_drewN ?_ _) | (refine Below.alloc ?_ (by first | (simp; done) | (simp; omega) | omega) _) | (refine Below.trans ?_ (Below.mono (by assumption) (by first | (simp; done) | (simp; omega) | omega)))))
                have HR7 := Lib.hid (And.intro (HR6.out.1.past B7) HR6.out.2)
                have HVB := Lib.hid VB
                have hvs : w.heap.size + 2 < w6.heap.size := HR6.out.1.s.lt
                clear hW7 HR6 B7 VB
                go_loopw [57] (fun s57 wt => ∃ c : Nat, c ≤ 3 ∧ s57 = .int .i64 c ∧ ∃ r', SoftR w wt [.int .i64 S, .float .f32 lo, .float .f32 hi, .slice (some ⟨b, off, none⟩) n cap] r' ∧ Blk wt w6.heap.size [.float .f32 (fs (3 * nbE S i j k 3)), .float .f32 (fs (3 * nbE S i j k 3 + 1)), .float .f32 (fs (3 * nbE S i j k 3 + 2))] ∧ ∀ m, m < 3 → cn .f32 (r' m) = if m < c then smV fs S i j k m (3 + 1) else smV fs S i j k m 3) (fun s57 _ => 3 - (intOf s57).toNat)
                case atStart => exact ⟨0, by omega, rfl, r, HR7.out.1, HVB.out, fun m hm => by rw [if_neg (by omega)]; exact HR7.out.2 m hm⟩
                case round =>
                  obtain ⟨c, hc3, rfl, r', hR, hV, he⟩ := hrel
                  have HR8 := Lib.hid hR; have HV8 := Lib.hid hV; have HE8 := Lib.hid he
                  clear hR hV he HR7 HVB
                  by_cases hc : c < 3
                  · by_cases hz : nn = 0
                    · have hz1 : ((nn : Int) == 0) = true := by simpa using hz
                      have HZ := Lib.hid hz; clear hz
                      rcases (show c = 0 ∨ c = 1 ∨ c = 2 by omega) with rfl | rfl | rfl
                      · rw [show ((0 : Nat) : Int) = 0 from rfl]
                        have s0 := HR8.out.s.c 0 _ rfl; have v0 := HV8.out.c 0 _ rfl; have sf := HR8.out.s.f; have sl := HR8.out.s.lt; have vl := HV8.out.lt
                        go_wp2_with fail
                        refine wp_region_loose 8 (fun _ _ _ => False) (by kernel_rfl) (by kernel_rfl) ?_
                        simp only [List.take_succ_cons, List.take_zero, List.drop_succ_cons, List.drop_zero]
                        iterate 6 (refine loose_wanted rfl (fun K hK => ?_); go_simp; refine hK _ ?_; clear hK K)
                        (first | ((with_reducible apply loose_farith); rfl; rfl; rfl; rfl; intro _ _) | ((with_reducible apply loose_up); rfl; rfl; exact Try.underlying27; exact Try.underlying151; intro _ _))
                        iterate 1 (refine loose_wanted rfl (fun K hK => ?_); go_simp; refine hK _ ?_; clear hK K)
                        rename_i x hx
                        refine loose_nil (fun w9 hb9 => ?_)
                        have R9 := HR8.out.past hb9
                        have V9 := HV8.out.past hb9
                        have HR9 := Lib.hid R9; have HV9 := Lib.hid V9
                        clear hb9 s0 v0 sf sl vl R9 V9
                        have s0 := HR9.out.s.c 0 _ rfl; have v0 := HV9.out.c 0 _ rfl; have sf := HR9.out.s.f; have sl := HR9.out.s.lt; have vl := HV9.out.lt
                        go_wp2_with fail
                        go_roundw
                        case rel => exact ⟨0 + 1, by omega, by first | rfl | go_num, _, (HR9.out.set0 x).set0 _, (HV9.out.far _ _ (by simp; omega)).far _ _ (by simp; omega), soft_set (by omega) HOK.out (HN.out.symm.trans HZ.out) HE8.out rfl⟩
                        case measure => simp [intOf]
                      · rw [show ((1 : Nat) : Int) = 1 from rfl]
                        have s0 := HR8.out.s.c 1 _ rfl; have v0 := HV8.out.c 1 _ rfl; have sf := HR8.out.s.f; have sl := HR8.out.s.lt; have vl := HV8.out.lt
                        go_wp2_with fail
                        refine wp_region_loose 8 (fun _ _ _ => False) (by kernel_rfl) (by kernel_rfl) ?_
                        simp only [List.take_succ_cons, List.take_zero, List.drop_succ_cons, List.drop_zero]
                        iterate 6 (refine loose_wanted rfl (fun K hK => ?_); go_simp; refine hK _ ?_; clear hK K)
                        (first | ((with_reducible apply loose_farith); rfl; rfl; rfl; rfl; intro _ _) | ((with_reducible apply loose_up); rfl; rfl; exact Try.underlying27; exact Try.underlying151; intro _ _))
                        iterate 1 (refine loose_wanted rfl (fun K hK => ?_); go_simp; refine hK _ ?_; clear hK K)
                        rename_i x hx
                        refine loose_nil (fun w9 hb9 => ?_)
                        have R9 := HR8.out.past hb9
                        have V9 := HV8.out.past hb9
                        have HR9 := Lib.hid R9; have HV9 := Lib.hid V9
                        clear hb9 s0 v0 sf sl vl R9 V9
                        have s0 := HR9.out.s.c 1 _ rfl; have v0 := HV9.out.c 1 _ rfl; have sf := HR9.out.s.f; have sl := HR9.out.s.lt; have vl := HV9.out.lt
                        go_wp2_with fail
                        go_roundw
                        case rel => exact ⟨1 + 1, by omega, by first | rfl | go_num, _, (HR9.out.set1 x).set1 _, (HV9.out.far _ _ (by simp; omega)).far _ _ (by simp; omega), soft_set (by omega) HOK.out (HN.out.symm.trans HZ.out) HE8.out rfl⟩
                        case measure => simp [intOf]
                      · rw [show ((2 : Nat) : Int) = 2 from rfl]
                        have s0 := HR8.out.s.c 2 _ rfl; have v0 := HV8.out.c 2 _ rfl; have sf := HR8.out.s.f; have sl := HR8.out.s.lt; have vl := HV8.out.lt
                        go_wp2_with fail
                        refine wp_region_loose 8 (fun _ _ _ => False) (by kernel_rfl) (by kernel_rfl) ?_
                        simp only [List.take_succ_cons, List.take_zero, List.drop_succ_cons, List.drop_zero]
                        iterate 6 (refine loose_wanted rfl (fun K hK => ?_); go_simp; refine hK _ ?_; clear hK K)
                        (first | ((with_reducible apply loose_farith); rfl; rfl; rfl; rfl; intro _ _) | ((with_reducible apply loose_up); rfl; rfl; exact Try.underlying27; exact Try.underlying151; intro _ _))
                        iterate 1 (refine loose_wanted rfl (fun K hK => ?_); go_simp; refine hK _ ?_; clear hK K)
                        rename_i x hx
                        refine loose_nil (fun w9 hb9 => ?_)
                        have R9 := HR8.out.past hb9
                        have V9 := HV8.out.past hb9
                        have HR9 := Lib.hid R9; have HV9 := Lib.hid V9
                        clear hb9 s0 v0 sf sl vl R9 V9
                        have s0 := HR9.out.s.c 2 _ rfl; have v0 := HV9.out.c 2 _ rfl; have sf := HR9.out.s.f; have sl := HR9.out.s.lt; have vl := HV9.out.lt
                        go_wp2_with fail
                        go_roundw
                        case rel => exact ⟨2 + 1, by omega, by first | rfl | go_num, _, (HR9.out.set2 x).set2 _, (HV9.out.far _ _ (by simp; omega)).far _ _ (by simp; omega), soft_set (by omega) HOK.out (HN.out.symm.trans HZ.out) HE8.out rfl⟩
                        case measure => simp [intOf]
                    · have hz1 : ((nn : Int) == 0) = false := by simpa using hz
                      have HZ := Lib.hid hz; clear hz
                      rcases (show c = 0 ∨ c = 1 ∨ c = 2 by omega) with rfl | rfl | rfl
                      · rw [show ((0 : Nat) : Int) = 0 from rfl]
                        have s0 := HR8.out.s.c 0 _ rfl; have v0 := HV8.out.c 0 _ rfl; have sf := HR8.out.s.f; have sl := HR8.out.s.lt; have vl := HV8.out.lt
                        go_wp2_with fail
                        refine wp_region_loose 8 (fun _ _ _ => False) (by kernel_rfl) (by kernel_rfl) ?_
                        simp only [List.take_succ_cons, List.take_zero, List.drop_succ_cons, List.drop_zero]
                        iterate 6 (refine loose_wanted rfl (fun K hK => ?_); go_simp; refine hK _ ?_; clear hK K)
                        (first | ((with_reducible apply loose_farith); rfl; rfl; rfl; rfl; intro _ _) | ((with_reducible apply loose_up); rfl; rfl; exact Try.underlying27; exact Try.underlying151; intro _ _))
                        iterate 1 (refine loose_wanted rfl (fun K hK => ?_); go_simp; refine hK _ ?_; clear hK K)
                        rename_i x hx
                        refine loose_nil (fun w9 hb9 => ?_)
                        have R9 := HR8.out.past hb9
                        have V9 := HV8.out.past hb9
                        have HR9 := Lib.hid R9; have HV9 := Lib.hid V9
                        clear hb9 s0 v0 sf sl vl R9 V9
                        have s0 := HR9.out.s.c 0 _ rfl; have sf := HR9.out.s.f; have sl := HR9.out.s.lt
                        go_wp2_with fail
                        go_roundw
                        case rel => exact ⟨0 + 1, by omega, by first | rfl | go_num, _, HR9.out.set0 x, HV9.out.far _ _ (by simp; omega), soft_add (by omega) HOK.out (fun h => HZ.out (HN.out.trans h)) HE8.out hx⟩
                        case measure => simp [intOf]
                      · rw [show ((1 : Nat) : Int) = 1 from rfl]
                        have s0 := HR8.out.s.c 1 _ rfl; have v0 := HV8.out.c 1 _ rfl; have sf := HR8.out.s.f; have sl := HR8.out.s.lt; have vl := HV8.out.lt
                        go_wp2_with fail
                        refine wp_region_loose 8 (fun _ _ _ => False) (by kernel_rfl) (by kernel_rfl) ?_
                        simp only [List.take_succ_cons, List.take_zero, List.drop_succ_cons, List.drop_zero]
                        iterate 6 (refine loose_wanted rfl (fun K hK => ?_); go_simp; refine hK _ ?_; clear hK K)
                        (first | ((with_reducible apply loose_farith); rfl; rfl; rfl; rfl; intro _ _) | ((with_reducible apply loose_up); rfl; rfl; exact Try.underlying27; exact Try.underlying151; intro _ _))
                        iterate 1 (refine loose_wanted rfl (fun K hK => ?_); go_simp; refine hK _ ?_; clear hK K)
                        rename_i x hx
                        refine loose_nil (fun w9 hb9 => ?_)
                        have R9 := HR8.out.past hb9
                        have V9 := HV8.out.past hb9
                        have HR9 := Lib.hid R9; have HV9 := Lib.hid V9
                        clear hb9 s0 v0 sf sl vl R9 V9
                        have s0 := HR9.out.s.c 1 _ rfl; have sf := HR9.out.s.f; have sl := HR9.out.s.lt
                        go_wp2_with fail
                        go_roundw
                        case rel => exact ⟨1 + 1, by omega, by first | rfl | go_num, _, HR9.out.set1 x, HV9.out.far _ _ (by simp; omega), soft_add (by omega) HOK.out (fun h => HZ.out (HN.out.trans h)) HE8.out hx⟩
                        case measure => simp [intOf]
                      · rw [show ((2 : Nat) : Int) = 2 from rfl]
                        have s0 := HR8.out.s.c 2 _ rfl; have v0 := HV8.out.c 2 _ rfl; have sf := HR8.out.s.f; have sl := HR8.out.s.lt; have vl := HV8.out.lt
                        go_wp2_with fail
                        refine wp_region_loose 8 (fun _ _ _ => False) (by kernel_rfl) (by kernel_rfl) ?_
                        simp only [List.take_succ_cons, List.take_zero, List.drop_succ_cons, List.drop_zero]
                        iterate 6 (refine loose_wanted rfl (fun K hK => ?_); go_simp; refine hK _ ?_; clear hK K)
                        (first | ((with_reducible apply loose_farith); rfl; rfl; rfl; rfl; intro _ _) | ((with_reducible apply loose_up); rfl; rfl; exact Try.underlying27; exact Try.underlying151; intro _ _))
                        iterate 1 (refine loose_wanted rfl (fun K hK => ?_); go_simp; refine hK _ ?_; clear hK K)
                        rename_i x hx
                        refine loose_nil (fun w9 hb9 => ?_)
                        have R9 := HR8.out.past hb9
                        have V9 := HV8.out.past hb9
                        have HR9 := Lib.hid R9; have HV9 := Lib.hid V9
                        clear hb9 s0 v0 sf sl vl R9 V9
                        have s0 := HR9.out.s.c 2 _ rfl; have sf := HR9.out.s.f; have sl := HR9.out.s.lt
                        go_wp2_with fail
                        go_roundw
                        case rel => exact ⟨2 + 1, by omega, by first | rfl | go_num, _, HR9.out.set2 x, HV9.out.far _ _ (by simp; omega), soft_add (by omega) HOK.out (fun h => HZ.out (HN.out.trans h)) HE8.out hx⟩
                        case measure => simp [intOf]
                  · have hc' : c = 3 := by omega
                    subst hc'
                    rw [show ((3 : Nat) : Int) = 3 from rfl]
                    go_wp2_with fail
                    go_roundw
                    case rel => exact ⟨1 + 1, by omega, by first | rfl | go_num, by rw [show 2 + (1 + 1) = 3 + 1 from rfl, smN_yes HOK.out, ← HN.out]; go_num, r', HR8.out, fun m hm => by rw [HE8.out m hm, if_pos hm]⟩
                    case measure => simp [intOf]
              · have hOK : nbOK S i j k 3 = false := by show decide _ = false; simpa using hO
                have u : IntKind.i64.wrap ((j : Int) + 1) = (S : Int) := by rw [IntKind.wrap_i64]; omega
                have e1 := Lib.hid (smN_no hOK)
                have e2 := Lib.hid (fun m => smV_no (fs := fs) (m := m) hOK)
                clear hOK
                go_wp2_with fail
                refine wp_world (fun W2 hW2 => ?_)
                have AB : Blk W2 wr.heap.size [.int .i64 i, .int .i64 S, .int .i64 k] := by rw [hW2]; first | exact Blk.new _ _ _ _ rfl | exact (Blk.new _ _ _ _ rfl).set 1 _ | exact ((((Blk.new _ _ _ _ rfl).set 0 _).set 1 _).set 2 _).set 1 _
                have B2 : Below wr.heap.size wr W2 := by rw [hW2]; (repeat (first | exact Below.refl _ _ | assumption | (refine Below.setCell ?_ (by first | (simp; done) | (simp; omega) | omega) _) | (refine Below.drew ?_) | (refine below_drewN ?_ _) | (refine Below.alloc ?_ (by first | (simp; done) | (simp; omega) | omega) _) | (refine Below.trans ?_ (Below.mono (by assumption) (by first | (simp; done) | (simp; omega) | omega)))))
                have HR3 := Lib.hid (And.intro (HR2.out.1.past B2) HR2.out.2)
                have a0 := AB.c 0 _ rfl; have a1 := AB.c 1 _ rfl; have a2 := AB.c 2 _ rfl; have al := AB.lt
                have c0 := HR3.out.1.c.c 0 _ rfl; have cl := HR3.out.1.c.lt
                clear hW2 HR2 B2 AB
                refine wp_region_loose 11 (fun _ _ _ => False) (by kernel_rfl) (by kernel_rfl) ?_
                simp only [List.take_succ_cons, List.take_zero, List.drop_succ_cons, List.drop_zero]
                iterate 5 (refine loose_wanted rfl (fun K hK => ?_); go_simp; refine hK _ ?_; clear hK K)
                iterate 6 (refine loose_wanted rfl (fun K hK => ?_); go_simp; refine hK _ ?_; clear hK K)
                refine loose_nil (fun w5 hb5 => ?_)
                have HR5 := Lib.hid (And.intro (HR3.out.1.past hb5) HR3.out.2)
                clear hb5 a0 a1 a2 al c0 cl HR3
                go_wp2_with fail
                go_roundw
                case rel => exact ⟨1 + 1, by omega, by first | rfl | go_num, by rw [HN.out, ← e1.out], r, HR5.out.1, fun m hm => (HR5.out.2 m hm).trans (e2.out m).symm⟩
                case measure => simp [intOf]
          · have hd' : d = 2 := by omega
            subst hd'
            rw [show ((2 : Nat) : Int) = 2 from rfl]
            go_wp2_with fail
            go_roundw
            case rel => exact ⟨1 + 1, by omega, by first | rfl | go_num, rfl, r, HR2.out.1, HR2.out.2⟩
            case measure => simp [intOf]
      · rw [show ((2 : Nat) : Int) = 2 from rfl]
        go_wp2_with fail
        go_loopw [24, 10] (fun s24 s10 wr => ∃ d : Nat, d ≤ 2 ∧ s24 = .int .i64 d ∧ s10 = .int .i64 (smN S i j k (4 + d) : Nat) ∧ ∃ r, SoftR w wr [.int .i64 S, .float .f32 lo, .float .f32 hi, .slice (some ⟨b, off, none⟩) n cap] r ∧ ∀ m, m < 3 → cn .f32 (r m) = smV fs S i j k m (4 + d)) (fun s24 _ _ => 2 - (intOf s24).toNat)
        case atStart => exact ⟨0, by omega, rfl, rfl, _, HR.out.1, HR.out.2⟩
        case round =>
          obtain ⟨d, hd, rfl, rfl, r, hR, he⟩ := hrel
          have HR2 := Lib.hid (And.intro hR he)
          clear hR he HR
          by_cases hd2 : d < 2
          · rcases (show d = 0 ∨ d = 1 by omega) with rfl | rfl
            · rw [show ((0 : Nat) : Int) = 0 from rfl]
              have hnn := smN_le S i j k 4
              obtain ⟨nn, hN⟩ : ∃ nn, nn = smN S i j k 4 := ⟨_, rfl⟩
              have HN := Lib.hid hN
              rw [show 4 + 0 = 4 from rfl] at HR2 ⊢
              rw [← hN] at hnn ⊢
              clear hN
              by_cases hO : 0 < k
              · have hOK : nbOK S i j k 4 = true := by show decide _ = true; simpa using hO
                obtain ⟨X, hX⟩ : ∃ X : Nat, X = k - 1 := ⟨_, rfl⟩
                have u : IntKind.i64.wrap ((k : Int) + -1) = (X : Int) := by rw [IntKind.wrap_i64]; omega
                have hXS : X < S := by omega
                have hE : enI S i j X = nbE S i j k 4 := by subst hX; rfl
                have HE2 := Lib.hid (HE.out i j X)
                rw [hE] at HE2
                have HOK := Lib.hid hOK
                clear hX hE hOK hO
                go_wp2_with fail
                refine wp_world (fun W2 hW2 => ?_)
                have AB : Blk W2 wr.heap.size [.int .i64 i, .int .i64 j, .int .i64 X] := by rw [hW2]; first | exact Blk.new _ _ _ _ rfl | exact (Blk.new _ _ _ _ rfl).set 2 _ | exact ((((Blk.new _ _ _ _ rfl).set 0 _).set 1 _).set 2 _).set 2 _
                have B2 : Below wr.heap.size wr W2 := by rw [hW2]; (repeat (first | exact Below.refl _ _ | assumption | (refine Below.setCell ?_ (by first | (simp; done) | (simp; omega) | omega) _) | (refine Below.drew ?_) | (refine below_drewN ?_ _) | (refine Below.alloc ?_ (by first | (simp; done) | (simp; omega) | omega) _) | (refine Below.trans ?_ (Below.mono (by assumption) (by first | (simp; done) | (simp; omega) | omega)))))
                have HR3 := Lib.hid (And.intro (HR2.out.1.past B2) HR2.out.2)
                have HAB := Lib.hid AB
                have a0 := AB.c 0 _ rfl; have a1 := AB.c 1 _ rfl; have a2 := AB.c 2 _ rfl; have al := AB.lt
                have c0 := HR3.out.1.c.c 0 _ rfl; have cl := HR3.out.1.c.lt
                clear hW2 HR2 B2 AB
                refine wp_region_loose 11 (fun _ _ _ => False) (by kernel_rfl) (by kernel_rfl) ?_
                simp only [List.take_succ_cons, List.take_zero, List.drop_succ_cons, List.drop_zero]
                iterate 11 (refine loose_wanted rfl (fun K hK => ?_); go_simp; refine hK _ ?_; clear hK K)
                refine loose_nil (fun w5 hb5 => ?_)
                have A5 := HAB.out.past hb5
                have HR5 := Lib.hid (And.intro (HR3.out.1.past hb5) HR3.out.2)
                clear hb5 a0 a1 a2 al c0 cl HR3 HAB
                have a0 := A5.c 0 _ rfl; have a1 := A5.c 1 _ rfl; have a2 := A5.c 2 _ rfl; have al := A5.lt
                have c0 := HR5.out.1.c.c 0 _ rfl; have c1 := HR5.out.1.c.c 1 _ rfl; have c2 := HR5.out.1.c.c 2 _ rfl; have c3 := HR5.out.1.c.c 3 _ rfl; have cl := HR5.out.1.c.lt
                go_wp2_with fail
                refine (HE2.out _ (by omega) (by omega) (by omega) HR5.out.1.b).mono ?_
                rintro e w6 ⟨rfl, hb6⟩
                have HR6 := Lib.hid (And.intro (HR5.out.1.past hb6) HR5.out.2)
                clear hb6 a0 a1 a2 al c0 c1 c2 c3 cl HR5 A5
                go_wp2_with fail
                refine wp_world (fun W7 hW7 => ?_)
                have VB : Blk W7 w6.heap.size [.float .f32 (fs (3 * nbE S i j k 4)), .float .f32 (fs (3 * nbE S i j k 4 + 1)), .float .f32 (fs (3 * nbE S i j k 4 + 2))] := by rw [hW7]; first | exact Blk.new _ _ _ _ rfl | exact (((Blk.new _ _ _ _ rfl).set 0 _).set 1 _).set 2 _
                have B7 : Below w6.heap.size w6 W7 := by rw [hW7]; (repeat (first | exact Below.refl _ _ | assumption | (refine Below.setCell ?_ (by first | (simp; done) | (simp; omega) | omega) _) | (refine Below.drew ?_) | (refine below_drewN ?_ _) | (refine Below.alloc ?_ (by first | (simp; done) | (simp; omega) | omega) _) | (refine Below.trans ?_ (Below.mono (by assumption) (by first | (simp; done) | (simp; omega) | omega)))))
                have HR7 := Lib.hid (And.intro (HR6.out.1.past B7) HR6.out.2)
                have HVB := Lib.hid VB
                have hvs : w.heap.size + 2 < w6.heap.size := HR6.out.1.s.lt
                clear hW7 HR6 B7 VB
                go_loopw [57] (fun s57 wt => ∃ c : Nat, c ≤ 3 ∧ s57 = .int .i64 c ∧ ∃ r', SoftR w wt [.int .i64 S, .float .f32 lo, .float .f32 hi, .slice (some ⟨b, off, none⟩) n cap] r' ∧ Blk wt w6.heap.size [.float .f32 (fs (3 * nbE S i j k 4)), .float .f32 (fs (3 * nbE S i j k 4 + 1)), .float .f32 (fs (3 * nbE S i j k 4 + 2))] ∧ ∀ m, m < 3 → cn .f32 (r' m) = if m < c then smV fs S i j k m (4 + 1) else smV fs S i j k m 4) (fun s57 _ => 3 - (intOf s57).toNat)
                case atStart => exact ⟨0, by omega, rfl, r, HR7.out.1, HVB.out, fun m hm => by rw [if_neg (by omega)]; exact HR7.out.2 m hm⟩
                case round =>
                  obtain ⟨c, hc3, rfl, r', hR, hV, he⟩ := hrel
                  have HR8 := Lib.hid hR; have HV8 := Lib.hid hV; have HE8 := Lib.hid he
                  clear hR hV he HR7 HVB
                  by_cases hc : c < 3
                  · by_cases hz : nn = 0
                    · have hz1 : ((nn : Int) == 0) = true := by simpa using hz
                      have HZ := Lib.hid hz; clear hz
                      rcases (show c = 0 ∨ c = 1 ∨ c = 2 by omega) with rfl | rfl | rfl
                      · rw [show ((0 : Nat) : Int) = 0 from rfl]
                        have s0 := HR8.out.s.c 0 _ rfl; have v0 := HV8.out.c 0 _ rfl; have sf := HR8.out.s.f; have sl := HR8.out.s.lt; have vl := HV8.out.lt
                        go_wp2_with fail
                        refine wp_region_loose 8 (fun _ _ _ => False) (by kernel_rfl) (by kernel_rfl) ?_
                        simp only [List.take_succ_cons, List.take_zero, List.drop_succ_cons, List.drop_zero]
                        iterate 6 (refine loose_wanted rfl (fun K hK => ?_); go_simp; refine hK _ ?_; clear hK K)
                        (first | ((with_reducible apply loose_farith); rfl; rfl; rfl; rfl; intro _ _) | ((with_reducible apply loose_up); rfl; rfl; exact Try.underlying27; exact Try.underlying151; intro _ _))
                        iterate 1 (refine loose_wanted rfl (fun K hK => ?_); go_simp; refine hK _ ?_; clear hK K)
                        rename_i x hx
                        refine loose_nil (fun w9 hb9 => ?_)
                        have R9 := HR8.out.past hb9
                        have V9 := HV8.out.past hb9
                        have HR9 := Lib.hid R9; have HV9 := Lib.hid V9
                        clear hb9 s0 v0 sf sl vl R9 V9
                        have s0 := HR9.out.s.c 0 _ rfl; have v0 := HV9.out.c 0 _ rfl; have sf := HR9.out.s.f; have sl := HR9.out.s.lt; have vl := HV9.out.lt
                        go_wp2_with fail
                        go_roundw
                        case rel => exact ⟨0 + 1, by omega, by first | rfl | go_num, _, (HR9.out.set0 x).set0 _, (HV9.out.far _ _ (by simp; omega)).far _ _ (by simp; omega), soft_set (by omega) HOK.out (HN.out.symm.trans HZ.out) HE8.out rfl⟩
                        case measure => simp [intOf]
                      · rw [show ((1 : Nat) : Int) = 1 from rfl]
                        have s0 := HR8.out.s.c 1 _ rfl; have v0 := HV8.out.c 1 _ rfl; have sf := HR8.out.s.f; have sl := HR8.out.s.lt; have vl := HV8.out.lt
                        go_wp2_with fail
                        refine wp_region_loose 8 (fun _ _ _ => False) (by kernel_rfl) (by kernel_rfl) ?_
                        simp only [List.take_succ_cons, List.take_zero, List.drop_succ_cons, List.drop_zero]
                        iterate 6 (refine loose_wanted rfl (fun K hK => ?_); go_simp; refine hK _ ?_; clear hK K)
                        (first | ((with_reducible apply loose_farith); rfl; rfl; rfl; rfl; intro _ _) | ((with_reducible apply loose_up); rfl; rfl; exact Try.underlying27; exact Try.underlying151; intro _ _))
                        iterate 1 (refine loose_wanted rfl (fun K hK => ?_); go_simp; refine hK _ ?_; clear hK K)
                        rename_i x hx
                        refine loose_nil (fun w9 hb9 => ?_)
                        have R9 := HR8.out.past hb9
                        have V9 := HV8.out.past hb9
                        have HR9 := Lib.hid R9; have HV9 := Lib.hid V9
                        clear hb9 s0 v0 sf sl vl R9 V9
                        have s0 := HR9.out.s.c 1 _ rfl; have v0 := HV9.out.c 1 _ rfl; have sf := HR9.out.s.f; have sl := HR9.out.s.lt; have vl := HV9.out.lt
                        go_wp2_with fail
                        go_roundw
                        case rel => exact ⟨1 + 1, by omega, by first | rfl | go_num, _, (HR9.out.set1 x).set1 _, (HV9.out.far _ _ (by simp; omega)).far _ _ (by simp; omega), soft_set (by omega) HOK.out (HN.out.symm.trans HZ.out) HE8.out rfl⟩
                        case measure => simp [intOf]
                      · rw [show ((2 : Nat) : Int) = 2 from rfl]
                        have s0 := HR8.out.s.c 2 _ rfl; have v0 := HV8.out.c 2 _ rfl; have sf := HR8.out.s.f; have sl := HR8.out.s.lt; have vl := HV8.out.lt
                        go_wp2_with fail
                        refine wp_region_loose 8 (fun _ _ _ => False) (by kernel_rfl) (by kernel_rfl) ?_
                        simp only [List.take_succ_cons, List.take_zero, List.drop_succ_cons, List.drop_zero]
                        iterate 6 (refine loose_wanted rfl (fun K hK => ?_); go_simp; refine hK _ ?_; clear hK K)
                        (first | ((with_reducible apply loose_farith); rfl; rfl; rfl; rfl; intro _ _) | ((with_reducible apply loose_up); rfl; rfl; exact Try.underlying27; exact Try.underlying151; intro _ _))
                        iterate 1 (refine loose_wanted rfl (fun K hK => ?_); go_simp; refine hK _ ?_; clear hK K)
                        rename_i x hx
                        refine loose_nil (fun w9 hb9 => ?_)
                        have R9 := HR8.out.past hb9
                        have V9 := HV8.out.past hb9
                        have HR9 := Lib.hid R9; have HV9 := Lib.hid V9
                        clear hb9 s0 v0 sf sl vl R9 V9
                        have s0 := HR9.out.s.c 2 _ rfl; have v0 := HV9.out.c 2 _ rfl; have sf := HR9.out.s.f; have sl := HR9.out.s.lt; have vl := HV9.out.lt
                        go_wp2_with fail
                        go_roundw
                        case rel => exact ⟨2 + 1, by omega, by first | rfl | go_num, _, (HR9.out.set2 x).set2 _, (HV9.out.far _ _ (by simp; omega)).far _ _ (by simp; omega), soft_set (by omega) HOK.out (HN.out.symm.trans HZ.out) HE8.out rfl⟩
                        case measure => simp [intOf]
                    · have hz1 : ((nn : Int) == 0) = false := by simpa using hz
                      have HZ := Lib.hid hz; clear hz
                      rcases (show c = 0 ∨ c = 1 ∨ c = 2 by omega) with rfl | rfl | rfl
                      · rw [show ((0 : Nat) : Int) = 0 from rfl]
                        have s0 := HR8.out.s.c 0 _ rfl; have v0 := HV8.out.c 0 _ rfl; have sf := HR8.out.s.f; have sl := HR8.out.s.lt; have vl := HV8.out.lt
                        go_wp2_with fail
                        refine wp_region_loose 8 (fun _ _ _ => False) (by kernel_rfl) (by kernel_rfl) ?_
                        simp only [List.take_succ_cons, List.take_zero, List.drop_succ_cons, List.drop_zero]
                        iterate 6 (refine loose_wanted rfl (fun K hK => ?_); go_simp; refine hK _ ?_; clear hK K)
                        (first | ((with_reducible apply loose_farith); rfl; rfl; rfl; rfl; intro _ _) | ((with_reducible apply loose_up); rfl; rfl; exact Try.underlying27; exact Try.underlying151; intro _ _))
                        iterate 1 (refine loose_wanted rfl (fun K hK => ?_); go_simp; refine hK _ ?_; clear hK K)
                        rename_i x hx
                        refine loose_nil (fun w9 hb9 => ?_)
                        have R9 := HR8.out.past hb9
                        have V9 := HV8.out.past hb9
                        have HR9 := Lib.hid R9; have HV9 := Lib.hid V9
                        clear hb9 s0 v0 sf sl vl R9 V9
                        have s0 := HR9.out.s.c 0 _ rfl; have sf := HR9.out.s.f; have sl := HR9.out.s.lt
                        go_wp2_with fail
                        go_roundw
                        case rel => exact ⟨0 + 1, by omega, by first | rfl | go_num, _, HR9.out.set0 x, HV9.out.far _ _ (by simp; omega), soft_add (by omega) HOK.out (fun h => HZ.out (HN.out.trans h)) HE8.out hx⟩
                        case measure => simp [intOf]
                      · rw [show ((1 : Nat) : Int) = 1 from rfl]
                        have s0 := HR8.out.s.c 1 _ rfl; have v0 := HV8.out.c 1 _ rfl; have sf := HR8.out.s.f; have sl := HR8.out.s.lt; have vl := HV8.out.lt
                        go_wp2_with fail
                        refine wp_region_loose 8 (fun _ _ _ => False) (by kernel_rfl) (by kernel_rfl) ?_
                        simp only [List.take_succ_cons, List.take_zero, List.drop_succ_cons, List.drop_zero]
                        iterate 6 (refine loose_wanted rfl (fun K hK => ?_); go_simp; refine hK _ ?_; clear hK K)
                        (first | ((with_reducible apply loose_farith); rfl; rfl; rfl; rfl; intro _ _) | ((with_reducible apply loose_up); rfl; rfl; exact Try.underlying27; exact Try.underlying151; intro _ _))
                        iterate 1 (refine loose_wanted rfl (fun K hK => ?_); go_simp; refine hK _ ?_; clear hK K)
                        rename_i x hx
                        refine loose_nil (fun w9 hb9 => ?_)
                        have R9 := HR8.out.past hb9
                        have V9 := HV8.out.past hb9
                        have HR9 := Lib.hid R9; have HV9 := Lib.hid V9
                        clear hb9 s0 v0 sf sl vl R9 V9
                        have s0 := HR9.out.s.c 1 _ rfl; have sf := HR9.out.s.f; have sl := HR9.out.s.lt
                        go_wp2_with fail
                        go_roundw
                        case rel => exact ⟨1 + 1, by omega, by first | rfl | go_num, _, HR9.out.set1 x, HV9.out.far _ _ (by simp; omega), soft_add (by omega) HOK.out (fun h => HZ.out (HN.out.trans h)) HE8.out hx⟩
                        case measure => simp [intOf]
                      · rw [show ((2 : Nat) : Int) = 2 from rfl]
                        have s0 := HR8.out.s.c 2 _ rfl; have v0 := HV8.out.c 2 _ rfl; have sf := HR8.out.s.f; have sl := HR8.out.s.lt; have vl := HV8.out.lt
                        go_wp2_with fail
                        refine wp_region_loose 8 (fun _ _ _ => False) (by kernel_rfl) (by kernel_rfl) ?_
                        simp only [List.take_succ_cons, List.take_zero, List.drop_succ_cons, List.drop_zero]
                        iterate 6 (refine loose_wanted rfl (fun K hK => ?_); go_simp; refine hK _ ?_; clear hK K)
                        (first | ((with_reducible apply loose_farith); rfl; rfl; rfl; rfl; intro _ _) | ((with_reducible apply loose_up); rfl; rfl; exact Try.underlying27; exact Try.underlying151; intro _ _))
                        iterate 1 (refine loose_wanted rfl (fun K hK => ?_); go_simp; refine hK _ ?_; clear hK K)
                        rename_i x hx
                        refine loose_nil (fun w9 hb9 => ?_)
                        have R9 := HR8.out.past hb9
                        have V9 := HV8.out.past hb9
                        have HR9 := Lib.hid R9; have HV9 := Lib.hid V9
                        clear hb9 s0 v0 sf sl vl R9 V9
                        have s0 := HR9.out.s.c 2 _ rfl; have sf := HR9.out.s.f; have sl := HR9.out.s.lt
                        go_wp2_with fail
                        go_roundw
                        case rel => exact ⟨2 + 1, by omega, by first | rfl | go_num, _, HR9.out.set2 x, HV9.out.far _ _ (by simp; omega), soft_add (by omega) HOK.out (fun h => HZ.out (HN.out.trans h)) HE8.out hx⟩
                        case measure => simp [intOf]
                  · have hc' : c = 3 := by omega
                    subst hc'
                    rw [show ((3 : Nat) : Int) = 3 from rfl]
                    go_wp2_with fail
                    go_roundw
                    case rel => exact ⟨0 + 1, by omega, by first | rfl | go_num, by rw [show 4 + (0 + 1) = 4 + 1 from rfl, smN_yes HOK.out, ← HN.out]; go_num, r', HR8.out, fun m hm => by rw [HE8.out m hm, if_pos hm]⟩
                    case measure => simp [intOf]
              · have hOK : nbOK S i j k 4 = false := by show decide _ = false; simpa using hO
                have u : IntKind.i64.wrap ((k : Int) + -1) = -1 := by rw [IntKind.wrap_i64]; omega
                have e1 := Lib.hid (smN_no hOK)
                have e2 := Lib.hid (fun m => smV_no (fs := fs) (m := m) hOK)
                clear hOK
                go_wp2_with fail
                refine wp_world (fun W2 hW2 => ?_)
                have AB : Blk W2 wr.heap.size [.int .i64 i, .int .i64 j, .int .i64 (-1)] := by rw [hW2]; first | exact Blk.new _ _ _ _ rfl | exact (Blk.new _ _ _ _ rfl).set 2 _ | exact ((((Blk.new _ _ _ _ rfl).set 0 _).set 1 _).set 2 _).set 2 _
                have B2 : Below wr.heap.size wr W2 := by rw [hW2]; (repeat (first | exact Below.refl _ _ | assumption | (refine Below.setCell ?_ (by first | (simp; done) | (simp; omega) | omega) _) | (refine Below.drew ?_) | (refine below_drewN ?_ _) | (refine Below.alloc ?_ (by first | (simp; done) | (simp; omega) | omega) _) | (refine Below.trans ?_ (Below.mono (by assumption) (by first | (simp; done) | (simp; omega) | omega)))))
                have HR3 := Lib.hid (And.intro (HR2.out.1.past B2) HR2.out.2)
                have a0 := AB.c 0 _ rfl; have a1 := AB.c 1 _ rfl; have a2 := AB.c 2 _ rfl; have al := AB.lt
                have c0 := HR3.out.1.c.c 0 _ rfl; have cl := HR3.out.1.c.lt
                clear hW2 HR2 B2 AB
                refine wp_region_loose 11 (fun _ _ _ => False) (by kernel_rfl) (by kernel_rfl) ?_
                simp only [List.take_succ_cons, List.take_zero, List.drop_succ_cons, List.drop_zero]
                iterate 5 (refine loose_wanted rfl (fun K hK => ?_); go_simp; refine hK _ ?_; clear hK K)
                iterate 6 ((with_reducible refine loose_pass (by kernel_rfl) (fun K hK => ?_)); go_simp; refine hK _ ?_; clear hK K)
                refine loose_nil (fun w5 hb5 => ?_)
                have HR5 := Lib.hid (And.intro (HR3.out.1.past hb5) HR3.out.2)
                clear hb5 a0 a1 a2 al c0 cl HR3
                go_wp2_with fail
                go_roundw
                case rel => exact ⟨0 + 1, by omega, by first | rfl | go_num, by rw [HN.out, ← e1.out], r, HR5.out.1, fun m hm => (HR5.out.2 m hm).trans (e2.out m).symm⟩
                case measure => simp [intOf]
            · rw [show ((1 : Nat) : Int) = 1 from rfl]
              have hnn := smN_le S i j k 5
              obtain ⟨nn, hN⟩ : ∃ nn, nn = smN S i j k 5 := ⟨_, rfl⟩
              have HN := Lib.hid hN
              rw [show 4 + 1 = 5 from rfl] at HR2 ⊢
              rw [← hN] at hnn ⊢
              clear hN
              by_cases hO : k + 1 < S
              · have hOK : nbOK S i j k 5 = true := by show decide _ = true; simpa using hO
                obtain ⟨X, hX⟩ : ∃ X : Nat, X = k + 1 := ⟨_, rfl⟩
                have u : IntKind.i64.wrap ((k : Int) + 1) = (X : Int) := by rw [IntKind.wrap_i64]; omega
                have hXS : X < S := by omega
                have hE : enI S i j X = nbE S i j k 5 := by subst hX; rfl
                have HE2 := Lib.hid (HE.out i j X)
                rw [hE] at HE2
                have HOK := Lib.hid hOK
                clear hX hE hOK hO
                go_wp2_with fail
                refine wp_world (fun W2 hW2 => ?_)
                have AB : Blk W2 wr.heap.size [.int .i64 i, .int .i64 j, .int .i64 X] := by rw [hW2]; first | exact Blk.new _ _ _ _ rfl | exact (Blk.new _ _ _ _ rfl).set 2 _ | exact ((((Blk.new _ _ _ _ rfl).set 0 _).set 1 _).set 2 _).set 2 _
                have B2 : Below wr.heap.size wr W2 := by rw [hW2]; (repeat (first | exact Below.refl _ _ | assumption | (refine Below.setCell ?_ (by first | (simp; done) | (simp; omega) | omega) _) | (refine Below.drew ?_) | (refine below_drewN ?_ _) | (refine Below.alloc ?_ (by first | (simp; done) | (simp; omega) | omega) _) | (refine Below.trans ?_ (Below.mono (by assumption) (by first | (simp; done) | (simp; omega) | omega)))))
                have HR3 := Lib.hid (And.intro (HR2.out.1.past B2) HR2.out.2)
                have HAB := Lib.hid AB
                have a0 := AB.c 0 _ rfl; have a1 := AB.c 1 _ rfl; have a2 := AB.c 2 _ rfl; have al := AB.lt
                have c0 := HR3.out.1.c.c 0 _ rfl; have cl := HR3.out.1.c.lt
                clear hW2 HR2 B2 AB
                refine wp_region_loose 11 (fun _ _ _ => False) (by kernel_rfl) (by kernel_rfl) ?_
                simp only [List.take_succ_cons, List.take_zero, List.drop_succ_cons, List.drop_zero]
                iterate 11 (refine loose_wanted rfl (fun K hK => ?_); go_simp; refine hK _ ?_; clear hK K)
                refine loose_nil (fun w5 hb5 => ?_)
                have A5 := HAB.out.past hb5
                have HR5 := Lib.hid (And.intro (HR3.out.1.past hb5) HR3.out.2)
                clear hb5 a0 a1 a2 al c0 cl HR3 HAB
                have a0 := A5.c 0 _ rfl; have a1 := A5.c 1 _ rfl; have a2 := A5.c 2 _ rfl; have al := A5.lt
                have c0 := HR5.out.1.c.c 0 _ rfl; have c1 := HR5.out.1.c.c 1 _ rfl; have c2 := HR5.out.1.c.c 2 _ rfl; have c3 := HR5.out.1.c.c 3 _ rfl; have cl := HR5.out.1.c.lt
                go_wp2_with fail
                refine (HE2.out _ (by omega) (by omega) (by omega) HR5.out.1.b).mono ?_
                rintro e w6 ⟨rfl, hb6⟩
                have HR6 := Lib.hid (And.intro (HR5.out.1.past hb6) HR5.out.2)
                clear hb6 a0 a1 a2 al c0 c1 c2 c3 cl HR5 A5
                go_wp2_with fail
                refine wp_world (fun W7 hW7 => ?_)
                have VB : Blk W7 w6.heap.size [.float .f32 (fs (3 * nbE S i j k 5)), .float .f32 (fs (3 * nbE S i j k 5 + 1)), .float .f32 (fs (3 * nbE S i j k 5 + 2))] := by rw [hW7]; first | exact Blk.new _ _ _ _ rfl | exact (((Blk.new _ _ _ _ rfl).set 0 _).set 1 _).set 2 _
                have B7 : Below w6.heap.size w6 W7 := by rw [hW7]; (repeat (first | exact Below.refl _ _ | assumption | (refine Below.setCell ?_ (by first | (simp; done) | (simp; omega) | omega) _) | (refine Below.drew ?_) | (refine below_drewN ?_ _) | (refine Below.alloc ?_ (by first | (simp; done) | (simp; omega) | omega) _) | (refine Below.trans ?_ (Below.mono (by assumption) (by first | (simp; done) | (simp; omega) | omega)))))
                have HR7 := Lib.hid (And.intro (HR6.out.1.past B7) HR6.out.2)
                have HVB := Lib.hid VB
                have hvs : w.heap.size + 2 < w6.heap.size := HR6.out.1.s.lt
                clear hW7 HR6 B7 VB
                go_loopw [57] (fun s57 wt => ∃ c : Nat, c ≤ 3 ∧ s57 = .int .i64 c ∧ ∃ r', SoftR w wt [.int .i64 S, .float .f32 lo, .float .f32 hi, .slice (some ⟨b, off, none⟩) n cap] r' ∧ Blk wt w6.heap.size [.float .f32 (fs (3 * nbE S i j k 5)), .float .f32 (fs (3 * nbE S i j k 5 + 1)), .float .f32 (fs (3 * nbE S i j k 5 + 2))] ∧ ∀ m, m < 3 → cn .f32 (r' m) = if m < c then smV fs S i j k m (5 + 1) else smV fs S i j k m 5) (fun s57 _ => 3 - (intOf s57).toNat)
                case atStart => exact ⟨0, by omega, rfl, r, HR7.out.1, HVB.out, fun m hm => by rw [if_neg (by omega)]; exact HR7.out.2 m hm⟩
                case round =>
                  obtain ⟨c, hc3, rfl, r', hR, hV, he⟩ := hrel
                  have HR8 := Lib.hid hR; have HV8 := Lib.hid hV; have HE8 := Lib.hid he
                  clear hR hV he HR7 HVB
                  by_cases hc : c < 3
                  · by_cases hz : nn = 0
                    · have hz1 : ((nn : Int) == 0) = true := by simpa using hz
                      have HZ := Lib.hid hz; clear hz
                      rcases (show c = 0 ∨ c = 1 ∨ c = 2 by omega) with rfl | rfl | rfl
                      · rw [show ((0 : Nat) : Int) = 0 from rfl]
                        have s0 := HR8.out.s.c 0 _ rfl; have v0 := HV8.out.c 0 _ rfl; have sf := HR8.out.s.f; have sl := HR8.out.s.lt; have vl := HV8.out.lt
                        go_wp2_with fail
                        refine wp_region_loose 8 (fun _ _ _ => False) (by kernel_rfl) (by kernel_rfl) ?_
                        simp only [List.take_succ_cons, List.take_zero, List.drop_succ_cons, List.drop_zero]
                        iterate 6 (refine loose_wanted rfl (fun K hK => ?_); go_simp; refine hK _ ?_; clear hK K)
                        (first | ((with_reducible apply loose_farith); rfl; rfl; rfl; rfl; intro _ _) | ((with_reducible apply loose_up); rfl; rfl; exact Try.underlying27; exact Try.underlying151; intro _ _))
                        iterate 1 (refine loose_wanted rfl (fun K hK => ?_); go_simp; refine hK _ ?_; clear hK K)
                        rename_i x hx
                        refine loose_nil (fun w9 hb9 => ?_)
                        have R9 := HR8.out.past hb9
                        have V9 := HV8.out.past hb9
                        have HR9 := Lib.hid R9; have HV9 := Lib.hid V9
                        clear hb9 s0 v0 sf sl vl R9 V9
                        have s0 := HR9.out.s.c 0 _ rfl; have v0 := HV9.out.c 0 _ rfl; have sf := HR9.out.s.f; have sl := HR9.out.s.lt; have vl := HV9.out.lt
                        go_wp2_with fail
                        go_roundw
                        case rel => exact ⟨0 + 1, by omega, by first | rfl | go_num, _, (HR9.out.set0 x).set0 _, (HV9.out.far _ _ (by simp; omega)).far _ _ (by simp; omega), soft_set (by omega) HOK.out (HN.out.symm.trans HZ.out) HE8.out rfl⟩
                        case measure => simp [intOf]
                      · rw [show ((1 : Nat) : Int) = 1 from rfl]
                        have s0 := HR8.out.s.c 1 _ rfl; have v0 := HV8.out.c 1 _ rfl; have sf := HR8.out.s.f; have sl := HR8.out.s.lt; have vl := HV8.out.lt
                        go_wp2_with fail
                        refine wp_region_loose 8 (fun _ _ _ => False) (by kernel_rfl) (by kernel_rfl) ?_
                        simp only [List.take_succ_cons, List.take_zero, List.drop_succ_cons, List.drop_zero]
                        iterate 6 (refine loose_wanted rfl (fun K hK => ?_); go_simp; refine hK _ ?_; clear hK K)
                        (first | ((with_reducible apply loose_farith); rfl; rfl; rfl; rfl; intro _ _) | ((with_reducible apply loose_up); rfl; rfl; exact Try.underlying27; exact Try.underlying151; intro _ _))
                        iterate 1 (refine loose_wanted rfl (fun K hK => ?_); go_simp; refine hK _ ?_; clear hK K)
                        rename_i x hx
                        refine loose_nil (fun w9 hb9 => ?_)
                        have R9 := HR8.out.past hb9
                        have V9 := HV8.out.past hb9
                        have HR9 := Lib.hid R9; have HV9 := Lib.hid V9
                        clear hb9 s0 v0 sf sl vl R9 V9
                        have s0 := HR9.out.s.c 1 _ rfl; have v0 := HV9.out.c 1 _ rfl; have sf := HR9.out.s.f; have sl := HR9.out.s.lt; have vl := HV9.out.lt
                        go_wp2_with fail
                        go_roundw
                        case rel => exact ⟨1 + 1, by omega, by first | rfl | go_num, _, (HR9.out.set1 x).set1 _, (HV9.out.far _ _ (by simp; omega)).far _ _ (by simp; omega), soft_set (by omega) HOK.out (HN.out.symm.trans HZ.out) HE8.out rfl⟩
                        case measure => simp [intOf]
                      · rw [show ((2 : Nat) : Int) = 2 from rfl]
                        have s0 := HR8.out.s.c 2 _ rfl; have v0 := HV8.out.c 2 _ rfl; have sf := HR8.out.s.f; have sl := HR8.out.s.lt; have vl := HV8.out.lt
                        go_wp2_with fail
                        refine wp_region_loose 8 (fun _ _ _ => False) (by kernel_rfl) (by kernel_rfl) ?_
                        simp only [List.take_succ_cons, List.take_zero, List.drop_succ_cons, List.drop_zero]
                        iterate 6 (refine loose_wanted rfl (fun K hK => ?_); go_simp; refine hK _ ?_; clear hK K)
                        (first | ((with_reducible apply loose_farith); rfl; rfl; rfl; rfl; intro _ _) | ((with_reducible apply loose_up); rfl; rfl; exact Try.underlying27; exact Try.underlying151; intro _ _))
                        iterate 1 (refine loose_wanted rfl (fun K hK => ?_); go_simp; refine hK _ ?_; clear hK K)
                        rename_i x hx
                        refine loose_nil (fun w9 hb9 => ?_)
                        have R9 := HR8.out.past hb9
                        have V9 := HV8.out.past hb9
                        have HR9 := Lib.hid R9; have HV9 := Lib.hid V9
                        clear hb9 s0 v0 sf sl vl R9 V9
                        have s0 := HR9.out.s.c 2 _ rfl; have v0 := HV9.out.c 2 _ rfl; have sf := HR9.out.s.f; have sl := HR9.out.s.lt; have vl := HV9.out.lt
                        go_wp2_with fail
                        go_roundw
                        case rel => exact ⟨2 + 1, by omega, by first | rfl | go_num, _, (HR9.out.set2 x).set2 _, (HV9.out.far _ _ (by simp; omega)).far _ _ (by simp; omega), soft_set (by omega) HOK.out (HN.out.symm.trans HZ.out) HE8.out rfl⟩
                        case measure => simp [intOf]
                    · have hz1 : ((nn : Int) == 0) = false := by simpa using hz
                      have HZ := Lib.hid hz; clear hz
                      rcases (show c = 0 ∨ c = 1 ∨ c = 2 by omega) with rfl | rfl | rfl
                      · rw [show ((0 : Nat) : Int) = 0 from rfl]
                        have s0 := HR8.out.s.c 0 _ rfl; have v0 := HV8.out.c 0 _ rfl; have sf := HR8.out.s.f; have sl := HR8.out.s.lt; have vl := HV8.out.lt
                        go_wp2_with fail
                        refine wp_region_loose 8 (fun _ _ _ => False) (by kernel_rfl) (by kernel_rfl) ?_
                        simp only [List.take_succ_cons, List.take_zero, List.drop_succ_cons, List.drop_zero]
                        iterate 6 (refine loose_wanted rfl (fun K hK => ?_); go_simp; refine hK _ ?_; clear hK K)
                        (first | ((with_reducible apply loose_farith); rfl; rfl; rfl; rfl; intro _ _) | ((with_reducible apply loose_up); rfl; rfl; exact Try.underlying27; exact Try.underlying151; intro _ _))
                        iterate 1 (refine loose_wanted rfl (fun K hK => ?_); go_simp; refine hK _ ?_; clear hK K)
                        rename_i x hx
                        refine loose_nil (fun w9 hb9 => ?_)
                        have R9 := HR8.out.past hb9
                        have V9 := HV8.out.past hb9
                        have HR9 := Lib.hid R9; have HV9 := Lib.hid V9
                        clear hb9 s0 v0 sf sl vl R9 V9
                        have s0 := HR9.out.s.c 0 _ rfl; have sf := HR9.out.s.f; have sl := HR9.out.s.lt
                        go_wp2_with fail
                        go_roundw
                        case rel => exact ⟨0 + 1, by omega, by first | rfl | go_num, _, HR9.out.set0 x, HV9.out.far _ _ (by simp; omega), soft_add (by omega) HOK.out (fun h => HZ.out (HN.out.trans h)) HE8.out hx⟩
                        case measure => simp [intOf]
                      · rw [show ((1 : Nat) : Int) = 1 from rfl]
                        have s0 := HR8.out.s.c 1 _ rfl; have v0 := HV8.out.c 1 _ rfl; have sf := HR8.out.s.f; have sl := HR8.out.s.lt; have vl := HV8.out.lt
                        go_wp2_with fail
                        refine wp_region_loose 8 (fun _ _ _ => False) (by kernel_rfl) (by kernel_rfl) ?_
                        simp only [List.take_succ_cons, List.take_zero, List.drop_succ_cons, List.drop_zero]
                        iterate 6 (refine loose_wanted rfl (fun K hK => ?_); go_simp; refine hK _ ?_; clear hK K)
                        (first | ((with_reducible apply loose_farith); rfl; rfl; rfl; rfl; intro _ _) | ((with_reducible apply loose_up); rfl; rfl; exact Try.underlying27; exact Try.underlying151; intro _ _))
                        iterate 1 (refine loose_wanted rfl (fun K hK => ?_); go_simp; refine hK _ ?_; clear hK K)
                        rename_i x hx
                        refine loose_nil (fun w9 hb9 => ?_)
                        have R9 := HR8.out.past hb9
                        have V9 := HV8.out.past hb9
                        have HR9 := Lib.hid R9; have HV9 := Lib.hid V9
                        clear hb9 s0 v0 sf sl vl R9 V9
                        have s0 := HR9.out.s.c 1 _ rfl; have sf := HR9.out.s.f; have sl := HR9.out.s.lt
                        go_wp2_with fail
                        go_roundw
                        case rel => exact ⟨1 + 1, by omega, by first | rfl | go_num, _, HR9.out.set1 x, HV9.out.far _ _ (by simp; omega), soft_add (by omega) HOK.out (fun h => HZ.out (HN.out.trans h)) HE8.out hx⟩
                        case measure => simp [intOf]
                      · rw [show ((2 : Nat) : Int) = 2 from rfl]
                        have s0 := HR8.out.s.c 2 _ rfl; have v0 := HV8.out.c 2 _ rfl; have sf := HR8.out.s.f; have sl := HR8.out.s.lt; have vl := HV8.out.lt
                        go_wp2_with fail
                        refine wp_region_loose 8 (fun _ _ _ => False) (by kernel_rfl) (by kernel_rfl) ?_
                        simp only [List.take_succ_cons, List.take_zero, List.drop_succ_cons, List.drop_zero]
                        iterate 6 (refine loose_wanted rfl (fun K hK => ?_); go_simp; refine hK _ ?_; clear hK K)
                        (first | ((with_reducible apply loose_farith); rfl; rfl; rfl; rfl; intro _ _) | ((with_reducible apply loose_up); rfl; rfl; exact Try.underlying27; exact Try.underlying151; intro _ _))
                        iterate 1 (refine loose_wanted rfl (fun K hK => ?_); go_simp; refine hK _ ?_; clear hK K)
                        rename_i x hx
                        refine loose_nil (fun w9 hb9 => ?_)
                        have R9 := HR8.out.past hb9
                        have V9 := HV8.out.past hb9
                        have HR9 := Lib.hid R9; have HV9 := Lib.hid V9
                        clear hb9 s0 v0 sf sl vl R9 V9
                        have s0 := HR9.out.s.c 2 _ rfl; have sf := HR9.out.s.f; have sl := HR9.out.s.lt
                        go_wp2_with fail
                        go_roundw
                        case rel => exact ⟨2 + 1, by omega, by first | rfl | go_num, _, HR9.out.set2 x, HV9.out.far _ _ (by simp; omega), soft_add (by omega) HOK.out (fun h => HZ.out (HN.out.trans h)) HE8.out hx⟩
                        case measure => simp [intOf]
                  · have hc' : c = 3 := by omega
                    subst hc'
                    rw [show ((3 : Nat) : Int) = 3 from rfl]
                    go_wp2_with fail
                    go_roundw
                    case rel => exact ⟨1 + 1, by omega, by first | rfl | go_num, by rw [show 4 + (1 + 1) = 5 + 1 from rfl, smN_yes HOK.out, ← HN.out]; go_num, r', HR8.out, fun m hm => by rw [HE8.out m hm, if_pos hm]⟩
                    case measure => simp [intOf]
              · have hOK : nbOK S i j k 5 = false := by show decide _ = false; simpa using hO
                have u : IntKind.i64.wrap ((k : Int) + 1) = (S : Int) := by rw [IntKind.wrap_i64]; omega
                have e1 := Lib.hid (smN_no hOK)
                have e2 := Lib.hid (fun m => smV_no (fs := fs) (m := m) hOK)
                clear hOK
                go_wp2_with fail
                refine wp_world (fun W2 hW2 => ?_)
                have AB : Blk W2 wr.heap.size [.int .i64 i, .int .i64 j, .int .i64 S] := by rw [hW2]; first | exact Blk.new _ _ _ _ rfl | exact (Blk.new _ _ _ _ rfl).set 2 _ | exact ((((Blk.new _ _ _ _ rfl).set 0 _).set 1 _).set 2 _).set 2 _
                have B2 : Below wr.heap.size wr W2 := by rw [hW2]; (repeat (first | exact Below.refl _ _ | assumption | (refine Below.setCell ?_ (by first | (simp; done) | (simp; omega) | omega) _) | (refine Below.drew ?_) | (refine below_drewN ?_ _) | (refine Below.alloc ?_ (by first | (simp; done) | (simp; omega) | omega) _) | (refine Below.trans ?_ (Below.mono (by assumption) (by first | (simp; done) | (simp; omega) | omega)))))
                have HR3 := Lib.hid (And.intro (HR2.out.1.past B2) HR2.out.2)
                have a0 := AB.c 0 _ rfl; have a1 := AB.c 1 _ rfl; have a2 := AB.c 2 _ rfl; have al := AB.lt
                have c0 := HR3.out.1.c.c 0 _ rfl; have cl := HR3.out.1.c.lt
                clear hW2 HR2 B2 AB
                refine wp_region_loose 11 (fun _ _ _ => False) (by kernel_rfl) (by kernel_rfl) ?_
                simp only [List.take_succ_cons, List.take_zero, List.drop_succ_cons, List.drop_zero]
                iterate 5 (refine loose_wanted rfl (fun K hK => ?_); go_simp; refine hK _ ?_; clear hK K)
                iterate 6 (refine loose_wanted rfl (fun K hK => ?_); go_simp; refine hK _ ?_; clear hK K)
                refine loose_nil (fun w5 hb5 => ?_)
                have HR5 := Lib.hid (And.intro (HR3.out.1.past hb5) HR3.out.2)
                clear hb5 a0 a1 a2 al c0 cl HR3
                go_wp2_with fail
                go_roundw
                case rel => exact ⟨1 + 1, by omega, by first | rfl | go_num, by rw [HN.out, ← e1.out], r, HR5.out.1, fun m hm => (HR5.out.2 m hm).trans (e2.out m).symm⟩
                case measure => simp [intOf]
          · have hd' : d = 2 := by omega
            subst hd'
            rw [show ((2 : Nat) : Int) = 2 from rfl]
            go_wp2_with fail
            go_roundw
            case rel => exact ⟨2 + 1, by omega, by first | rfl | go_num, rfl, r, HR2.out.1, HR2.out.2⟩
            case measure => simp [intOf]
    · have ha' : a = 3 := by omega
      subst ha'
      rw [show ((3 : Nat) : Int) = 3 from rfl]
      have hnn := smN_le S i j k 6
      have c0 := HR.out.1.c.c 0 _ rfl; have c1 := HR.out.1.c.c 1 _ rfl; have c2 := HR.out.1.c.c 2 _ rfl; have c3 := HR.out.1.c.c 3 _ rfl; have cl := HR.out.1.c.lt
      rw [show 2 * 3 = 6 from rfl] at HR ⊢
      obtain ⟨nn, hN⟩ : ∃ nn, nn = smN S i j k 6 := ⟨_, rfl⟩
      have HN := Lib.hid hN
      rw [← hN] at hnn ⊢
      clear hN
      go_wp2_with fail
      refine (HE.out i j k _ h1 h2 h3 HR.out.1.b).mono ?_
      rintro e w6 ⟨rfl, hb6⟩
      have HR6 := Lib.hid (And.intro (HR.out.1.past hb6) HR.out.2)
      clear hb6 c0 c1 c2 c3 cl HR
      obtain ⟨e0, he0⟩ : ∃ e0, e0 = fs (3 * enI S i j k) := ⟨_, rfl⟩
      obtain ⟨e1, he1⟩ : ∃ e1, e1 = fs (3 * enI S i j k + 1) := ⟨_, rfl⟩
      obtain ⟨e2, he2⟩ : ∃ e2, e2 = fs (3 * enI S i j k + 2) := ⟨_, rfl⟩
      rw [← he0, ← he1, ← he2]
      have HE0 := Lib.hid (And.intro he0 (And.intro he1 he2))
      have jx0 : ∀ w, (Instr.index 92 (.agg #[.float .f32 e0, .float .f32 e1, .float .f32 e2]) (.int .i64 0)).run Try.prog w = .ok (.float .f32 e0) w := fun w => by kernel_rfl
      have jx1 : ∀ w, (Instr.index 92 (.agg #[.float .f32 e0, .float .f32 e1, .float .f32 e2]) (.int .i64 1)).run Try.prog w = .ok (.float .f32 e1) w := fun w => by kernel_rfl
      have jx2 : ∀ w, (Instr.index 92 (.agg #[.float .f32 e0, .float .f32 e1, .float .f32 e2]) (.int .i64 2)).run Try.prog w = .ok (.float .f32 e2) w := fun w => by kernel_rfl
      clear he0 he1 he2
      go_wp2_with fail
      refine wp_world (fun W7 hW7 => ?_)
      have VB : Blk W7 w6.heap.size [.float .f32 e0, .float .f32 e1, .float .f32 e2] := by rw [hW7]; first | exact Blk.new _ _ _ _ rfl | exact (((Blk.new _ _ _ _ rfl).set 0 _).set 1 _).set 2 _
      have B7 : Below w6.heap.size w6 W7 := by rw [hW7]; (repeat (first | exact Below.refl _ _ | assumption | (refine Below.setCell ?_ (by first | (simp; done) | (simp; omega) | omega) _) | (refine Below.drew ?_) | (refine below_drewN ?_ _) | (refine Below.alloc ?_ (by first | (simp; done) | (simp; omega) | omega) _) | (refine Below.trans ?_ (Below.mono (by assumption) (by first | (simp; done) | (simp; omega) | omega)))))
      have HR7 := Lib.hid (And.intro (HR6.out.1.past B7) HR6.out.2)
      have HVB := Lib.hid VB
      have hvs : w.heap.size + 2 < w6.heap.size := HR6.out.1.s.lt
      have un : IntKind.i64.wrap (2 + (nn : Int)) = 2 + (nn : Int) := by rw [IntKind.wrap_i64]; omega
      clear hW7 HR6 B7 VB
      go_loopw [86] (fun s86 wt => ∃ c : Nat, c ≤ 3 ∧ s86 = .int .i64 c ∧ SoftR w wt [.int .i64 S, .float .f32 lo, .float .f32 hi, .slice (some ⟨b, off, none⟩) n cap] r ∧ ∃ o : Nat → Nat, Blk wt w6.heap.size [.float .f32 (o 0), .float .f32 (o 1), .float .f32 (o 2)] ∧ ∀ m, m < c → cn .f32 (o m) = softV fs S i j k m) (fun s86 _ => 3 - (intOf s86).toNat)
      case atStart => exact ⟨0, by omega, rfl, HR7.out.1, fun m => match m with | 0 => e0 | 1 => e1 | _ => e2, HVB.out, fun m hm => by omega⟩
      case round =>
        obtain ⟨c, hc3, rfl, hR, o, hV, he⟩ := hrel
        have HR8 := Lib.hid (And.intro hR HR7.out.2); have HV8 := Lib.hid hV; have HE8 := Lib.hid he
        clear hR hV he HR7 HVB
        by_cases hc : c < 3
        · rcases (show c = 0 ∨ c = 1 ∨ c = 2 by omega) with rfl | rfl | rfl
          · rw [show ((0 : Nat) : Int) = 0 from rfl]
            have s0 := HR8.out.1.s.c 0 _ rfl; have v0 := HV8.out.c 0 _ rfl; have sf := HV8.out.f; have sl := HR8.out.1.s.lt; have vl := HV8.out.lt
            go_wp2_with (first | ((with_reducible apply wpList_farith); rfl; rfl; rfl; intro _ _ _) | ((with_reducible apply wpList_up); rfl; exact Try.underlying27; exact Try.underlying151; intro _ _ _))
            rename_i x1 n1 hx1 x2 n2 hx2 x3 n3 hx3
            have hv := soft_out (fs := fs) (S := S) (i := i) (j := j) (k := k) (c := 0) (nn := nn) HE0.out.1 HN.out (HR8.out.2 0 (by omega)) hx1 hx2 hx3
            have HV := Lib.hid hv
            clear hx1 hx2 hx3 hv
            go_roundw
            case rel => exact ⟨0 + 1, by omega, by first | rfl | go_num, (HR8.out.1.past (by (repeat (first | exact Below.refl _ _ | assumption | (refine Below.setCell ?_ (by first | (simp; done) | (simp; omega) | omega) _) | (refine Below.drew ?_) | (refine below_drewN ?_ _) | (refine Below.alloc ?_ (by first | (simp; done) | (simp; omega) | omega) _) | (refine Below.trans ?_ (Below.mono (by assumption) (by first | (simp; done) | (simp; omega) | omega))))))).far' _ _ (by simp; omega), fun m => if m = 0 then x3 else o m, (HV8.out.past (by (repeat (first | exact Below.refl _ _ | assumption | (refine Below.setCell ?_ (by first | (simp; done) | (simp; omega) | omega) _) | (refine Below.drew ?_) | (refine below_drewN ?_ _) | (refine Below.alloc ?_ (by first | (simp; done) | (simp; omega) | omega) _) | (refine Below.trans ?_ (Below.mono (by assumption) (by first | (simp; done) | (simp; omega) | omega))))))).set 0 _, fun m hm => by
              show cn .f32 (if m = 0 then x3 else o m) = _
              by_cases h : m = 0
              · subst h; rw [if_pos rfl]; exact HV.out
              · rw [if_neg h]; exact HE8.out m (by omega)⟩
            case measure => simp [intOf]
          · rw [show ((1 : Nat) : Int) = 1 from rfl]
            have s0 := HR8.out.1.s.c 1 _ rfl; have v0 := HV8.out.c 1 _ rfl; have sf := HV8.out.f; have sl := HR8.out.1.s.lt; have vl := HV8.out.lt
            go_wp2_with (first | ((with_reducible apply wpList_farith); rfl; rfl; rfl; intro _ _ _) | ((with_reducible apply wpList_up); rfl; exact Try.underlying27; exact Try.underlying151; intro _ _ _))
            rename_i x1 n1 hx1 x2 n2 hx2 x3 n3 hx3
            have hv := soft_out (fs := fs) (S := S) (i := i) (j := j) (k := k) (c := 1) (nn := nn) HE0.out.2.1 HN.out (HR8.out.2 1 (by omega)) hx1 hx2 hx3
            have HV := Lib.hid hv
            clear hx1 hx2 hx3 hv
            go_roundw
            case rel => exact ⟨1 + 1, by omega, by first | rfl | go_num, (HR8.out.1.past (by (repeat (first | exact Below.refl _ _ | assumption | (refine Below.setCell ?_ (by first | (simp; done) | (simp; omega) | omega) _) | (refine Below.drew ?_) | (refine below_drewN ?_ _) | (refine Below.alloc ?_ (by first | (simp; done) | (simp; omega) | omega) _) | (refine Below.trans ?_ (Below.mono (by assumption) (by first | (simp; done) | (simp; omega) | omega))))))).far' _ _ (by simp; omega), fun m => if m = 1 then x3 else o m, (HV8.out.past (by (repeat (first | exact Below.refl _ _ | assumption | (refine Below.setCell ?_ (by first | (simp; done) | (simp; omega) | omega) _) | (refine Below.drew ?_) | (refine below_drewN ?_ _) | (refine Below.alloc ?_ (by first | (simp; done) | (simp; omega) | omega) _) | (refine Below.trans ?_ (Below.mono (by assumption) (by first | (simp; done) | (simp; omega) | omega))))))).set 1 _, fun m hm => by
              show cn .f32 (if m = 1 then x3 else o m) = _
              by_cases h : m = 1
              · subst h; rw [if_pos rfl]; exact HV.out
              · rw [if_neg h]; exact HE8.out m (by omega)⟩
            case measure => simp [intOf]
          · rw [show ((2 : Nat) : Int) = 2 from rfl]
            have s0 := HR8.out.1.s.c 2 _ rfl; have v0 := HV8.out.c 2 _ rfl; have sf := HV8.out.f; have sl := HR8.out.1.s.lt; have vl := HV8.out.lt
            go_wp2_with (first | ((with_reducible apply wpList_farith); rfl; rfl; rfl; intro _ _ _) | ((with_reducible apply wpList_up); rfl; exact Try.underlying27; exact Try.underlying151; intro _ _ _))
            rename_i x1 n1 hx1 x2 n2 hx2 x3 n3 hx3
            have hv := soft_out (fs := fs) (S := S) (i := i) (j := j) (k := k) (c := 2) (nn := nn) HE0.out.2.2 HN.out (HR8.out.2 2 (by omega)) hx1 hx2 hx3
            have HV := Lib.hid hv
            clear hx1 hx2 hx3 hv
            go_roundw
            case rel => exact ⟨2 + 1, by omega, by first | rfl | go_num, (HR8.out.1.past (by (repeat (first | exact Below.refl _ _ | assumption | (refine Below.setCell ?_ (by first | (simp; done) | (simp; omega) | omega) _) | (refine Below.drew ?_) | (refine below_drewN ?_ _) | (refine Below.alloc ?_ (by first | (simp; done) | (simp; omega) | omega) _) | (refine Below.trans ?_ (Below.mono (by assumption) (by first | (simp; done) | (simp; omega) | omega))))))).far' _ _ (by simp; omega), fun m => if m = 2 then x3 else o m, (HV8.out.past (by (repeat (first | exact Below.refl _ _ | assumption | (refine Below.setCell ?_ (by first | (simp; done) | (simp; omega) | omega) _) | (refine Below.drew ?_) | (refine below_drewN ?_ _) | (refine Below.alloc ?_ (by first | (simp; done) | (simp; omega) | omega) _) | (refine Below.trans ?_ (Below.mono (by assumption) (by first | (simp; done) | (simp; omega) | omega))))))).set 2 _, fun m hm => by
              show cn .f32 (if m = 2 then x3 else o m) = _
              by_cases h : m = 2
              · subst h; rw [if_pos rfl]; exact HV.out
              · rw [if_neg h]; exact HE8.out m (by omega)⟩
            case measure => simp [intOf]
        · have hc' : c = 3 := by omega
          subst hc'
          rw [show ((3 : Nat) : Int) = 3 from rfl]
          have v0 := HV8.out.c 0 _ rfl; have v1 := HV8.out.c 1 _ rfl; have v2 := HV8.out.c 2 _ rfl
          have z0 := HR8.out.1.z.c 0 _ rfl; have z1 := HR8.out.1.z.c 1 _ rfl; have z2 := HR8.out.1.z.c 2 _ rfl; have zf := HR8.out.1.z.f; have zl := HR8.out.1.z.lt
          have B := HR8.out.1.b
          go_wp2_with fail
          refine bodyPost_ret (v := .agg #[.float .f32 (o 0), .float .f32 (o 1), .float .f32 (o 2)]) (by simp [results, Try.results152, go_sem, z0, z1, z2]) rfl ⟨⟨o, rfl, fun m hm => HE8.out m hm⟩, ?_⟩
          exact ((B.setCell (by first | (simp; done) | (simp; omega) | omega) _).setCell (by first | (simp; done) | (simp; omega) | omega) _).setCell (by first | (simp; done) | (simp; omega) | omega) _
end Go.Proofs.Ytalgepfammpmbaa
