/- The mean of the levels over whole squares of the ordered matrix: the plain law. No condition. -/
import Derived.Test.YtmnmcmmhnbnndaaMeanA
import Derived.Test.YtmnmcmmhnbnndaaOffB
import Derived.Test.YtmnmcmmhnbnndaaHueF
namespace Go.Proofs.Ytmnmcmmhnbnndaa
open Go.RowKit
def lsum : List Int → Int
  | [] => 0
  | a :: l => a + lsum l
theorem lsum_append : ∀ l m : List Int, lsum (l ++ m) = lsum l + lsum m
  | [], m => by simp [lsum]
  | a :: l, m => by simp only [List.cons_append, lsum, lsum_append l m]; omega
theorem lsum_perm {l m : List Int} (h : l.Perm m) : lsum l = lsum m := by
  induction h with
  | nil => rfl
  | cons x _ ih => simp only [lsum, ih]
  | swap x y l => simp only [lsum]; omega
  | trans _ _ i1 i2 => exact i1.trans i2
theorem sum_list (f : Nat → Int) : ∀ n, sumTo f n = lsum ((List.range n).map f)
  | 0 => rfl
  | n + 1 => by rw [List.range_succ, List.map_append, lsum_append, ← sum_list f n]; simp [sumTo, lsum]
def ordK (a b k : Nat) : Nat := (ordZ (((a : Int) + ((k % 8 : Nat) : Int)) % 8) (((b : Int) + ((k / 8 : Nat) : Int)) % 8)).toNat
theorem ordK_perm : ∀ a b : Fin 8, ((List.range 64).map (ordK a.val b.val)).isPerm (List.range 64) = true := by decide +kernel
theorem sum_ord (f : Nat → Int) (a b : Nat) (ha : a < 8) (hb : b < 8) : sumTo (fun k => f (ordK a b k)) 64 = sumTo f 64 := by
  have h := List.isPerm_iff.1 (ordK_perm ⟨a, ha⟩ ⟨b, hb⟩)
  rw [sum_list, sum_list]
  have e : (List.range 64).map (fun k => f (ordK a b k)) = ((List.range 64).map (ordK a b)).map f := by rw [List.map_map]; rfl
  rw [e]
  exact lsum_perm (h.map f)
def oM (M : Nat) : Nat := fop .sub .f32 (fop .quo .f32 (fop .add .f32 (floatOfInt .f32 (M : Int)) 1056964608) 1115684864) 1056964608
theorem oM_val : ∀ M : Fin 64, isNum .f32 (oM M.val) = true ∧ val .f32 (oM M.val) = stepQ M.val := by decide +kernel
theorem off_oM (X Y : Int) (a b k : Nat) (ha : X % 8 = ((a : Int) + ((k % 8 : Nat) : Int)) % 8) (hb : Y % 8 = ((b : Int) + ((k / 8 : Nat) : Int)) % 8) : offF 1 0 X Y 0 = oM (ordK a b k) := by
  have h := ordZ_bd X Y
  unfold offF oM ordK
  rw [if_pos rfl, ← ha, ← hb, Int.toNat_of_nonneg h.1]
theorem vq_bd {k : FloatKind} {b : Nat} {q : Rat} (h1 : val k b ≤ q) (h2 : -q ≤ val k b) : vq k.format (rung k.format b) ≤ q := by
  rw [val_sg] at h1 h2; unfold sg at h1 h2; split at h1 <;> grind
theorem mean_law {v : Nat} {d : Int} (hv : isNum .f32 v = true) (h0 : 0 ≤ val .f32 v) (h1 : val .f32 v ≤ 1) (hd : 1 ≤ d ∧ d ≤ 16) :
    (sumTo (fun M => levelOf v (oM M) d) 64 : Rat) ≤ 64 * (val .f32 v * ((2 ^ d.toNat - 1 : Int) : Rat)) + 7 / 8 ∧ 64 * (val .f32 v * ((2 ^ d.toNat - 1 : Int) : Rat)) ≤ (sumTo (fun M => levelOf v (oM M) d) 64 : Rat) + 7 / 8 ∧ ∀ M, M < 64 → 0 ≤ levelOf v (oM M) d ∧ levelOf v (oM M) d ≤ 2 ^ d.toNat - 1 := by
  have hb := pow_bd hd
  have hM : 1 ≤ (2 : Int) ^ d.toNat - 1 ∧ (2 : Int) ^ d.toNat - 1 ≤ 65535 := by omega
  unfold levelOf
  generalize (2 : Int) ^ d.toNat - 1 = m at *
  clear hb hd
  obtain ⟨b1, b2⟩ := ofInt_exact32 m (by omega)
  have m1 : (1 : Rat) ≤ (m : Rat) := by have := icast_le hM.1; simpa using this
  have m2 : (m : Rat) ≤ 65535 := by have := icast_le hM.2; simpa using this
  generalize floatOfInt .f32 m = mm at *
  have p0 : 0 ≤ val .f32 v * (m : Rat) := Rat.mul_nonneg h0 (by grind)
  have p1 : val .f32 v * (m : Rat) ≤ (m : Rat) := by
    have := Rat.mul_le_mul_of_nonneg_right h1 (show (0 : Rat) ≤ (m : Rat) by grind)
    rwa [Rat.one_mul] at this
  have t16 : (2 : Rat) ^ (16 : Int) = 65536 := by decide +kernel
  have t17 : (2 : Rat) ^ (17 : Int) = 131072 := by decide +kernel
  have u16 : (2 : Rat) ^ ((16 : Int) - 1 - (FloatKind.f32.format.fractionBits : Int)) = 1 / 256 := by decide +kernel
  have u17 : (2 : Rat) ^ ((17 : Int) - 1 - (FloatKind.f32.format.fractionBits : Int)) = 1 / 128 := by decide +kernel
  have t40 : ((2 ^ 40 : Nat) : Rat) = 1099511627776 := by decide +kernel
  have rp := fop_mul_num hv b1 16 (by decide) (by decide) (by rw [b2, t16]; grind) (by rw [b2, t16]; grind)
  rw [b2] at rp
  obtain ⟨s1, s2⟩ := rp.near 16 (by decide) (by decide) (by rw [t16]; grind) (by rw [t16]; grind)
  rw [u16] at s1 s2
  have hpn := rp.num
  generalize fop .mul .f32 v mm = P at *
  generalize val .f32 v * (m : Rat) = t at *
  clear rp
  have hA : ∀ M, M < 64 → isNum .f32 (fop .add .f32 P (oM M)) = true ∧ vq FloatKind.f32.format (rung FloatKind.f32.format (fop .add .f32 P (oM M))) ≤ ((2 ^ 40 : Nat) : Rat) ∧
      val .f32 (fop .add .f32 P (oM M)) ≤ t + stepQ M + 3 / 512 ∧ t + stepQ M - 3 / 512 ≤ val .f32 (fop .add .f32 P (oM M)) := fun M hM => by
    obtain ⟨o1, o2⟩ := oM_val ⟨M, hM⟩
    obtain ⟨q1, q2, -⟩ := stepQ_bd hM
    simp only at o1 o2
    have ra := fop_add_num hpn o1 17 (by decide) (by decide) (by rw [o2, t17]; grind) (by rw [o2, t17]; grind)
    rw [o2] at ra
    obtain ⟨s3, s4⟩ := ra.near 17 (by decide) (by decide) (by rw [t17]; grind) (by rw [t17]; grind)
    rw [u17] at s3 s4
    refine ⟨ra.num, vq_bd ?_ ?_, ?_, ?_⟩
    · rw [t40]; grind
    · rw [t40]; grind
    · grind
    · grind
  have hN : ∀ M, M < 64 → 0 ≤ (nearOf (fop .add .f32 P (oM M)) 0 m).1 ∧ (nearOf (fop .add .f32 P (oM M)) 0 m).1 ≤ m := fun M hM => by
    obtain ⟨a1, a2, a3, a4⟩ := hA M hM
    obtain ⟨n1, n2, -, -⟩ := near_bd (lo := 0) (hi := m) a1 a2 (by decide) (by omega) (by omega)
    exact ⟨n1, n2⟩
  rw [← and_assoc]
  refine ⟨mean_core p0 p1 hN (fun M hM hp => ?_) (fun M hM hp => ?_), hN⟩
  · obtain ⟨a1, a2, a3, a4⟩ := hA M hM
    obtain ⟨-, -, n3, -⟩ := near_bd (lo := 0) (hi := m) a1 a2 (by decide) (by omega) (by omega)
    have := n3 hp
    grind
  · obtain ⟨a1, a2, a3, a4⟩ := hA M hM
    obtain ⟨-, -, -, n4⟩ := near_bd (lo := 0) (hi := m) a1 a2 (by decide) (by omega) (by omega)
    have := n4 hp
    grind
theorem ordK_lt (a b k : Nat) : ordK a b k < 64 := by
  have h := ordZ_bd ((a : Int) + ((k % 8 : Nat) : Int)) ((b : Int) + ((k / 8 : Nat) : Int))
  unfold ordK; omega
theorem sum_bd {f : Nat → Int} {c : Int} : ∀ n : Nat, (∀ k, k < n → 0 ≤ f k ∧ f k ≤ c) → 0 ≤ sumTo f n ∧ sumTo f n ≤ n * c
  | 0, _ => by simp [sumTo]
  | n + 1, h => by
    obtain ⟨h1, h2⟩ := sum_bd n (fun k hk => h k (by omega))
    obtain ⟨h3, h4⟩ := h n (by omega)
    simp only [sumTo]
    have : ((n + 1 : Nat) : Int) * c = n * c + c := by rw [Int.natCast_add, Int.add_mul]; simp
    omega
/-- What the statement asks of the doubles. -/
theorem mean_double {S m : Int} {v L : Nat} (hS : 0 ≤ S ∧ S ≤ 4194240) (hm : 1 ≤ m ∧ m ≤ 65535) (hv : isNum .f32 v = true) (h0 : 0 ≤ val .f32 v) (h1 : val .f32 v ≤ 1)
    (ha : (S : Rat) ≤ 64 * (val .f32 v * (m : Rat)) + 7 / 8) (hb : 64 * (val .f32 v * (m : Rat)) ≤ (S : Rat) + 7 / 8) (hL : isNum .f64 L = true) (hL2 : val .f64 L = (m : Rat) * (2 : Rat) ^ (-22 : Int)) :
    isN .f64 (fop .sub .f64 (fop .quo .f64 (floatOfInt .f64 S) 4634204016564240384) (fop .mul .f64 (fcv .f32 .f64 v) (floatOfInt .f64 m))) = false ∧ isN .f64 (fop .add .f64 4580160821035794432 L) = false ∧
    (FloatKind.f64.format.order (absF (fop .sub .f64 (fop .quo .f64 (floatOfInt .f64 S) 4634204016564240384) (fop .mul .f64 (fcv .f32 .f64 v) (floatOfInt .f64 m)))) (fop .add .f64 4580160821035794432 L) == some .lt) = true := by
  obtain ⟨x1, x2⟩ := ofInt_exact64 S (by omega)
  obtain ⟨y1, y2⟩ := ofInt_exact64 m (by omega)
  obtain ⟨u1, u2, u3⟩ := up_exact hv
  have hvv : val .f64 (fcv .f32 .f64 v) = val .f32 v := by rw [val_sg, val_sg, u2, u3]
  have c1 : isNum .f64 4634204016564240384 = true := by decide +kernel
  have c2 : val .f64 4634204016564240384 = 64 := by decide +kernel
  have c3 : isNum .f64 4580160821035794432 = true := by decide +kernel
  have c4 : val .f64 4580160821035794432 = 1 / 64 := by decide +kernel
  have m1 : (1 : Rat) ≤ (m : Rat) := by have := icast_le hm.1; simpa using this
  have m2 : (m : Rat) ≤ 65535 := by have := icast_le hm.2; simpa using this
  have s1 : (0 : Rat) ≤ (S : Rat) := by have := icast_le hS.1; simpa using this
  have s2 : (S : Rat) ≤ 4194240 := by have := icast_le hS.2; simpa using this
  have p0 : 0 ≤ val .f32 v * (m : Rat) := Rat.mul_nonneg h0 (by grind)
  have p1 : val .f32 v * (m : Rat) ≤ (m : Rat) := by
    have := Rat.mul_le_mul_of_nonneg_right h1 (show (0 : Rat) ≤ (m : Rat) by grind)
    rwa [Rat.one_mul] at this
  have t17 : (2 : Rat) ^ (17 : Int) = 131072 := by decide +kernel
  have u17 : (2 : Rat) ^ ((17 : Int) - 1 - (FloatKind.f64.format.fractionBits : Int)) = 1 / 68719476736 := by decide +kernel
  have l22 : (2 : Rat) ^ (-22 : Int) = 1 / 4194304 := by decide +kernel
  rw [l22] at hL2
  have rq := fop_quo_num (q := (S : Rat) / 64) x1 c1 (by rw [c2]; decide) (by rw [x2, c2]; grind) 17 (by decide) (by decide) (by rw [t17]; grind) (by rw [t17]; grind)
  obtain ⟨d1, d2⟩ := rq.near 17 (by decide) (by decide) (by rw [t17]; grind) (by rw [t17]; grind)
  rw [u17] at d1 d2
  have rqn := rq.num
  generalize fop .quo .f64 (floatOfInt .f64 S) 4634204016564240384 = Q at *
  have rm := fop_mul_num u1 y1 17 (by decide) (by decide) (by rw [hvv, y2, t17]; grind) (by rw [hvv, y2, t17]; grind)
  rw [hvv, y2] at rm
  obtain ⟨e1, e2⟩ := rm.near 17 (by decide) (by decide) (by rw [t17]; grind) (by rw [t17]; grind)
  rw [u17] at e1 e2
  have rmn := rm.num
  generalize fop .mul .f64 (fcv .f32 .f64 v) (floatOfInt .f64 m) = W at *
  clear rq rm
  have rd := fop_sub_num rqn rmn 17 (by decide) (by decide) (by rw [t17]; grind) (by rw [t17]; grind)
  obtain ⟨f1, f2⟩ := rd.near 17 (by decide) (by decide) (by rw [t17]; grind) (by rw [t17]; grind)
  rw [u17] at f1 f2
  have rdn := rd.num
  have dlt : fop .sub .f64 Q W < 2 ^ FloatKind.f64.format.width := fop_lt _ _ _ _
  generalize fop .sub .f64 Q W = D at *
  have rr := fop_add_num c3 hL 17 (by decide) (by decide) (by rw [c4, hL2, t17]; grind) (by rw [c4, hL2, t17]; grind)
  rw [c4, hL2] at rr
  obtain ⟨g1, g2⟩ := rr.near 17 (by decide) (by decide) (by rw [t17]; grind) (by rw [t17]; grind)
  rw [u17] at g1 g2
  have rrn := rr.num
  generalize fop .add .f64 4580160821035794432 L = B at *
  obtain ⟨a1, a2⟩ := abs_rung dlt
  have an : isNum .f64 (absF D) = true := by unfold isNum at rdn ⊢; rw [a1]; exact rdn
  have av : val .f64 (absF D) = vq FloatKind.f64.format (rung FloatKind.f64.format D) := by
    have hs : sgn FloatKind.f64.format (absF D) = false := by
      rw [absF_eq dlt]
      unfold sgn; rw [sw64]
      have h : D % 2 ^ 63 < 2 ^ 63 := Nat.mod_lt _ (by decide)
      rw [Nat.div_eq_of_lt h]; rfl
    rw [val_sg, hs, a1]; rfl
  have ab : val .f64 (absF D) < val .f64 B := by
    rw [av]
    have : vq FloatKind.f64.format (rung FloatKind.f64.format D) ≤ 15 / 1024 := vq_bd (by grind) (by grind)
    grind
  refine ⟨isNum_not_nan rdn, isNum_not_nan rrn, ?_⟩
  rw [ord_lt (isNum_not_nan an) (isNum_not_nan rrn), decide_eq_true_iff, ← val_lt_key]
  exact ab
end Go.Proofs.Ytmnmcmmhnbnndaa
