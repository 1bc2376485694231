/- A number that a format has is met by its nearest. Plain Lean. (with: Dn, Flo, FloB, Mix) -/
import Derived.Test.YtbaocallhnehfaaGreatDoorBD
import Derived.Test.YtbaocallhnehfaaGreatDoorBA
import Derived.Test.YtbaocallhnehfaaGreatDoorBF
namespace Go.Proofs.YtbaocallhnehfaaGreatDoor
open Go Go.RowKit
/-- A number that the format has, told by any magnitude and place: it is that number. -/
theorem nearest_val (k : FloatKind) (neg : Bool) (mag : Nat) (place : Int) (m : Nat) (e : Int) (hq : (mag : Rat) * (2 : Rat) ^ place = (m : Rat) * (2 : Rat) ^ e) (hm : m < 2 ^ (k.format.fractionBits + 1)) (he : k.format.leastPlace ≤ e) (hi : (m : Rat) * (2 : Rat) ^ e < vq k.format k.format.infRung) :
    isNum k (k.encode (.number neg mag place)) = true ∧ sgn k.format (k.encode (.number neg mag place)) = neg ∧ vq k.format (rung k.format (k.encode (.number neg mag place))) = (m : Rat) * (2 : Rat) ^ e := by
  have hsw := k.format.infRung_lt
  have e0 : k.encode (.number neg mag place) = k.format.nearest neg mag place := rfl
  rw [e0]
  rcases Nat.eq_zero_or_pos mag with h | h
  · subst h
    have hi : 0 < k.format.infRung := Nat.lt_of_lt_of_le (binade_pos _) (binade_le_inf _ (exp_ok k))
    have e : k.format.nearest neg 0 place = k.format.word neg 0 := rfl
    rw [← hq, e, rung_word _ _ (by omega), vq_zero]
    refine ⟨?_, sgn_word _ _ (by omega), ?_⟩
    · unfold isNum; rw [rung_word _ _ (by omega)]; simpa using hi
    · rw [show ((0 : Nat) : Rat) = 0 from rfl, Rat.zero_mul]
  · obtain ⟨r, hr, -, -, hx⟩ := nearest_spec k.format (frac_ok k) neg mag place h
    have hlog := log_le mag place h
    have hle : lastOf k.format mag place ≤ e := by
      have h3 : (m : Rat) < ((2 ^ (k.format.fractionBits + 1) : Nat) : Rat) := Rat.natCast_lt_natCast.2 hm
      have h4 := Rat.mul_lt_mul_of_pos_right h3 (zp_pos e)
      rw [← hq, ← zp_nat, ← zp_add] at h4
      have := zp_lt_iff (rle_lt hlog h4)
      unfold lastOf; omega
    obtain ⟨c, hc'⟩ : ∃ c : Nat, e = lastOf k.format mag place + c := ⟨(e - lastOf k.format mag place).toNat, by omega⟩
    have hv : vq k.format r = (mag : Rat) * (2 : Rat) ^ place := by
      refine hx (m * 2 ^ c) ?_
      rw [hq, Rat.natCast_mul, ← zp_nat, Rat.mul_assoc, ← zp_add]
      congr 2; omega
    have hlt : r < k.format.infRung := (vq_lt_iff k.format).1 (by rw [hv, hq]; exact hi)
    have e : k.format.nearest neg mag place = k.format.word neg r := by rw [hr, Nat.min_eq_left (by omega)]
    rw [e, rung_word _ _ (by omega)]
    refine ⟨?_, sgn_word _ _ (by omega), by rw [hv, hq]⟩
    unfold isNum; rw [rung_word _ _ (by omega)]; simpa using hlt
theorem fcv_dec {s k : FloatKind} {b : Nat} {d : Ieee.Datum} (h : isN s b = false) (hd : s.decode b = d) : fcv s k b = k.encode d := by
  unfold fcv; rw [if_neg (by rw [h]; decide), hd]
end Go.Proofs.YtbaocallhnehfaaGreatDoor

namespace Go.Proofs.YtbaocallhnehfaaGreatDoor
open Go Go.RowKit
theorem run_fcv2 {P : Program} {s k : FloatKind} (hne : s ≠ k) (b : Nat) (w : World) (ho : isNum s b = true → ovf s k b = false) :
    ∃ r n, (Conv.floatToFloat s b k).run P w = .ok (.float k r) (w.drewN n) ∧ FR k r (fcv s k b) := by
  cases hd : s.decode b with
  | nan sg t =>
    have hn := nan_cut_conv k b (w.tape w.drawn (.nanConv k b))
    have hi : isN s b = true := by unfold isN; rw [hd]; rfl
    unfold Conv.floatToFloat
    rw [if_neg hne, hd]
    exact ⟨_, 1, rfl, by rw [cn_of_nan hn.1]; unfold fcv; rw [if_pos hi], hn.2⟩
  | infinity sg =>
    obtain ⟨r, n, h1, -, h2⟩ := run_fcv (P := P) hne b w
    exact ⟨r, n, h1, h2 (by unfold ovf; rw [hd]; rfl)⟩
  | number sg m e =>
    obtain ⟨r, n, h1, -, h2⟩ := run_fcv (P := P) hne b w
    exact ⟨r, n, h1, h2 (ho (isNum_decode.2 ⟨sg, m, e, hd⟩))⟩
section
variable {P : Program} {ops : Array Oper} {rest : List Oper} {a : Act} {w : World} {Q : Exit → Act → World → Prop} {dst : Option Tmp} {ty : TypeId} {x : Operand} {pos : String} {after : Array Edge}
theorem wpList_down {src d : TypeId} {b : Nat} (hx : a.eval x = .float .f64 b) (hs : P.underlying src = some (.float .f64)) (hd : P.underlying d = some (.float .f32)) (ho : isNum .f64 b = true → ovf .f64 .f32 b = false)
    (h : ∀ r n, FR .f32 r (fcv .f64 .f32 b) → wpList P ops Q rest (a.put dst (.float .f32 r)) (w.drewN n)) :
    wpList P ops Q ({ dst, op := .convert src d x, type := ty, pos, after, guard := none } :: rest) a w := by
  refine wpList_plain rfl fun K hK => ?_
  obtain ⟨r, n, hr, hf⟩ := run_fcv2 (P := P) (show FloatKind.f64 ≠ .f32 by decide) b w ho
  unfold Oper.wp execOp
  simp only [hx, Sem.run_bind, Sem.run_pure, Result.andThen_ok, convert_ff hs hd, hr]
  exact hK _ _ (h r n hf)
end
end Go.Proofs.YtbaocallhnehfaaGreatDoor

namespace Go.Proofs.YtbaocallhnehfaaGreatDoor
open Go Go.RowKit
end Go.Proofs.YtbaocallhnehfaaGreatDoor

namespace Go.Proofs.YtbaocallhnehfaaGreatDoor
open Go Go.RowKit
/-- Floor of a single. -/
def flF (v : Nat) : Nat := fcv .f64 .f32 (fwhole .down (fcv .f32 .f64 v))
section
variable {ops : Array Oper} {rest : List Oper} {a : Act} {w : World} {Q : Exit → Act → World → Prop} {dst : Option Tmp} {ty : TypeId} {x : Operand} {pos : String} {after : Array Edge} {ats : Array TypeId}
end
end Go.Proofs.YtbaocallhnehfaaGreatDoor

namespace Go.Proofs.YtbaocallhnehfaaGreatDoor
open Go.RowKit
/-- What mixing hands back. -/
def lerpF (a b t : Nat) : Nat := if FloatKind.f32.format.order t 0 == some .eq then cn .f32 a else if FloatKind.f32.format.order t 1065353216 == some .eq then cn .f32 b else fop .add .f32 (cn .f32 a) (fop .mul .f32 (fop .sub .f32 (cn .f32 b) (cn .f32 a)) (cn .f32 t))
theorem lerp_FR {a b t r1 r2 r3 : Nat} (h1 : FR .f32 r1 (fop .sub .f32 (cn .f32 b) (cn .f32 a))) (h2 : FR .f32 r2 (fop .mul .f32 (cn .f32 r1) (cn .f32 t))) (h3 : FR .f32 r3 (fop .add .f32 (cn .f32 a) (cn .f32 r2)))
    (c0 : (FloatKind.f32.format.order t 0 == some .eq) = false) (c1 : (FloatKind.f32.format.order t 1065353216 == some .eq) = false) : cn .f32 r3 = lerpF a b t := by
  unfold lerpF; rw [c0, c1, h3.eq, h2.eq, h1.eq]; rfl
set_option maxHeartbeats 800000 in
theorem Lerp_any (a b t : Nat) (w : World) : Calls Tryz.prog 119 #[.float .f32 a, .float .f32 b, .float .f32 t] w fun e w' => e = .returned (.float .f32 (lerpF a b t)) ∧ ∃ m, w' = w.drewN m := by
  go_enter Tryz.func119, Tryz.ntmps119
  go_wp2_with (first | ((with_reducible apply wpList_farith); rfl; rfl; rfl; intro _ _ _) | ((with_reducible apply wpList_up); rfl; exact Tryz.underlying41; exact Tryz.underlying157; intro _ _ _) | (go_at_call 116; refine (Clean_any _ _).mono ?_; rintro e w' ⟨rfl, rfl⟩))
  · rename_i h; go_ret; exact ⟨ret_f (by unfold lerpF; rw [h]; rfl), 0, rfl⟩
  · rename_i h0 h1; go_ret; exact ⟨ret_f (by unfold lerpF; rw [h0, h1]; rfl), 0, rfl⟩
  · rename_i h0 h1 _ _ a1 _ _ a2 _ _ a3; go_ret; exact ⟨ret_f (lerp_FR a1 a2 a3 h0 h1), _, rfl⟩
/-- The smooth step. -/
def smoothF (t : Nat) : Nat := fop .mul .f32 (fop .mul .f32 (cn .f32 (limF t 0 1065353216)) (cn .f32 (limF t 0 1065353216))) (fop .sub .f32 (cn .f32 1077936128) (fop .mul .f32 (cn .f32 1073741824) (cn .f32 (limF t 0 1065353216))))
theorem smooth_FR {s r1 r2 r3 r4 : Nat} (h1 : FR .f32 r1 (fop .mul .f32 (cn .f32 s) (cn .f32 s))) (h2 : FR .f32 r2 (fop .mul .f32 (cn .f32 1073741824) (cn .f32 s))) (h3 : FR .f32 r3 (fop .sub .f32 (cn .f32 1077936128) (cn .f32 r2))) (h4 : FR .f32 r4 (fop .mul .f32 (cn .f32 r1) (cn .f32 r3))) :
    cn .f32 r4 = fop .mul .f32 (fop .mul .f32 (cn .f32 s) (cn .f32 s)) (fop .sub .f32 (cn .f32 1077936128) (fop .mul .f32 (cn .f32 1073741824) (cn .f32 s))) := by
  rw [h4.eq, h1.eq, h3.eq, h2.eq]
set_option maxHeartbeats 800000 in
theorem Smooth_any (t : Nat) (w : World) : Calls Tryz.prog 120 #[.float .f32 t] w fun e w' => e = .returned (.float .f32 (smoothF t)) ∧ ∃ m, w' = w.drewN m := by
  go_enter Tryz.func120, Tryz.ntmps120
  go_wp2_with (first | ((with_reducible apply wpList_farith); rfl; rfl; rfl; intro _ _ _) | ((with_reducible apply wpList_up); rfl; exact Tryz.underlying41; exact Tryz.underlying157; intro _ _ _) | (go_at_call 116; refine (Clean_any _ _).mono ?_; rintro e w' ⟨rfl, rfl⟩) | (go_at_call 148; refine (Limit_any _ _ _ _).mono ?_; rintro e w' ⟨rfl, rfl⟩))
  rename_i _ _ a1 _ _ a2 _ _ a3 _ _ a4; go_ret; exact ⟨ret_f (smooth_FR a1 a2 a3 a4), _, rfl⟩
end Go.Proofs.YtbaocallhnehfaaGreatDoor
