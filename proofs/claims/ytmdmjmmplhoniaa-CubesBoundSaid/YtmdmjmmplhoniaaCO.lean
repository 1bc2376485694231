/- The colour between eight entries of a cube: the closures of cube.linear, that of dyeref2.LinearOf. Conditions: the cube is right. (with: CuP) -/
import Derived.Test.YtmdmjmmplhoniaaCuM
import Derived.Test.YtmdmjmmplhoniaaBH
namespace Go.Proofs.Ytmdmjmmplhoniaa
open Go.RowKit
theorem lerpF_cn (a b t : Nat) : lerpF (cn .f32 a) (cn .f32 b) t = lerpF a b t := by unfold lerpF; simp only [cn_cn]
/-- Mixed along the first axis; along the second; along the third. -/
def redF (S : Nat) (i : Nat → Nat) (x : Nat → Nat) (fs : Nat → Nat) (m dj dk : Nat) : Nat := lerpF (fs (3 * enI S (i 0) (i 1 + dj) (i 2 + dk) + m)) (fs (3 * enI S (i 0 + 1) (i 1 + dj) (i 2 + dk) + m)) (x 0)
def greF (S : Nat) (i : Nat → Nat) (x : Nat → Nat) (fs : Nat → Nat) (m dk : Nat) : Nat := lerpF (redF S i x fs m 0 dk) (redF S i x fs m 1 dk) (x 1)
def bluF (S : Nat) (i : Nat → Nat) (x : Nat → Nat) (fs : Nat → Nat) (m : Nat) : Nat := lerpF (greF S i x fs m 0) (greF S i x fs m 1) (x 2)
def linF (S lo hi : Nat) (fs p : Nat → Nat) (n : Nat) : Nat :=
  if n < 3 then (if brokB p then 2143289344 else bluF S (fun a => (plF S lo hi (p a)).1.toNat) (fun a => (plF S lo hi (p a)).2) fs n) else cn .f32 (p 3)
/-- What the callees answer: an entry, or what is mixed. -/
def LinPsi (S : Nat) (fs : Nat → Nat) (args : Array Value) (u : Value) : Prop :=
  (args.size = 4 → u = .agg #[.float .f32 (fs (3 * enI S (argI args 1).toNat (argI args 2).toNat (argI args 3).toNat)), .float .f32 (fs (3 * enI S (argI args 1).toNat (argI args 2).toNat (argI args 3).toNat + 1)), .float .f32 (fs (3 * enI S (argI args 1).toNat (argI args 2).toNat (argI args 3).toNat + 2))]) ∧ (args.size = 3 → u = .float .f32 (lerpF (argF args 0) (argF args 1) (argF args 2)))
theorem lin_psi4 {S : Nat} {fs : Nat → Nat} {c u : Value} {a b d : Nat} : LinPsi S fs #[c, .int .i64 a, .int .i64 b, .int .i64 d] u ↔ u = .agg #[.float .f32 (fs (3 * enI S a b d)), .float .f32 (fs (3 * enI S a b d + 1)), .float .f32 (fs (3 * enI S a b d + 2))] :=
  ⟨fun h => h.1 rfl, fun h => ⟨fun _ => h, fun h => by simp at h⟩⟩
theorem lin_psi3 {S : Nat} {fs : Nat → Nat} {u : Value} {a b t : Nat} : LinPsi S fs #[.float .f32 a, .float .f32 b, .float .f32 t] u ↔ u = .float .f32 (lerpF a b t) :=
  ⟨fun h => h.2 rfl, fun h => ⟨fun h => by simp at h, fun _ => h⟩⟩
set_option maxRecDepth 100000 in
set_option maxHeartbeats 1600000 in
theorem red_any (S lo hi b off n cap : Nat) (fs i x : Nat → Nat) (m dj dk pc pa pm ps : Nat) (w : World) (hS : S ≤ 17) (hi' : ∀ a, a < 3 → i a + 2 ≤ S) (hm : m < 3) (hdj : dj ≤ 1) (hdk : dk ≤ 1) (hn : n = 3 * (S * S * S)) (hcap : n ≤ cap) (hc : Row w b off n fs)
    (C : Blk w pc [.int .i64 S, .float .f32 lo, .float .f32 hi, .slice (some ⟨b, off, none⟩) n cap]) (A : VecI w pa 3 (fun j => ((i j : Nat) : Int))) (M : w.cell? ⟨pm, 0, none⟩ = some (.int .i64 m)) (X : w.cell? ⟨ps, 0, none⟩ = some (.float .f32 (x 0))) :
    Calls Try.prog 33 #[.int .i64 dj, .int .i64 dk, .pointer (some ⟨pc, 0, none⟩), .pointer (some ⟨pa, 0, none⟩), .pointer (some ⟨pm, 0, none⟩), .pointer (some ⟨ps, 0, none⟩)] w fun e w' =>
      e = .returned (.float .f32 (redF S i x fs m dj dk)) ∧ Below w.heap.size w w' := by
  have b0 := hi' 0 (by omega); have b1 := hi' 1 (by omega); have b2 := hi' 2 (by omega)
  have hbw : b < w.heap.size := hc.lt (by have : 0 < S * S * S := Nat.mul_pos (Nat.mul_pos (by omega) (by omega)) (by omega); omega)
  obtain ⟨I, hI⟩ : ∃ I, I = i 0 := ⟨_, rfl⟩
  obtain ⟨I1, hI1⟩ : ∃ I1, I1 = I + 1 := ⟨_, rfl⟩
  obtain ⟨J, hJ⟩ : ∃ J, J = i 1 + dj := ⟨_, rfl⟩
  obtain ⟨D, hD⟩ : ∃ D, D = i 2 + dk := ⟨_, rfl⟩
  have u0 : IntKind.i64.wrap ((I : Int) + 1) = (I1 : Int) := by rw [IntKind.wrap_i64]; omega
  have u1 : IntKind.i64.wrap (((i 1 : Nat) : Int) + (dj : Int)) = (J : Int) := by rw [IntKind.wrap_i64]; omega
  have u2 : IntKind.i64.wrap (((i 2 : Nat) : Int) + (dk : Int)) = (D : Int) := by rw [IntKind.wrap_i64]; omega
  have HE : Hid (∀ z w', z < S → Below w.heap.size w w' → Calls Try.prog 31 #[.agg #[.int .i64 S, .float .f32 lo, .float .f32 hi, .slice (some ⟨b, off, none⟩) n cap], .int .i64 (z : Nat), .int .i64 (J : Nat), .int .i64 (D : Nat)] w' fun e w'' =>
      e = .returned (.agg #[.float .f32 (fs (3 * enI S z J D)), .float .f32 (fs (3 * enI S z J D + 1)), .float .f32 (fs (3 * enI S z J D + 2))]) ∧ Below w'.heap.size w' w'') := fun z w' hz hb => entry_any S z J D lo hi b off n cap fs w' hS hz (by omega) (by omega) hn hcap (hc.below hb hbw)
  have HR : Hid (redF S i x fs m dj dk = lerpF (fs (3 * enI S I J D + m)) (fs (3 * enI S I1 J D + m)) (x 0)) := by unfold redF; rw [hI1, hI, hJ, hD]; rfl
  have HB := Lib.hid (show I < S ∧ I1 < S by omega)
  have jx : ∀ (E : Nat) w, (Instr.index 47 (.agg #[.float .f32 (fs E), .float .f32 (fs (E + 1)), .float .f32 (fs (E + 2))]) (.int .i64 (m : Int))).run Try.prog w = .ok (.float .f32 (fs (E + m))) w := fun E w => by
    rcases (show m = 0 ∨ m = 1 ∨ m = 2 by omega) with rfl | rfl | rfl <;> kernel_rfl
  have j1 := jx (3 * enI S I J D); have j2 := jx (3 * enI S I1 J D)
  have c0 := C.c 0 _ rfl; have c1 := C.c 1 _ rfl; have c2 := C.c 2 _ rfl; have c3 := C.c 3 _ rfl; have cl := C.lt
  have a0 := A.c 0 (by omega); have a1 := A.c 1 (by omega); have a2 := A.c 2 (by omega); have al := A.lt
  rw [← hI] at a0
  have ml := cell_lt M; have xl := cell_lt X
  simp only at ml xl
  clear hS hi' hdj hdk hn hcap hc C A b0 b1 b2 hI hI1 hJ hD hbw jx hm
  generalize x 0 = x0 at *
  go_enter Try.func33, Try.ntmps33
  go_wp2_with fail
  refine wp_region_loose 32 (fun _ args u => LinPsi S fs args u) (by kernel_rfl) (by kernel_rfl) ?_
  simp only [List.take_succ_cons, List.take_zero, List.drop_succ_cons, List.drop_zero]
  iterate 11 (refine loose_wanted rfl (fun K hK => ?_); go_simp; refine hK _ ?_; clear hK K)
  refine loose_wanted rfl (fun K1 hK => ?_)
  go_simp
  refine ⟨fun p => (HE.out _ _ HB.out.1 p.h).mono ?_, ?_⟩
  · rintro e w' ⟨rfl, hb⟩
    exact ⟨_, rfl, lin_psi4.2 rfl, p.h.trans (hb.mono p.h.size)⟩
  intro z hz
  obtain rfl := lin_psi4.1 hz
  refine hK _ ?_
  clear hK K1 hz
  iterate 14 (refine loose_wanted rfl (fun K hK => ?_); go_simp; refine hK _ ?_; clear hK K)
  refine loose_wanted rfl (fun K1 hK => ?_)
  go_simp
  refine ⟨fun p => (HE.out _ _ HB.out.2 p.h).mono ?_, ?_⟩
  · rintro e w' ⟨rfl, hb⟩
    exact ⟨_, rfl, lin_psi4.2 rfl, p.h.trans (hb.mono p.h.size)⟩
  intro z hz
  obtain rfl := lin_psi4.1 hz
  refine hK _ ?_
  clear hK K1 hz
  iterate 4 (refine loose_wanted rfl (fun K hK => ?_); go_simp; refine hK _ ?_; clear hK K)
  refine loose_wanted rfl (fun K1 hK => ?_)
  go_simp
  refine ⟨fun p => (Lerp_any _ _ _ p.w).mono ?_, ?_⟩
  · rintro e w' ⟨rfl, q, rfl⟩
    exact ⟨_, rfl, lin_psi3.2 rfl, below_drewN p.h q⟩
  intro z hz
  obtain rfl := lin_psi3.1 hz
  refine hK _ ?_
  clear hK K1 hz
  refine loose_nil (fun w5 hb5 => ?_)
  go_wp2_with fail
  go_ret
  exact ⟨ret_f HR.out.symm, hb5⟩
/-- What the callees answer: mixed along the first axis, or what is mixed. -/
def GrePsi (t0 t1 : Nat) (args : Array Value) (u : Value) : Prop :=
  (args.size = 6 → u = .float .f32 (if argI args 0 = 0 then t0 else t1)) ∧ (args.size = 3 → u = .float .f32 (lerpF (argF args 0) (argF args 1) (argF args 2)))
theorem gre_psi0 {t0 t1 : Nat} {u v1 v2 v3 v4 v5 : Value} : GrePsi t0 t1 #[.int .i64 0, v1, v2, v3, v4, v5] u ↔ u = .float .f32 t0 :=
  ⟨fun h => h.1 rfl, fun h => ⟨fun _ => h, fun h => by simp at h⟩⟩
theorem gre_psi1 {t0 t1 : Nat} {u v1 v2 v3 v4 v5 : Value} : GrePsi t0 t1 #[.int .i64 1, v1, v2, v3, v4, v5] u ↔ u = .float .f32 t1 :=
  ⟨fun h => h.1 rfl, fun h => ⟨fun _ => h, fun h => by simp at h⟩⟩
theorem gre_psi3 {t0 t1 : Nat} {u : Value} {a b t : Nat} : GrePsi t0 t1 #[.float .f32 a, .float .f32 b, .float .f32 t] u ↔ u = .float .f32 (lerpF a b t) :=
  ⟨fun h => h.2 rfl, fun h => ⟨fun h => by simp at h, fun _ => h⟩⟩
set_option maxRecDepth 100000 in
set_option maxHeartbeats 1600000 in
theorem gre_any (dk t0 t1 x1 pf ps pc pa pm : Nat) (w : World) (F : w.cell? ⟨pf, 0, none⟩ = some (.func (.func 33) #[] #[.pointer (some ⟨pc, 0, none⟩), .pointer (some ⟨pa, 0, none⟩), .pointer (some ⟨pm, 0, none⟩), .pointer (some ⟨ps, 0, none⟩)])) (X : w.cell? ⟨ps, 1, none⟩ = some (.float .f32 x1))
    (h0 : ∀ w', Below w.heap.size w w' → Calls Try.prog 33 #[.int .i64 0, .int .i64 dk, .pointer (some ⟨pc, 0, none⟩), .pointer (some ⟨pa, 0, none⟩), .pointer (some ⟨pm, 0, none⟩), .pointer (some ⟨ps, 0, none⟩)] w' fun e w'' => e = .returned (.float .f32 t0) ∧ Below w'.heap.size w' w'')
    (h1 : ∀ w', Below w.heap.size w w' → Calls Try.prog 33 #[.int .i64 1, .int .i64 dk, .pointer (some ⟨pc, 0, none⟩), .pointer (some ⟨pa, 0, none⟩), .pointer (some ⟨pm, 0, none⟩), .pointer (some ⟨ps, 0, none⟩)] w' fun e w'' => e = .returned (.float .f32 t1) ∧ Below w'.heap.size w' w'') :
    Calls Try.prog 35 #[.int .i64 dk, .pointer (some ⟨pf, 0, none⟩), .pointer (some ⟨ps, 0, none⟩)] w fun e w' =>
      e = .returned (.float .f32 (lerpF t0 t1 x1)) ∧ Below w.heap.size w w' := by
  have H0 := Lib.hid h0; have H1 := Lib.hid h1
  have fl := cell_lt F; have xl := cell_lt X
  simp only at fl xl
  clear h0 h1
  go_enter Try.func35, Try.ntmps35
  go_wp2_with fail
  refine wp_region_loose 9 (fun _ args u => GrePsi t0 t1 args u) (by kernel_rfl) (by kernel_rfl) ?_
  simp only [List.take_succ_cons, List.take_zero, List.drop_succ_cons, List.drop_zero]
  iterate 2 (refine loose_wanted rfl (fun K hK => ?_); go_simp; refine hK _ ?_; clear hK K)
  refine loose_wanted rfl (fun K1 hK => ?_)
  go_simp
  refine ⟨fun p => (H0.out _ p.h).mono ?_, ?_⟩
  · rintro e w' ⟨rfl, hb⟩
    exact ⟨_, rfl, gre_psi0.2 rfl, p.h.trans (hb.mono p.h.size)⟩
  intro z hz
  obtain rfl := gre_psi0.1 hz
  refine hK _ ?_
  clear hK K1 hz
  iterate 2 (refine loose_wanted rfl (fun K hK => ?_); go_simp; refine hK _ ?_; clear hK K)
  refine loose_wanted rfl (fun K1 hK => ?_)
  go_simp
  refine ⟨fun p => (H1.out _ p.h).mono ?_, ?_⟩
  · rintro e w' ⟨rfl, hb⟩
    exact ⟨_, rfl, gre_psi1.2 rfl, p.h.trans (hb.mono p.h.size)⟩
  intro z hz
  obtain rfl := gre_psi1.1 hz
  refine hK _ ?_
  clear hK K1 hz
  iterate 2 (refine loose_wanted rfl (fun K hK => ?_); go_simp; refine hK _ ?_; clear hK K)
  refine loose_wanted rfl (fun K1 hK => ?_)
  go_simp
  refine ⟨fun p => (Lerp_any _ _ _ p.w).mono ?_, ?_⟩
  · rintro e w' ⟨rfl, q, rfl⟩
    exact ⟨_, rfl, gre_psi3.2 rfl, below_drewN p.h q⟩
  intro z hz
  obtain rfl := gre_psi3.1 hz
  refine hK _ ?_
  clear hK K1 hz
  refine loose_nil (fun w5 hb5 => ?_)
  go_wp2_with fail
  go_ret
  exact ⟨rfl, hb5⟩
/-- What stands while the places of a pixel are found. -/
structure AxR (w wr : World) (L : List Value) (p : Nat → Nat) (na : Nat) (f : Nat → Int) (g : Nat → Nat) : Prop where
  c : Blk wr w.heap.size L
  p : VecF wr (w.heap.size + 1) 4 p
  z : Blk wr (w.heap.size + 2) [.float .f32 0, .float .f32 0, .float .f32 0, .float .f32 0]
  a : VecI wr na 3 f
  s : VecF wr (na + 1) 3 g
  b : Below w.heap.size w wr
  l : w.heap.size + 2 < na
theorem AxR.past {w wr wy : World} {L : List Value} {p : Nat → Nat} {na : Nat} {f : Nat → Int} {g : Nat → Nat} (k : AxR w wr L p na f g) (h : Below wr.heap.size wr wy) : AxR w wy L p na f g :=
  ⟨k.c.past h, k.p.past h, k.z.past h, k.a.past h, k.s.past h, k.b.trans (h.mono k.b.size), k.l⟩
theorem AxR.setA {w wr : World} {L : List Value} {p : Nat → Nat} {na : Nat} {f : Nat → Int} {g : Nat → Nat} (k : AxR w wr L p na f g) (m : Nat) (hm : m < 3) (x : Int) :
    AxR w (wr.setCell ⟨na, m, none⟩ (.int .i64 x)) L p na (fun j => if j = m then x else f j) g := by
  have l := k.l
  exact ⟨k.c.far _ _ (by simp; omega), k.p.far _ _ (by simp; omega), k.z.far _ _ (by simp; omega), k.a.set m x hm, k.s.far _ _ (by simp), k.b.setCell (by simp; omega) _, l⟩
theorem AxR.setB {w wr : World} {L : List Value} {p : Nat → Nat} {na : Nat} {f : Nat → Int} {g : Nat → Nat} (k : AxR w wr L p na f g) (m : Nat) (hm : m < 3) (u : Nat) :
    AxR w (wr.setCell ⟨na + 1, m, none⟩ (.float .f32 u)) L p na f (fun j => if j = m then u else g j) := by
  have l := k.l
  exact ⟨k.c.far _ _ (by simp; omega), k.p.far _ _ (by simp; omega), k.z.far _ _ (by simp; omega), k.a.far _ _ (by simp), k.s.set m u hm, k.b.setCell (by simp; omega) _, l⟩
theorem ax_keep {w wx W : World} {S lo hi : Nat} {sl : Value} {p : Nat → Nat} {na : Nat} {f : Nat → Int} {g : Nat → Nat} {m v : Nat} (k : AxR w wx [.int .i64 S, .float .f32 lo, .float .f32 hi, sl] p na f g) (h : Below wx.heap.size wx W) (hm : m < 3) (hv : v = p m) :
    W.cell? ⟨w.heap.size, 0, none⟩ = some (.int .i64 S) ∧ W.cell? ⟨w.heap.size, 1, none⟩ = some (.float .f32 lo) ∧ W.cell? ⟨w.heap.size, 2, none⟩ = some (.float .f32 hi) ∧ W.cell? ⟨w.heap.size, 3, none⟩ = some sl ∧ W.cell? ⟨w.heap.size + 1, m, none⟩ = some (.float .f32 v) := by
  have k := k.past h
  exact ⟨k.c.c 0 _ rfl, k.c.c 1 _ rfl, k.c.c 2 _ rfl, k.c.c 3 _ rfl, by rw [hv]; exact k.p.c m (by omega)⟩
end Go.Proofs.Ytmdmjmmplhoniaa

namespace Go.Proofs.Ytmdmjmmplhoniaa
open Go.RowKit
/-- What the callees answer: mixed along two axes, or what is mixed. -/
def BluPsi (t0 t1 : Nat) (args : Array Value) (u : Value) : Prop :=
  (∀ k, args[0]? = some (.int .i64 k) → u = .float .f32 (if k = 0 then t0 else t1)) ∧ (∀ a, args[0]? = some (.float .f32 a) → u = .float .f32 (lerpF a (argF args 1) (argF args 2)))
theorem blu_psi0 {t0 t1 : Nat} {u v1 v2 : Value} : BluPsi t0 t1 #[.int .i64 0, v1, v2] u ↔ u = .float .f32 t0 :=
  ⟨fun h => h.1 0 rfl, fun h => ⟨fun k hk => (by cases hk; exact h), fun a ha => (by cases ha)⟩⟩
theorem blu_psi1 {t0 t1 : Nat} {u v1 v2 : Value} : BluPsi t0 t1 #[.int .i64 1, v1, v2] u ↔ u = .float .f32 t1 :=
  ⟨fun h => h.1 1 rfl, fun h => ⟨fun k hk => (by cases hk; exact h), fun a ha => (by cases ha)⟩⟩
theorem blu_psi3 {t0 t1 : Nat} {u : Value} {a b t : Nat} : BluPsi t0 t1 #[.float .f32 a, .float .f32 b, .float .f32 t] u ↔ u = .float .f32 (lerpF a b t) :=
  ⟨fun h => h.2 a rfl, fun h => ⟨fun k hk => (by cases hk), fun a ha => (by cases ha; exact h)⟩⟩
theorem AxR.far {w wr : World} {L : List Value} {p : Nat → Nat} {na : Nat} {f : Nat → Int} {g : Nat → Nat} (k : AxR w wr L p na f g) (q : Addr) (x : Value) (h : na + 1 < q.block) : AxR w (wr.setCell q x) L p na f g := by
  have l := k.l
  exact ⟨k.c.far _ _ (by omega), k.p.far _ _ (by omega), k.z.far _ _ (by omega), k.a.far _ _ (by omega), k.s.far _ _ (by omega), k.b.setCell (by omega) _, l⟩
theorem linF_at {S lo hi : Nat} {fs p : Nat → Nat} {m : Nat} {x i : Nat → Nat} (hb : brokB p = false) (hm : m < 3) (hi' : i = fun a => (plF S lo hi (p a)).1.toNat) (hx : x = fun a => (plF S lo hi (p a)).2) : linF S lo hi fs p m = bluF S i x fs m := by
  subst hi' hx; unfold linF; simp only [if_pos hm, hb, Bool.false_eq_true, if_false]
set_option maxRecDepth 100000 in
set_option maxHeartbeats 16000000 in
theorem linear_any (S lo hi b off n cap : Nat) (fs p : Nat → Nat) (w : World) (hS : 2 ≤ S ∧ S ≤ 17) (hn : n = 3 * (S * S * S)) (hcap : n ≤ cap) (hc : Row w b off n fs) :
    Calls Try.prog 20 #[.agg #[.int .i64 S, .float .f32 lo, .float .f32 hi, .slice (some ⟨b, off, none⟩) n cap], .agg #[.float .f32 (p 0), .float .f32 (p 1), .float .f32 (p 2), .float .f32 (p 3)]] w fun e w' =>
      e = .returned (.agg #[.float .f32 (linF S lo hi fs p 0), .float .f32 (linF S lo hi fs p 1), .float .f32 (linF S lo hi fs p 2), .float .f32 (linF S lo hi fs p 3)]) ∧ Below w.heap.size w w' := by
  have hbw : b < w.heap.size := hc.lt (by have : 0 < S * S * S := Nat.mul_pos (Nat.mul_pos (by omega) (by omega)) (by omega); omega)
  have HE : Hid (∀ (i x : Nat → Nat) (m dj dk pc pa pm ps : Nat) (w' : World), Below w.heap.size w w' → (∀ a, a < 3 → i a + 2 ≤ S) → m < 3 → dj ≤ 1 → dk ≤ 1 → Blk w' pc [.int .i64 S, .float .f32 lo, .float .f32 hi, .slice (some ⟨b, off, none⟩) n cap] → VecI w' pa 3 (fun j => ((i j : Nat) : Int)) → w'.cell? ⟨pm, 0, none⟩ = some (.int .i64 m) → w'.cell? ⟨ps, 0, none⟩ = some (.float .f32 (x 0)) →
      Calls Try.prog 33 #[.int .i64 dj, .int .i64 dk, .pointer (some ⟨pc, 0, none⟩), .pointer (some ⟨pa, 0, none⟩), .pointer (some ⟨pm, 0, none⟩), .pointer (some ⟨ps, 0, none⟩)] w' fun e w'' => e = .returned (.float .f32 (redF S i x fs m dj dk)) ∧ Below w'.heap.size w' w'') :=
    fun i x m dj dk pc pa pm ps w' hb h1 h2 h3 h4 h5 h6 h7 h8 => red_any S lo hi b off n cap fs i x m dj dk pc pa pm ps w' hS.2 h1 h2 h3 h4 hn hcap (hc.below hb hbw) h5 h6 h7 h8
  have HS := Lib.hid hS
  clear hc hn hcap hbw hS
  go_enter Try.func20, Try.ntmps20
  go_upto_region 1 with fail
  refine wp_world (fun W hW => ?_)
  have CB : Blk W w.heap.size [.int .i64 S, .float .f32 lo, .float .f32 hi, .slice (some ⟨b, off, none⟩) n cap] := by rw [hW]; exact ((Blk.new _ _ _ _ rfl).alloc _).alloc _
  have PB : VecF W (w.heap.size + 1) 4 p := by rw [hW]; exact VecF.of4 ((Blk.new _ _ _ _ (by simp)).alloc _)
  have ZB : Blk W (w.heap.size + 2) [.float .f32 0, .float .f32 0, .float .f32 0, .float .f32 0] := by rw [hW]; exact Blk.new _ _ _ _ (by simp)
  have BW : Below w.heap.size w W := by rw [hW]; (repeat (first | exact Below.refl _ _ | assumption | (refine Below.setCell ?_ (by first | (simp; done) | (simp; omega) | omega) _) | (refine Below.drew ?_) | (refine below_drewN ?_ _) | (refine Below.alloc ?_ (by first | (simp; done) | (simp; omega) | omega) _) | (refine Below.trans ?_ (Below.mono (by assumption) (by first | (simp; done) | (simp; omega) | omega)))))
  clear hW
  have c0 := CB.c 0 _ rfl; have c1 := CB.c 1 _ rfl; have c2 := CB.c 2 _ rfl; have c3 := CB.c 3 _ rfl
  have p0 := PB.c 0 (by omega); have p1 := PB.c 1 (by omega); have p2 := PB.c 2 (by omega); have p3 := PB.c 3 (by omega)
  have HB := Lib.hid (And.intro CB (And.intro PB (And.intro ZB BW)))
  clear CB PB ZB BW
  go_wp2_with fail
  refine (places_any S lo hi _ n cap p _ HS.out).mono ?_
  rintro e w2 ⟨⟨f, g, rfl, hfg⟩, hb2⟩
  have H2 : Hid (Blk w2 w.heap.size [.int .i64 S, .float .f32 lo, .float .f32 hi, .slice (some ⟨b, off, none⟩) n cap] ∧ VecF w2 (w.heap.size + 1) 4 p ∧ Blk w2 (w.heap.size + 2) [.float .f32 0, .float .f32 0, .float .f32 0, .float .f32 0] ∧ Below w.heap.size w w2) :=
    ⟨HB.out.1.past hb2, HB.out.2.1.past hb2, HB.out.2.2.1.past hb2, HB.out.2.2.2.trans (hb2.mono HB.out.2.2.2.size)⟩
  clear c0 c1 c2 c3 p0 p1 p2 p3 HB hb2
  have l2 := H2.out.2.2.1.lt
  go_upto_region 2 with fail
  refine wp_world (fun W2 hW2 => ?_)
  have AB : Blk W2 w2.heap.size [.int .i64 (f 0), .int .i64 (f 1), .int .i64 (f 2)] := by rw [hW2]; exact (Blk.new _ _ _ _ rfl).alloc _
  have SB : Blk W2 (w2.heap.size + 1) [.float .f32 (g 0), .float .f32 (g 1), .float .f32 (g 2)] := by rw [hW2]; exact Blk.new _ _ _ _ (by simp)
  have B2 : Below w2.heap.size w2 W2 := by rw [hW2]; (repeat (first | exact Below.refl _ _ | assumption | (refine Below.setCell ?_ (by first | (simp; done) | (simp; omega) | omega) _) | (refine Below.drew ?_) | (refine below_drewN ?_ _) | (refine Below.alloc ?_ (by first | (simp; done) | (simp; omega) | omega) _) | (refine Below.trans ?_ (Below.mono (by assumption) (by first | (simp; done) | (simp; omega) | omega)))))
  have H3 : Hid (Blk W2 w.heap.size [.int .i64 S, .float .f32 lo, .float .f32 hi, .slice (some ⟨b, off, none⟩) n cap] ∧ VecF W2 (w.heap.size + 1) 4 p ∧ Blk W2 (w.heap.size + 2) [.float .f32 0, .float .f32 0, .float .f32 0, .float .f32 0] ∧ Below w.heap.size w W2) :=
    ⟨H2.out.1.past B2, H2.out.2.1.past B2, H2.out.2.2.1.past B2, H2.out.2.2.2.trans (B2.mono H2.out.2.2.2.size)⟩
  have HAS : Hid (VecI W2 w2.heap.size 3 f ∧ VecF W2 (w2.heap.size + 1) 3 g ∧ w.heap.size + 2 < w2.heap.size) := ⟨VecI.of3 AB, VecF.of3 SB, l2⟩
  clear hW2 H2 AB SB B2
  cases hB : brokB p
  case true =>
    have HBR := Lib.hid hB
    clear hB hfg HAS
    have p3 := H3.out.2.1.c 3 (by omega); have pl := H3.out.2.1.lt; have B3 := H3.out.2.2.2
    have z0 := H3.out.2.2.1.c 0 _ rfl; have z1 := H3.out.2.2.1.c 1 _ rfl; have z2 := H3.out.2.2.1.c 2 _ rfl; have z3 := H3.out.2.2.1.c 3 _ rfl; have zf := H3.out.2.2.1.f; have zl := H3.out.2.2.1.lt
    have HZ := Lib.hid (And.intro H3.out.2.2.1 B3)
    clear H3 B3
    go_wp2_with fail
    refine (lost_any _ _).mono ?_
    rintro e w4 ⟨rfl, hb4⟩
    have ZB := HZ.out.1.past hb4
    have B4 := HZ.out.2.trans (hb4.mono HZ.out.2.size)
    clear HZ hb4 z0 z1 z2 z3 zf zl p3 pl l2
    have z0 := ZB.c 0 _ rfl; have z1 := ZB.c 1 _ rfl; have z2 := ZB.c 2 _ rfl; have z3 := ZB.c 3 _ rfl; have zf := ZB.f; have zl := ZB.lt
    clear ZB
    go_wp2_with fail
    refine bodyPost_ret (v := .agg #[.float .f32 2143289344, .float .f32 2143289344, .float .f32 2143289344, .float .f32 (cn .f32 (p 3))]) (by simp [results, Try.results20, go_sem, z0, z1, z2, z3]) rfl ⟨by unfold linF; simp [HBR.out], ?_⟩
    exact (((B4.setCell (by first | (simp; done) | (simp; omega) | omega) _).setCell (by first | (simp; done) | (simp; omega) | omega) _).setCell (by first | (simp; done) | (simp; omega) | omega) _).setCell (by first | (simp; done) | (simp; omega) | omega) _
  case false =>
    have HF := Lib.hid (hfg hB)
    have HBR := Lib.hid hB
    clear hfg hB l2
    obtain ⟨i, hii⟩ : ∃ i : Nat → Nat, i = fun a => (plF S lo hi (p a)).1.toNat := ⟨_, rfl⟩
    obtain ⟨x, hx⟩ : ∃ x : Nat → Nat, x = fun a => (plF S lo hi (p a)).2 := ⟨_, rfl⟩
    have HI : Hid (∀ j, j < 3 → f j = ((i j : Nat) : Int) ∧ i j + 2 ≤ S ∧ g j = x j ∧ isN .f32 (x j) = false) := fun j hj => by
      obtain ⟨h1, h2⟩ := HF.out j hj
      obtain ⟨⟨N, e, l⟩, hq⟩ := plF_ok (S := S) (lo := lo) (hi := hi) (v := p j) HS.out
      have : i j = N := by rw [hii]; show (plF S lo hi (p j)).1.toNat = N; rw [e]; rfl
      exact ⟨by rw [h1, e, this], by omega, by rw [h2, hx], by rw [hx]; exact hq⟩
    have HIX := Lib.hid (And.intro hii hx)
    have HA := HAS.out.1.congr (fun j hj => (HI.out j hj).1)
    have HX := HAS.out.2.1.congr (fun j hj => (HI.out j hj).2.2.1)
    have l2 := HAS.out.2.2
    clear HF hii hx HAS
    have HA3 : Hid (AxR w W2 [.int .i64 S, .float .f32 lo, .float .f32 hi, .slice (some ⟨b, off, none⟩) n cap] p w2.heap.size (fun j => ((i j : Nat) : Int)) x) := ⟨H3.out.1, H3.out.2.1, H3.out.2.2.1, HA, HX, H3.out.2.2.2, l2⟩
    clear HA HX l2 H3
    generalize w2.heap.size = na at *
    have p3 := HA3.out.p.c 3 (by omega); have pl := HA3.out.p.lt
    go_upto_region 5 with (first | (go_at_call 32; refine (Clean_any _ _).mono ?_; rintro e w' ⟨rfl, rfl⟩))
    refine wp_world (fun W5 hW5 => ?_)
    have OB : VecF W5 W2.heap.size 4 (fun j => if j = 3 then cn .f32 (p 3) else 0) := by rw [hW5]; exact VecF.of4 (f := fun j => if j = 3 then cn .f32 (p 3) else 0) (Blk.new _ _ _ _ rfl)
    have B5 : Below W2.heap.size W2 W5 := by rw [hW5]; (repeat (first | exact Below.refl _ _ | assumption | (refine Below.setCell ?_ (by first | (simp; done) | (simp; omega) | omega) _) | (refine Below.drew ?_) | (refine below_drewN ?_ _) | (refine Below.alloc ?_ (by first | (simp; done) | (simp; omega) | omega) _) | (refine Below.trans ?_ (Below.mono (by assumption) (by first | (simp; done) | (simp; omega) | omega)))))
    have lnz : na + 1 < W2.heap.size := HA3.out.s.lt
    have HA5 := Lib.hid (HA3.out.past B5)
    have HO5 := Lib.hid (And.intro OB lnz)
    clear hW5 OB B5 HA3 lnz p3 pl
    generalize W2.heap.size = nz at *
    go_wp2_with fail
    go_loopw [28] (fun s28 wr => ∃ m : Nat, m ≤ 3 ∧ s28 = .int .i64 m ∧ AxR w wr [.int .i64 S, .float .f32 lo, .float .f32 hi, .slice (some ⟨b, off, none⟩) n cap] p na (fun j => ((i j : Nat) : Int)) x ∧ ∃ h, VecF wr nz 4 h ∧ h 3 = cn .f32 (p 3) ∧ ∀ j, j < m → h j = linF S lo hi fs p j) (fun s28 _ => 3 - (intOf s28).toNat)
    case atStart => exact ⟨0, by omega, rfl, HA5.out, _, HO5.out.1, rfl, fun j hj => by omega⟩
    case round =>
      obtain ⟨m, hm, rfl, hR, h, hO, h3, he⟩ := hrel
      have HL := Lib.hid HO5.out.2
      have HR := Lib.hid hR; have HO := Lib.hid (And.intro hO (And.intro h3 he))
      clear hR hO h3 he HA5 HO5
      by_cases hm3 : m < 3
      · have i3 : (m : Int) < 3 := by omega
        have i4 : (m : Int) < 4 := by omega
        go_upto_region 10 with fail
        refine wp_world (fun W10 hW10 => ?_)
        have MB : Blk W10 wr.heap.size [.int .i64 m] := by rw [hW10]; exact (Blk.new _ _ _ _ rfl).alloc _
        have FB : Blk W10 (wr.heap.size + 1) [.func (.func 33) #[] #[.pointer (some ⟨w.heap.size, 0, none⟩), .pointer (some ⟨na, 0, none⟩), .pointer (some ⟨wr.heap.size, 0, none⟩), .pointer (some ⟨na + 1, 0, none⟩)]] := by rw [hW10]; exact Blk.new _ _ _ _ (by simp)
        have B10 : Below wr.heap.size wr W10 := by rw [hW10]; (repeat (first | exact Below.refl _ _ | assumption | (refine Below.setCell ?_ (by first | (simp; done) | (simp; omega) | omega) _) | (refine Below.drew ?_) | (refine below_drewN ?_ _) | (refine Below.alloc ?_ (by first | (simp; done) | (simp; omega) | omega) _) | (refine Below.trans ?_ (Below.mono (by assumption) (by first | (simp; done) | (simp; omega) | omega)))))
        have HR10 := Lib.hid (HR.out.past B10)
        have HO10 := Lib.hid (And.intro (HO.out.1.past B10) HO.out.2)
        have s1 := HR10.out.s.c 1 (by omega); have s2 := HR10.out.s.c 2 (by omega); have sl := HR10.out.s.lt
        have m0 := MB.c 0 _ rfl; have ml := MB.lt
        have HF := Lib.hid (And.intro MB FB)
        have HG : Hid (∀ dk, dk ≤ 1 → ∀ w', Below W10.heap.size W10 w' → Calls Try.prog 35 #[.int .i64 (dk : Nat), .pointer (some ⟨wr.heap.size + 1, 0, none⟩), .pointer (some ⟨na + 1, 0, none⟩)] w' fun e w'' => e = .returned (.float .f32 (greF S i x fs m dk)) ∧ Below w'.heap.size w' w'') := fun dk hdk w' hb =>
          gre_any dk (redF S i x fs m 0 dk) (redF S i x fs m 1 dk) (x 1) (wr.heap.size + 1) (na + 1) w.heap.size na wr.heap.size w' ((HF.out.2.past hb).c 0 _ rfl) ((HR10.out.past hb).s.c 1 (by omega))
            (fun w'' hb2 => HE.out i x m 0 dk _ _ _ _ w'' ((HR10.out.past hb).past hb2).b (fun a ha => (HI.out a ha).2.1) hm3 (by omega) hdk ((HR10.out.past hb).past hb2).c ((HR10.out.past hb).past hb2).a (((HF.out.1.past hb).past hb2).c 0 _ rfl) (((HR10.out.past hb).past hb2).s.c 0 (by omega)))
            (fun w'' hb2 => HE.out i x m 1 dk _ _ _ _ w'' ((HR10.out.past hb).past hb2).b (fun a ha => (HI.out a ha).2.1) hm3 (by omega) hdk ((HR10.out.past hb).past hb2).c ((HR10.out.past hb).past hb2).a (((HF.out.1.past hb).past hb2).c 0 _ rfl) (((HR10.out.past hb).past hb2).s.c 0 (by omega)))
        have HM := Lib.hid (linF_at (fs := fs) HBR.out hm3 HIX.out.1 HIX.out.2)
        clear hW10 MB FB B10 HR HO HF
        obtain ⟨t0, ht0⟩ : ∃ z, z = greF S i x fs m 0 := ⟨_, rfl⟩
        obtain ⟨t1, ht1⟩ : ∃ z, z = greF S i x fs m 1 := ⟨_, rfl⟩
        have G0 := HG.out 0 (by omega)
        have G1 := HG.out 1 (by omega)
        rw [← ht0] at G0
        rw [← ht1] at G1
        have HG0 := Lib.hid G0; have HG1 := Lib.hid G1
        have HT := Lib.hid (show linF S lo hi fs p m = lerpF t0 t1 (x 2) by rw [HM.out, ht0, ht1]; rfl)
        clear G0 G1 HG ht0 ht1 HM
        refine wp_region_loose 9 (fun _ args u => BluPsi t0 t1 args u) (by kernel_rfl) (by kernel_rfl) ?_
        simp only [List.take_succ_cons, List.take_zero, List.drop_succ_cons, List.drop_zero]
        iterate 2 (refine loose_wanted rfl (fun K hK => ?_); go_simp; refine hK _ ?_; clear hK K)
        refine loose_wanted rfl (fun K1 hK => ?_)
        go_simp
        refine ⟨fun p => (HG0.out _ p.h).mono ?_, ?_⟩
        · rintro e w' ⟨rfl, hb⟩
          exact ⟨_, rfl, blu_psi0.2 rfl, p.h.trans (hb.mono p.h.size)⟩
        intro z hz
        obtain rfl := blu_psi0.1 hz
        refine hK _ ?_
        clear hK K1 hz
        iterate 1 (refine loose_wanted rfl (fun K hK => ?_); go_simp; refine hK _ ?_; clear hK K)
        refine loose_wanted rfl (fun K1 hK => ?_)
        go_simp
        refine ⟨fun p => (HG1.out _ p.h).mono ?_, ?_⟩
        · rintro e w' ⟨rfl, hb⟩
          exact ⟨_, rfl, blu_psi1.2 rfl, p.h.trans (hb.mono p.h.size)⟩
        intro z hz
        obtain rfl := blu_psi1.1 hz
        refine hK _ ?_
        clear hK K1 hz
        iterate 2 (refine loose_wanted rfl (fun K hK => ?_); go_simp; refine hK _ ?_; clear hK K)
        refine loose_wanted rfl (fun K1 hK => ?_)
        go_simp
        refine ⟨fun p => (Lerp_any _ _ _ p.w).mono ?_, ?_⟩
        · rintro e w' ⟨rfl, q, rfl⟩
          exact ⟨_, rfl, blu_psi3.2 rfl, below_drewN p.h q⟩
        intro z hz
        obtain rfl := blu_psi3.1 hz
        refine hK _ ?_
        clear hK K1 hz
        iterate 1 (refine loose_wanted rfl (fun K hK => ?_); go_simp; refine hK _ ?_; clear hK K)
        refine loose_nil (fun w5 hb5 => ?_)
        have HR5 := Lib.hid (HR10.out.past hb5)
        have HO5 := Lib.hid (And.intro (HO10.out.1.past hb5) HO10.out.2)
        clear hb5 s1 s2 sl m0 ml HR10 HO10
        have o0 := HO5.out.1.c m (by omega); have ol := HO5.out.1.lt; have of := HO5.out.1.f
        go_wp2_with fail
        go_roundw
        case rel => exact ⟨m + 1, by omega, by first | rfl | go_num, HR5.out.far _ _ HL.out, _, HO5.out.1.set m _ (by omega), by show (if 3 = m then _ else _) = _; rw [if_neg (by omega)]; exact HO5.out.2.1, tet_next HO5.out.2.2 HT.out.symm⟩
        case measure => simp [intOf]; omega
      · obtain rfl : m = 3 := by omega
        clear hm hm3 HE HI HIX HBR
        have z0 := HR.out.z.c 0 _ rfl; have z1 := HR.out.z.c 1 _ rfl; have z2 := HR.out.z.c 2 _ rfl; have z3 := HR.out.z.c 3 _ rfl; have zf := HR.out.z.f; have zl := HR.out.z.lt
        have o0 := HO.out.1.c 0 (by omega); have o1 := HO.out.1.c 1 (by omega); have o2 := HO.out.1.c 2 (by omega); have o3 := HO.out.1.c 3 (by omega)
        rw [HO.out.2.2 0 (by omega)] at o0; rw [HO.out.2.2 1 (by omega)] at o1; rw [HO.out.2.2 2 (by omega)] at o2
        rw [HO.out.2.1, show cn .f32 (p 3) = linF S lo hi fs p 3 from by simp [linF]] at o3
        have B5 := HR.out.b
        clear HR HO
        obtain ⟨g0, hg0⟩ : ∃ z, z = linF S lo hi fs p 0 := ⟨_, rfl⟩
        rw [← hg0] at o0
        obtain ⟨g1, hg1⟩ : ∃ z, z = linF S lo hi fs p 1 := ⟨_, rfl⟩
        rw [← hg1] at o1
        obtain ⟨g2, hg2⟩ : ∃ z, z = linF S lo hi fs p 2 := ⟨_, rfl⟩
        rw [← hg2] at o2
        obtain ⟨g3, hg3⟩ : ∃ z, z = linF S lo hi fs p 3 := ⟨_, rfl⟩
        rw [← hg3] at o3
        have HG := Lib.hid (And.intro hg0 (And.intro hg1 (And.intro hg2 hg3)))
        clear hg0 hg1 hg2 hg3
        go_wp2_with fail
        refine bodyPost_ret (v := .agg #[.float .f32 g0, .float .f32 g1, .float .f32 g2, .float .f32 g3]) (by simp [results, Try.results20, go_sem, z0, z1, z2, z3]) rfl ⟨by rw [HG.out.1, HG.out.2.1, HG.out.2.2.1, HG.out.2.2.2], ?_⟩
        exact (((B5.setCell (by first | (simp; done) | (simp; omega) | omega) _).setCell (by first | (simp; done) | (simp; omega) | omega) _).setCell (by first | (simp; done) | (simp; omega) | omega) _).setCell (by first | (simp; done) | (simp; omega) | omega) _
end Go.Proofs.Ytmdmjmmplhoniaa
