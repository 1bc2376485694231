/- The document's colour between eight entries: the closure of dyeref2.LinearOf, LinearOf. Conditions: the cube is right. -/
import Derived.Test.YtkmjboffjhcoaaaCO
import Derived.Test.YtkmjboffjhcoaaaCuN
namespace Go.Proofs.Ytkmjboffjhcoaaa
open Go.RowKit
theorem lio_psi {S : Nat} {fs : Nat → Nat} {c u : Value} {a b d : Nat} : LinPsi S (fun t => cn .f32 (fs t)) #[c, .int .i64 a, .int .i64 b, .int .i64 d] u ↔ u = .agg #[.float .f32 (cn .f32 (fs (3 * enI S a b d))), .float .f32 (cn .f32 (fs (3 * enI S a b d + 1))), .float .f32 (cn .f32 (fs (3 * enI S a b d + 2)))] := lin_psi4
set_option maxRecDepth 100000 in
set_option maxHeartbeats 1600000 in
theorem redO_any (S lo hi b off n cap : Nat) (fs i x : Nat → Nat) (m dj dk pc pi pj pk pm ps : Nat) (w : World) (hS : S ≤ 17) (hi' : ∀ a, a < 3 → i a + 2 ≤ S) (hm : m < 3) (hdj : dj ≤ 1) (hdk : dk ≤ 1) (hn : n = 3 * (S * S * S)) (hc : Row w b off n fs)
    (C : Blk w pc [.int .i64 S, .float .f32 lo, .float .f32 hi, .slice (some ⟨b, off, none⟩) n cap]) (A0 : w.cell? ⟨pi, 0, none⟩ = some (.int .i64 (i 0 : Nat))) (A1 : w.cell? ⟨pj, 0, none⟩ = some (.int .i64 (i 1 : Nat))) (A2 : w.cell? ⟨pk, 0, none⟩ = some (.int .i64 (i 2 : Nat))) (M : w.cell? ⟨pm, 0, none⟩ = some (.int .i64 m)) (X : w.cell? ⟨ps, 0, none⟩ = some (.float .f32 (x 0))) :
    Calls Try.prog 170 #[.int .i64 dj, .int .i64 dk, .pointer (some ⟨pc, 0, none⟩), .pointer (some ⟨pi, 0, none⟩), .pointer (some ⟨pj, 0, none⟩), .pointer (some ⟨pk, 0, none⟩), .pointer (some ⟨pm, 0, none⟩), .pointer (some ⟨ps, 0, none⟩)] w fun e w' =>
      e = .returned (.float .f32 (redF S i x fs m dj dk)) ∧ Below w.heap.size w w' := by
  have b0 := hi' 0 (by omega); have b1 := hi' 1 (by omega); have b2 := hi' 2 (by omega)
  have hbw : b < w.heap.size := hc.lt (by have : 0 < S * S * S := Nat.mul_pos (Nat.mul_pos (by omega) (by omega)) (by omega); omega)
  obtain ⟨I, hI⟩ : ∃ I, I = i 0 := ⟨_, rfl⟩
  obtain ⟨I1, hI1⟩ : ∃ I1, I1 = I + 1 := ⟨_, rfl⟩
  obtain ⟨J, hJ⟩ : ∃ J, J = i 1 + dj := ⟨_, rfl⟩
  obtain ⟨D, hD⟩ : ∃ D, D = i 2 + dk := ⟨_, rfl⟩
  have u0 : IntKind.i64.wrap ((I : Int) + 1) = (I1 : Int) := by rw [IntKind.wrap_i64]; omega
  have u1 : IntKind.i64.wrap (((i 1 : Nat) : Int) + (dj : Int)) = (J : Int) := by rw [IntKind.wrap_i64]; omega
  have u2 : IntKind.i64.wrap (((i 2 : Nat) : Int) + (dk : Int)) = (D : Int) := by rw [IntKind.wrap_i64]; omega
  have HE : Hid (∀ z w', z < S → Below w.heap.size w w' → Calls Try.prog 40 #[.agg #[.int .i64 S, .float .f32 lo, .float .f32 hi, .slice (some ⟨b, off, none⟩) n cap], .int .i64 (z : Nat), .int .i64 (J : Nat), .int .i64 (D : Nat)] w' fun e w'' =>
      e = .returned (.agg #[.float .f32 (cn .f32 (fs (3 * enI S z J D))), .float .f32 (cn .f32 (fs (3 * enI S z J D + 1))), .float .f32 (cn .f32 (fs (3 * enI S z J D + 2)))]) ∧ Below w'.heap.size w' w'') := fun z w' hz hb => EntryOf_any S z J D lo hi b off n cap fs w' hS hz (by omega) (by omega) hn (hc.below hb hbw)
  have HR : Hid (redF S i x fs m dj dk = lerpF (cn .f32 (fs (3 * enI S I J D + m))) (cn .f32 (fs (3 * enI S I1 J D + m))) (x 0)) := by rw [lerpF_cn]; unfold redF; rw [hI1, hI, hJ, hD]; exact rfl
  have HB := Lib.hid (show I < S ∧ I1 < S by omega)
  have jx : ∀ (E : Nat) w, (Instr.index 58 (.agg #[.float .f32 (cn .f32 (fs E)), .float .f32 (cn .f32 (fs (E + 1))), .float .f32 (cn .f32 (fs (E + 2)))]) (.int .i64 (m : Int))).run Try.prog w = .ok (.float .f32 (cn .f32 (fs (E + m)))) w := fun E w => by
    rcases (show m = 0 ∨ m = 1 ∨ m = 2 by omega) with rfl | rfl | rfl <;> kernel_rfl
  have j1 := jx (3 * enI S I J D); have j2 := jx (3 * enI S I1 J D)
  have c0 := C.c 0 _ rfl; have c1 := C.c 1 _ rfl; have c2 := C.c 2 _ rfl; have c3 := C.c 3 _ rfl; have cl := C.lt
  rw [← hI] at A0
  have ml := cell_lt M; have xl := cell_lt X; have l0 := cell_lt A0; have l1 := cell_lt A1; have l2 := cell_lt A2
  simp only at ml xl l0 l1 l2
  clear hS hi' hdj hdk hn hc C b0 b1 b2 hI hI1 hJ hD hbw jx hm
  generalize x 0 = x0 at *
  go_enter Try.func170, Try.ntmps170
  go_wp2_with fail
  refine wp_region_loose 25 (fun _ args u => LinPsi S (fun t => cn .f32 (fs t)) args u) (by kernel_rfl) (by kernel_rfl) ?_
  simp only [List.take_succ_cons, List.take_zero, List.drop_succ_cons, List.drop_zero]
  iterate 8 (refine loose_wanted rfl (fun K hK => ?_); go_simp; refine hK _ ?_; clear hK K)
  refine loose_wanted rfl (fun K1 hK => ?_)
  go_simp
  refine ⟨fun p => (HE.out _ _ HB.out.1 p.h).mono ?_, ?_⟩
  · rintro e w' ⟨rfl, hb⟩
    exact ⟨_, rfl, lio_psi.2 rfl, p.h.trans (hb.mono p.h.size)⟩
  intro z hz
  obtain rfl := lio_psi.1 hz
  refine hK _ ?_
  clear hK K1 hz
  iterate 11 (refine loose_wanted rfl (fun K hK => ?_); go_simp; refine hK _ ?_; clear hK K)
  refine loose_wanted rfl (fun K1 hK => ?_)
  go_simp
  refine ⟨fun p => (HE.out _ _ HB.out.2 p.h).mono ?_, ?_⟩
  · rintro e w' ⟨rfl, hb⟩
    exact ⟨_, rfl, lio_psi.2 rfl, p.h.trans (hb.mono p.h.size)⟩
  intro z hz
  obtain rfl := lio_psi.1 hz
  refine hK _ ?_
  clear hK K1 hz
  iterate 3 (refine loose_wanted rfl (fun K hK => ?_); go_simp; refine hK _ ?_; clear hK K)
  refine loose_wanted rfl (fun K1 hK => ?_)
  go_simp
  refine ⟨fun p => (LerpOf_any _ _ _ p.w).mono ?_, ?_⟩
  · rintro e w' ⟨rfl, q, rfl⟩
    exact ⟨_, rfl, lin_psi3.2 rfl, below_drewN p.h q⟩
  intro z hz
  obtain rfl := lin_psi3.1 hz
  refine hK _ ?_
  clear hK K1 hz
  refine loose_nil (fun w5 hb5 => ?_)
  go_wp2_with fail
  go_ret
  exact ⟨ret_f HR.out.symm, hb5⟩
/-- What stands while a colour is found between eight entries. -/
structure LoR (w wr : World) (L : List Value) (p : Nat → Nat) (ni nx nj nk : Nat) (i : Nat → Nat) (x0 : Nat) : Prop where
  c : Blk wr w.heap.size L
  p : VecF wr (w.heap.size + 1) 4 p
  z : Blk wr (w.heap.size + 2) [.float .f32 0, .float .f32 0, .float .f32 0, .float .f32 0]
  ii : Blk wr ni [.int .i64 (i 0 : Nat)]
  xx : Blk wr nx [.float .f32 x0]
  jj : Blk wr nj [.int .i64 (i 1 : Nat)]
  kk : Blk wr nk [.int .i64 (i 2 : Nat)]
  b : Below w.heap.size w wr
  l : w.heap.size + 2 < ni ∧ ni < nx ∧ nx < nj ∧ nj < nk
theorem LoR.past {w wr wy : World} {L : List Value} {p : Nat → Nat} {ni nx nj nk : Nat} {i : Nat → Nat} {x0 : Nat} (k : LoR w wr L p ni nx nj nk i x0) (h : Below wr.heap.size wr wy) : LoR w wy L p ni nx nj nk i x0 :=
  ⟨k.c.past h, k.p.past h, k.z.past h, k.ii.past h, k.xx.past h, k.jj.past h, k.kk.past h, k.b.trans (h.mono k.b.size), k.l⟩
theorem LoR.far {w wr : World} {L : List Value} {p : Nat → Nat} {ni nx nj nk : Nat} {i : Nat → Nat} {x0 : Nat} (k : LoR w wr L p ni nx nj nk i x0) (q : Addr) (v : Value) (h : nk < q.block) : LoR w (wr.setCell q v) L p ni nx nj nk i x0 := by
  obtain ⟨l1, l2, l3, l4⟩ := k.l
  exact ⟨k.c.far _ _ (by omega), k.p.far _ _ (by omega), k.z.far _ _ (by omega), k.ii.far _ _ (by omega), k.xx.far _ _ (by omega), k.jj.far _ _ (by omega), k.kk.far _ _ (by omega), k.b.setCell (by omega) _, l1, l2, l3, l4⟩
/-- What the callees answer: mixed along the first axis, or what is mixed. -/
def LioPsi (t00 t10 t01 t11 : Nat) (args : Array Value) (u : Value) : Prop :=
  (args.size = 8 → u = .float .f32 (if argI args 1 = 0 then (if argI args 0 = 0 then t00 else t10) else (if argI args 0 = 0 then t01 else t11))) ∧ (args.size = 3 → u = .float .f32 (lerpF (argF args 0) (argF args 1) (argF args 2)))
theorem lio00 {t00 t10 t01 t11 : Nat} {u v1 v2 v3 v4 v5 v6 : Value} : LioPsi t00 t10 t01 t11 #[.int .i64 0, .int .i64 0, v1, v2, v3, v4, v5, v6] u ↔ u = .float .f32 t00 := ⟨fun h => h.1 rfl, fun h => ⟨fun _ => h, fun h => by simp at h⟩⟩
theorem lio10 {t00 t10 t01 t11 : Nat} {u v1 v2 v3 v4 v5 v6 : Value} : LioPsi t00 t10 t01 t11 #[.int .i64 1, .int .i64 0, v1, v2, v3, v4, v5, v6] u ↔ u = .float .f32 t10 := ⟨fun h => h.1 rfl, fun h => ⟨fun _ => h, fun h => by simp at h⟩⟩
theorem lio01 {t00 t10 t01 t11 : Nat} {u v1 v2 v3 v4 v5 v6 : Value} : LioPsi t00 t10 t01 t11 #[.int .i64 0, .int .i64 1, v1, v2, v3, v4, v5, v6] u ↔ u = .float .f32 t01 := ⟨fun h => h.1 rfl, fun h => ⟨fun _ => h, fun h => by simp at h⟩⟩
theorem lio11 {t00 t10 t01 t11 : Nat} {u v1 v2 v3 v4 v5 v6 : Value} : LioPsi t00 t10 t01 t11 #[.int .i64 1, .int .i64 1, v1, v2, v3, v4, v5, v6] u ↔ u = .float .f32 t11 := ⟨fun h => h.1 rfl, fun h => ⟨fun _ => h, fun h => by simp at h⟩⟩
theorem lio3 {t00 t10 t01 t11 : Nat} {u : Value} {a b t : Nat} : LioPsi t00 t10 t01 t11 #[.float .f32 a, .float .f32 b, .float .f32 t] u ↔ u = .float .f32 (lerpF a b t) := ⟨fun h => h.2 rfl, fun h => ⟨fun h => by simp at h, fun _ => h⟩⟩
set_option maxRecDepth 100000 in
set_option maxHeartbeats 16000000 in
theorem LinearOf_any (S lo hi b off n cap : Nat) (fs p : Nat → Nat) (w : World) (hS : 2 ≤ S ∧ S ≤ 17) (hn : n = 3 * (S * S * S)) (hc : Row w b off n fs) :
    Calls Try.prog 96 #[.agg #[.int .i64 S, .float .f32 lo, .float .f32 hi, .slice (some ⟨b, off, none⟩) n cap], .agg #[.float .f32 (p 0), .float .f32 (p 1), .float .f32 (p 2), .float .f32 (p 3)]] w fun e w' =>
      e = .returned (.agg #[.float .f32 (linF S lo hi fs p 0), .float .f32 (linF S lo hi fs p 1), .float .f32 (linF S lo hi fs p 2), .float .f32 (linF S lo hi fs p 3)]) ∧ Below w.heap.size w w' := by
  have hbw : b < w.heap.size := hc.lt (by have : 0 < S * S * S := Nat.mul_pos (Nat.mul_pos (by omega) (by omega)) (by omega); omega)
  have HE : Hid (∀ (i x : Nat → Nat) (m dj dk pc pi pj pk pm ps : Nat) (w' : World), Below w.heap.size w w' → (∀ a, a < 3 → i a + 2 ≤ S) → m < 3 → dj ≤ 1 → dk ≤ 1 → Blk w' pc [.int .i64 S, .float .f32 lo, .float .f32 hi, .slice (some ⟨b, off, none⟩) n cap] → w'.cell? ⟨pi, 0, none⟩ = some (.int .i64 (i 0 : Nat)) → w'.cell? ⟨pj, 0, none⟩ = some (.int .i64 (i 1 : Nat)) → w'.cell? ⟨pk, 0, none⟩ = some (.int .i64 (i 2 : Nat)) → w'.cell? ⟨pm, 0, none⟩ = some (.int .i64 m) → w'.cell? ⟨ps, 0, none⟩ = some (.float .f32 (x 0)) →
      Calls Try.prog 170 #[.int .i64 dj, .int .i64 dk, .pointer (some ⟨pc, 0, none⟩), .pointer (some ⟨pi, 0, none⟩), .pointer (some ⟨pj, 0, none⟩), .pointer (some ⟨pk, 0, none⟩), .pointer (some ⟨pm, 0, none⟩), .pointer (some ⟨ps, 0, none⟩)] w' fun e w'' => e = .returned (.float .f32 (redF S i x fs m dj dk)) ∧ Below w'.heap.size w' w'') :=
    fun i x m dj dk pc pi pj pk pm ps w' hb h1 h2 h3 h4 h5 h6 h7 h8 h9 h10 => redO_any S lo hi b off n cap fs i x m dj dk pc pi pj pk pm ps w' hS.2 h1 h2 h3 h4 hn (hc.below hb hbw) h5 h6 h7 h8 h9 h10
  have HS := Lib.hid hS
  clear hc hn hbw hS
  go_enter Try.func96, Try.ntmps96
  go_upto_region 1 with fail
  refine wp_world (fun W hW => ?_)
  have CB : Blk W w.heap.size [.int .i64 S, .float .f32 lo, .float .f32 hi, .slice (some ⟨b, off, none⟩) n cap] := by rw [hW]; exact ((Blk.new _ _ _ _ rfl).alloc _).alloc _
  have PB : VecF W (w.heap.size + 1) 4 p := by rw [hW]; exact VecF.of4 ((Blk.new _ _ _ _ (by simp)).alloc _)
  have ZB : Blk W (w.heap.size + 2) [.float .f32 0, .float .f32 0, .float .f32 0, .float .f32 0] := by rw [hW]; exact Blk.new _ _ _ _ (by simp)
  have BW : Below w.heap.size w W := by rw [hW]; (repeat (first | exact Below.refl _ _ | assumption | (refine Below.setCell ?_ (by first | (simp; done) | (simp; omega) | omega) _) | (refine Below.drew ?_) | (refine below_drewN ?_ _) | (refine Below.alloc ?_ (by first | (simp; done) | (simp; omega) | omega) _) | (refine Below.trans ?_ (Below.mono (by assumption) (by first | (simp; done) | (simp; omega) | omega)))))
  clear hW
  have p0 := PB.c 0 (by omega); have p1 := PB.c 1 (by omega); have p2 := PB.c 2 (by omega); have p3 := PB.c 3 (by omega)
  have HB := Lib.hid (And.intro CB (And.intro PB (And.intro ZB BW)))
  clear CB PB ZB BW
  go_wp2_with (first | (go_at_call 140; refine (TheNaN_any _).mono ?_; rintro e w' ⟨rfl, rfl⟩))
  refine (broken_any p _).mono ?_
  rintro e w2 ⟨rfl, hb2⟩
  have H2 : Hid (Blk w2 w.heap.size [.int .i64 S, .float .f32 lo, .float .f32 hi, .slice (some ⟨b, off, none⟩) n cap] ∧ VecF w2 (w.heap.size + 1) 4 p ∧ Blk w2 (w.heap.size + 2) [.float .f32 0, .float .f32 0, .float .f32 0, .float .f32 0] ∧ Below w.heap.size w w2) :=
    ⟨HB.out.1.past hb2, HB.out.2.1.past hb2, HB.out.2.2.1.past hb2, HB.out.2.2.2.trans (hb2.mono HB.out.2.2.2.size)⟩
  clear p0 p1 p2 p3 HB hb2
  cases hB : brokB p
  case true =>
    have HBR := Lib.hid hB
    clear hB
    have p3 := H2.out.2.1.c 3 (by omega); have pl := H2.out.2.1.lt; have B3 := H2.out.2.2.2
    have z0 := H2.out.2.2.1.c 0 _ rfl; have z1 := H2.out.2.2.1.c 1 _ rfl; have z2 := H2.out.2.2.1.c 2 _ rfl; have z3 := H2.out.2.2.1.c 3 _ rfl; have zf := H2.out.2.2.1.f; have zl := H2.out.2.2.1.lt
    clear H2
    go_wp2_with (first | (go_at_call 48; refine (Fix_any _ _).mono ?_; rintro e w' ⟨rfl, rfl⟩))
    refine bodyPost_ret (v := .agg #[.float .f32 2143289344, .float .f32 2143289344, .float .f32 2143289344, .float .f32 (cn .f32 (p 3))]) (by simp [results, Try.results96, go_sem, z0, z1, z2, z3]) rfl ⟨by unfold linF; simp [HBR.out], ?_⟩
    exact (((B3.setCell (by first | (simp; done) | (simp; omega) | omega) _).setCell (by first | (simp; done) | (simp; omega) | omega) _).setCell (by first | (simp; done) | (simp; omega) | omega) _).setCell (by first | (simp; done) | (simp; omega) | omega) _
  case false =>
    have HBR := Lib.hid hB
    clear hB
    obtain ⟨i, hii⟩ : ∃ i : Nat → Nat, i = fun a => (plF S lo hi (p a)).1.toNat := ⟨_, rfl⟩
    obtain ⟨x, hx⟩ : ∃ x : Nat → Nat, x = fun a => (plF S lo hi (p a)).2 := ⟨_, rfl⟩
    have HI : Hid (∀ j, j < 3 → (plF S lo hi (p j)).1 = ((i j : Nat) : Int) ∧ (plF S lo hi (p j)).2 = x j ∧ i j + 2 ≤ S) := fun j hj => by
      obtain ⟨⟨N, e, l⟩, hq⟩ := plF_ok (S := S) (lo := lo) (hi := hi) (v := p j) HS.out
      have : i j = N := by rw [hii]; show (plF S lo hi (p j)).1.toNat = N; rw [e]; rfl
      exact ⟨by rw [e, this], by rw [hx], by omega⟩
    have HIX := Lib.hid (And.intro hii hx)
    clear hii hx
    have c0 := H2.out.1.c 0 _ rfl; have c1 := H2.out.1.c 1 _ rfl; have c2 := H2.out.1.c 2 _ rfl; have c3 := H2.out.1.c 3 _ rfl; have cl := H2.out.1.lt
    have pa := H2.out.2.1.c 0 (by omega); have pl := H2.out.2.1.lt
    go_wp2_with fail
    refine (OnAxis_any S lo hi _ _ n cap _ HS.out).mono ?_
    rintro e w3 ⟨rfl, hb⟩
    have H3 : Hid (Blk w3 w.heap.size [.int .i64 S, .float .f32 lo, .float .f32 hi, .slice (some ⟨b, off, none⟩) n cap] ∧ VecF w3 (w.heap.size + 1) 4 p ∧ Blk w3 (w.heap.size + 2) [.float .f32 0, .float .f32 0, .float .f32 0, .float .f32 0] ∧ Below w.heap.size w w3) :=
      ⟨H2.out.1.past hb, H2.out.2.1.past hb, H2.out.2.2.1.past hb, H2.out.2.2.2.trans (hb.mono H2.out.2.2.2.size)⟩
    have BB := Lib.hid hb
    clear hb c0 c1 c2 c3 cl pa pl H2
    rw [(HI.out 0 (by omega)).1, (HI.out 0 (by omega)).2.1]
    go_upto_region 5 with fail
    refine wp_world (fun W4 hW4 => ?_)
    have IB : Blk W4 w3.heap.size [.int .i64 (i 0 : Nat)] := by rw [hW4]; exact (Blk.new _ _ _ _ rfl).alloc _
    have XB : Blk W4 (w3.heap.size + 1) [.float .f32 (x 0)] := by rw [hW4]; exact Blk.new _ _ _ _ (by simp)
    have B4 : Below w3.heap.size w3 W4 := by rw [hW4]; (repeat (first | exact Below.refl _ _ | assumption | (refine Below.setCell ?_ (by first | (simp; done) | (simp; omega) | omega) _) | (refine Below.drew ?_) | (refine below_drewN ?_ _) | (refine Below.alloc ?_ (by first | (simp; done) | (simp; omega) | omega) _) | (refine Below.trans ?_ (Below.mono (by assumption) (by first | (simp; done) | (simp; omega) | omega)))))
    have H4 : Hid (Blk W4 w.heap.size [.int .i64 S, .float .f32 lo, .float .f32 hi, .slice (some ⟨b, off, none⟩) n cap] ∧ VecF W4 (w.heap.size + 1) 4 p ∧ Blk W4 (w.heap.size + 2) [.float .f32 0, .float .f32 0, .float .f32 0, .float .f32 0] ∧ Below w.heap.size w W4) :=
      ⟨H3.out.1.past B4, H3.out.2.1.past B4, H3.out.2.2.1.past B4, H3.out.2.2.2.trans (B4.mono H3.out.2.2.2.size)⟩
    have HN4 := Lib.hid (And.intro IB (And.intro XB H3.out.2.2.1.lt))
    clear hW4 IB XB B4 H3
    generalize w3.heap.size = ni at *
    have c0 := H4.out.1.c 0 _ rfl; have c1 := H4.out.1.c 1 _ rfl; have c2 := H4.out.1.c 2 _ rfl; have c3 := H4.out.1.c 3 _ rfl; have cl := H4.out.1.lt
    have pa := H4.out.2.1.c 1 (by omega); have pl := H4.out.2.1.lt
    go_wp2_with fail
    refine (OnAxis_any S lo hi _ _ n cap _ HS.out).mono ?_
    rintro e w5 ⟨rfl, hb⟩
    have H5 : Hid (Blk w5 w.heap.size [.int .i64 S, .float .f32 lo, .float .f32 hi, .slice (some ⟨b, off, none⟩) n cap] ∧ VecF w5 (w.heap.size + 1) 4 p ∧ Blk w5 (w.heap.size + 2) [.float .f32 0, .float .f32 0, .float .f32 0, .float .f32 0] ∧ Below w.heap.size w w5) :=
      ⟨H4.out.1.past hb, H4.out.2.1.past hb, H4.out.2.2.1.past hb, H4.out.2.2.2.trans (hb.mono H4.out.2.2.2.size)⟩
    have BB := Lib.hid hb
    clear hb c0 c1 c2 c3 cl pa pl H4
    rw [(HI.out 1 (by omega)).1, (HI.out 1 (by omega)).2.1]
    have HN5 := Lib.hid (And.intro (HN4.out.1.past BB.out) (And.intro (HN4.out.2.1.past BB.out) HN4.out.2.2))
    clear HN4 BB
    go_upto_region 6 with fail
    refine wp_world (fun W6 hW6 => ?_)
    have JB : Blk W6 w5.heap.size [.int .i64 (i 1 : Nat)] := by rw [hW6]; exact Blk.new _ _ _ _ rfl
    have B6 : Below w5.heap.size w5 W6 := by rw [hW6]; (repeat (first | exact Below.refl _ _ | assumption | (refine Below.setCell ?_ (by first | (simp; done) | (simp; omega) | omega) _) | (refine Below.drew ?_) | (refine below_drewN ?_ _) | (refine Below.alloc ?_ (by first | (simp; done) | (simp; omega) | omega) _) | (refine Below.trans ?_ (Below.mono (by assumption) (by first | (simp; done) | (simp; omega) | omega)))))
    have H6 : Hid (Blk W6 w.heap.size [.int .i64 S, .float .f32 lo, .float .f32 hi, .slice (some ⟨b, off, none⟩) n cap] ∧ VecF W6 (w.heap.size + 1) 4 p ∧ Blk W6 (w.heap.size + 2) [.float .f32 0, .float .f32 0, .float .f32 0, .float .f32 0] ∧ Below w.heap.size w W6) :=
      ⟨H5.out.1.past B6, H5.out.2.1.past B6, H5.out.2.2.1.past B6, H5.out.2.2.2.trans (B6.mono H5.out.2.2.2.size)⟩
    have HN6 := Lib.hid (And.intro (HN5.out.1.past B6) (And.intro (HN5.out.2.1.past B6) (And.intro HN5.out.2.2 (And.intro JB HN5.out.2.1.lt))))
    clear hW6 JB B6 H5 HN5
    generalize w5.heap.size = nj at *
    have c0 := H6.out.1.c 0 _ rfl; have c1 := H6.out.1.c 1 _ rfl; have c2 := H6.out.1.c 2 _ rfl; have c3 := H6.out.1.c 3 _ rfl; have cl := H6.out.1.lt
    have pa := H6.out.2.1.c 2 (by omega); have pl := H6.out.2.1.lt
    go_wp2_with fail
    refine (OnAxis_any S lo hi _ _ n cap _ HS.out).mono ?_
    rintro e w7 ⟨rfl, hb⟩
    have H7 : Hid (Blk w7 w.heap.size [.int .i64 S, .float .f32 lo, .float .f32 hi, .slice (some ⟨b, off, none⟩) n cap] ∧ VecF w7 (w.heap.size + 1) 4 p ∧ Blk w7 (w.heap.size + 2) [.float .f32 0, .float .f32 0, .float .f32 0, .float .f32 0] ∧ Below w.heap.size w w7) :=
      ⟨H6.out.1.past hb, H6.out.2.1.past hb, H6.out.2.2.1.past hb, H6.out.2.2.2.trans (hb.mono H6.out.2.2.2.size)⟩
    have BB := Lib.hid hb
    clear hb c0 c1 c2 c3 cl pa pl H6
    rw [(HI.out 2 (by omega)).1, (HI.out 2 (by omega)).2.1]
    have HN7 := Lib.hid (And.intro (HN6.out.1.past BB.out) (And.intro (HN6.out.2.1.past BB.out) (And.intro HN6.out.2.2.1 (And.intro (HN6.out.2.2.2.1.past BB.out) HN6.out.2.2.2.2))))
    clear HN6 BB
    go_upto_region 7 with fail
    refine wp_world (fun W8 hW8 => ?_)
    have KB : Blk W8 w7.heap.size [.int .i64 (i 2 : Nat)] := by rw [hW8]; exact Blk.new _ _ _ _ rfl
    have B8 : Below w7.heap.size w7 W8 := by rw [hW8]; (repeat (first | exact Below.refl _ _ | assumption | (refine Below.setCell ?_ (by first | (simp; done) | (simp; omega) | omega) _) | (refine Below.drew ?_) | (refine below_drewN ?_ _) | (refine Below.alloc ?_ (by first | (simp; done) | (simp; omega) | omega) _) | (refine Below.trans ?_ (Below.mono (by assumption) (by first | (simp; done) | (simp; omega) | omega)))))
    have HR8 : Hid (LoR w W8 [.int .i64 S, .float .f32 lo, .float .f32 hi, .slice (some ⟨b, off, none⟩) n cap] p ni (ni + 1) nj w7.heap.size i (x 0)) :=
      ⟨H7.out.1.past B8, H7.out.2.1.past B8, H7.out.2.2.1.past B8, HN7.out.1.past B8, HN7.out.2.1.past B8, HN7.out.2.2.2.1.past B8, KB, H7.out.2.2.2.trans (B8.mono H7.out.2.2.2.size), HN7.out.2.2.1, by omega, HN7.out.2.2.2.2, HN7.out.2.2.2.1.lt⟩
    clear hW8 KB B8 H7 HN7
    generalize w7.heap.size = nk at *
    have p3 := HR8.out.p.c 3 (by omega); have pl := HR8.out.p.lt
    go_upto_region 8 with (first | (go_at_call 48; refine (Fix_any _ _).mono ?_; rintro e w' ⟨rfl, rfl⟩))
    refine wp_world (fun W9 hW9 => ?_)
    have OB : VecF W9 W8.heap.size 4 (fun j => if j = 3 then cn .f32 (p 3) else 0) := by rw [hW9]; exact VecF.of4 (f := fun j => if j = 3 then cn .f32 (p 3) else 0) (Blk.new _ _ _ _ rfl)
    have B9 : Below W8.heap.size W8 W9 := by rw [hW9]; (repeat (first | exact Below.refl _ _ | assumption | (refine Below.setCell ?_ (by first | (simp; done) | (simp; omega) | omega) _) | (refine Below.drew ?_) | (refine below_drewN ?_ _) | (refine Below.alloc ?_ (by first | (simp; done) | (simp; omega) | omega) _) | (refine Below.trans ?_ (Below.mono (by assumption) (by first | (simp; done) | (simp; omega) | omega)))))
    have lnz : nk < W8.heap.size := HR8.out.kk.lt
    have HR9 := Lib.hid (HR8.out.past B9)
    have HO9 := Lib.hid (And.intro OB lnz)
    clear hW9 OB B9 HR8 lnz p3 pl
    generalize W8.heap.size = nz at *
    go_wp2_with fail
    go_loopw [50] (fun s50 wr => ∃ m : Nat, m ≤ 3 ∧ s50 = .int .i64 m ∧ LoR w wr [.int .i64 S, .float .f32 lo, .float .f32 hi, .slice (some ⟨b, off, none⟩) n cap] p ni (ni + 1) nj nk i (x 0) ∧ ∃ h, VecF wr nz 4 h ∧ h 3 = cn .f32 (p 3) ∧ ∀ j, j < m → h j = linF S lo hi fs p j) (fun s50 _ => 3 - (intOf s50).toNat)
    case atStart => exact ⟨0, by omega, rfl, HR9.out, _, HO9.out.1, rfl, fun j hj => by omega⟩
    case round =>
      obtain ⟨m, hm, rfl, hR, h, hO, h3, he⟩ := hrel
      have HL := Lib.hid HO9.out.2
      have HR := Lib.hid hR; have HO := Lib.hid (And.intro hO (And.intro h3 he))
      clear hR hO h3 he HR9 HO9
      by_cases hm3 : m < 3
      · have i3 : (m : Int) < 3 := by omega
        have i4 : (m : Int) < 4 := by omega
        go_upto_region 12 with fail
        refine wp_world (fun W10 hW10 => ?_)
        have MB : Blk W10 wr.heap.size [.int .i64 m] := by rw [hW10]; exact Blk.new _ _ _ _ rfl
        have B10 : Below wr.heap.size wr W10 := by rw [hW10]; (repeat (first | exact Below.refl _ _ | assumption | (refine Below.setCell ?_ (by first | (simp; done) | (simp; omega) | omega) _) | (refine Below.drew ?_) | (refine below_drewN ?_ _) | (refine Below.alloc ?_ (by first | (simp; done) | (simp; omega) | omega) _) | (refine Below.trans ?_ (Below.mono (by assumption) (by first | (simp; done) | (simp; omega) | omega)))))
        have HR10 := Lib.hid (HR.out.past B10)
        have HO10 := Lib.hid (And.intro (HO.out.1.past B10) HO.out.2)
        have m0 := MB.c 0 _ rfl; have ml := MB.lt
        have HF := Lib.hid MB
        have HG : Hid (∀ dj dk, dj ≤ 1 → dk ≤ 1 → ∀ w', Below W10.heap.size W10 w' → Calls Try.prog 170 #[.int .i64 (dj : Nat), .int .i64 (dk : Nat), .pointer (some ⟨w.heap.size, 0, none⟩), .pointer (some ⟨ni, 0, none⟩), .pointer (some ⟨nj, 0, none⟩), .pointer (some ⟨nk, 0, none⟩), .pointer (some ⟨wr.heap.size, 0, none⟩), .pointer (some ⟨ni + 1, 0, none⟩)] w' fun e w'' => e = .returned (.float .f32 (redF S i x fs m dj dk)) ∧ Below w'.heap.size w' w'') := fun dj dk hdj hdk w' hb =>
          HE.out i x m dj dk _ _ _ _ _ _ w' (HR10.out.past hb).b (fun a ha => (HI.out a ha).2.2) hm3 hdj hdk (HR10.out.past hb).c ((HR10.out.past hb).ii.c 0 _ rfl) ((HR10.out.past hb).jj.c 0 _ rfl) ((HR10.out.past hb).kk.c 0 _ rfl) ((HF.out.past hb).c 0 _ rfl) ((HR10.out.past hb).xx.c 0 _ rfl)
        have HM := Lib.hid (linF_at (fs := fs) HBR.out hm3 HIX.out.1 HIX.out.2)
        clear hW10 MB B10 HR HO HF
        obtain ⟨t00, h00⟩ : ∃ z, z = redF S i x fs m 0 0 := ⟨_, rfl⟩
        obtain ⟨t10, h10⟩ : ∃ z, z = redF S i x fs m 1 0 := ⟨_, rfl⟩
        obtain ⟨t01, h01⟩ : ∃ z, z = redF S i x fs m 0 1 := ⟨_, rfl⟩
        obtain ⟨t11, h11⟩ : ∃ z, z = redF S i x fs m 1 1 := ⟨_, rfl⟩
        have G0 := HG.out 0 0 (by omega) (by omega)
        have G1 := HG.out 1 0 (by omega) (by omega)
        have G2 := HG.out 0 1 (by omega) (by omega)
        have G3 := HG.out 1 1 (by omega) (by omega)
        rw [← h00] at G0
        rw [← h10] at G1
        rw [← h01] at G2
        rw [← h11] at G3
        have HG0 := Lib.hid G0; have HG1 := Lib.hid G1; have HG2 := Lib.hid G2; have HG3 := Lib.hid G3
        have HT := Lib.hid (show linF S lo hi fs p m = lerpF (lerpF t00 t10 (x 1)) (lerpF t01 t11 (x 1)) (x 2) by rw [HM.out, h00, h10, h01, h11]; rfl)
        clear G0 G1 G2 G3 HG h00 h10 h01 h11 HM
        refine wp_region_loose 16 (fun _ args u => LioPsi t00 t10 t01 t11 args u) (by kernel_rfl) (by kernel_rfl) ?_
        simp only [List.take_succ_cons, List.take_zero, List.drop_succ_cons, List.drop_zero]
        iterate 2 (refine loose_wanted rfl (fun K hK => ?_); go_simp; refine hK _ ?_; clear hK K)
        refine loose_wanted rfl (fun K1 hK => ?_)
        go_simp
        refine ⟨fun p => (HG0.out _ p.h).mono ?_, ?_⟩
        · rintro e w' ⟨rfl, hb⟩
          exact ⟨_, rfl, lio00.2 rfl, p.h.trans (hb.mono p.h.size)⟩
        intro z hz
        obtain rfl := lio00.1 hz
        refine hK _ ?_
        clear hK K1 hz
        iterate 1 (refine loose_wanted rfl (fun K hK => ?_); go_simp; refine hK _ ?_; clear hK K)
        refine loose_wanted rfl (fun K1 hK => ?_)
        go_simp
        refine ⟨fun p => (HG1.out _ p.h).mono ?_, ?_⟩
        · rintro e w' ⟨rfl, hb⟩
          exact ⟨_, rfl, lio10.2 rfl, p.h.trans (hb.mono p.h.size)⟩
        intro z hz
        obtain rfl := lio10.1 hz
        refine hK _ ?_
        clear hK K1 hz
        iterate 1 (refine loose_wanted rfl (fun K hK => ?_); go_simp; refine hK _ ?_; clear hK K)
        refine loose_wanted rfl (fun K1 hK => ?_)
        go_simp
        refine ⟨fun p => (LerpOf_any _ _ _ p.w).mono ?_, ?_⟩
        · rintro e w' ⟨rfl, q, rfl⟩
          exact ⟨_, rfl, lio3.2 rfl, below_drewN p.h q⟩
        intro z hz
        obtain rfl := lio3.1 hz
        refine hK _ ?_
        clear hK K1 hz
        iterate 1 (refine loose_wanted rfl (fun K hK => ?_); go_simp; refine hK _ ?_; clear hK K)
        refine loose_wanted rfl (fun K1 hK => ?_)
        go_simp
        refine ⟨fun p => (HG2.out _ p.h).mono ?_, ?_⟩
        · rintro e w' ⟨rfl, hb⟩
          exact ⟨_, rfl, lio01.2 rfl, p.h.trans (hb.mono p.h.size)⟩
        intro z hz
        obtain rfl := lio01.1 hz
        refine hK _ ?_
        clear hK K1 hz
        iterate 1 (refine loose_wanted rfl (fun K hK => ?_); go_simp; refine hK _ ?_; clear hK K)
        refine loose_wanted rfl (fun K1 hK => ?_)
        go_simp
        refine ⟨fun p => (HG3.out _ p.h).mono ?_, ?_⟩
        · rintro e w' ⟨rfl, hb⟩
          exact ⟨_, rfl, lio11.2 rfl, p.h.trans (hb.mono p.h.size)⟩
        intro z hz
        obtain rfl := lio11.1 hz
        refine hK _ ?_
        clear hK K1 hz
        iterate 1 (refine loose_wanted rfl (fun K hK => ?_); go_simp; refine hK _ ?_; clear hK K)
        refine loose_wanted rfl (fun K1 hK => ?_)
        go_simp
        refine ⟨fun p => (LerpOf_any _ _ _ p.w).mono ?_, ?_⟩
        · rintro e w' ⟨rfl, q, rfl⟩
          exact ⟨_, rfl, lio3.2 rfl, below_drewN p.h q⟩
        intro z hz
        obtain rfl := lio3.1 hz
        refine hK _ ?_
        clear hK K1 hz
        iterate 1 (refine loose_wanted rfl (fun K hK => ?_); go_simp; refine hK _ ?_; clear hK K)
        refine loose_wanted rfl (fun K1 hK => ?_)
        go_simp
        refine ⟨fun p => (LerpOf_any _ _ _ p.w).mono ?_, ?_⟩
        · rintro e w' ⟨rfl, q, rfl⟩
          exact ⟨_, rfl, lio3.2 rfl, below_drewN p.h q⟩
        intro z hz
        obtain rfl := lio3.1 hz
        refine hK _ ?_
        clear hK K1 hz
        iterate 1 (refine loose_wanted rfl (fun K hK => ?_); go_simp; refine hK _ ?_; clear hK K)
        refine loose_nil (fun w5 hb5 => ?_)
        have HR5 := Lib.hid (HR10.out.past hb5)
        have HO5 := Lib.hid (And.intro (HO10.out.1.past hb5) HO10.out.2)
        clear hb5 m0 ml HR10 HO10
        have o0 := HO5.out.1.c m (by omega); have ol := HO5.out.1.lt; have of := HO5.out.1.f
        go_wp2_with fail
        go_roundw
        case rel => exact ⟨m + 1, by omega, by first | rfl | go_num, HR5.out.far _ _ HL.out, _, HO5.out.1.set m _ (by omega), by show (if 3 = m then _ else _) = _; rw [if_neg (by omega)]; exact HO5.out.2.1, tet_next HO5.out.2.2 HT.out.symm⟩
        case measure => simp [intOf]; omega
      · obtain rfl : m = 3 := by omega
        clear hm hm3 HE HI HIX HBR
        have z0 := HR.out.z.c 0 _ rfl; have z1 := HR.out.z.c 1 _ rfl; have z2 := HR.out.z.c 2 _ rfl; have z3 := HR.out.z.c 3 _ rfl; have zf := HR.out.z.f; have zl := HR.out.z.lt
        have o0 := HO.out.1.c 0 (by omega); have o1 := HO.out.1.c 1 (by omega); have o2 := HO.out.1.c 2 (by omega); have o3 := HO.out.1.c 3 (by omega)
        rw [HO.out.2.2 0 (by omega)] at o0; rw [HO.out.2.2 1 (by omega)] at o1; rw [HO.out.2.2 2 (by omega)] at o2
        rw [HO.out.2.1, show cn .f32 (p 3) = linF S lo hi fs p 3 from by simp [linF]] at o3
        have B5 := HR.out.b
        clear HR HO
        obtain ⟨g0, hg0⟩ : ∃ z, z = linF S lo hi fs p 0 := ⟨_, rfl⟩
        rw [← hg0] at o0
        obtain ⟨g1, hg1⟩ : ∃ z, z = linF S lo hi fs p 1 := ⟨_, rfl⟩
        rw [← hg1] at o1
        obtain ⟨g2, hg2⟩ : ∃ z, z = linF S lo hi fs p 2 := ⟨_, rfl⟩
        rw [← hg2] at o2
        obtain ⟨g3, hg3⟩ : ∃ z, z = linF S lo hi fs p 3 := ⟨_, rfl⟩
        rw [← hg3] at o3
        have HG := Lib.hid (And.intro hg0 (And.intro hg1 (And.intro hg2 hg3)))
        clear hg0 hg1 hg2 hg3
        go_wp2_with fail
        refine bodyPost_ret (v := .agg #[.float .f32 g0, .float .f32 g1, .float .f32 g2, .float .f32 g3]) (by simp [results, Try.results96, go_sem, z0, z1, z2, z3]) rfl ⟨by rw [HG.out.1, HG.out.2.1, HG.out.2.2.1, HG.out.2.2.2], ?_⟩
        exact (((B5.setCell (by first | (simp; done) | (simp; omega) | omega) _).setCell (by first | (simp; done) | (simp; omega) | omega) _).setCell (by first | (simp; done) | (simp; omega) | omega) _).setCell (by first | (simp; done) | (simp; omega) | omega) _
end Go.Proofs.Ytkmjboffjhcoaaa
