/- The colour between four entries of a cube: cube.lost, cube.tetra. Conditions: the cube is right. -/
import Derived.Test.YtmdmjmmplhoniaaCB
import Derived.BigQuiet
namespace Go.Proofs.Ytmdmjmmplhoniaa
open Go.RowKit
theorem VecI.congr {w : World} {b n : Nat} {f f' : Nat → Int} (k : VecI w b n f) (h : ∀ j, j < n → f j = f' j) : VecI w b n f' := ⟨k.lt, fun j hj => by rw [← h j hj]; exact k.c j hj, k.f⟩
theorem VecF.congr {w : World} {b n : Nat} {f f' : Nat → Nat} (k : VecF w b n f) (h : ∀ j, j < n → f j = f' j) : VecF w b n f' := ⟨k.lt, fun j hj => by rw [← h j hj]; exact k.c j hj, k.f⟩
/-- What stands while a colour is found between four entries. -/
structure TeR (w wr : World) (L : List Value) (p : Nat → Nat) (na ns no : Nat) (g : Nat → Nat) (i o : Nat → Nat) : Prop where
  c : Blk wr w.heap.size L
  p : VecF wr (w.heap.size + 1) 4 p
  z : Blk wr (w.heap.size + 2) [.float .f32 0, .float .f32 0, .float .f32 0, .float .f32 0]
  a : VecI wr na 3 (fun j => ((i j : Nat) : Int))
  s : VecF wr ns 3 g
  o : VecI wr no 3 (fun j => ((o j : Nat) : Int))
  b : Below w.heap.size w wr
  l : w.heap.size + 2 < na ∧ na < ns ∧ ns < no
theorem TeR.past {w wr wy : World} {L : List Value} {p : Nat → Nat} {na ns no : Nat} {g i o : Nat → Nat} (k : TeR w wr L p na ns no g i o) (h : Below wr.heap.size wr wy) : TeR w wy L p na ns no g i o :=
  ⟨k.c.past h, k.p.past h, k.z.past h, k.a.past h, k.s.past h, k.o.past h, k.b.trans (h.mono k.b.size), k.l⟩
theorem TeR.far {w wr : World} {L : List Value} {p : Nat → Nat} {na ns no : Nat} {g i o : Nat → Nat} (k : TeR w wr L p na ns no g i o) (q : Addr) (x : Value) (h : no < q.block) : TeR w (wr.setCell q x) L p na ns no g i o := by
  obtain ⟨l1, l2, l3⟩ := k.l
  exact ⟨k.c.far _ _ (by omega), k.p.far _ _ (by omega), k.z.far _ _ (by omega), k.a.far _ _ (by omega), k.s.far _ _ (by omega), k.o.far _ _ (by omega), k.b.setCell (by omega) _, k.l⟩
theorem TeR.swap {w wr : World} {L : List Value} {p : Nat → Nat} {na ns no : Nat} {g i o : Nat → Nat} (k : TeR w wr L p na ns no g i o) (m : Nat) (hm : m < 2) :
    TeR w ((wr.setCell ⟨no, m, none⟩ (.int .i64 (o (m + 1) : Nat))).setCell ⟨no, m + 1, none⟩ (.int .i64 (o m : Nat))) L p na ns no g i (swapP m o) := by
  obtain ⟨l1, l2, l3⟩ := k.l
  exact ⟨(k.c.far _ _ (by simp; omega)).far _ _ (by simp; omega), (k.p.far _ _ (by simp; omega)).far _ _ (by simp; omega), (k.z.far _ _ (by simp; omega)).far _ _ (by simp; omega), (k.a.far _ _ (by simp; omega)).far _ _ (by simp; omega), (k.s.far _ _ (by simp; omega)).far _ _ (by simp; omega),
    ((k.o.set m _ (by omega)).set (m + 1) _ (by omega)).congr (fun j _ => by unfold swapP; by_cases h1 : j = m + 1 <;> by_cases h2 : j = m <;> simp [h1, h2]), (k.b.setCell (by simp; omega) _).setCell (by simp; omega) _, k.l⟩
theorem TeR.swap' {w wr : World} {L : List Value} {p : Nat → Nat} {na ns no : Nat} {g i o : Nat → Nat} (k : TeR w wr L p na ns no g i o) (m : Nat) (hm : m < 2) :
    TeR w ((wr.setCell ⟨no, m + 1, none⟩ (.int .i64 (o m : Nat))).setCell ⟨no, m, none⟩ (.int .i64 (o (m + 1) : Nat))) L p na ns no g i (swapP m o) := by
  obtain ⟨l1, l2, l3⟩ := k.l
  exact ⟨(k.c.far _ _ (by simp; omega)).far _ _ (by simp; omega), (k.p.far _ _ (by simp; omega)).far _ _ (by simp; omega), (k.z.far _ _ (by simp; omega)).far _ _ (by simp; omega), (k.a.far _ _ (by simp; omega)).far _ _ (by simp; omega), (k.s.far _ _ (by simp; omega)).far _ _ (by simp; omega),
    ((k.o.set (m + 1) _ (by omega)).set m _ (by omega)).congr (fun j _ => by unfold swapP; by_cases h1 : j = m + 1 <;> by_cases h2 : j = m <;> simp [h1, h2] <;> omega), (k.b.setCell (by simp; omega) _).setCell (by simp; omega) _, k.l⟩
theorem TeR.step {w wr : World} {L : List Value} {p : Nat → Nat} {na ns no : Nat} {g i o : Nat → Nat} (k : TeR w wr L p na ns no g i o) (r : Nat) (hr : o r < 3) :
    TeR w (wr.setCell ⟨na, o r, none⟩ (.int .i64 ((i (o r) + 1 : Nat) : Int))) L p na ns no g (fun a => if a = o r then i (o r) + 1 else i a) o := by
  obtain ⟨l1, l2, l3⟩ := k.l
  exact ⟨k.c.far _ _ (by simp; omega), k.p.far _ _ (by simp; omega), k.z.far _ _ (by simp; omega), (k.a.set (o r) _ hr).congr (fun j _ => by split <;> rfl), k.s.far _ _ (by simp; omega), k.o.far _ _ (by simp; omega), k.b.setCell (by simp; omega) _, k.l⟩
def ordR (x : Nat → Nat) : Nat → Nat → Nat
  | 0 => idP
  | 1 => stepP x 0 idP
  | 2 => stepP x 1 (stepP x 0 idP)
  | _ => ord3 x
theorem ordR_isP (x : Nat → Nat) : ∀ r, IsP (ordR x r)
  | 0 => isP_id
  | 1 => isP_step (by omega) isP_id
  | 2 => isP_step (by omega) (isP_step (by omega) isP_id)
  | _ + 3 => ord3_isP x
theorem step_no {x : Nat → Nat} {n : Nat} {o : Nat → Nat} (h : (FloatKind.f32.format.order (x (o (n + 1))) (x (o n)) == some .gt) = false) : stepP x n o = o := by unfold stepP; rw [h]; rfl
theorem step_yes {x : Nat → Nat} {n : Nat} {o : Nat → Nat} (h : (FloatKind.f32.format.order (x (o (n + 1))) (x (o n)) == some .gt) = true) : stepP x n o = swapP n o := by unfold stepP; rw [h]; rfl
/-- The corners that are found. -/
def CorQ (S : Nat) (i o : Nat → Nat) (fs : Nat → Nat) (r : Nat) (q : Nat → Nat) : Prop := ∀ e, e < r → ∀ m, m < 3 → q (3 * e + m) = fs (3 * corE S i o e + m)
theorem corQ_zero (S : Nat) (i o fs q : Nat → Nat) : CorQ S i o fs 0 q := fun e he => by omega
theorem corQ_step {S : Nat} {i o fs : Nat → Nat} {r : Nat} {q : Nat → Nat} (h : CorQ S i o fs r q) : CorQ S i o fs (r + 1) (fun j => if j = 3 * r + 2 then fs (3 * corE S i o r + 2) else if j = 3 * r + 1 then fs (3 * corE S i o r + 1) else if j = 3 * r then fs (3 * corE S i o r) else q j) := fun e he m hm => by
  by_cases h1 : e = r
  · subst h1
    rcases (show m = 0 ∨ m = 1 ∨ m = 2 by omega) with rfl | rfl | rfl <;> simp
  · have := h e (by omega) m hm
    show (if _ then _ else _) = _
    rw [if_neg (by omega), if_neg (by omega), if_neg (by omega)]; exact this
theorem VecF.set3 {w : World} {b n : Nat} {q : Nat → Nat} (k : VecF w b n q) (t v0 v1 v2 : Nat) (h : t + 2 < n) : VecF (((w.setCell ⟨b, t, none⟩ (.float .f32 v0)).setCell ⟨b, t + 1, none⟩ (.float .f32 v1)).setCell ⟨b, t + 2, none⟩ (.float .f32 v2)) b n (fun j => if j = t + 2 then v2 else if j = t + 1 then v1 else if j = t then v0 else q j) :=
  ((k.set t v0 (by omega)).set (t + 1) v1 (by omega)).set (t + 2) v2 h
theorem TeR.far3 {w wr : World} {L : List Value} {p : Nat → Nat} {na ns no : Nat} {g i o : Nat → Nat} (k : TeR w wr L p na ns no g i o) (b t v0 v1 v2 : Nat) (h : no < b) : TeR w (((wr.setCell ⟨b, t, none⟩ (.float .f32 v0)).setCell ⟨b, t + 1, none⟩ (.float .f32 v1)).setCell ⟨b, t + 2, none⟩ (.float .f32 v2)) L p na ns no g i o :=
  ((k.far _ _ h).far _ _ h).far _ _ h
theorem VecF.zero12 {w : World} {b : Nat} (k : Blk w b [.float .f32 0, .float .f32 0, .float .f32 0, .float .f32 0, .float .f32 0, .float .f32 0, .float .f32 0, .float .f32 0, .float .f32 0, .float .f32 0, .float .f32 0, .float .f32 0]) : VecF w b 12 (fun _ => 0) :=
  ⟨k.lt, fun j hj => k.c j _ (by rcases (show j = 0 ∨ j = 1 ∨ j = 2 ∨ j = 3 ∨ j = 4 ∨ j = 5 ∨ j = 6 ∨ j = 7 ∨ j = 8 ∨ j = 9 ∨ j = 10 ∨ j = 11 by omega) with rfl | rfl | rfl | rfl | rfl | rfl | rfl | rfl | rfl | rfl | rfl | rfl <;> rfl), k.f⟩
theorem tetF_mix {S lo hi : Nat} {fs p : Nat → Nat} {m : Nat} {x i o q : Nat → Nat} (hb : brokB p = false) (hm : m < 3) (hi' : i = fun a => (plF S lo hi (p a)).1.toNat) (hx : x = fun a => (plF S lo hi (p a)).2) (ho : o = ord3 x) (hq : CorQ S i o fs 4 q) :
    tetF S lo hi fs p m = mixT (q m) (q (3 + m)) (q (6 + m)) (q (9 + m)) (x (o 0)) (x (o 1)) (x (o 2)) := by
  have e0 := hq 0 (by omega) m hm
  have e1 := hq 1 (by omega) m hm
  have e2 := hq 2 (by omega) m hm
  have e3 := hq 3 (by omega) m hm
  rw [show 3 * 0 + m = m by omega] at e0
  rw [show 3 * 1 + m = 3 + m by omega] at e1
  rw [show 3 * 2 + m = 6 + m by omega] at e2
  rw [show 3 * 3 + m = 9 + m by omega] at e3
  rw [e0, e1, e2, e3]
  subst ho hi' hx
  unfold tetF
  simp only [if_pos hm, hb, Bool.false_eq_true, if_false]
theorem tet_next {F h : Nat → Nat} {m v : Nat} (he : ∀ j, j < m → h j = F j) (hv : v = F m) : ∀ j, j < m + 1 → (if j = m then v else h j) = F j := fun j hj => by
  by_cases e : j = m
  · subst e; rw [if_pos rfl, hv]
  · rw [if_neg e]; exact he j (by omega)
theorem tet_fr {a b c d s t u r1 r2 r3 r4 r5 r6 r7 r8 r9 : Nat} (h1 : FR .f32 r1 (fop .sub .f32 (cn .f32 b) (cn .f32 a))) (h2 : FR .f32 r2 (fop .mul .f32 (cn .f32 r1) (cn .f32 s))) (h3 : FR .f32 r3 (fop .add .f32 (cn .f32 a) (cn .f32 r2)))
    (h4 : FR .f32 r4 (fop .sub .f32 (cn .f32 c) (cn .f32 b))) (h5 : FR .f32 r5 (fop .mul .f32 (cn .f32 r4) (cn .f32 t))) (h6 : FR .f32 r6 (fop .add .f32 (cn .f32 r3) (cn .f32 r5)))
    (h7 : FR .f32 r7 (fop .sub .f32 (cn .f32 d) (cn .f32 c))) (h8 : FR .f32 r8 (fop .mul .f32 (cn .f32 r7) (cn .f32 u))) (h9 : FR .f32 r9 (fop .add .f32 (cn .f32 r6) (cn .f32 r8))) :
    cn .f32 r9 = fop .add .f32 (fop .add .f32 (fop .add .f32 a (fop .mul .f32 (fop .sub .f32 b a) s)) (fop .mul .f32 (fop .sub .f32 c b) t)) (fop .mul .f32 (fop .sub .f32 d c) u) := by
  rw [h9.eq, h8.eq, h7.eq, h6.eq, h5.eq, h4.eq, h3.eq, h2.eq, h1.eq]
  simp only [fop_cn_left, fop_cn_right]
set_option maxHeartbeats 800000 in
theorem FromBitsC_any (b : Int) (w : World) : Calls Try.prog 39 #[.int .u32 b] w fun e w' => e = .returned (.float .f32 (cn .f32 b.toNat)) ∧ w = w' := by
  have h := Clean_any b.toNat
  go_enter Try.func39, Try.ntmps39
  go_wp2_with (first | (go_at_call 32; refine (Clean_any _ _).mono ?_; rintro e w' ⟨rfl, rfl⟩))
  go_ret
  exact ⟨rfl, rfl⟩
set_option maxRecDepth 100000 in
set_option maxHeartbeats 400000 in
theorem lost_any (v : Nat) (w : World) :
    Calls Try.prog 30 #[.float .f32 v] w fun e w' =>
      e = .returned (.agg #[.float .f32 2143289344, .float .f32 2143289344, .float .f32 2143289344, .float .f32 (cn .f32 v)]) ∧ Below w.heap.size w w' := by
  have c : cn .f32 2143289344 = 2143289344 := by decide +kernel
  go_enter Try.func30, Try.ntmps30
  go_wp2_with (first | (go_at_call 32; refine (Clean_any _ _).mono ?_; rintro e w' ⟨rfl, rfl⟩) | (go_at_call 39; refine (FromBitsC_any _ _).mono ?_; rintro e w' ⟨rfl, rfl⟩))
  refine bodyPost_ret (v := .agg #[.float .f32 2143289344, .float .f32 2143289344, .float .f32 2143289344, .float .f32 (cn .f32 v)]) (by simp [results, Try.results30, go_sem]) rfl ⟨rfl, ?_⟩
  (repeat (first | exact Below.refl _ _ | assumption | (refine Below.setCell ?_ (by first | (simp; done) | (simp; omega) | omega) _) | (refine Below.drew ?_) | (refine below_drewN ?_ _) | (refine Below.alloc ?_ (by first | (simp; done) | (simp; omega) | omega) _) | (refine Below.trans ?_ (Below.mono (by assumption) (by first | (simp; done) | (simp; omega) | omega)))))
set_option maxRecDepth 100000 in
set_option maxHeartbeats 16000000 in
theorem tetra_any (S lo hi b off n cap : Nat) (fs p : Nat → Nat) (w : World) (hS : 2 ≤ S ∧ S ≤ 17) (hn : n = 3 * (S * S * S)) (hcap : n ≤ cap) (hc : Row w b off n fs) :
    Calls Try.prog 19 #[.agg #[.int .i64 S, .float .f32 lo, .float .f32 hi, .slice (some ⟨b, off, none⟩) n cap], .agg #[.float .f32 (p 0), .float .f32 (p 1), .float .f32 (p 2), .float .f32 (p 3)]] w fun e w' =>
      e = .returned (.agg #[.float .f32 (tetF S lo hi fs p 0), .float .f32 (tetF S lo hi fs p 1), .float .f32 (tetF S lo hi fs p 2), .float .f32 (tetF S lo hi fs p 3)]) ∧ Below w.heap.size w w' := by
  have hbw : b < w.heap.size := hc.lt (by have : 0 < S * S * S := Nat.mul_pos (Nat.mul_pos (by omega) (by omega)) (by omega); omega)
  have HE : Hid (∀ x y z w', x < S → y < S → z < S → Below w.heap.size w w' → Calls Try.prog 31 #[.agg #[.int .i64 S, .float .f32 lo, .float .f32 hi, .slice (some ⟨b, off, none⟩) n cap], .int .i64 (x : Nat), .int .i64 (y : Nat), .int .i64 (z : Nat)] w' fun e w'' =>
      e = .returned (.agg #[.float .f32 (fs (3 * enI S x y z)), .float .f32 (fs (3 * enI S x y z + 1)), .float .f32 (fs (3 * enI S x y z + 2))]) ∧ Below w'.heap.size w' w'') := fun x y z w' hx hy hz hb => entry_any S x y z lo hi b off n cap fs w' hS.2 hx hy hz hn hcap (hc.below hb hbw)
  have HS := Lib.hid hS
  clear hc hn hcap hbw hS
  have ix0 : ∀ w, (Instr.index 57 (.agg #[.int .i64 0, .int .i64 1, .int .i64 0]) (.int .i64 0)).run Try.prog w = .ok (.int .i64 0) w := fun w => by kernel_rfl
  have ix1 : ∀ w, (Instr.index 57 (.agg #[.int .i64 0, .int .i64 1, .int .i64 0]) (.int .i64 1)).run Try.prog w = .ok (.int .i64 1) w := fun w => by kernel_rfl
  have ix2 : ∀ w, (Instr.index 57 (.agg #[.int .i64 0, .int .i64 1, .int .i64 0]) (.int .i64 2)).run Try.prog w = .ok (.int .i64 0) w := fun w => by kernel_rfl
  go_enter Try.func19, Try.ntmps19
  go_upto_region 1 with fail
  refine wp_world (fun W hW => ?_)
  have CB : Blk W w.heap.size [.int .i64 S, .float .f32 lo, .float .f32 hi, .slice (some ⟨b, off, none⟩) n cap] := by rw [hW]; exact ((Blk.new _ _ _ _ rfl).alloc _).alloc _
  have PB : VecF W (w.heap.size + 1) 4 p := by rw [hW]; exact VecF.of4 ((Blk.new _ _ _ _ (by simp)).alloc _)
  have ZB : Blk W (w.heap.size + 2) [.float .f32 0, .float .f32 0, .float .f32 0, .float .f32 0] := by rw [hW]; exact Blk.new _ _ _ _ (by simp)
  have BW : Below w.heap.size w W := by rw [hW]; (repeat (first | exact Below.refl _ _ | assumption | (refine Below.setCell ?_ (by first | (simp; done) | (simp; omega) | omega) _) | (refine Below.drew ?_) | (refine below_drewN ?_ _) | (refine Below.alloc ?_ (by first | (simp; done) | (simp; omega) | omega) _) | (refine Below.trans ?_ (Below.mono (by assumption) (by first | (simp; done) | (simp; omega) | omega)))))
  clear hW
  have c0 := CB.c 0 _ rfl; have c1 := CB.c 1 _ rfl; have c2 := CB.c 2 _ rfl; have c3 := CB.c 3 _ rfl
  have p0 := PB.c 0 (by omega); have p1 := PB.c 1 (by omega); have p2 := PB.c 2 (by omega); have p3 := PB.c 3 (by omega)
  have HB := Lib.hid (And.intro CB (And.intro PB (And.intro ZB BW)))
  clear CB PB ZB BW
  go_wp2_with fail
  refine (places_any S lo hi _ n cap p _ HS.out).mono ?_
  rintro e w2 ⟨⟨f, g, rfl, hfg⟩, hb2⟩
  have H2 : Hid (Blk w2 w.heap.size [.int .i64 S, .float .f32 lo, .float .f32 hi, .slice (some ⟨b, off, none⟩) n cap] ∧ VecF w2 (w.heap.size + 1) 4 p ∧ Blk w2 (w.heap.size + 2) [.float .f32 0, .float .f32 0, .float .f32 0, .float .f32 0] ∧ Below w.heap.size w w2) :=
    ⟨HB.out.1.past hb2, HB.out.2.1.past hb2, HB.out.2.2.1.past hb2, HB.out.2.2.2.trans (hb2.mono HB.out.2.2.2.size)⟩
  clear c0 c1 c2 c3 p0 p1 p2 p3 HB hb2
  have l2 := H2.out.2.2.1.lt
  go_upto_region 2 with fail
  refine wp_world (fun W2 hW2 => ?_)
  have AB : Blk W2 w2.heap.size [.int .i64 (f 0), .int .i64 (f 1), .int .i64 (f 2)] := by rw [hW2]; exact (Blk.new _ _ _ _ rfl).alloc _
  have SB : Blk W2 (w2.heap.size + 1) [.float .f32 (g 0), .float .f32 (g 1), .float .f32 (g 2)] := by rw [hW2]; exact Blk.new _ _ _ _ (by simp)
  have B2 : Below w2.heap.size w2 W2 := by rw [hW2]; (repeat (first | exact Below.refl _ _ | assumption | (refine Below.setCell ?_ (by first | (simp; done) | (simp; omega) | omega) _) | (refine Below.drew ?_) | (refine below_drewN ?_ _) | (refine Below.alloc ?_ (by first | (simp; done) | (simp; omega) | omega) _) | (refine Below.trans ?_ (Below.mono (by assumption) (by first | (simp; done) | (simp; omega) | omega)))))
  have H3 : Hid (Blk W2 w.heap.size [.int .i64 S, .float .f32 lo, .float .f32 hi, .slice (some ⟨b, off, none⟩) n cap] ∧ VecF W2 (w.heap.size + 1) 4 p ∧ Blk W2 (w.heap.size + 2) [.float .f32 0, .float .f32 0, .float .f32 0, .float .f32 0] ∧ Below w.heap.size w W2) :=
    ⟨H2.out.1.past B2, H2.out.2.1.past B2, H2.out.2.2.1.past B2, H2.out.2.2.2.trans (B2.mono H2.out.2.2.2.size)⟩
  have HAS : Hid (VecI W2 w2.heap.size 3 f ∧ VecF W2 (w2.heap.size + 1) 3 g ∧ w.heap.size + 2 < w2.heap.size) := ⟨VecI.of3 AB, VecF.of3 SB, l2⟩
  clear hW2 H2 AB SB B2
  cases hB : brokB p
  case true =>
    have HBR := Lib.hid hB
    clear hB hfg HAS
    have p3 := H3.out.2.1.c 3 (by omega); have pl := H3.out.2.1.lt; have B3 := H3.out.2.2.2
    have z0 := H3.out.2.2.1.c 0 _ rfl; have z1 := H3.out.2.2.1.c 1 _ rfl; have z2 := H3.out.2.2.1.c 2 _ rfl; have z3 := H3.out.2.2.1.c 3 _ rfl; have zf := H3.out.2.2.1.f; have zl := H3.out.2.2.1.lt
    have HZ := Lib.hid (And.intro H3.out.2.2.1 B3)
    clear H3 B3
    go_wp2_with fail
    refine (lost_any _ _).mono ?_
    rintro e w4 ⟨rfl, hb4⟩
    have ZB := HZ.out.1.past hb4
    have B4 := HZ.out.2.trans (hb4.mono HZ.out.2.size)
    clear HZ hb4 z0 z1 z2 z3 zf zl p3 pl l2
    have z0 := ZB.c 0 _ rfl; have z1 := ZB.c 1 _ rfl; have z2 := ZB.c 2 _ rfl; have z3 := ZB.c 3 _ rfl; have zf := ZB.f; have zl := ZB.lt
    clear ZB
    go_wp2_with fail
    refine bodyPost_ret (v := .agg #[.float .f32 2143289344, .float .f32 2143289344, .float .f32 2143289344, .float .f32 (cn .f32 (p 3))]) (by simp [results, Try.results19, go_sem, z0, z1, z2, z3]) rfl ⟨by unfold tetF; simp [HBR.out], ?_⟩
    exact (((B4.setCell (by first | (simp; done) | (simp; omega) | omega) _).setCell (by first | (simp; done) | (simp; omega) | omega) _).setCell (by first | (simp; done) | (simp; omega) | omega) _).setCell (by first | (simp; done) | (simp; omega) | omega) _
  case false =>
    have HF := Lib.hid (hfg hB)
    have HBR := Lib.hid hB
    clear hfg hB l2
    obtain ⟨i, hii⟩ : ∃ i : Nat → Nat, i = fun a => (plF S lo hi (p a)).1.toNat := ⟨_, rfl⟩
    obtain ⟨x, hx⟩ : ∃ x : Nat → Nat, x = fun a => (plF S lo hi (p a)).2 := ⟨_, rfl⟩
    have HI : Hid (∀ j, j < 3 → f j = ((i j : Nat) : Int) ∧ i j + 2 ≤ S ∧ g j = x j ∧ isN .f32 (x j) = false) := fun j hj => by
      obtain ⟨h1, h2⟩ := HF.out j hj
      obtain ⟨⟨N, e, l⟩, hq⟩ := plF_ok (S := S) (lo := lo) (hi := hi) (v := p j) HS.out
      have : i j = N := by rw [hii]; show (plF S lo hi (p j)).1.toNat = N; rw [e]; rfl
      exact ⟨by rw [h1, e, this], by omega, by rw [h2, hx], by rw [hx]; exact hq⟩
    have HIX := Lib.hid (And.intro hii hx)
    have HA := HAS.out.1.congr (fun j hj => (HI.out j hj).1)
    have HX := HAS.out.2.1.congr (fun j hj => (HI.out j hj).2.2.1)
    have l2 := HAS.out.2.2
    clear HF hii hx HAS
    generalize w2.heap.size = na at *
    have l3 := HX.lt
    have H4 := Lib.hid (And.intro HA (And.intro HX (And.intro l2 l3)))
    clear HA HX l2 l3
    go_upto_region 5 with fail
    refine wp_world (fun W5 hW5 => ?_)
    have OB : Blk W5 W2.heap.size [.int .i64 0, .int .i64 1, .int .i64 2] := by rw [hW5]; exact Blk.new _ _ _ _ rfl
    have B5 : Below W2.heap.size W2 W5 := by rw [hW5]; (repeat (first | exact Below.refl _ _ | assumption | (refine Below.setCell ?_ (by first | (simp; done) | (simp; omega) | omega) _) | (refine Below.drew ?_) | (refine below_drewN ?_ _) | (refine Below.alloc ?_ (by first | (simp; done) | (simp; omega) | omega) _) | (refine Below.trans ?_ (Below.mono (by assumption) (by first | (simp; done) | (simp; omega) | omega)))))
    have T5 : TeR w W5 [.int .i64 S, .float .f32 lo, .float .f32 hi, .slice (some ⟨b, off, none⟩) n cap] p na (na + 1) W2.heap.size x i idP :=
      ⟨H3.out.1.past B5, H3.out.2.1.past B5, H3.out.2.2.1.past B5, H4.out.1.past B5, H4.out.2.1.past B5, VecI.of3 (f := fun j => ((idP j : Nat) : Int)) OB, H3.out.2.2.2.trans (B5.mono H3.out.2.2.2.size), H4.out.2.2.1, by omega, H4.out.2.2.2⟩
    have HT5 := Lib.hid T5
    clear hW5 OB B5 T5 H3 H4
    generalize W2.heap.size = no at *
    go_wp2_with fail
    go_loopw [38] (fun s38 wr => ∃ r : Nat, r ≤ 3 ∧ s38 = .int .i64 r ∧ TeR w wr [.int .i64 S, .float .f32 lo, .float .f32 hi, .slice (some ⟨b, off, none⟩) n cap] p na (na + 1) no x i (ordR x r)) (fun s38 _ => 3 - (intOf s38).toNat)
    case atStart => exact ⟨0, by omega, rfl, HT5.out⟩
    case round =>
      obtain ⟨r, hr, rfl, hR⟩ := hrel
      have HR := Lib.hid hR
      clear hR HT5
      by_cases hr3 : r < 3
      · rcases (show r = 0 ∨ r = 1 ∨ r = 2 by omega) with rfl | rfl | rfl
        ·
          rw [show ((0 : Nat) : Int) = 0 from rfl]
          obtain ⟨o, ho⟩ : ∃ o, o = ordR x 0 := ⟨_, rfl⟩
          have IO : IsP o := ho ▸ ordR_isP x 0
          rw [← ho] at HR
          have HO := Lib.hid ho
          clear ho hr hr3
          obtain ⟨y0, e0⟩ : ∃ y, y = o 0 := ⟨_, rfl⟩
          obtain ⟨y1, e1⟩ : ∃ y, y = o (0 + 1) := ⟨_, rfl⟩
          have b0 : y0 < 3 := e0 ▸ isP_lt IO (by omega)
          have b1 : y1 < 3 := e1 ▸ isP_lt IO (by omega)
          have q0 := HR.out.o.c 0 (by omega)
          have q1 := HR.out.o.c (0 + 1) (by omega)
          rw [← e0] at q0
          rw [← e1] at q1
          have v0 := HR.out.s.c y0 b0
          have v1 := HR.out.s.c y1 b1
          have bi0 : (y0 : Int) < 3 := by omega
          have bi1 : (y1 : Int) < 3 := by omega
          have sl := HR.out.s.lt
          have ol := HR.out.o.lt
          have of := HR.out.o.f
          obtain ⟨x0, f0⟩ : ∃ z, z = x y0 := ⟨_, rfl⟩
          obtain ⟨x1, f1⟩ : ∃ z, z = x y1 := ⟨_, rfl⟩
          rw [← f0] at v0
          rw [← f1] at v1
          have HV := Lib.hid (And.intro e0 (And.intro e1 (And.intro f0 f1)))
          clear e0 e1 f0 f1 IO
          go_wp2_with fail
          go_quiet (fail)
          cases hG : (FloatKind.f32.format.order x1 x0 == some .gt)
          case false =>
            have HG := Lib.hid hG
            go_wp2_with fail
            go_roundw
            case rel =>
              refine ⟨0 + 1, by omega, by first | rfl | go_num, ?_⟩
              obtain ⟨rfl, rfl, rfl, rfl⟩ := HV.out
              obtain rfl := HO.out
              show TeR w _ _ p na (na + 1) no x i (stepP x 0 (ordR x 0))
              rw [step_no HG.out]
              exact HR.out.past (by (repeat (first | exact Below.refl _ _ | assumption | (refine Below.setCell ?_ (by first | (simp; done) | (simp; omega) | omega) _) | (refine Below.drew ?_) | (refine below_drewN ?_ _) | (refine Below.alloc ?_ (by first | (simp; done) | (simp; omega) | omega) _) | (refine Below.trans ?_ (Below.mono (by assumption) (by first | (simp; done) | (simp; omega) | omega))))))
            case measure => simp [intOf]
          case true =>
            have HG := Lib.hid hG
            go_wp2_with fail
            go_region
            all_goals
              go_wp2_with fail
              go_roundw
              case rel =>
                refine ⟨0 + 1, by omega, by first | rfl | go_num, ?_⟩
                obtain ⟨rfl, rfl, rfl, rfl⟩ := HV.out
                obtain rfl := HO.out
                show TeR w _ _ p na (na + 1) no x i (stepP x 0 (ordR x 0))
                rw [step_yes HG.out]
                first | exact (HR.out.past (by (repeat (first | exact Below.refl _ _ | assumption | (refine Below.setCell ?_ (by first | (simp; done) | (simp; omega) | omega) _) | (refine Below.drew ?_) | (refine below_drewN ?_ _) | (refine Below.alloc ?_ (by first | (simp; done) | (simp; omega) | omega) _) | (refine Below.trans ?_ (Below.mono (by assumption) (by first | (simp; done) | (simp; omega) | omega))))))).swap 0 (by omega) | exact (HR.out.past (by (repeat (first | exact Below.refl _ _ | assumption | (refine Below.setCell ?_ (by first | (simp; done) | (simp; omega) | omega) _) | (refine Below.drew ?_) | (refine below_drewN ?_ _) | (refine Below.alloc ?_ (by first | (simp; done) | (simp; omega) | omega) _) | (refine Below.trans ?_ (Below.mono (by assumption) (by first | (simp; done) | (simp; omega) | omega))))))).swap' 0 (by omega)
              case measure => simp [intOf]
        ·
          rw [show ((1 : Nat) : Int) = 1 from rfl]
          obtain ⟨o, ho⟩ : ∃ o, o = ordR x 1 := ⟨_, rfl⟩
          have IO : IsP o := ho ▸ ordR_isP x 1
          rw [← ho] at HR
          have HO := Lib.hid ho
          clear ho hr hr3
          obtain ⟨y0, e0⟩ : ∃ y, y = o 1 := ⟨_, rfl⟩
          obtain ⟨y1, e1⟩ : ∃ y, y = o (1 + 1) := ⟨_, rfl⟩
          have b0 : y0 < 3 := e0 ▸ isP_lt IO (by omega)
          have b1 : y1 < 3 := e1 ▸ isP_lt IO (by omega)
          have q0 := HR.out.o.c 1 (by omega)
          have q1 := HR.out.o.c (1 + 1) (by omega)
          rw [← e0] at q0
          rw [← e1] at q1
          have v0 := HR.out.s.c y0 b0
          have v1 := HR.out.s.c y1 b1
          have bi0 : (y0 : Int) < 3 := by omega
          have bi1 : (y1 : Int) < 3 := by omega
          have sl := HR.out.s.lt
          have ol := HR.out.o.lt
          have of := HR.out.o.f
          obtain ⟨x0, f0⟩ : ∃ z, z = x y0 := ⟨_, rfl⟩
          obtain ⟨x1, f1⟩ : ∃ z, z = x y1 := ⟨_, rfl⟩
          rw [← f0] at v0
          rw [← f1] at v1
          have HV := Lib.hid (And.intro e0 (And.intro e1 (And.intro f0 f1)))
          clear e0 e1 f0 f1 IO
          go_wp2_with fail
          go_quiet (fail)
          cases hG : (FloatKind.f32.format.order x1 x0 == some .gt)
          case false =>
            have HG := Lib.hid hG
            go_wp2_with fail
            go_roundw
            case rel =>
              refine ⟨1 + 1, by omega, by first | rfl | go_num, ?_⟩
              obtain ⟨rfl, rfl, rfl, rfl⟩ := HV.out
              obtain rfl := HO.out
              show TeR w _ _ p na (na + 1) no x i (stepP x 1 (ordR x 1))
              rw [step_no HG.out]
              exact HR.out.past (by (repeat (first | exact Below.refl _ _ | assumption | (refine Below.setCell ?_ (by first | (simp; done) | (simp; omega) | omega) _) | (refine Below.drew ?_) | (refine below_drewN ?_ _) | (refine Below.alloc ?_ (by first | (simp; done) | (simp; omega) | omega) _) | (refine Below.trans ?_ (Below.mono (by assumption) (by first | (simp; done) | (simp; omega) | omega))))))
            case measure => simp [intOf]
          case true =>
            have HG := Lib.hid hG
            go_wp2_with fail
            go_region
            all_goals
              go_wp2_with fail
              go_roundw
              case rel =>
                refine ⟨1 + 1, by omega, by first | rfl | go_num, ?_⟩
                obtain ⟨rfl, rfl, rfl, rfl⟩ := HV.out
                obtain rfl := HO.out
                show TeR w _ _ p na (na + 1) no x i (stepP x 1 (ordR x 1))
                rw [step_yes HG.out]
                first | exact (HR.out.past (by (repeat (first | exact Below.refl _ _ | assumption | (refine Below.setCell ?_ (by first | (simp; done) | (simp; omega) | omega) _) | (refine Below.drew ?_) | (refine below_drewN ?_ _) | (refine Below.alloc ?_ (by first | (simp; done) | (simp; omega) | omega) _) | (refine Below.trans ?_ (Below.mono (by assumption) (by first | (simp; done) | (simp; omega) | omega))))))).swap 1 (by omega) | exact (HR.out.past (by (repeat (first | exact Below.refl _ _ | assumption | (refine Below.setCell ?_ (by first | (simp; done) | (simp; omega) | omega) _) | (refine Below.drew ?_) | (refine below_drewN ?_ _) | (refine Below.alloc ?_ (by first | (simp; done) | (simp; omega) | omega) _) | (refine Below.trans ?_ (Below.mono (by assumption) (by first | (simp; done) | (simp; omega) | omega))))))).swap' 1 (by omega)
              case measure => simp [intOf]
        ·
          rw [show ((2 : Nat) : Int) = 2 from rfl]
          obtain ⟨o, ho⟩ : ∃ o, o = ordR x 2 := ⟨_, rfl⟩
          have IO : IsP o := ho ▸ ordR_isP x 2
          rw [← ho] at HR
          have HO := Lib.hid ho
          clear ho hr hr3
          obtain ⟨y0, e0⟩ : ∃ y, y = o 0 := ⟨_, rfl⟩
          obtain ⟨y1, e1⟩ : ∃ y, y = o (0 + 1) := ⟨_, rfl⟩
          have b0 : y0 < 3 := e0 ▸ isP_lt IO (by omega)
          have b1 : y1 < 3 := e1 ▸ isP_lt IO (by omega)
          have q0 := HR.out.o.c 0 (by omega)
          have q1 := HR.out.o.c (0 + 1) (by omega)
          rw [← e0] at q0
          rw [← e1] at q1
          have v0 := HR.out.s.c y0 b0
          have v1 := HR.out.s.c y1 b1
          have bi0 : (y0 : Int) < 3 := by omega
          have bi1 : (y1 : Int) < 3 := by omega
          have sl := HR.out.s.lt
          have ol := HR.out.o.lt
          have of := HR.out.o.f
          obtain ⟨x0, f0⟩ : ∃ z, z = x y0 := ⟨_, rfl⟩
          obtain ⟨x1, f1⟩ : ∃ z, z = x y1 := ⟨_, rfl⟩
          rw [← f0] at v0
          rw [← f1] at v1
          have HV := Lib.hid (And.intro e0 (And.intro e1 (And.intro f0 f1)))
          clear e0 e1 f0 f1 IO
          go_wp2_with fail
          go_quiet (fail)
          cases hG : (FloatKind.f32.format.order x1 x0 == some .gt)
          case false =>
            have HG := Lib.hid hG
            go_wp2_with fail
            go_roundw
            case rel =>
              refine ⟨2 + 1, by omega, by first | rfl | go_num, ?_⟩
              obtain ⟨rfl, rfl, rfl, rfl⟩ := HV.out
              obtain rfl := HO.out
              show TeR w _ _ p na (na + 1) no x i (stepP x 0 (ordR x 2))
              rw [step_no HG.out]
              exact HR.out.past (by (repeat (first | exact Below.refl _ _ | assumption | (refine Below.setCell ?_ (by first | (simp; done) | (simp; omega) | omega) _) | (refine Below.drew ?_) | (refine below_drewN ?_ _) | (refine Below.alloc ?_ (by first | (simp; done) | (simp; omega) | omega) _) | (refine Below.trans ?_ (Below.mono (by assumption) (by first | (simp; done) | (simp; omega) | omega))))))
            case measure => simp [intOf]
          case true =>
            have HG := Lib.hid hG
            go_wp2_with fail
            go_region
            all_goals
              go_wp2_with fail
              go_roundw
              case rel =>
                refine ⟨2 + 1, by omega, by first | rfl | go_num, ?_⟩
                obtain ⟨rfl, rfl, rfl, rfl⟩ := HV.out
                obtain rfl := HO.out
                show TeR w _ _ p na (na + 1) no x i (stepP x 0 (ordR x 2))
                rw [step_yes HG.out]
                first | exact (HR.out.past (by (repeat (first | exact Below.refl _ _ | assumption | (refine Below.setCell ?_ (by first | (simp; done) | (simp; omega) | omega) _) | (refine Below.drew ?_) | (refine below_drewN ?_ _) | (refine Below.alloc ?_ (by first | (simp; done) | (simp; omega) | omega) _) | (refine Below.trans ?_ (Below.mono (by assumption) (by first | (simp; done) | (simp; omega) | omega))))))).swap 0 (by omega) | exact (HR.out.past (by (repeat (first | exact Below.refl _ _ | assumption | (refine Below.setCell ?_ (by first | (simp; done) | (simp; omega) | omega) _) | (refine Below.drew ?_) | (refine below_drewN ?_ _) | (refine Below.alloc ?_ (by first | (simp; done) | (simp; omega) | omega) _) | (refine Below.trans ?_ (Below.mono (by assumption) (by first | (simp; done) | (simp; omega) | omega))))))).swap' 0 (by omega)
              case measure => simp [intOf]
      · obtain rfl : r = 3 := by omega
        clear ix0 ix1 ix2 hr hr3
        obtain ⟨o, ho⟩ : ∃ o, o = ord3 x := ⟨_, rfl⟩
        have IO := Lib.hid (ho ▸ ord3_isP x : IsP o)
        rw [show ordR x 3 = o from ho.symm] at HR
        have HO := Lib.hid ho
        clear ho
        go_upto_region 12 with fail
        refine wp_world (fun W6 hW6 => ?_)
        have KB : VecF W6 wr.heap.size 12 (fun _ => 0) := by rw [hW6]; exact VecF.zero12 (Blk.new _ _ _ _ rfl)
        have B6 : Below wr.heap.size wr W6 := by rw [hW6]; (repeat (first | exact Below.refl _ _ | assumption | (refine Below.setCell ?_ (by first | (simp; done) | (simp; omega) | omega) _) | (refine Below.drew ?_) | (refine below_drewN ?_ _) | (refine Below.alloc ?_ (by first | (simp; done) | (simp; omega) | omega) _) | (refine Below.trans ?_ (Below.mono (by assumption) (by first | (simp; done) | (simp; omega) | omega)))))
        have HT6 := Lib.hid (HR.out.past B6)
        have lk := HR.out.o.lt
        have HK6 := Lib.hid (And.intro KB lk)
        clear hW6 KB B6 HR lk
        generalize wr.heap.size = nk at *
        have c0 := HT6.out.c.c 0 _ rfl; have c1 := HT6.out.c.c 1 _ rfl; have c2 := HT6.out.c.c 2 _ rfl; have c3 := HT6.out.c.c 3 _ rfl; have cl := HT6.out.c.lt
        have a0 := HT6.out.a.c 0 (by omega); have a1 := HT6.out.a.c 1 (by omega); have a2 := HT6.out.a.c 2 (by omega); have al := HT6.out.a.lt
        go_wp2_with fail
        refine (HE.out _ _ _ _ (by have := (HI.out 0 (by omega)).2.1; omega) (by have := (HI.out 1 (by omega)).2.1; omega) (by have := (HI.out 2 (by omega)).2.1; omega) HT6.out.b).mono ?_
        rintro e w7 ⟨rfl, hb7⟩
        have HT7 := Lib.hid (HT6.out.past hb7); have HK7 := Lib.hid (And.intro (HK6.out.1.past hb7) HK6.out.2)
        clear hb7 c0 c1 c2 c3 cl a0 a1 a2 al HT6 HK6
        have kl := HK7.out.1.lt; have kf := HK7.out.1.f
        have o0 := HT7.out.o.c 0 (by omega); have o1 := HT7.out.o.c 1 (by omega); have o2 := HT7.out.o.c 2 (by omega); have ol := HT7.out.o.lt
        have k0 := HK7.out.1.c 0 (by omega); have k1 := HK7.out.1.c 1 (by omega); have k2 := HK7.out.1.c 2 (by omega)
        have nko : nk ≠ no := by have := HK7.out.2; omega
        have nok : no ≠ nk := Ne.symm nko
        go_wp2_with fail
        go_loopw [76] (fun s76 wr => ∃ r : Nat, r ≤ 3 ∧ s76 = .int .i64 r ∧ TeR w wr [.int .i64 S, .float .f32 lo, .float .f32 hi, .slice (some ⟨b, off, none⟩) n cap] p na (na + 1) no x (atR i o r) o ∧ ∃ q, VecF wr nk 12 q ∧ CorQ S i o fs (r + 1) q) (fun s76 _ => 3 - (intOf s76).toNat)
        case atStart => exact ⟨0, by omega, rfl, HT7.out.far3 nk 0 _ _ _ HK7.out.2, _, HK7.out.1.set3 0 _ _ _ (by omega), corQ_step (corQ_zero S i o fs _)⟩
        case round =>
          obtain ⟨r, hr, rfl, hR, q, hK, hQ⟩ := hrel
          have lk := HK7.out.2
          have HR := Lib.hid hR
          have HK := Lib.hid (And.intro hK (And.intro hQ lk))
          clear hR hK hQ lk HT7 HK7 kl kf o0 o1 o2 ol k0 k1 k2 nko nok
          by_cases hr3 : r < 3
          · rcases (show r = 0 ∨ r = 1 ∨ r = 2 by omega) with rfl | rfl | rfl
            ·
              rw [show ((0 : Nat) : Int) = 0 from rfl]
              obtain ⟨y, hy⟩ : ∃ y, y = o 0 := ⟨_, rfl⟩
              have hb : y < 3 := hy ▸ isP_lt IO.out (by omega)
              have jx : ∀ w, (Instr.index 57 (.agg #[.int .i64 (o 0 : Nat), .int .i64 (o 1 : Nat), .int .i64 (o 2 : Nat)]) (.int .i64 0)).run Try.prog w = .ok (.int .i64 (y : Nat)) w := fun w => by rw [hy]; kernel_rfl
              obtain ⟨A, hA⟩ : ∃ A, A = atR i o 0 y := ⟨_, rfl⟩
              have v0 := HR.out.a.c y hb
              rw [← hA] at v0
              have bA : A < 17 := by have := atR_le (S := S) IO.out (fun a ha => (HI.out a ha).2.1) 0 (by omega) y hb; have := HS.out; omega
              have u : IntKind.i64.wrap ((A : Int) + 1) = ((A + 1 : Nat) : Int) := by rw [IntKind.wrap_i64]; omega
              have bi : (y : Int) < 3 := by omega
              have al := HR.out.a.lt
              have af := HR.out.a.f
              have HY := Lib.hid (And.intro hy hA)
              clear hy hA bA hr hr3
              go_upto_region 17 with fail
              refine wp_world (fun W7 hW7 => ?_)
              have T7 : TeR w W7 [.int .i64 S, .float .f32 lo, .float .f32 hi, .slice (some ⟨b, off, none⟩) n cap] p na (na + 1) no x (atR i o (0 + 1)) o := by
                obtain ⟨rfl, rfl⟩ := HY.out
                rw [hW7]
                exact (HR.out.past (Below.refl _ _)).step 0 hb
              have K7 : VecF W7 nk 12 q := by
                rw [hW7]
                exact HK.out.1.far _ _ (by have := HR.out.l; have := HK.out.2.2; simp; omega)
              have HT7 := Lib.hid T7
              have HK7 := Lib.hid (And.intro K7 HK.out.2)
              clear hW7 T7 K7 HR HK v0 u bi al af jx
              have c0 := HT7.out.c.c 0 _ rfl; have c1 := HT7.out.c.c 1 _ rfl; have c2 := HT7.out.c.c 2 _ rfl; have c3 := HT7.out.c.c 3 _ rfl; have cl := HT7.out.c.lt
              have a0 := HT7.out.a.c 0 (by omega); have a1 := HT7.out.a.c 1 (by omega); have a2 := HT7.out.a.c 2 (by omega); have al := HT7.out.a.lt
              have HAT := Lib.hid (fun a ha => atR_le (S := S) IO.out (fun a ha => (HI.out a ha).2.1) (0 + 1) (by omega) a ha : ∀ a, a < 3 → atR i o (0 + 1) a < S)
              go_wp2_with fail
              refine (HE.out _ _ _ _ (HAT.out 0 (by omega)) (HAT.out 1 (by omega)) (HAT.out 2 (by omega)) HT7.out.b).mono ?_
              rintro e w8 ⟨rfl, hb8⟩
              have HT8 := Lib.hid (HT7.out.past hb8); have HK8 := Lib.hid (And.intro (HK7.out.1.past hb8) HK7.out.2)
              clear hb8 c0 c1 c2 c3 cl a0 a1 a2 al HT7 HK7
              have kl := HK8.out.1.lt; have kf := HK8.out.1.f
              have k0 := HK8.out.1.c (3 * 0 + 3) (by omega); have k1 := HK8.out.1.c (3 * 0 + 4) (by omega); have k2 := HK8.out.1.c (3 * 0 + 5) (by omega)
              go_wp2_with fail
              go_roundw
              case rel =>
                exact ⟨0 + 1, by omega, by first | rfl | go_num, HT8.out.far3 nk (3 * (0 + 1)) _ _ _ HK8.out.2.2, _, HK8.out.1.set3 (3 * (0 + 1)) _ _ _ (by omega), corQ_step HK8.out.2.1⟩
              case measure => simp [intOf]
            ·
              rw [show ((1 : Nat) : Int) = 1 from rfl]
              obtain ⟨y, hy⟩ : ∃ y, y = o 1 := ⟨_, rfl⟩
              have hb : y < 3 := hy ▸ isP_lt IO.out (by omega)
              have jx : ∀ w, (Instr.index 57 (.agg #[.int .i64 (o 0 : Nat), .int .i64 (o 1 : Nat), .int .i64 (o 2 : Nat)]) (.int .i64 1)).run Try.prog w = .ok (.int .i64 (y : Nat)) w := fun w => by rw [hy]; kernel_rfl
              obtain ⟨A, hA⟩ : ∃ A, A = atR i o 1 y := ⟨_, rfl⟩
              have v0 := HR.out.a.c y hb
              rw [← hA] at v0
              have bA : A < 17 := by have := atR_le (S := S) IO.out (fun a ha => (HI.out a ha).2.1) 1 (by omega) y hb; have := HS.out; omega
              have u : IntKind.i64.wrap ((A : Int) + 1) = ((A + 1 : Nat) : Int) := by rw [IntKind.wrap_i64]; omega
              have bi : (y : Int) < 3 := by omega
              have al := HR.out.a.lt
              have af := HR.out.a.f
              have HY := Lib.hid (And.intro hy hA)
              clear hy hA bA hr hr3
              go_upto_region 17 with fail
              refine wp_world (fun W7 hW7 => ?_)
              have T7 : TeR w W7 [.int .i64 S, .float .f32 lo, .float .f32 hi, .slice (some ⟨b, off, none⟩) n cap] p na (na + 1) no x (atR i o (1 + 1)) o := by
                obtain ⟨rfl, rfl⟩ := HY.out
                rw [hW7]
                exact (HR.out.past (Below.refl _ _)).step 1 hb
              have K7 : VecF W7 nk 12 q := by
                rw [hW7]
                exact HK.out.1.far _ _ (by have := HR.out.l; have := HK.out.2.2; simp; omega)
              have HT7 := Lib.hid T7
              have HK7 := Lib.hid (And.intro K7 HK.out.2)
              clear hW7 T7 K7 HR HK v0 u bi al af jx
              have c0 := HT7.out.c.c 0 _ rfl; have c1 := HT7.out.c.c 1 _ rfl; have c2 := HT7.out.c.c 2 _ rfl; have c3 := HT7.out.c.c 3 _ rfl; have cl := HT7.out.c.lt
              have a0 := HT7.out.a.c 0 (by omega); have a1 := HT7.out.a.c 1 (by omega); have a2 := HT7.out.a.c 2 (by omega); have al := HT7.out.a.lt
              have HAT := Lib.hid (fun a ha => atR_le (S := S) IO.out (fun a ha => (HI.out a ha).2.1) (1 + 1) (by omega) a ha : ∀ a, a < 3 → atR i o (1 + 1) a < S)
              go_wp2_with fail
              refine (HE.out _ _ _ _ (HAT.out 0 (by omega)) (HAT.out 1 (by omega)) (HAT.out 2 (by omega)) HT7.out.b).mono ?_
              rintro e w8 ⟨rfl, hb8⟩
              have HT8 := Lib.hid (HT7.out.past hb8); have HK8 := Lib.hid (And.intro (HK7.out.1.past hb8) HK7.out.2)
              clear hb8 c0 c1 c2 c3 cl a0 a1 a2 al HT7 HK7
              have kl := HK8.out.1.lt; have kf := HK8.out.1.f
              have k0 := HK8.out.1.c (3 * 1 + 3) (by omega); have k1 := HK8.out.1.c (3 * 1 + 4) (by omega); have k2 := HK8.out.1.c (3 * 1 + 5) (by omega)
              go_wp2_with fail
              go_roundw
              case rel =>
                exact ⟨1 + 1, by omega, by first | rfl | go_num, HT8.out.far3 nk (3 * (1 + 1)) _ _ _ HK8.out.2.2, _, HK8.out.1.set3 (3 * (1 + 1)) _ _ _ (by omega), corQ_step HK8.out.2.1⟩
              case measure => simp [intOf]
            ·
              rw [show ((2 : Nat) : Int) = 2 from rfl]
              obtain ⟨y, hy⟩ : ∃ y, y = o 2 := ⟨_, rfl⟩
              have hb : y < 3 := hy ▸ isP_lt IO.out (by omega)
              have jx : ∀ w, (Instr.index 57 (.agg #[.int .i64 (o 0 : Nat), .int .i64 (o 1 : Nat), .int .i64 (o 2 : Nat)]) (.int .i64 2)).run Try.prog w = .ok (.int .i64 (y : Nat)) w := fun w => by rw [hy]; kernel_rfl
              obtain ⟨A, hA⟩ : ∃ A, A = atR i o 2 y := ⟨_, rfl⟩
              have v0 := HR.out.a.c y hb
              rw [← hA] at v0
              have bA : A < 17 := by have := atR_le (S := S) IO.out (fun a ha => (HI.out a ha).2.1) 2 (by omega) y hb; have := HS.out; omega
              have u : IntKind.i64.wrap ((A : Int) + 1) = ((A + 1 : Nat) : Int) := by rw [IntKind.wrap_i64]; omega
              have bi : (y : Int) < 3 := by omega
              have al := HR.out.a.lt
              have af := HR.out.a.f
              have HY := Lib.hid (And.intro hy hA)
              clear hy hA bA hr hr3
              go_upto_region 17 with fail
              refine wp_world (fun W7 hW7 => ?_)
              have T7 : TeR w W7 [.int .i64 S, .float .f32 lo, .float .f32 hi, .slice (some ⟨b, off, none⟩) n cap] p na (na + 1) no x (atR i o (2 + 1)) o := by
                obtain ⟨rfl, rfl⟩ := HY.out
                rw [hW7]
                exact (HR.out.past (Below.refl _ _)).step 2 hb
              have K7 : VecF W7 nk 12 q := by
                rw [hW7]
                exact HK.out.1.far _ _ (by have := HR.out.l; have := HK.out.2.2; simp; omega)
              have HT7 := Lib.hid T7
              have HK7 := Lib.hid (And.intro K7 HK.out.2)
              clear hW7 T7 K7 HR HK v0 u bi al af jx
              have c0 := HT7.out.c.c 0 _ rfl; have c1 := HT7.out.c.c 1 _ rfl; have c2 := HT7.out.c.c 2 _ rfl; have c3 := HT7.out.c.c 3 _ rfl; have cl := HT7.out.c.lt
              have a0 := HT7.out.a.c 0 (by omega); have a1 := HT7.out.a.c 1 (by omega); have a2 := HT7.out.a.c 2 (by omega); have al := HT7.out.a.lt
              have HAT := Lib.hid (fun a ha => atR_le (S := S) IO.out (fun a ha => (HI.out a ha).2.1) (2 + 1) (by omega) a ha : ∀ a, a < 3 → atR i o (2 + 1) a < S)
              go_wp2_with fail
              refine (HE.out _ _ _ _ (HAT.out 0 (by omega)) (HAT.out 1 (by omega)) (HAT.out 2 (by omega)) HT7.out.b).mono ?_
              rintro e w8 ⟨rfl, hb8⟩
              have HT8 := Lib.hid (HT7.out.past hb8); have HK8 := Lib.hid (And.intro (HK7.out.1.past hb8) HK7.out.2)
              clear hb8 c0 c1 c2 c3 cl a0 a1 a2 al HT7 HK7
              have kl := HK8.out.1.lt; have kf := HK8.out.1.f
              have k0 := HK8.out.1.c (3 * 2 + 3) (by omega); have k1 := HK8.out.1.c (3 * 2 + 4) (by omega); have k2 := HK8.out.1.c (3 * 2 + 5) (by omega)
              go_wp2_with fail
              go_roundw
              case rel =>
                exact ⟨2 + 1, by omega, by first | rfl | go_num, HT8.out.far3 nk (3 * (2 + 1)) _ _ _ HK8.out.2.2, _, HK8.out.1.set3 (3 * (2 + 1)) _ _ _ (by omega), corQ_step HK8.out.2.1⟩
              case measure => simp [intOf]
          · obtain rfl : r = 3 := by omega
            clear hr hr3 HE HI
            obtain ⟨y0, e0⟩ : ∃ y, y = o 0 := ⟨_, rfl⟩
            obtain ⟨y1, e1⟩ : ∃ y, y = o 1 := ⟨_, rfl⟩
            obtain ⟨y2, e2⟩ : ∃ y, y = o 2 := ⟨_, rfl⟩
            have b0 : y0 < 3 := e0 ▸ isP_lt IO.out (by omega)
            have b1 : y1 < 3 := e1 ▸ isP_lt IO.out (by omega)
            have b2 : y2 < 3 := e2 ▸ isP_lt IO.out (by omega)
            have q0 := HR.out.o.c 0 (by omega); have q1 := HR.out.o.c 1 (by omega); have q2 := HR.out.o.c 2 (by omega)
            rw [← e0] at q0; rw [← e1] at q1; rw [← e2] at q2
            have v0 := HR.out.s.c y0 b0; have v1 := HR.out.s.c y1 b1; have v2 := HR.out.s.c y2 b2
            have bi0 : (y0 : Int) < 3 := by omega
            have bi1 : (y1 : Int) < 3 := by omega
            have bi2 : (y2 : Int) < 3 := by omega
            have sl := HR.out.s.lt; have ol := HR.out.o.lt
            obtain ⟨s, hs⟩ : ∃ z, z = x y0 := ⟨_, rfl⟩
            obtain ⟨t, ht⟩ : ∃ z, z = x y1 := ⟨_, rfl⟩
            obtain ⟨u, hu⟩ : ∃ z, z = x y2 := ⟨_, rfl⟩
            rw [← hs] at v0; rw [← ht] at v1; rw [← hu] at v2
            have HMX : Hid (∀ m, m < 3 → tetF S lo hi fs p m = mixT (q m) (q (3 + m)) (q (6 + m)) (q (9 + m)) s t u) := fun m hm => by
              rw [hs, ht, hu, e0, e1, e2]
              exact tetF_mix HBR.out hm HIX.out.1 HIX.out.2 HO.out HK.out.2.1
            clear e0 e1 e2 hs ht hu HO IO HBR HIX
            go_wp2_with fail
            go_quiet (fail)
            go_upto_region 20 with fail
            refine wp_world (fun W9 hW9 => ?_)
            have hb9 : Below wr.heap.size wr W9 := by rw [hW9]; (repeat (first | exact Below.refl _ _ | assumption | (refine Below.setCell ?_ (by first | (simp; done) | (simp; omega) | omega) _) | (refine Below.drew ?_) | (refine below_drewN ?_ _) | (refine Below.alloc ?_ (by first | (simp; done) | (simp; omega) | omega) _) | (refine Below.trans ?_ (Below.mono (by assumption) (by first | (simp; done) | (simp; omega) | omega)))))
            have HR9 := Lib.hid (HR.out.past hb9); have HK9 := Lib.hid (And.intro (HK.out.1.past hb9) HK.out.2.2)
            clear hW9 hb9 q0 q1 q2 v0 v1 v2 b0 b1 b2 bi0 bi1 bi2 sl ol HR HK
            have p3 := HR9.out.p.c 3 (by omega); have pl := HR9.out.p.lt
            go_upto_region 21 with (first | (go_at_call 32; refine (Clean_any _ _).mono ?_; rintro e w' ⟨rfl, rfl⟩))
            refine wp_world (fun W10 hW10 => ?_)
            have lnz : nk < W9.heap.size := HK9.out.1.lt
            have OB : VecF W10 W9.heap.size 4 (fun j => if j = 3 then cn .f32 (p 3) else 0) := by rw [hW10]; exact VecF.of4 (f := fun j => if j = 3 then cn .f32 (p 3) else 0) (Blk.new _ _ _ _ rfl)
            have B10 : Below W9.heap.size W9 W10 := by rw [hW10]; (repeat (first | exact Below.refl _ _ | assumption | (refine Below.setCell ?_ (by first | (simp; done) | (simp; omega) | omega) _) | (refine Below.drew ?_) | (refine below_drewN ?_ _) | (refine Below.alloc ?_ (by first | (simp; done) | (simp; omega) | omega) _) | (refine Below.trans ?_ (Below.mono (by assumption) (by first | (simp; done) | (simp; omega) | omega)))))
            have HR10 := Lib.hid (HR9.out.past B10); have HK10 := Lib.hid (And.intro (HK9.out.1.past B10) HK9.out.2)
            have HO10 := Lib.hid (And.intro OB lnz)
            clear hW10 OB B10 HR9 HK9 lnz p3 pl
            generalize W9.heap.size = nz at *
            go_wp2_with fail
            go_loopw [113] (fun s113 wr => ∃ m : Nat, m ≤ 3 ∧ s113 = .int .i64 m ∧ TeR w wr [.int .i64 S, .float .f32 lo, .float .f32 hi, .slice (some ⟨b, off, none⟩) n cap] p na (na + 1) no x (atR i o 3) o ∧ VecF wr nk 12 q ∧ ∃ h, VecF wr nz 4 h ∧ h 3 = cn .f32 (p 3) ∧ ∀ j, j < m → h j = tetF S lo hi fs p j) (fun s113 _ => 3 - (intOf s113).toNat)
            case atStart => exact ⟨0, by omega, rfl, HR10.out, HK10.out.1, _, HO10.out.1, rfl, fun j hj => by omega⟩
            case round =>
              obtain ⟨m, hm, rfl, hR, hK, h, hO, h3, he⟩ := hrel
              have HL := Lib.hid (And.intro HK10.out.2 HO10.out.2)
              have HR := Lib.hid hR; have HK := Lib.hid hK; have HO := Lib.hid (And.intro hO (And.intro h3 he))
              clear hR hK hO h3 he HR10 HK10 HO10
              by_cases hm3 : m < 3
              · rcases (show m = 0 ∨ m = 1 ∨ m = 2 by omega) with rfl | rfl | rfl
                ·
                  rw [show ((0 : Nat) : Int) = 0 from rfl]
                  clear hm hm3
                  obtain ⟨a1, ha⟩ : ∃ z, z = q 0 := ⟨_, rfl⟩
                  obtain ⟨b1, hb⟩ : ∃ z, z = q (3 + 0) := ⟨_, rfl⟩
                  obtain ⟨d1, hd⟩ : ∃ z, z = q (6 + 0) := ⟨_, rfl⟩
                  obtain ⟨f1, hf⟩ : ∃ z, z = q (9 + 0) := ⟨_, rfl⟩
                  have k0 := HK.out.c 0 (by omega); have k1 := HK.out.c (3 + 0) (by omega); have k2 := HK.out.c (6 + 0) (by omega); have k3 := HK.out.c (9 + 0) (by omega)
                  rw [← ha] at k0; rw [← hb] at k1; rw [← hd] at k2; rw [← hf] at k3
                  have HA := Lib.hid (And.intro ha (And.intro hb (And.intro hd hf)))
                  clear ha hb hd hf
                  have kl := HK.out.lt
                  go_wp2_with fail
                  go_quiet (fail)
                  clear k0 k1 k2 k3
                  go_upto_region 26 with (first | ((with_reducible apply wpList_farith); rfl; rfl; rfl; intro _ _ _) | ((with_reducible apply wpList_up); rfl; exact Try.underlying22; exact Try.underlying31; intro _ _ _))
                  rename_i r1 n1 h1 r2 n2 h2 r3 n3 h3 r4 n4 h4 r5 n5 h5 r6 n6 h6 r7 n7 h7 r8 n8 h8 r9 n9 h9 _ _ _ _
                  have hv := tet_fr h1 h2 h3 h4 h5 h6 h7 h8 h9
                  clear h1 h2 h3 h4 h5 h6 h7 h8 h9
                  have ol := HO.out.1.lt
                  have of := HO.out.1.f
                  have o0 := HO.out.1.c 0 (by omega)
                  cases g0 : (FloatKind.f32.format.order s 0 == some .eq)
                  case true =>
                    go_wp2_with (first | (go_at_call 32; refine (Clean_any _ _).mono ?_; rintro e w' ⟨rfl, rfl⟩))
                    go_roundw
                    case rel =>
                      exact ⟨0 + 1, by omega, by first | rfl | go_num, (HR.out.past (by (repeat (first | exact Below.refl _ _ | assumption | (refine Below.setCell ?_ (by first | (simp; done) | (simp; omega) | omega) _) | (refine Below.drew ?_) | (refine below_drewN ?_ _) | (refine Below.alloc ?_ (by first | (simp; done) | (simp; omega) | omega) _) | (refine Below.trans ?_ (Below.mono (by assumption) (by first | (simp; done) | (simp; omega) | omega))))))).far _ _ (by have := HL.out; simp; omega), (HK.out.past (by (repeat (first | exact Below.refl _ _ | assumption | (refine Below.setCell ?_ (by first | (simp; done) | (simp; omega) | omega) _) | (refine Below.drew ?_) | (refine below_drewN ?_ _) | (refine Below.alloc ?_ (by first | (simp; done) | (simp; omega) | omega) _) | (refine Below.trans ?_ (Below.mono (by assumption) (by first | (simp; done) | (simp; omega) | omega))))))).far _ _ (by have := HL.out; simp; omega), _, (HO.out.1.past (by (repeat (first | exact Below.refl _ _ | assumption | (refine Below.setCell ?_ (by first | (simp; done) | (simp; omega) | omega) _) | (refine Below.drew ?_) | (refine below_drewN ?_ _) | (refine Below.alloc ?_ (by first | (simp; done) | (simp; omega) | omega) _) | (refine Below.trans ?_ (Below.mono (by assumption) (by first | (simp; done) | (simp; omega) | omega))))))).set 0 _ (by omega), HO.out.2.1, tet_next HO.out.2.2 (by rw [HMX.out 0 (by omega), ← HA.out.1, ← HA.out.2.1, ← HA.out.2.2.1, ← HA.out.2.2.2]; simp [mixT, *])⟩
                    case measure => simp [intOf]
                  case false =>
                    cases g1 : (FloatKind.f32.format.order s 1065353216 == some .eq)
                    case false =>
                      cases g3 : (FloatKind.f32.format.order t 1065353216 == some .eq)
                      case false =>
                        cases g5 : (FloatKind.f32.format.order u 1065353216 == some .eq)
                        case false =>
                          go_wp2_with (first | (go_at_call 32; refine (Clean_any _ _).mono ?_; rintro e w' ⟨rfl, rfl⟩))
                          go_roundw
                          case rel =>
                            exact ⟨0 + 1, by omega, by first | rfl | go_num, (HR.out.past (by (repeat (first | exact Below.refl _ _ | assumption | (refine Below.setCell ?_ (by first | (simp; done) | (simp; omega) | omega) _) | (refine Below.drew ?_) | (refine below_drewN ?_ _) | (refine Below.alloc ?_ (by first | (simp; done) | (simp; omega) | omega) _) | (refine Below.trans ?_ (Below.mono (by assumption) (by first | (simp; done) | (simp; omega) | omega))))))).far _ _ (by have := HL.out; simp; omega), (HK.out.past (by (repeat (first | exact Below.refl _ _ | assumption | (refine Below.setCell ?_ (by first | (simp; done) | (simp; omega) | omega) _) | (refine Below.drew ?_) | (refine below_drewN ?_ _) | (refine Below.alloc ?_ (by first | (simp; done) | (simp; omega) | omega) _) | (refine Below.trans ?_ (Below.mono (by assumption) (by first | (simp; done) | (simp; omega) | omega))))))).far _ _ (by have := HL.out; simp; omega), _, (HO.out.1.past (by (repeat (first | exact Below.refl _ _ | assumption | (refine Below.setCell ?_ (by first | (simp; done) | (simp; omega) | omega) _) | (refine Below.drew ?_) | (refine below_drewN ?_ _) | (refine Below.alloc ?_ (by first | (simp; done) | (simp; omega) | omega) _) | (refine Below.trans ?_ (Below.mono (by assumption) (by first | (simp; done) | (simp; omega) | omega))))))).set 0 _ (by omega), HO.out.2.1, tet_next HO.out.2.2 (by rw [HMX.out 0 (by omega), ← HA.out.1, ← HA.out.2.1, ← HA.out.2.2.1, ← HA.out.2.2.2]; simp [mixT, *])⟩
                          case measure => simp [intOf]
                        case true =>
                          go_wp2_with (first | (go_at_call 32; refine (Clean_any _ _).mono ?_; rintro e w' ⟨rfl, rfl⟩))
                          go_roundw
                          case rel =>
                            exact ⟨0 + 1, by omega, by first | rfl | go_num, (HR.out.past (by (repeat (first | exact Below.refl _ _ | assumption | (refine Below.setCell ?_ (by first | (simp; done) | (simp; omega) | omega) _) | (refine Below.drew ?_) | (refine below_drewN ?_ _) | (refine Below.alloc ?_ (by first | (simp; done) | (simp; omega) | omega) _) | (refine Below.trans ?_ (Below.mono (by assumption) (by first | (simp; done) | (simp; omega) | omega))))))).far _ _ (by have := HL.out; simp; omega), (HK.out.past (by (repeat (first | exact Below.refl _ _ | assumption | (refine Below.setCell ?_ (by first | (simp; done) | (simp; omega) | omega) _) | (refine Below.drew ?_) | (refine below_drewN ?_ _) | (refine Below.alloc ?_ (by first | (simp; done) | (simp; omega) | omega) _) | (refine Below.trans ?_ (Below.mono (by assumption) (by first | (simp; done) | (simp; omega) | omega))))))).far _ _ (by have := HL.out; simp; omega), _, (HO.out.1.past (by (repeat (first | exact Below.refl _ _ | assumption | (refine Below.setCell ?_ (by first | (simp; done) | (simp; omega) | omega) _) | (refine Below.drew ?_) | (refine below_drewN ?_ _) | (refine Below.alloc ?_ (by first | (simp; done) | (simp; omega) | omega) _) | (refine Below.trans ?_ (Below.mono (by assumption) (by first | (simp; done) | (simp; omega) | omega))))))).set 0 _ (by omega), HO.out.2.1, tet_next HO.out.2.2 (by rw [HMX.out 0 (by omega), ← HA.out.1, ← HA.out.2.1, ← HA.out.2.2.1, ← HA.out.2.2.2]; simp [mixT, *])⟩
                          case measure => simp [intOf]
                      case true =>
                        cases g4 : (FloatKind.f32.format.order u 0 == some .eq)
                        case true =>
                          go_wp2_with (first | (go_at_call 32; refine (Clean_any _ _).mono ?_; rintro e w' ⟨rfl, rfl⟩))
                          go_roundw
                          case rel =>
                            exact ⟨0 + 1, by omega, by first | rfl | go_num, (HR.out.past (by (repeat (first | exact Below.refl _ _ | assumption | (refine Below.setCell ?_ (by first | (simp; done) | (simp; omega) | omega) _) | (refine Below.drew ?_) | (refine below_drewN ?_ _) | (refine Below.alloc ?_ (by first | (simp; done) | (simp; omega) | omega) _) | (refine Below.trans ?_ (Below.mono (by assumption) (by first | (simp; done) | (simp; omega) | omega))))))).far _ _ (by have := HL.out; simp; omega), (HK.out.past (by (repeat (first | exact Below.refl _ _ | assumption | (refine Below.setCell ?_ (by first | (simp; done) | (simp; omega) | omega) _) | (refine Below.drew ?_) | (refine below_drewN ?_ _) | (refine Below.alloc ?_ (by first | (simp; done) | (simp; omega) | omega) _) | (refine Below.trans ?_ (Below.mono (by assumption) (by first | (simp; done) | (simp; omega) | omega))))))).far _ _ (by have := HL.out; simp; omega), _, (HO.out.1.past (by (repeat (first | exact Below.refl _ _ | assumption | (refine Below.setCell ?_ (by first | (simp; done) | (simp; omega) | omega) _) | (refine Below.drew ?_) | (refine below_drewN ?_ _) | (refine Below.alloc ?_ (by first | (simp; done) | (simp; omega) | omega) _) | (refine Below.trans ?_ (Below.mono (by assumption) (by first | (simp; done) | (simp; omega) | omega))))))).set 0 _ (by omega), HO.out.2.1, tet_next HO.out.2.2 (by rw [HMX.out 0 (by omega), ← HA.out.1, ← HA.out.2.1, ← HA.out.2.2.1, ← HA.out.2.2.2]; simp [mixT, *])⟩
                          case measure => simp [intOf]
                        case false =>
                          cases g5 : (FloatKind.f32.format.order u 1065353216 == some .eq)
                          case false =>
                            go_wp2_with (first | (go_at_call 32; refine (Clean_any _ _).mono ?_; rintro e w' ⟨rfl, rfl⟩))
                            go_roundw
                            case rel =>
                              exact ⟨0 + 1, by omega, by first | rfl | go_num, (HR.out.past (by (repeat (first | exact Below.refl _ _ | assumption | (refine Below.setCell ?_ (by first | (simp; done) | (simp; omega) | omega) _) | (refine Below.drew ?_) | (refine below_drewN ?_ _) | (refine Below.alloc ?_ (by first | (simp; done) | (simp; omega) | omega) _) | (refine Below.trans ?_ (Below.mono (by assumption) (by first | (simp; done) | (simp; omega) | omega))))))).far _ _ (by have := HL.out; simp; omega), (HK.out.past (by (repeat (first | exact Below.refl _ _ | assumption | (refine Below.setCell ?_ (by first | (simp; done) | (simp; omega) | omega) _) | (refine Below.drew ?_) | (refine below_drewN ?_ _) | (refine Below.alloc ?_ (by first | (simp; done) | (simp; omega) | omega) _) | (refine Below.trans ?_ (Below.mono (by assumption) (by first | (simp; done) | (simp; omega) | omega))))))).far _ _ (by have := HL.out; simp; omega), _, (HO.out.1.past (by (repeat (first | exact Below.refl _ _ | assumption | (refine Below.setCell ?_ (by first | (simp; done) | (simp; omega) | omega) _) | (refine Below.drew ?_) | (refine below_drewN ?_ _) | (refine Below.alloc ?_ (by first | (simp; done) | (simp; omega) | omega) _) | (refine Below.trans ?_ (Below.mono (by assumption) (by first | (simp; done) | (simp; omega) | omega))))))).set 0 _ (by omega), HO.out.2.1, tet_next HO.out.2.2 (by rw [HMX.out 0 (by omega), ← HA.out.1, ← HA.out.2.1, ← HA.out.2.2.1, ← HA.out.2.2.2]; simp [mixT, *])⟩
                            case measure => simp [intOf]
                          case true =>
                            go_wp2_with (first | (go_at_call 32; refine (Clean_any _ _).mono ?_; rintro e w' ⟨rfl, rfl⟩))
                            go_roundw
                            case rel =>
                              exact ⟨0 + 1, by omega, by first | rfl | go_num, (HR.out.past (by (repeat (first | exact Below.refl _ _ | assumption | (refine Below.setCell ?_ (by first | (simp; done) | (simp; omega) | omega) _) | (refine Below.drew ?_) | (refine below_drewN ?_ _) | (refine Below.alloc ?_ (by first | (simp; done) | (simp; omega) | omega) _) | (refine Below.trans ?_ (Below.mono (by assumption) (by first | (simp; done) | (simp; omega) | omega))))))).far _ _ (by have := HL.out; simp; omega), (HK.out.past (by (repeat (first | exact Below.refl _ _ | assumption | (refine Below.setCell ?_ (by first | (simp; done) | (simp; omega) | omega) _) | (refine Below.drew ?_) | (refine below_drewN ?_ _) | (refine Below.alloc ?_ (by first | (simp; done) | (simp; omega) | omega) _) | (refine Below.trans ?_ (Below.mono (by assumption) (by first | (simp; done) | (simp; omega) | omega))))))).far _ _ (by have := HL.out; simp; omega), _, (HO.out.1.past (by (repeat (first | exact Below.refl _ _ | assumption | (refine Below.setCell ?_ (by first | (simp; done) | (simp; omega) | omega) _) | (refine Below.drew ?_) | (refine below_drewN ?_ _) | (refine Below.alloc ?_ (by first | (simp; done) | (simp; omega) | omega) _) | (refine Below.trans ?_ (Below.mono (by assumption) (by first | (simp; done) | (simp; omega) | omega))))))).set 0 _ (by omega), HO.out.2.1, tet_next HO.out.2.2 (by rw [HMX.out 0 (by omega), ← HA.out.1, ← HA.out.2.1, ← HA.out.2.2.1, ← HA.out.2.2.2]; simp [mixT, *])⟩
                            case measure => simp [intOf]
                    case true =>
                      cases g2 : (FloatKind.f32.format.order t 0 == some .eq)
                      case true =>
                        go_wp2_with (first | (go_at_call 32; refine (Clean_any _ _).mono ?_; rintro e w' ⟨rfl, rfl⟩))
                        go_roundw
                        case rel =>
                          exact ⟨0 + 1, by omega, by first | rfl | go_num, (HR.out.past (by (repeat (first | exact Below.refl _ _ | assumption | (refine Below.setCell ?_ (by first | (simp; done) | (simp; omega) | omega) _) | (refine Below.drew ?_) | (refine below_drewN ?_ _) | (refine Below.alloc ?_ (by first | (simp; done) | (simp; omega) | omega) _) | (refine Below.trans ?_ (Below.mono (by assumption) (by first | (simp; done) | (simp; omega) | omega))))))).far _ _ (by have := HL.out; simp; omega), (HK.out.past (by (repeat (first | exact Below.refl _ _ | assumption | (refine Below.setCell ?_ (by first | (simp; done) | (simp; omega) | omega) _) | (refine Below.drew ?_) | (refine below_drewN ?_ _) | (refine Below.alloc ?_ (by first | (simp; done) | (simp; omega) | omega) _) | (refine Below.trans ?_ (Below.mono (by assumption) (by first | (simp; done) | (simp; omega) | omega))))))).far _ _ (by have := HL.out; simp; omega), _, (HO.out.1.past (by (repeat (first | exact Below.refl _ _ | assumption | (refine Below.setCell ?_ (by first | (simp; done) | (simp; omega) | omega) _) | (refine Below.drew ?_) | (refine below_drewN ?_ _) | (refine Below.alloc ?_ (by first | (simp; done) | (simp; omega) | omega) _) | (refine Below.trans ?_ (Below.mono (by assumption) (by first | (simp; done) | (simp; omega) | omega))))))).set 0 _ (by omega), HO.out.2.1, tet_next HO.out.2.2 (by rw [HMX.out 0 (by omega), ← HA.out.1, ← HA.out.2.1, ← HA.out.2.2.1, ← HA.out.2.2.2]; simp [mixT, *])⟩
                        case measure => simp [intOf]
                      case false =>
                        cases g3 : (FloatKind.f32.format.order t 1065353216 == some .eq)
                        case false =>
                          cases g5 : (FloatKind.f32.format.order u 1065353216 == some .eq)
                          case false =>
                            go_wp2_with (first | (go_at_call 32; refine (Clean_any _ _).mono ?_; rintro e w' ⟨rfl, rfl⟩))
                            go_roundw
                            case rel =>
                              exact ⟨0 + 1, by omega, by first | rfl | go_num, (HR.out.past (by (repeat (first | exact Below.refl _ _ | assumption | (refine Below.setCell ?_ (by first | (simp; done) | (simp; omega) | omega) _) | (refine Below.drew ?_) | (refine below_drewN ?_ _) | (refine Below.alloc ?_ (by first | (simp; done) | (simp; omega) | omega) _) | (refine Below.trans ?_ (Below.mono (by assumption) (by first | (simp; done) | (simp; omega) | omega))))))).far _ _ (by have := HL.out; simp; omega), (HK.out.past (by (repeat (first | exact Below.refl _ _ | assumption | (refine Below.setCell ?_ (by first | (simp; done) | (simp; omega) | omega) _) | (refine Below.drew ?_) | (refine below_drewN ?_ _) | (refine Below.alloc ?_ (by first | (simp; done) | (simp; omega) | omega) _) | (refine Below.trans ?_ (Below.mono (by assumption) (by first | (simp; done) | (simp; omega) | omega))))))).far _ _ (by have := HL.out; simp; omega), _, (HO.out.1.past (by (repeat (first | exact Below.refl _ _ | assumption | (refine Below.setCell ?_ (by first | (simp; done) | (simp; omega) | omega) _) | (refine Below.drew ?_) | (refine below_drewN ?_ _) | (refine Below.alloc ?_ (by first | (simp; done) | (simp; omega) | omega) _) | (refine Below.trans ?_ (Below.mono (by assumption) (by first | (simp; done) | (simp; omega) | omega))))))).set 0 _ (by omega), HO.out.2.1, tet_next HO.out.2.2 (by rw [HMX.out 0 (by omega), ← HA.out.1, ← HA.out.2.1, ← HA.out.2.2.1, ← HA.out.2.2.2]; simp [mixT, *])⟩
                            case measure => simp [intOf]
                          case true =>
                            go_wp2_with (first | (go_at_call 32; refine (Clean_any _ _).mono ?_; rintro e w' ⟨rfl, rfl⟩))
                            go_roundw
                            case rel =>
                              exact ⟨0 + 1, by omega, by first | rfl | go_num, (HR.out.past (by (repeat (first | exact Below.refl _ _ | assumption | (refine Below.setCell ?_ (by first | (simp; done) | (simp; omega) | omega) _) | (refine Below.drew ?_) | (refine below_drewN ?_ _) | (refine Below.alloc ?_ (by first | (simp; done) | (simp; omega) | omega) _) | (refine Below.trans ?_ (Below.mono (by assumption) (by first | (simp; done) | (simp; omega) | omega))))))).far _ _ (by have := HL.out; simp; omega), (HK.out.past (by (repeat (first | exact Below.refl _ _ | assumption | (refine Below.setCell ?_ (by first | (simp; done) | (simp; omega) | omega) _) | (refine Below.drew ?_) | (refine below_drewN ?_ _) | (refine Below.alloc ?_ (by first | (simp; done) | (simp; omega) | omega) _) | (refine Below.trans ?_ (Below.mono (by assumption) (by first | (simp; done) | (simp; omega) | omega))))))).far _ _ (by have := HL.out; simp; omega), _, (HO.out.1.past (by (repeat (first | exact Below.refl _ _ | assumption | (refine Below.setCell ?_ (by first | (simp; done) | (simp; omega) | omega) _) | (refine Below.drew ?_) | (refine below_drewN ?_ _) | (refine Below.alloc ?_ (by first | (simp; done) | (simp; omega) | omega) _) | (refine Below.trans ?_ (Below.mono (by assumption) (by first | (simp; done) | (simp; omega) | omega))))))).set 0 _ (by omega), HO.out.2.1, tet_next HO.out.2.2 (by rw [HMX.out 0 (by omega), ← HA.out.1, ← HA.out.2.1, ← HA.out.2.2.1, ← HA.out.2.2.2]; simp [mixT, *])⟩
                            case measure => simp [intOf]
                        case true =>
                          cases g4 : (FloatKind.f32.format.order u 0 == some .eq)
                          case true =>
                            go_wp2_with (first | (go_at_call 32; refine (Clean_any _ _).mono ?_; rintro e w' ⟨rfl, rfl⟩))
                            go_roundw
                            case rel =>
                              exact ⟨0 + 1, by omega, by first | rfl | go_num, (HR.out.past (by (repeat (first | exact Below.refl _ _ | assumption | (refine Below.setCell ?_ (by first | (simp; done) | (simp; omega) | omega) _) | (refine Below.drew ?_) | (refine below_drewN ?_ _) | (refine Below.alloc ?_ (by first | (simp; done) | (simp; omega) | omega) _) | (refine Below.trans ?_ (Below.mono (by assumption) (by first | (simp; done) | (simp; omega) | omega))))))).far _ _ (by have := HL.out; simp; omega), (HK.out.past (by (repeat (first | exact Below.refl _ _ | assumption | (refine Below.setCell ?_ (by first | (simp; done) | (simp; omega) | omega) _) | (refine Below.drew ?_) | (refine below_drewN ?_ _) | (refine Below.alloc ?_ (by first | (simp; done) | (simp; omega) | omega) _) | (refine Below.trans ?_ (Below.mono (by assumption) (by first | (simp; done) | (simp; omega) | omega))))))).far _ _ (by have := HL.out; simp; omega), _, (HO.out.1.past (by (repeat (first | exact Below.refl _ _ | assumption | (refine Below.setCell ?_ (by first | (simp; done) | (simp; omega) | omega) _) | (refine Below.drew ?_) | (refine below_drewN ?_ _) | (refine Below.alloc ?_ (by first | (simp; done) | (simp; omega) | omega) _) | (refine Below.trans ?_ (Below.mono (by assumption) (by first | (simp; done) | (simp; omega) | omega))))))).set 0 _ (by omega), HO.out.2.1, tet_next HO.out.2.2 (by rw [HMX.out 0 (by omega), ← HA.out.1, ← HA.out.2.1, ← HA.out.2.2.1, ← HA.out.2.2.2]; simp [mixT, *])⟩
                            case measure => simp [intOf]
                          case false =>
                            cases g5 : (FloatKind.f32.format.order u 1065353216 == some .eq)
                            case false =>
                              go_wp2_with (first | (go_at_call 32; refine (Clean_any _ _).mono ?_; rintro e w' ⟨rfl, rfl⟩))
                              go_roundw
                              case rel =>
                                exact ⟨0 + 1, by omega, by first | rfl | go_num, (HR.out.past (by (repeat (first | exact Below.refl _ _ | assumption | (refine Below.setCell ?_ (by first | (simp; done) | (simp; omega) | omega) _) | (refine Below.drew ?_) | (refine below_drewN ?_ _) | (refine Below.alloc ?_ (by first | (simp; done) | (simp; omega) | omega) _) | (refine Below.trans ?_ (Below.mono (by assumption) (by first | (simp; done) | (simp; omega) | omega))))))).far _ _ (by have := HL.out; simp; omega), (HK.out.past (by (repeat (first | exact Below.refl _ _ | assumption | (refine Below.setCell ?_ (by first | (simp; done) | (simp; omega) | omega) _) | (refine Below.drew ?_) | (refine below_drewN ?_ _) | (refine Below.alloc ?_ (by first | (simp; done) | (simp; omega) | omega) _) | (refine Below.trans ?_ (Below.mono (by assumption) (by first | (simp; done) | (simp; omega) | omega))))))).far _ _ (by have := HL.out; simp; omega), _, (HO.out.1.past (by (repeat (first | exact Below.refl _ _ | assumption | (refine Below.setCell ?_ (by first | (simp; done) | (simp; omega) | omega) _) | (refine Below.drew ?_) | (refine below_drewN ?_ _) | (refine Below.alloc ?_ (by first | (simp; done) | (simp; omega) | omega) _) | (refine Below.trans ?_ (Below.mono (by assumption) (by first | (simp; done) | (simp; omega) | omega))))))).set 0 _ (by omega), HO.out.2.1, tet_next HO.out.2.2 (by rw [HMX.out 0 (by omega), ← HA.out.1, ← HA.out.2.1, ← HA.out.2.2.1, ← HA.out.2.2.2]; simp [mixT, *])⟩
                              case measure => simp [intOf]
                            case true =>
                              go_wp2_with (first | (go_at_call 32; refine (Clean_any _ _).mono ?_; rintro e w' ⟨rfl, rfl⟩))
                              go_roundw
                              case rel =>
                                exact ⟨0 + 1, by omega, by first | rfl | go_num, (HR.out.past (by (repeat (first | exact Below.refl _ _ | assumption | (refine Below.setCell ?_ (by first | (simp; done) | (simp; omega) | omega) _) | (refine Below.drew ?_) | (refine below_drewN ?_ _) | (refine Below.alloc ?_ (by first | (simp; done) | (simp; omega) | omega) _) | (refine Below.trans ?_ (Below.mono (by assumption) (by first | (simp; done) | (simp; omega) | omega))))))).far _ _ (by have := HL.out; simp; omega), (HK.out.past (by (repeat (first | exact Below.refl _ _ | assumption | (refine Below.setCell ?_ (by first | (simp; done) | (simp; omega) | omega) _) | (refine Below.drew ?_) | (refine below_drewN ?_ _) | (refine Below.alloc ?_ (by first | (simp; done) | (simp; omega) | omega) _) | (refine Below.trans ?_ (Below.mono (by assumption) (by first | (simp; done) | (simp; omega) | omega))))))).far _ _ (by have := HL.out; simp; omega), _, (HO.out.1.past (by (repeat (first | exact Below.refl _ _ | assumption | (refine Below.setCell ?_ (by first | (simp; done) | (simp; omega) | omega) _) | (refine Below.drew ?_) | (refine below_drewN ?_ _) | (refine Below.alloc ?_ (by first | (simp; done) | (simp; omega) | omega) _) | (refine Below.trans ?_ (Below.mono (by assumption) (by first | (simp; done) | (simp; omega) | omega))))))).set 0 _ (by omega), HO.out.2.1, tet_next HO.out.2.2 (by rw [HMX.out 0 (by omega), ← HA.out.1, ← HA.out.2.1, ← HA.out.2.2.1, ← HA.out.2.2.2]; simp [mixT, *])⟩
                              case measure => simp [intOf]
                ·
                  rw [show ((1 : Nat) : Int) = 1 from rfl]
                  clear hm hm3
                  obtain ⟨a1, ha⟩ : ∃ z, z = q 1 := ⟨_, rfl⟩
                  obtain ⟨b1, hb⟩ : ∃ z, z = q (3 + 1) := ⟨_, rfl⟩
                  obtain ⟨d1, hd⟩ : ∃ z, z = q (6 + 1) := ⟨_, rfl⟩
                  obtain ⟨f1, hf⟩ : ∃ z, z = q (9 + 1) := ⟨_, rfl⟩
                  have k0 := HK.out.c 1 (by omega); have k1 := HK.out.c (3 + 1) (by omega); have k2 := HK.out.c (6 + 1) (by omega); have k3 := HK.out.c (9 + 1) (by omega)
                  rw [← ha] at k0; rw [← hb] at k1; rw [← hd] at k2; rw [← hf] at k3
                  have HA := Lib.hid (And.intro ha (And.intro hb (And.intro hd hf)))
                  clear ha hb hd hf
                  have kl := HK.out.lt
                  go_wp2_with fail
                  go_quiet (fail)
                  clear k0 k1 k2 k3
                  go_upto_region 26 with (first | ((with_reducible apply wpList_farith); rfl; rfl; rfl; intro _ _ _) | ((with_reducible apply wpList_up); rfl; exact Try.underlying22; exact Try.underlying31; intro _ _ _))
                  rename_i r1 n1 h1 r2 n2 h2 r3 n3 h3 r4 n4 h4 r5 n5 h5 r6 n6 h6 r7 n7 h7 r8 n8 h8 r9 n9 h9 _ _ _ _
                  have hv := tet_fr h1 h2 h3 h4 h5 h6 h7 h8 h9
                  clear h1 h2 h3 h4 h5 h6 h7 h8 h9
                  have ol := HO.out.1.lt
                  have of := HO.out.1.f
                  have o0 := HO.out.1.c 1 (by omega)
                  cases g0 : (FloatKind.f32.format.order s 0 == some .eq)
                  case true =>
                    go_wp2_with (first | (go_at_call 32; refine (Clean_any _ _).mono ?_; rintro e w' ⟨rfl, rfl⟩))
                    go_roundw
                    case rel =>
                      exact ⟨1 + 1, by omega, by first | rfl | go_num, (HR.out.past (by (repeat (first | exact Below.refl _ _ | assumption | (refine Below.setCell ?_ (by first | (simp; done) | (simp; omega) | omega) _) | (refine Below.drew ?_) | (refine below_drewN ?_ _) | (refine Below.alloc ?_ (by first | (simp; done) | (simp; omega) | omega) _) | (refine Below.trans ?_ (Below.mono (by assumption) (by first | (simp; done) | (simp; omega) | omega))))))).far _ _ (by have := HL.out; simp; omega), (HK.out.past (by (repeat (first | exact Below.refl _ _ | assumption | (refine Below.setCell ?_ (by first | (simp; done) | (simp; omega) | omega) _) | (refine Below.drew ?_) | (refine below_drewN ?_ _) | (refine Below.alloc ?_ (by first | (simp; done) | (simp; omega) | omega) _) | (refine Below.trans ?_ (Below.mono (by assumption) (by first | (simp; done) | (simp; omega) | omega))))))).far _ _ (by have := HL.out; simp; omega), _, (HO.out.1.past (by (repeat (first | exact Below.refl _ _ | assumption | (refine Below.setCell ?_ (by first | (simp; done) | (simp; omega) | omega) _) | (refine Below.drew ?_) | (refine below_drewN ?_ _) | (refine Below.alloc ?_ (by first | (simp; done) | (simp; omega) | omega) _) | (refine Below.trans ?_ (Below.mono (by assumption) (by first | (simp; done) | (simp; omega) | omega))))))).set 1 _ (by omega), HO.out.2.1, tet_next HO.out.2.2 (by rw [HMX.out 1 (by omega), ← HA.out.1, ← HA.out.2.1, ← HA.out.2.2.1, ← HA.out.2.2.2]; simp [mixT, *])⟩
                    case measure => simp [intOf]
                  case false =>
                    cases g1 : (FloatKind.f32.format.order s 1065353216 == some .eq)
                    case false =>
                      cases g3 : (FloatKind.f32.format.order t 1065353216 == some .eq)
                      case false =>
                        cases g5 : (FloatKind.f32.format.order u 1065353216 == some .eq)
                        case false =>
                          go_wp2_with (first | (go_at_call 32; refine (Clean_any _ _).mono ?_; rintro e w' ⟨rfl, rfl⟩))
                          go_roundw
                          case rel =>
                            exact ⟨1 + 1, by omega, by first | rfl | go_num, (HR.out.past (by (repeat (first | exact Below.refl _ _ | assumption | (refine Below.setCell ?_ (by first | (simp; done) | (simp; omega) | omega) _) | (refine Below.drew ?_) | (refine below_drewN ?_ _) | (refine Below.alloc ?_ (by first | (simp; done) | (simp; omega) | omega) _) | (refine Below.trans ?_ (Below.mono (by assumption) (by first | (simp; done) | (simp; omega) | omega))))))).far _ _ (by have := HL.out; simp; omega), (HK.out.past (by (repeat (first | exact Below.refl _ _ | assumption | (refine Below.setCell ?_ (by first | (simp; done) | (simp; omega) | omega) _) | (refine Below.drew ?_) | (refine below_drewN ?_ _) | (refine Below.alloc ?_ (by first | (simp; done) | (simp; omega) | omega) _) | (refine Below.trans ?_ (Below.mono (by assumption) (by first | (simp; done) | (simp; omega) | omega))))))).far _ _ (by have := HL.out; simp; omega), _, (HO.out.1.past (by (repeat (first | exact Below.refl _ _ | assumption | (refine Below.setCell ?_ (by first | (simp; done) | (simp; omega) | omega) _) | (refine Below.drew ?_) | (refine below_drewN ?_ _) | (refine Below.alloc ?_ (by first | (simp; done) | (simp; omega) | omega) _) | (refine Below.trans ?_ (Below.mono (by assumption) (by first | (simp; done) | (simp; omega) | omega))))))).set 1 _ (by omega), HO.out.2.1, tet_next HO.out.2.2 (by rw [HMX.out 1 (by omega), ← HA.out.1, ← HA.out.2.1, ← HA.out.2.2.1, ← HA.out.2.2.2]; simp [mixT, *])⟩
                          case measure => simp [intOf]
                        case true =>
                          go_wp2_with (first | (go_at_call 32; refine (Clean_any _ _).mono ?_; rintro e w' ⟨rfl, rfl⟩))
                          go_roundw
                          case rel =>
                            exact ⟨1 + 1, by omega, by first | rfl | go_num, (HR.out.past (by (repeat (first | exact Below.refl _ _ | assumption | (refine Below.setCell ?_ (by first | (simp; done) | (simp; omega) | omega) _) | (refine Below.drew ?_) | (refine below_drewN ?_ _) | (refine Below.alloc ?_ (by first | (simp; done) | (simp; omega) | omega) _) | (refine Below.trans ?_ (Below.mono (by assumption) (by first | (simp; done) | (simp; omega) | omega))))))).far _ _ (by have := HL.out; simp; omega), (HK.out.past (by (repeat (first | exact Below.refl _ _ | assumption | (refine Below.setCell ?_ (by first | (simp; done) | (simp; omega) | omega) _) | (refine Below.drew ?_) | (refine below_drewN ?_ _) | (refine Below.alloc ?_ (by first | (simp; done) | (simp; omega) | omega) _) | (refine Below.trans ?_ (Below.mono (by assumption) (by first | (simp; done) | (simp; omega) | omega))))))).far _ _ (by have := HL.out; simp; omega), _, (HO.out.1.past (by (repeat (first | exact Below.refl _ _ | assumption | (refine Below.setCell ?_ (by first | (simp; done) | (simp; omega) | omega) _) | (refine Below.drew ?_) | (refine below_drewN ?_ _) | (refine Below.alloc ?_ (by first | (simp; done) | (simp; omega) | omega) _) | (refine Below.trans ?_ (Below.mono (by assumption) (by first | (simp; done) | (simp; omega) | omega))))))).set 1 _ (by omega), HO.out.2.1, tet_next HO.out.2.2 (by rw [HMX.out 1 (by omega), ← HA.out.1, ← HA.out.2.1, ← HA.out.2.2.1, ← HA.out.2.2.2]; simp [mixT, *])⟩
                          case measure => simp [intOf]
                      case true =>
                        cases g4 : (FloatKind.f32.format.order u 0 == some .eq)
                        case true =>
                          go_wp2_with (first | (go_at_call 32; refine (Clean_any _ _).mono ?_; rintro e w' ⟨rfl, rfl⟩))
                          go_roundw
                          case rel =>
                            exact ⟨1 + 1, by omega, by first | rfl | go_num, (HR.out.past (by (repeat (first | exact Below.refl _ _ | assumption | (refine Below.setCell ?_ (by first | (simp; done) | (simp; omega) | omega) _) | (refine Below.drew ?_) | (refine below_drewN ?_ _) | (refine Below.alloc ?_ (by first | (simp; done) | (simp; omega) | omega) _) | (refine Below.trans ?_ (Below.mono (by assumption) (by first | (simp; done) | (simp; omega) | omega))))))).far _ _ (by have := HL.out; simp; omega), (HK.out.past (by (repeat (first | exact Below.refl _ _ | assumption | (refine Below.setCell ?_ (by first | (simp; done) | (simp; omega) | omega) _) | (refine Below.drew ?_) | (refine below_drewN ?_ _) | (refine Below.alloc ?_ (by first | (simp; done) | (simp; omega) | omega) _) | (refine Below.trans ?_ (Below.mono (by assumption) (by first | (simp; done) | (simp; omega) | omega))))))).far _ _ (by have := HL.out; simp; omega), _, (HO.out.1.past (by (repeat (first | exact Below.refl _ _ | assumption | (refine Below.setCell ?_ (by first | (simp; done) | (simp; omega) | omega) _) | (refine Below.drew ?_) | (refine below_drewN ?_ _) | (refine Below.alloc ?_ (by first | (simp; done) | (simp; omega) | omega) _) | (refine Below.trans ?_ (Below.mono (by assumption) (by first | (simp; done) | (simp; omega) | omega))))))).set 1 _ (by omega), HO.out.2.1, tet_next HO.out.2.2 (by rw [HMX.out 1 (by omega), ← HA.out.1, ← HA.out.2.1, ← HA.out.2.2.1, ← HA.out.2.2.2]; simp [mixT, *])⟩
                          case measure => simp [intOf]
                        case false =>
                          cases g5 : (FloatKind.f32.format.order u 1065353216 == some .eq)
                          case false =>
                            go_wp2_with (first | (go_at_call 32; refine (Clean_any _ _).mono ?_; rintro e w' ⟨rfl, rfl⟩))
                            go_roundw
                            case rel =>
                              exact ⟨1 + 1, by omega, by first | rfl | go_num, (HR.out.past (by (repeat (first | exact Below.refl _ _ | assumption | (refine Below.setCell ?_ (by first | (simp; done) | (simp; omega) | omega) _) | (refine Below.drew ?_) | (refine below_drewN ?_ _) | (refine Below.alloc ?_ (by first | (simp; done) | (simp; omega) | omega) _) | (refine Below.trans ?_ (Below.mono (by assumption) (by first | (simp; done) | (simp; omega) | omega))))))).far _ _ (by have := HL.out; simp; omega), (HK.out.past (by (repeat (first | exact Below.refl _ _ | assumption | (refine Below.setCell ?_ (by first | (simp; done) | (simp; omega) | omega) _) | (refine Below.drew ?_) | (refine below_drewN ?_ _) | (refine Below.alloc ?_ (by first | (simp; done) | (simp; omega) | omega) _) | (refine Below.trans ?_ (Below.mono (by assumption) (by first | (simp; done) | (simp; omega) | omega))))))).far _ _ (by have := HL.out; simp; omega), _, (HO.out.1.past (by (repeat (first | exact Below.refl _ _ | assumption | (refine Below.setCell ?_ (by first | (simp; done) | (simp; omega) | omega) _) | (refine Below.drew ?_) | (refine below_drewN ?_ _) | (refine Below.alloc ?_ (by first | (simp; done) | (simp; omega) | omega) _) | (refine Below.trans ?_ (Below.mono (by assumption) (by first | (simp; done) | (simp; omega) | omega))))))).set 1 _ (by omega), HO.out.2.1, tet_next HO.out.2.2 (by rw [HMX.out 1 (by omega), ← HA.out.1, ← HA.out.2.1, ← HA.out.2.2.1, ← HA.out.2.2.2]; simp [mixT, *])⟩
                            case measure => simp [intOf]
                          case true =>
                            go_wp2_with (first | (go_at_call 32; refine (Clean_any _ _).mono ?_; rintro e w' ⟨rfl, rfl⟩))
                            go_roundw
                            case rel =>
                              exact ⟨1 + 1, by omega, by first | rfl | go_num, (HR.out.past (by (repeat (first | exact Below.refl _ _ | assumption | (refine Below.setCell ?_ (by first | (simp; done) | (simp; omega) | omega) _) | (refine Below.drew ?_) | (refine below_drewN ?_ _) | (refine Below.alloc ?_ (by first | (simp; done) | (simp; omega) | omega) _) | (refine Below.trans ?_ (Below.mono (by assumption) (by first | (simp; done) | (simp; omega) | omega))))))).far _ _ (by have := HL.out; simp; omega), (HK.out.past (by (repeat (first | exact Below.refl _ _ | assumption | (refine Below.setCell ?_ (by first | (simp; done) | (simp; omega) | omega) _) | (refine Below.drew ?_) | (refine below_drewN ?_ _) | (refine Below.alloc ?_ (by first | (simp; done) | (simp; omega) | omega) _) | (refine Below.trans ?_ (Below.mono (by assumption) (by first | (simp; done) | (simp; omega) | omega))))))).far _ _ (by have := HL.out; simp; omega), _, (HO.out.1.past (by (repeat (first | exact Below.refl _ _ | assumption | (refine Below.setCell ?_ (by first | (simp; done) | (simp; omega) | omega) _) | (refine Below.drew ?_) | (refine below_drewN ?_ _) | (refine Below.alloc ?_ (by first | (simp; done) | (simp; omega) | omega) _) | (refine Below.trans ?_ (Below.mono (by assumption) (by first | (simp; done) | (simp; omega) | omega))))))).set 1 _ (by omega), HO.out.2.1, tet_next HO.out.2.2 (by rw [HMX.out 1 (by omega), ← HA.out.1, ← HA.out.2.1, ← HA.out.2.2.1, ← HA.out.2.2.2]; simp [mixT, *])⟩
                            case measure => simp [intOf]
                    case true =>
                      cases g2 : (FloatKind.f32.format.order t 0 == some .eq)
                      case true =>
                        go_wp2_with (first | (go_at_call 32; refine (Clean_any _ _).mono ?_; rintro e w' ⟨rfl, rfl⟩))
                        go_roundw
                        case rel =>
                          exact ⟨1 + 1, by omega, by first | rfl | go_num, (HR.out.past (by (repeat (first | exact Below.refl _ _ | assumption | (refine Below.setCell ?_ (by first | (simp; done) | (simp; omega) | omega) _) | (refine Below.drew ?_) | (refine below_drewN ?_ _) | (refine Below.alloc ?_ (by first | (simp; done) | (simp; omega) | omega) _) | (refine Below.trans ?_ (Below.mono (by assumption) (by first | (simp; done) | (simp; omega) | omega))))))).far _ _ (by have := HL.out; simp; omega), (HK.out.past (by (repeat (first | exact Below.refl _ _ | assumption | (refine Below.setCell ?_ (by first | (simp; done) | (simp; omega) | omega) _) | (refine Below.drew ?_) | (refine below_drewN ?_ _) | (refine Below.alloc ?_ (by first | (simp; done) | (simp; omega) | omega) _) | (refine Below.trans ?_ (Below.mono (by assumption) (by first | (simp; done) | (simp; omega) | omega))))))).far _ _ (by have := HL.out; simp; omega), _, (HO.out.1.past (by (repeat (first | exact Below.refl _ _ | assumption | (refine Below.setCell ?_ (by first | (simp; done) | (simp; omega) | omega) _) | (refine Below.drew ?_) | (refine below_drewN ?_ _) | (refine Below.alloc ?_ (by first | (simp; done) | (simp; omega) | omega) _) | (refine Below.trans ?_ (Below.mono (by assumption) (by first | (simp; done) | (simp; omega) | omega))))))).set 1 _ (by omega), HO.out.2.1, tet_next HO.out.2.2 (by rw [HMX.out 1 (by omega), ← HA.out.1, ← HA.out.2.1, ← HA.out.2.2.1, ← HA.out.2.2.2]; simp [mixT, *])⟩
                        case measure => simp [intOf]
                      case false =>
                        cases g3 : (FloatKind.f32.format.order t 1065353216 == some .eq)
                        case false =>
                          cases g5 : (FloatKind.f32.format.order u 1065353216 == some .eq)
                          case false =>
                            go_wp2_with (first | (go_at_call 32; refine (Clean_any _ _).mono ?_; rintro e w' ⟨rfl, rfl⟩))
                            go_roundw
                            case rel =>
                              exact ⟨1 + 1, by omega, by first | rfl | go_num, (HR.out.past (by (repeat (first | exact Below.refl _ _ | assumption | (refine Below.setCell ?_ (by first | (simp; done) | (simp; omega) | omega) _) | (refine Below.drew ?_) | (refine below_drewN ?_ _) | (refine Below.alloc ?_ (by first | (simp; done) | (simp; omega) | omega) _) | (refine Below.trans ?_ (Below.mono (by assumption) (by first | (simp; done) | (simp; omega) | omega))))))).far _ _ (by have := HL.out; simp; omega), (HK.out.past (by (repeat (first | exact Below.refl _ _ | assumption | (refine Below.setCell ?_ (by first | (simp; done) | (simp; omega) | omega) _) | (refine Below.drew ?_) | (refine below_drewN ?_ _) | (refine Below.alloc ?_ (by first | (simp; done) | (simp; omega) | omega) _) | (refine Below.trans ?_ (Below.mono (by assumption) (by first | (simp; done) | (simp; omega) | omega))))))).far _ _ (by have := HL.out; simp; omega), _, (HO.out.1.past (by (repeat (first | exact Below.refl _ _ | assumption | (refine Below.setCell ?_ (by first | (simp; done) | (simp; omega) | omega) _) | (refine Below.drew ?_) | (refine below_drewN ?_ _) | (refine Below.alloc ?_ (by first | (simp; done) | (simp; omega) | omega) _) | (refine Below.trans ?_ (Below.mono (by assumption) (by first | (simp; done) | (simp; omega) | omega))))))).set 1 _ (by omega), HO.out.2.1, tet_next HO.out.2.2 (by rw [HMX.out 1 (by omega), ← HA.out.1, ← HA.out.2.1, ← HA.out.2.2.1, ← HA.out.2.2.2]; simp [mixT, *])⟩
                            case measure => simp [intOf]
                          case true =>
                            go_wp2_with (first | (go_at_call 32; refine (Clean_any _ _).mono ?_; rintro e w' ⟨rfl, rfl⟩))
                            go_roundw
                            case rel =>
                              exact ⟨1 + 1, by omega, by first | rfl | go_num, (HR.out.past (by (repeat (first | exact Below.refl _ _ | assumption | (refine Below.setCell ?_ (by first | (simp; done) | (simp; omega) | omega) _) | (refine Below.drew ?_) | (refine below_drewN ?_ _) | (refine Below.alloc ?_ (by first | (simp; done) | (simp; omega) | omega) _) | (refine Below.trans ?_ (Below.mono (by assumption) (by first | (simp; done) | (simp; omega) | omega))))))).far _ _ (by have := HL.out; simp; omega), (HK.out.past (by (repeat (first | exact Below.refl _ _ | assumption | (refine Below.setCell ?_ (by first | (simp; done) | (simp; omega) | omega) _) | (refine Below.drew ?_) | (refine below_drewN ?_ _) | (refine Below.alloc ?_ (by first | (simp; done) | (simp; omega) | omega) _) | (refine Below.trans ?_ (Below.mono (by assumption) (by first | (simp; done) | (simp; omega) | omega))))))).far _ _ (by have := HL.out; simp; omega), _, (HO.out.1.past (by (repeat (first | exact Below.refl _ _ | assumption | (refine Below.setCell ?_ (by first | (simp; done) | (simp; omega) | omega) _) | (refine Below.drew ?_) | (refine below_drewN ?_ _) | (refine Below.alloc ?_ (by first | (simp; done) | (simp; omega) | omega) _) | (refine Below.trans ?_ (Below.mono (by assumption) (by first | (simp; done) | (simp; omega) | omega))))))).set 1 _ (by omega), HO.out.2.1, tet_next HO.out.2.2 (by rw [HMX.out 1 (by omega), ← HA.out.1, ← HA.out.2.1, ← HA.out.2.2.1, ← HA.out.2.2.2]; simp [mixT, *])⟩
                            case measure => simp [intOf]
                        case true =>
                          cases g4 : (FloatKind.f32.format.order u 0 == some .eq)
                          case true =>
                            go_wp2_with (first | (go_at_call 32; refine (Clean_any _ _).mono ?_; rintro e w' ⟨rfl, rfl⟩))
                            go_roundw
                            case rel =>
                              exact ⟨1 + 1, by omega, by first | rfl | go_num, (HR.out.past (by (repeat (first | exact Below.refl _ _ | assumption | (refine Below.setCell ?_ (by first | (simp; done) | (simp; omega) | omega) _) | (refine Below.drew ?_) | (refine below_drewN ?_ _) | (refine Below.alloc ?_ (by first | (simp; done) | (simp; omega) | omega) _) | (refine Below.trans ?_ (Below.mono (by assumption) (by first | (simp; done) | (simp; omega) | omega))))))).far _ _ (by have := HL.out; simp; omega), (HK.out.past (by (repeat (first | exact Below.refl _ _ | assumption | (refine Below.setCell ?_ (by first | (simp; done) | (simp; omega) | omega) _) | (refine Below.drew ?_) | (refine below_drewN ?_ _) | (refine Below.alloc ?_ (by first | (simp; done) | (simp; omega) | omega) _) | (refine Below.trans ?_ (Below.mono (by assumption) (by first | (simp; done) | (simp; omega) | omega))))))).far _ _ (by have := HL.out; simp; omega), _, (HO.out.1.past (by (repeat (first | exact Below.refl _ _ | assumption | (refine Below.setCell ?_ (by first | (simp; done) | (simp; omega) | omega) _) | (refine Below.drew ?_) | (refine below_drewN ?_ _) | (refine Below.alloc ?_ (by first | (simp; done) | (simp; omega) | omega) _) | (refine Below.trans ?_ (Below.mono (by assumption) (by first | (simp; done) | (simp; omega) | omega))))))).set 1 _ (by omega), HO.out.2.1, tet_next HO.out.2.2 (by rw [HMX.out 1 (by omega), ← HA.out.1, ← HA.out.2.1, ← HA.out.2.2.1, ← HA.out.2.2.2]; simp [mixT, *])⟩
                            case measure => simp [intOf]
                          case false =>
                            cases g5 : (FloatKind.f32.format.order u 1065353216 == some .eq)
                            case false =>
                              go_wp2_with (first | (go_at_call 32; refine (Clean_any _ _).mono ?_; rintro e w' ⟨rfl, rfl⟩))
                              go_roundw
                              case rel =>
                                exact ⟨1 + 1, by omega, by first | rfl | go_num, (HR.out.past (by (repeat (first | exact Below.refl _ _ | assumption | (refine Below.setCell ?_ (by first | (simp; done) | (simp; omega) | omega) _) | (refine Below.drew ?_) | (refine below_drewN ?_ _) | (refine Below.alloc ?_ (by first | (simp; done) | (simp; omega) | omega) _) | (refine Below.trans ?_ (Below.mono (by assumption) (by first | (simp; done) | (simp; omega) | omega))))))).far _ _ (by have := HL.out; simp; omega), (HK.out.past (by (repeat (first | exact Below.refl _ _ | assumption | (refine Below.setCell ?_ (by first | (simp; done) | (simp; omega) | omega) _) | (refine Below.drew ?_) | (refine below_drewN ?_ _) | (refine Below.alloc ?_ (by first | (simp; done) | (simp; omega) | omega) _) | (refine Below.trans ?_ (Below.mono (by assumption) (by first | (simp; done) | (simp; omega) | omega))))))).far _ _ (by have := HL.out; simp; omega), _, (HO.out.1.past (by (repeat (first | exact Below.refl _ _ | assumption | (refine Below.setCell ?_ (by first | (simp; done) | (simp; omega) | omega) _) | (refine Below.drew ?_) | (refine below_drewN ?_ _) | (refine Below.alloc ?_ (by first | (simp; done) | (simp; omega) | omega) _) | (refine Below.trans ?_ (Below.mono (by assumption) (by first | (simp; done) | (simp; omega) | omega))))))).set 1 _ (by omega), HO.out.2.1, tet_next HO.out.2.2 (by rw [HMX.out 1 (by omega), ← HA.out.1, ← HA.out.2.1, ← HA.out.2.2.1, ← HA.out.2.2.2]; simp [mixT, *])⟩
                              case measure => simp [intOf]
                            case true =>
                              go_wp2_with (first | (go_at_call 32; refine (Clean_any _ _).mono ?_; rintro e w' ⟨rfl, rfl⟩))
                              go_roundw
                              case rel =>
                                exact ⟨1 + 1, by omega, by first | rfl | go_num, (HR.out.past (by (repeat (first | exact Below.refl _ _ | assumption | (refine Below.setCell ?_ (by first | (simp; done) | (simp; omega) | omega) _) | (refine Below.drew ?_) | (refine below_drewN ?_ _) | (refine Below.alloc ?_ (by first | (simp; done) | (simp; omega) | omega) _) | (refine Below.trans ?_ (Below.mono (by assumption) (by first | (simp; done) | (simp; omega) | omega))))))).far _ _ (by have := HL.out; simp; omega), (HK.out.past (by (repeat (first | exact Below.refl _ _ | assumption | (refine Below.setCell ?_ (by first | (simp; done) | (simp; omega) | omega) _) | (refine Below.drew ?_) | (refine below_drewN ?_ _) | (refine Below.alloc ?_ (by first | (simp; done) | (simp; omega) | omega) _) | (refine Below.trans ?_ (Below.mono (by assumption) (by first | (simp; done) | (simp; omega) | omega))))))).far _ _ (by have := HL.out; simp; omega), _, (HO.out.1.past (by (repeat (first | exact Below.refl _ _ | assumption | (refine Below.setCell ?_ (by first | (simp; done) | (simp; omega) | omega) _) | (refine Below.drew ?_) | (refine below_drewN ?_ _) | (refine Below.alloc ?_ (by first | (simp; done) | (simp; omega) | omega) _) | (refine Below.trans ?_ (Below.mono (by assumption) (by first | (simp; done) | (simp; omega) | omega))))))).set 1 _ (by omega), HO.out.2.1, tet_next HO.out.2.2 (by rw [HMX.out 1 (by omega), ← HA.out.1, ← HA.out.2.1, ← HA.out.2.2.1, ← HA.out.2.2.2]; simp [mixT, *])⟩
                              case measure => simp [intOf]
                ·
                  rw [show ((2 : Nat) : Int) = 2 from rfl]
                  clear hm hm3
                  obtain ⟨a1, ha⟩ : ∃ z, z = q 2 := ⟨_, rfl⟩
                  obtain ⟨b1, hb⟩ : ∃ z, z = q (3 + 2) := ⟨_, rfl⟩
                  obtain ⟨d1, hd⟩ : ∃ z, z = q (6 + 2) := ⟨_, rfl⟩
                  obtain ⟨f1, hf⟩ : ∃ z, z = q (9 + 2) := ⟨_, rfl⟩
                  have k0 := HK.out.c 2 (by omega); have k1 := HK.out.c (3 + 2) (by omega); have k2 := HK.out.c (6 + 2) (by omega); have k3 := HK.out.c (9 + 2) (by omega)
                  rw [← ha] at k0; rw [← hb] at k1; rw [← hd] at k2; rw [← hf] at k3
                  have HA := Lib.hid (And.intro ha (And.intro hb (And.intro hd hf)))
                  clear ha hb hd hf
                  have kl := HK.out.lt
                  go_wp2_with fail
                  go_quiet (fail)
                  clear k0 k1 k2 k3
                  go_upto_region 26 with (first | ((with_reducible apply wpList_farith); rfl; rfl; rfl; intro _ _ _) | ((with_reducible apply wpList_up); rfl; exact Try.underlying22; exact Try.underlying31; intro _ _ _))
                  rename_i r1 n1 h1 r2 n2 h2 r3 n3 h3 r4 n4 h4 r5 n5 h5 r6 n6 h6 r7 n7 h7 r8 n8 h8 r9 n9 h9 _ _ _ _
                  have hv := tet_fr h1 h2 h3 h4 h5 h6 h7 h8 h9
                  clear h1 h2 h3 h4 h5 h6 h7 h8 h9
                  have ol := HO.out.1.lt
                  have of := HO.out.1.f
                  have o0 := HO.out.1.c 2 (by omega)
                  cases g0 : (FloatKind.f32.format.order s 0 == some .eq)
                  case true =>
                    go_wp2_with (first | (go_at_call 32; refine (Clean_any _ _).mono ?_; rintro e w' ⟨rfl, rfl⟩))
                    go_roundw
                    case rel =>
                      exact ⟨2 + 1, by omega, by first | rfl | go_num, (HR.out.past (by (repeat (first | exact Below.refl _ _ | assumption | (refine Below.setCell ?_ (by first | (simp; done) | (simp; omega) | omega) _) | (refine Below.drew ?_) | (refine below_drewN ?_ _) | (refine Below.alloc ?_ (by first | (simp; done) | (simp; omega) | omega) _) | (refine Below.trans ?_ (Below.mono (by assumption) (by first | (simp; done) | (simp; omega) | omega))))))).far _ _ (by have := HL.out; simp; omega), (HK.out.past (by (repeat (first | exact Below.refl _ _ | assumption | (refine Below.setCell ?_ (by first | (simp; done) | (simp; omega) | omega) _) | (refine Below.drew ?_) | (refine below_drewN ?_ _) | (refine Below.alloc ?_ (by first | (simp; done) | (simp; omega) | omega) _) | (refine Below.trans ?_ (Below.mono (by assumption) (by first | (simp; done) | (simp; omega) | omega))))))).far _ _ (by have := HL.out; simp; omega), _, (HO.out.1.past (by (repeat (first | exact Below.refl _ _ | assumption | (refine Below.setCell ?_ (by first | (simp; done) | (simp; omega) | omega) _) | (refine Below.drew ?_) | (refine below_drewN ?_ _) | (refine Below.alloc ?_ (by first | (simp; done) | (simp; omega) | omega) _) | (refine Below.trans ?_ (Below.mono (by assumption) (by first | (simp; done) | (simp; omega) | omega))))))).set 2 _ (by omega), HO.out.2.1, tet_next HO.out.2.2 (by rw [HMX.out 2 (by omega), ← HA.out.1, ← HA.out.2.1, ← HA.out.2.2.1, ← HA.out.2.2.2]; simp [mixT, *])⟩
                    case measure => simp [intOf]
                  case false =>
                    cases g1 : (FloatKind.f32.format.order s 1065353216 == some .eq)
                    case false =>
                      cases g3 : (FloatKind.f32.format.order t 1065353216 == some .eq)
                      case false =>
                        cases g5 : (FloatKind.f32.format.order u 1065353216 == some .eq)
                        case false =>
                          go_wp2_with (first | (go_at_call 32; refine (Clean_any _ _).mono ?_; rintro e w' ⟨rfl, rfl⟩))
                          go_roundw
                          case rel =>
                            exact ⟨2 + 1, by omega, by first | rfl | go_num, (HR.out.past (by (repeat (first | exact Below.refl _ _ | assumption | (refine Below.setCell ?_ (by first | (simp; done) | (simp; omega) | omega) _) | (refine Below.drew ?_) | (refine below_drewN ?_ _) | (refine Below.alloc ?_ (by first | (simp; done) | (simp; omega) | omega) _) | (refine Below.trans ?_ (Below.mono (by assumption) (by first | (simp; done) | (simp; omega) | omega))))))).far _ _ (by have := HL.out; simp; omega), (HK.out.past (by (repeat (first | exact Below.refl _ _ | assumption | (refine Below.setCell ?_ (by first | (simp; done) | (simp; omega) | omega) _) | (refine Below.drew ?_) | (refine below_drewN ?_ _) | (refine Below.alloc ?_ (by first | (simp; done) | (simp; omega) | omega) _) | (refine Below.trans ?_ (Below.mono (by assumption) (by first | (simp; done) | (simp; omega) | omega))))))).far _ _ (by have := HL.out; simp; omega), _, (HO.out.1.past (by (repeat (first | exact Below.refl _ _ | assumption | (refine Below.setCell ?_ (by first | (simp; done) | (simp; omega) | omega) _) | (refine Below.drew ?_) | (refine below_drewN ?_ _) | (refine Below.alloc ?_ (by first | (simp; done) | (simp; omega) | omega) _) | (refine Below.trans ?_ (Below.mono (by assumption) (by first | (simp; done) | (simp; omega) | omega))))))).set 2 _ (by omega), HO.out.2.1, tet_next HO.out.2.2 (by rw [HMX.out 2 (by omega), ← HA.out.1, ← HA.out.2.1, ← HA.out.2.2.1, ← HA.out.2.2.2]; simp [mixT, *])⟩
                          case measure => simp [intOf]
                        case true =>
                          go_wp2_with (first | (go_at_call 32; refine (Clean_any _ _).mono ?_; rintro e w' ⟨rfl, rfl⟩))
                          go_roundw
                          case rel =>
                            exact ⟨2 + 1, by omega, by first | rfl | go_num, (HR.out.past (by (repeat (first | exact Below.refl _ _ | assumption | (refine Below.setCell ?_ (by first | (simp; done) | (simp; omega) | omega) _) | (refine Below.drew ?_) | (refine below_drewN ?_ _) | (refine Below.alloc ?_ (by first | (simp; done) | (simp; omega) | omega) _) | (refine Below.trans ?_ (Below.mono (by assumption) (by first | (simp; done) | (simp; omega) | omega))))))).far _ _ (by have := HL.out; simp; omega), (HK.out.past (by (repeat (first | exact Below.refl _ _ | assumption | (refine Below.setCell ?_ (by first | (simp; done) | (simp; omega) | omega) _) | (refine Below.drew ?_) | (refine below_drewN ?_ _) | (refine Below.alloc ?_ (by first | (simp; done) | (simp; omega) | omega) _) | (refine Below.trans ?_ (Below.mono (by assumption) (by first | (simp; done) | (simp; omega) | omega))))))).far _ _ (by have := HL.out; simp; omega), _, (HO.out.1.past (by (repeat (first | exact Below.refl _ _ | assumption | (refine Below.setCell ?_ (by first | (simp; done) | (simp; omega) | omega) _) | (refine Below.drew ?_) | (refine below_drewN ?_ _) | (refine Below.alloc ?_ (by first | (simp; done) | (simp; omega) | omega) _) | (refine Below.trans ?_ (Below.mono (by assumption) (by first | (simp; done) | (simp; omega) | omega))))))).set 2 _ (by omega), HO.out.2.1, tet_next HO.out.2.2 (by rw [HMX.out 2 (by omega), ← HA.out.1, ← HA.out.2.1, ← HA.out.2.2.1, ← HA.out.2.2.2]; simp [mixT, *])⟩
                          case measure => simp [intOf]
                      case true =>
                        cases g4 : (FloatKind.f32.format.order u 0 == some .eq)
                        case true =>
                          go_wp2_with (first | (go_at_call 32; refine (Clean_any _ _).mono ?_; rintro e w' ⟨rfl, rfl⟩))
                          go_roundw
                          case rel =>
                            exact ⟨2 + 1, by omega, by first | rfl | go_num, (HR.out.past (by (repeat (first | exact Below.refl _ _ | assumption | (refine Below.setCell ?_ (by first | (simp; done) | (simp; omega) | omega) _) | (refine Below.drew ?_) | (refine below_drewN ?_ _) | (refine Below.alloc ?_ (by first | (simp; done) | (simp; omega) | omega) _) | (refine Below.trans ?_ (Below.mono (by assumption) (by first | (simp; done) | (simp; omega) | omega))))))).far _ _ (by have := HL.out; simp; omega), (HK.out.past (by (repeat (first | exact Below.refl _ _ | assumption | (refine Below.setCell ?_ (by first | (simp; done) | (simp; omega) | omega) _) | (refine Below.drew ?_) | (refine below_drewN ?_ _) | (refine Below.alloc ?_ (by first | (simp; done) | (simp; omega) | omega) _) | (refine Below.trans ?_ (Below.mono (by assumption) (by first | (simp; done) | (simp; omega) | omega))))))).far _ _ (by have := HL.out; simp; omega), _, (HO.out.1.past (by (repeat (first | exact Below.refl _ _ | assumption | (refine Below.setCell ?_ (by first | (simp; done) | (simp; omega) | omega) _) | (refine Below.drew ?_) | (refine below_drewN ?_ _) | (refine Below.alloc ?_ (by first | (simp; done) | (simp; omega) | omega) _) | (refine Below.trans ?_ (Below.mono (by assumption) (by first | (simp; done) | (simp; omega) | omega))))))).set 2 _ (by omega), HO.out.2.1, tet_next HO.out.2.2 (by rw [HMX.out 2 (by omega), ← HA.out.1, ← HA.out.2.1, ← HA.out.2.2.1, ← HA.out.2.2.2]; simp [mixT, *])⟩
                          case measure => simp [intOf]
                        case false =>
                          cases g5 : (FloatKind.f32.format.order u 1065353216 == some .eq)
                          case false =>
                            go_wp2_with (first | (go_at_call 32; refine (Clean_any _ _).mono ?_; rintro e w' ⟨rfl, rfl⟩))
                            go_roundw
                            case rel =>
                              exact ⟨2 + 1, by omega, by first | rfl | go_num, (HR.out.past (by (repeat (first | exact Below.refl _ _ | assumption | (refine Below.setCell ?_ (by first | (simp; done) | (simp; omega) | omega) _) | (refine Below.drew ?_) | (refine below_drewN ?_ _) | (refine Below.alloc ?_ (by first | (simp; done) | (simp; omega) | omega) _) | (refine Below.trans ?_ (Below.mono (by assumption) (by first | (simp; done) | (simp; omega) | omega))))))).far _ _ (by have := HL.out; simp; omega), (HK.out.past (by (repeat (first | exact Below.refl _ _ | assumption | (refine Below.setCell ?_ (by first | (simp; done) | (simp; omega) | omega) _) | (refine Below.drew ?_) | (refine below_drewN ?_ _) | (refine Below.alloc ?_ (by first | (simp; done) | (simp; omega) | omega) _) | (refine Below.trans ?_ (Below.mono (by assumption) (by first | (simp; done) | (simp; omega) | omega))))))).far _ _ (by have := HL.out; simp; omega), _, (HO.out.1.past (by (repeat (first | exact Below.refl _ _ | assumption | (refine Below.setCell ?_ (by first | (simp; done) | (simp; omega) | omega) _) | (refine Below.drew ?_) | (refine below_drewN ?_ _) | (refine Below.alloc ?_ (by first | (simp; done) | (simp; omega) | omega) _) | (refine Below.trans ?_ (Below.mono (by assumption) (by first | (simp; done) | (simp; omega) | omega))))))).set 2 _ (by omega), HO.out.2.1, tet_next HO.out.2.2 (by rw [HMX.out 2 (by omega), ← HA.out.1, ← HA.out.2.1, ← HA.out.2.2.1, ← HA.out.2.2.2]; simp [mixT, *])⟩
                            case measure => simp [intOf]
                          case true =>
                            go_wp2_with (first | (go_at_call 32; refine (Clean_any _ _).mono ?_; rintro e w' ⟨rfl, rfl⟩))
                            go_roundw
                            case rel =>
                              exact ⟨2 + 1, by omega, by first | rfl | go_num, (HR.out.past (by (repeat (first | exact Below.refl _ _ | assumption | (refine Below.setCell ?_ (by first | (simp; done) | (simp; omega) | omega) _) | (refine Below.drew ?_) | (refine below_drewN ?_ _) | (refine Below.alloc ?_ (by first | (simp; done) | (simp; omega) | omega) _) | (refine Below.trans ?_ (Below.mono (by assumption) (by first | (simp; done) | (simp; omega) | omega))))))).far _ _ (by have := HL.out; simp; omega), (HK.out.past (by (repeat (first | exact Below.refl _ _ | assumption | (refine Below.setCell ?_ (by first | (simp; done) | (simp; omega) | omega) _) | (refine Below.drew ?_) | (refine below_drewN ?_ _) | (refine Below.alloc ?_ (by first | (simp; done) | (simp; omega) | omega) _) | (refine Below.trans ?_ (Below.mono (by assumption) (by first | (simp; done) | (simp; omega) | omega))))))).far _ _ (by have := HL.out; simp; omega), _, (HO.out.1.past (by (repeat (first | exact Below.refl _ _ | assumption | (refine Below.setCell ?_ (by first | (simp; done) | (simp; omega) | omega) _) | (refine Below.drew ?_) | (refine below_drewN ?_ _) | (refine Below.alloc ?_ (by first | (simp; done) | (simp; omega) | omega) _) | (refine Below.trans ?_ (Below.mono (by assumption) (by first | (simp; done) | (simp; omega) | omega))))))).set 2 _ (by omega), HO.out.2.1, tet_next HO.out.2.2 (by rw [HMX.out 2 (by omega), ← HA.out.1, ← HA.out.2.1, ← HA.out.2.2.1, ← HA.out.2.2.2]; simp [mixT, *])⟩
                            case measure => simp [intOf]
                    case true =>
                      cases g2 : (FloatKind.f32.format.order t 0 == some .eq)
                      case true =>
                        go_wp2_with (first | (go_at_call 32; refine (Clean_any _ _).mono ?_; rintro e w' ⟨rfl, rfl⟩))
                        go_roundw
                        case rel =>
                          exact ⟨2 + 1, by omega, by first | rfl | go_num, (HR.out.past (by (repeat (first | exact Below.refl _ _ | assumption | (refine Below.setCell ?_ (by first | (simp; done) | (simp; omega) | omega) _) | (refine Below.drew ?_) | (refine below_drewN ?_ _) | (refine Below.alloc ?_ (by first | (simp; done) | (simp; omega) | omega) _) | (refine Below.trans ?_ (Below.mono (by assumption) (by first | (simp; done) | (simp; omega) | omega))))))).far _ _ (by have := HL.out; simp; omega), (HK.out.past (by (repeat (first | exact Below.refl _ _ | assumption | (refine Below.setCell ?_ (by first | (simp; done) | (simp; omega) | omega) _) | (refine Below.drew ?_) | (refine below_drewN ?_ _) | (refine Below.alloc ?_ (by first | (simp; done) | (simp; omega) | omega) _) | (refine Below.trans ?_ (Below.mono (by assumption) (by first | (simp; done) | (simp; omega) | omega))))))).far _ _ (by have := HL.out; simp; omega), _, (HO.out.1.past (by (repeat (first | exact Below.refl _ _ | assumption | (refine Below.setCell ?_ (by first | (simp; done) | (simp; omega) | omega) _) | (refine Below.drew ?_) | (refine below_drewN ?_ _) | (refine Below.alloc ?_ (by first | (simp; done) | (simp; omega) | omega) _) | (refine Below.trans ?_ (Below.mono (by assumption) (by first | (simp; done) | (simp; omega) | omega))))))).set 2 _ (by omega), HO.out.2.1, tet_next HO.out.2.2 (by rw [HMX.out 2 (by omega), ← HA.out.1, ← HA.out.2.1, ← HA.out.2.2.1, ← HA.out.2.2.2]; simp [mixT, *])⟩
                        case measure => simp [intOf]
                      case false =>
                        cases g3 : (FloatKind.f32.format.order t 1065353216 == some .eq)
                        case false =>
                          cases g5 : (FloatKind.f32.format.order u 1065353216 == some .eq)
                          case false =>
                            go_wp2_with (first | (go_at_call 32; refine (Clean_any _ _).mono ?_; rintro e w' ⟨rfl, rfl⟩))
                            go_roundw
                            case rel =>
                              exact ⟨2 + 1, by omega, by first | rfl | go_num, (HR.out.past (by (repeat (first | exact Below.refl _ _ | assumption | (refine Below.setCell ?_ (by first | (simp; done) | (simp; omega) | omega) _) | (refine Below.drew ?_) | (refine below_drewN ?_ _) | (refine Below.alloc ?_ (by first | (simp; done) | (simp; omega) | omega) _) | (refine Below.trans ?_ (Below.mono (by assumption) (by first | (simp; done) | (simp; omega) | omega))))))).far _ _ (by have := HL.out; simp; omega), (HK.out.past (by (repeat (first | exact Below.refl _ _ | assumption | (refine Below.setCell ?_ (by first | (simp; done) | (simp; omega) | omega) _) | (refine Below.drew ?_) | (refine below_drewN ?_ _) | (refine Below.alloc ?_ (by first | (simp; done) | (simp; omega) | omega) _) | (refine Below.trans ?_ (Below.mono (by assumption) (by first | (simp; done) | (simp; omega) | omega))))))).far _ _ (by have := HL.out; simp; omega), _, (HO.out.1.past (by (repeat (first | exact Below.refl _ _ | assumption | (refine Below.setCell ?_ (by first | (simp; done) | (simp; omega) | omega) _) | (refine Below.drew ?_) | (refine below_drewN ?_ _) | (refine Below.alloc ?_ (by first | (simp; done) | (simp; omega) | omega) _) | (refine Below.trans ?_ (Below.mono (by assumption) (by first | (simp; done) | (simp; omega) | omega))))))).set 2 _ (by omega), HO.out.2.1, tet_next HO.out.2.2 (by rw [HMX.out 2 (by omega), ← HA.out.1, ← HA.out.2.1, ← HA.out.2.2.1, ← HA.out.2.2.2]; simp [mixT, *])⟩
                            case measure => simp [intOf]
                          case true =>
                            go_wp2_with (first | (go_at_call 32; refine (Clean_any _ _).mono ?_; rintro e w' ⟨rfl, rfl⟩))
                            go_roundw
                            case rel =>
                              exact ⟨2 + 1, by omega, by first | rfl | go_num, (HR.out.past (by (repeat (first | exact Below.refl _ _ | assumption | (refine Below.setCell ?_ (by first | (simp; done) | (simp; omega) | omega) _) | (refine Below.drew ?_) | (refine below_drewN ?_ _) | (refine Below.alloc ?_ (by first | (simp; done) | (simp; omega) | omega) _) | (refine Below.trans ?_ (Below.mono (by assumption) (by first | (simp; done) | (simp; omega) | omega))))))).far _ _ (by have := HL.out; simp; omega), (HK.out.past (by (repeat (first | exact Below.refl _ _ | assumption | (refine Below.setCell ?_ (by first | (simp; done) | (simp; omega) | omega) _) | (refine Below.drew ?_) | (refine below_drewN ?_ _) | (refine Below.alloc ?_ (by first | (simp; done) | (simp; omega) | omega) _) | (refine Below.trans ?_ (Below.mono (by assumption) (by first | (simp; done) | (simp; omega) | omega))))))).far _ _ (by have := HL.out; simp; omega), _, (HO.out.1.past (by (repeat (first | exact Below.refl _ _ | assumption | (refine Below.setCell ?_ (by first | (simp; done) | (simp; omega) | omega) _) | (refine Below.drew ?_) | (refine below_drewN ?_ _) | (refine Below.alloc ?_ (by first | (simp; done) | (simp; omega) | omega) _) | (refine Below.trans ?_ (Below.mono (by assumption) (by first | (simp; done) | (simp; omega) | omega))))))).set 2 _ (by omega), HO.out.2.1, tet_next HO.out.2.2 (by rw [HMX.out 2 (by omega), ← HA.out.1, ← HA.out.2.1, ← HA.out.2.2.1, ← HA.out.2.2.2]; simp [mixT, *])⟩
                            case measure => simp [intOf]
                        case true =>
                          cases g4 : (FloatKind.f32.format.order u 0 == some .eq)
                          case true =>
                            go_wp2_with (first | (go_at_call 32; refine (Clean_any _ _).mono ?_; rintro e w' ⟨rfl, rfl⟩))
                            go_roundw
                            case rel =>
                              exact ⟨2 + 1, by omega, by first | rfl | go_num, (HR.out.past (by (repeat (first | exact Below.refl _ _ | assumption | (refine Below.setCell ?_ (by first | (simp; done) | (simp; omega) | omega) _) | (refine Below.drew ?_) | (refine below_drewN ?_ _) | (refine Below.alloc ?_ (by first | (simp; done) | (simp; omega) | omega) _) | (refine Below.trans ?_ (Below.mono (by assumption) (by first | (simp; done) | (simp; omega) | omega))))))).far _ _ (by have := HL.out; simp; omega), (HK.out.past (by (repeat (first | exact Below.refl _ _ | assumption | (refine Below.setCell ?_ (by first | (simp; done) | (simp; omega) | omega) _) | (refine Below.drew ?_) | (refine below_drewN ?_ _) | (refine Below.alloc ?_ (by first | (simp; done) | (simp; omega) | omega) _) | (refine Below.trans ?_ (Below.mono (by assumption) (by first | (simp; done) | (simp; omega) | omega))))))).far _ _ (by have := HL.out; simp; omega), _, (HO.out.1.past (by (repeat (first | exact Below.refl _ _ | assumption | (refine Below.setCell ?_ (by first | (simp; done) | (simp; omega) | omega) _) | (refine Below.drew ?_) | (refine below_drewN ?_ _) | (refine Below.alloc ?_ (by first | (simp; done) | (simp; omega) | omega) _) | (refine Below.trans ?_ (Below.mono (by assumption) (by first | (simp; done) | (simp; omega) | omega))))))).set 2 _ (by omega), HO.out.2.1, tet_next HO.out.2.2 (by rw [HMX.out 2 (by omega), ← HA.out.1, ← HA.out.2.1, ← HA.out.2.2.1, ← HA.out.2.2.2]; simp [mixT, *])⟩
                            case measure => simp [intOf]
                          case false =>
                            cases g5 : (FloatKind.f32.format.order u 1065353216 == some .eq)
                            case false =>
                              go_wp2_with (first | (go_at_call 32; refine (Clean_any _ _).mono ?_; rintro e w' ⟨rfl, rfl⟩))
                              go_roundw
                              case rel =>
                                exact ⟨2 + 1, by omega, by first | rfl | go_num, (HR.out.past (by (repeat (first | exact Below.refl _ _ | assumption | (refine Below.setCell ?_ (by first | (simp; done) | (simp; omega) | omega) _) | (refine Below.drew ?_) | (refine below_drewN ?_ _) | (refine Below.alloc ?_ (by first | (simp; done) | (simp; omega) | omega) _) | (refine Below.trans ?_ (Below.mono (by assumption) (by first | (simp; done) | (simp; omega) | omega))))))).far _ _ (by have := HL.out; simp; omega), (HK.out.past (by (repeat (first | exact Below.refl _ _ | assumption | (refine Below.setCell ?_ (by first | (simp; done) | (simp; omega) | omega) _) | (refine Below.drew ?_) | (refine below_drewN ?_ _) | (refine Below.alloc ?_ (by first | (simp; done) | (simp; omega) | omega) _) | (refine Below.trans ?_ (Below.mono (by assumption) (by first | (simp; done) | (simp; omega) | omega))))))).far _ _ (by have := HL.out; simp; omega), _, (HO.out.1.past (by (repeat (first | exact Below.refl _ _ | assumption | (refine Below.setCell ?_ (by first | (simp; done) | (simp; omega) | omega) _) | (refine Below.drew ?_) | (refine below_drewN ?_ _) | (refine Below.alloc ?_ (by first | (simp; done) | (simp; omega) | omega) _) | (refine Below.trans ?_ (Below.mono (by assumption) (by first | (simp; done) | (simp; omega) | omega))))))).set 2 _ (by omega), HO.out.2.1, tet_next HO.out.2.2 (by rw [HMX.out 2 (by omega), ← HA.out.1, ← HA.out.2.1, ← HA.out.2.2.1, ← HA.out.2.2.2]; simp [mixT, *])⟩
                              case measure => simp [intOf]
                            case true =>
                              go_wp2_with (first | (go_at_call 32; refine (Clean_any _ _).mono ?_; rintro e w' ⟨rfl, rfl⟩))
                              go_roundw
                              case rel =>
                                exact ⟨2 + 1, by omega, by first | rfl | go_num, (HR.out.past (by (repeat (first | exact Below.refl _ _ | assumption | (refine Below.setCell ?_ (by first | (simp; done) | (simp; omega) | omega) _) | (refine Below.drew ?_) | (refine below_drewN ?_ _) | (refine Below.alloc ?_ (by first | (simp; done) | (simp; omega) | omega) _) | (refine Below.trans ?_ (Below.mono (by assumption) (by first | (simp; done) | (simp; omega) | omega))))))).far _ _ (by have := HL.out; simp; omega), (HK.out.past (by (repeat (first | exact Below.refl _ _ | assumption | (refine Below.setCell ?_ (by first | (simp; done) | (simp; omega) | omega) _) | (refine Below.drew ?_) | (refine below_drewN ?_ _) | (refine Below.alloc ?_ (by first | (simp; done) | (simp; omega) | omega) _) | (refine Below.trans ?_ (Below.mono (by assumption) (by first | (simp; done) | (simp; omega) | omega))))))).far _ _ (by have := HL.out; simp; omega), _, (HO.out.1.past (by (repeat (first | exact Below.refl _ _ | assumption | (refine Below.setCell ?_ (by first | (simp; done) | (simp; omega) | omega) _) | (refine Below.drew ?_) | (refine below_drewN ?_ _) | (refine Below.alloc ?_ (by first | (simp; done) | (simp; omega) | omega) _) | (refine Below.trans ?_ (Below.mono (by assumption) (by first | (simp; done) | (simp; omega) | omega))))))).set 2 _ (by omega), HO.out.2.1, tet_next HO.out.2.2 (by rw [HMX.out 2 (by omega), ← HA.out.1, ← HA.out.2.1, ← HA.out.2.2.1, ← HA.out.2.2.2]; simp [mixT, *])⟩
                              case measure => simp [intOf]
              · obtain rfl : m = 3 := by omega
                clear hm hm3 HMX
                have z0 := HR.out.z.c 0 _ rfl; have z1 := HR.out.z.c 1 _ rfl; have z2 := HR.out.z.c 2 _ rfl; have z3 := HR.out.z.c 3 _ rfl; have zf := HR.out.z.f; have zl := HR.out.z.lt
                have o0 := HO.out.1.c 0 (by omega); have o1 := HO.out.1.c 1 (by omega); have o2 := HO.out.1.c 2 (by omega); have o3 := HO.out.1.c 3 (by omega)
                rw [HO.out.2.2 0 (by omega)] at o0; rw [HO.out.2.2 1 (by omega)] at o1; rw [HO.out.2.2 2 (by omega)] at o2
                rw [HO.out.2.1, show cn .f32 (p 3) = tetF S lo hi fs p 3 from by simp [tetF]] at o3
                have B5 := HR.out.b
                clear HR HK HO
                obtain ⟨g0, hg0⟩ : ∃ z, z = tetF S lo hi fs p 0 := ⟨_, rfl⟩
                rw [← hg0] at o0
                obtain ⟨g1, hg1⟩ : ∃ z, z = tetF S lo hi fs p 1 := ⟨_, rfl⟩
                rw [← hg1] at o1
                obtain ⟨g2, hg2⟩ : ∃ z, z = tetF S lo hi fs p 2 := ⟨_, rfl⟩
                rw [← hg2] at o2
                obtain ⟨g3, hg3⟩ : ∃ z, z = tetF S lo hi fs p 3 := ⟨_, rfl⟩
                rw [← hg3] at o3
                have HG := Lib.hid (And.intro hg0 (And.intro hg1 (And.intro hg2 hg3)))
                clear hg0 hg1 hg2 hg3
                go_wp2_with fail
                refine bodyPost_ret (v := .agg #[.float .f32 g0, .float .f32 g1, .float .f32 g2, .float .f32 g3]) (by simp [results, Try.results19, go_sem, z0, z1, z2, z3]) rfl ⟨by rw [HG.out.1, HG.out.2.1, HG.out.2.2.1, HG.out.2.2.2], ?_⟩
                exact (((B5.setCell (by first | (simp; done) | (simp; omega) | omega) _).setCell (by first | (simp; done) | (simp; omega) | omega) _).setCell (by first | (simp; done) | (simp; omega) | omega) _).setCell (by first | (simp; done) | (simp; omega) | omega) _
end Go.Proofs.Ytmdmjmmplhoniaa
