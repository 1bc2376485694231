/- Frames put together: frame.copyInto. Conditions: what each theorem names. -/
import Derived.Test.YtnicamndlkdcmaaJnA
namespace Go.Proofs.Ytnicamndlkdcmaa
open Go Go.RowKit
def aggI (args : Array Value) (i j : Nat) : Int := match args[i]? with
  | some (.agg vs) => (match vs[j]? with | some (.int _ n) => n | _ => 0)
  | _ => 0
/-- What frame.offset answers. -/
def JnPsi (_ : FuncId) (args : Array Value) (u : Value) : Prop := u = .int .i64 (4 * ((argI args 2 - aggI args 0 1) * aggI args 0 2 + argI args 1 - aggI args 0 0))
theorem jn_psi {f : FuncId} {X Y W H x y : Int} {u : Value} : JnPsi f #[.agg #[.int .i64 X, .int .i64 Y, .int .i64 W, .int .i64 H], .int .i64 x, .int .i64 y] u ↔ u = .int .i64 (4 * ((y - Y) * W + x - X)) := Iff.rfl
/-- The place of step s. -/
def dstF (dx dy W V s : Nat) : Nat := 4 * ((dy + s / (4 * V)) * W + dx) + s % (4 * V)
/-- What stands behind s steps. -/
def cpF (T : Nat → Nat) (dx dy W V : Nat) (fs : Nat → Nat) : Nat → (Nat → Nat)
  | 0 => T
  | s + 1 => fun j => if j = dstF dx dy W V s then cn .f32 (fs s) else cpF T dx dy W V fs s j
/-- What stands of the walk's variables. -/
structure CpR (w wr : World) (La Lb Lr : List Value) (rg : Nat) (go n : Nat) (T : Nat → Nat) (bf off nf : Nat) (fs : Nat → Nat) : Prop where
  A : Blk wr w.heap.size La
  B : Blk wr (w.heap.size + 1) Lb
  R : Blk wr rg Lr
  O : wr.rowIs go 47 n (fun j => .float .f32 (T j))
  F : Row wr bf off nf fs
  U : OneB go w wr
theorem CpR.past {w wr wy : World} {La Lb Lr : List Value} {rg go n : Nat} {T : Nat → Nat} {bf off nf : Nat} {fs : Nat → Nat} (k : CpR w wr La Lb Lr rg go n T bf off nf fs) (h : Below wr.heap.size wr wy) : CpR w wy La Lb Lr rg go n T bf off nf fs :=
  ⟨k.A.past h, k.B.past h, k.R.past h, k.O.of_block (h.block go k.O.lt), k.F.past h, k.U.trans (OneB.of_below h)⟩
theorem CpR.set {w wr : World} {La Lb Lr : List Value} {rg go n : Nat} {T T' : Nat → Nat} {bf off nf : Nat} {fs : Nat → Nat} (k : CpR w wr La Lb Lr rg go n T bf off nf fs) (h1 : go < w.heap.size) (h2 : rg ≠ go) (h3 : bf ≠ go) (q v : Nat) (ht : ∀ j, j < n → T' j = if j = q then v else T j) : CpR w (wr.setCell ⟨go, q, none⟩ (.float .f32 v)) La Lb Lr rg go n T' bf off nf fs := by
  have o : OneB go wr (wr.setCell ⟨go, q, none⟩ (.float .f32 v)) := (OneB.refl _ _).setCell
  refine ⟨k.A.one o (by omega), k.B.one o (by omega), k.R.one o h2, ?_, fun i hi => ?_, k.U.trans o⟩
  · refine World.rowIs.congr (World.rowIs.set k.O q _) (fun j hj => ?_)
    rw [ht j hj]
    by_cases e : j = q <;> simp [e]
  · have h := k.F i hi
    rw [World.cell?_setCell_other _ _ _ _ (by intro e; have := congrArg Addr.block e; simp at this; omega)]
    exact h
set_option maxRecDepth 100000 in
set_option maxHeartbeats 3200000 in
theorem copyInto_any (X Y x y : Int) (W H dx dy V h : Nat) (go n bf off nf cf : Nat) (T fs : Nat → Nat) (w : World) (hr : regErr X Y W H = 0) (he : fraErr x y V h nf = 0) (hx : x = X + dx) (hy : y = Y + dy) (c3 : dx + V ≤ W) (c4 : dy + h ≤ H) (hn : n = 4 * (W * H)) (hne : bf ≠ go) (hO : w.rowIs go 47 n (fun j => .float .f32 (T j))) (hF : Row w bf off nf fs) :
    Calls Try.prog 63 #[.agg #[.int .i64 X, .int .i64 Y, .int .i64 W, .int .i64 H, .slice (some ⟨go, 0, none⟩) n n], .agg #[.int .i64 x, .int .i64 y, .int .i64 V, .int .i64 h, .slice (some ⟨bf, off, none⟩) nf cf]] w fun e w' => e = .returned (.tuple #[]) ∧ OneB go w w' ∧ w'.rowIs go 47 n (fun j => .float .f32 (cpF T dx dy W V fs (h * (4 * V)) j)) := by
  obtain ⟨r1, r2, r3, r4, r5, r6, r7, r8, r9, r10⟩ := regErr_ok hr
  obtain ⟨hr2, hl⟩ := fraErr_ok he
  obtain ⟨s1, s2, s3, s4, s5, s6, s7, s8, s9, s10⟩ := regErr_ok hr2
  have hnf : nf = 4 * (h * V) := by
    have : (nf : Int) = 4 * ((h : Int) * V) := by rw [hl, Int.mul_assoc, Int.mul_comm (V : Int)]
    exact_mod_cast this
  have hWH : W * H ≤ 16384 := by have : ((W * H : Nat) : Int) ≤ 16384 := by rw [Int.natCast_mul]; exact r5
                                 exact_mod_cast this
  have hVh : V * h ≤ 16384 := by have : ((V * h : Nat) : Int) ≤ 16384 := by rw [Int.natCast_mul]; exact s5
                                 exact_mod_cast this
  have hgo : go < w.heap.size := hO.lt
  have HO := Lib.hid (And.intro hO hF)
  have HN := Lib.hid (And.intro hn (And.intro hnf (And.intro hWH hVh)))
  have HXY := Lib.hid (And.intro hx hy)
  have hcom : Hid (∀ w', Calls Try.prog 60 #[.agg #[.int .i64 X, .int .i64 Y, .int .i64 W, .int .i64 H], .agg #[.int .i64 x, .int .i64 y, .int .i64 V, .int .i64 h]] w' fun e w'' => e = .returned (.tuple #[.agg #[.int .i64 x, .int .i64 y, .int .i64 V, .int .i64 h], .bool true]) ∧ Below w'.heap.size w' w'') := fun w' => by
    refine (Common_gen X Y W H x y V h w' (by omega) (by omega) (by omega) (by omega) (by omega) (by omega) (by omega) (by omega)).mono ?_
    rintro e w'' ⟨rfl, hb⟩
    refine ⟨?_, hb⟩
    rw [show max X x = x by omega, show max Y y = y by omega, show min (X + (W : Int)) (x + V) - x = V by omega, show min (Y + (H : Int)) (y + h) - y = h by omega]
  have hb1 : -1048576 ≤ X ∧ X ≤ 1048576 := by omega
  have hb2 : -1048576 ≤ Y ∧ Y ≤ 1048576 := by omega
  have hb3 : 1 ≤ W ∧ W ≤ 256 := by omega
  have hb4 : 1 ≤ V ∧ V ≤ 256 := by omega
  have hb8 : 1 ≤ H ∧ H ≤ 256 := by omega
  have hb5 : 1 ≤ h ∧ h ≤ 256 := by omega
  have hb6 : -1048576 ≤ x ∧ x ≤ 1048576 := by omega
  have hb7 : -1048576 ≤ y ∧ y ≤ 1048576 - h := by omega
  clear r1 r2 r3 r4 r5 r6 r7 r8 r9 r10 s1 s2 s3 s4 s5 s6 s7 s8 s9 s10 hnf hWH hVh hr he hl hr2 hn hO hF hx hy
  go_enter Try.func63, Try.ntmps63
  go_upto_region 1 with fail
  refine wp_world (fun W1 hW1 => ?_)
  have B1 : Below w.heap.size w W1 := by rw [hW1]; (repeat (first | exact Below.refl _ _ | assumption | (refine Below.setCell ?_ (by first | (simp; done) | (simp; omega) | omega) _) | (refine Below.drew ?_) | (refine below_drewN ?_ _) | (refine Below.alloc ?_ (by first | (simp; done) | (simp; omega) | omega) _) | (refine Below.trans ?_ (Below.mono (by assumption) (by first | (simp; done) | (simp; omega) | omega)))))
  have A1 : Blk W1 w.heap.size [.int .i64 X, .int .i64 Y, .int .i64 W, .int .i64 H, .slice (some ⟨go, 0, none⟩) n n] := by rw [hW1]; exact (Blk.new _ _ _ _ rfl).alloc _
  have C1 : Blk W1 (w.heap.size + 1) [.int .i64 x, .int .i64 y, .int .i64 V, .int .i64 h, .slice (some ⟨bf, off, none⟩) nf cf] := by rw [hW1]; exact Blk.new _ _ _ _ (by simp)
  have H1 := Lib.hid (And.intro A1 (And.intro C1 B1))
  have a0 := A1.c 0 _ rfl; have a1 := A1.c 1 _ rfl; have a2 := A1.c 2 _ rfl; have a3 := A1.c 3 _ rfl; have al := A1.lt
  have f0 := C1.c 0 _ rfl; have f1 := C1.c 1 _ rfl; have f2 := C1.c 2 _ rfl; have f3 := C1.c 3 _ rfl; have fl := C1.lt
  clear hW1 B1 A1 C1
  go_wp2_with fail
  refine (hcom.out _).mono ?_
  rintro e w2 ⟨rfl, hb⟩
  have H2 := Lib.hid (And.intro (H1.out.1.past hb) (And.intro (H1.out.2.1.past hb) (H1.out.2.2.trans (hb.mono H1.out.2.2.size))))
  clear hb a0 a1 a2 a3 al f0 f1 f2 f3 fl H1 hcom
  go_upto_region 2 with fail
  refine wp_world (fun W3 hW3 => ?_)
  have B3 : Below w2.heap.size w2 W3 := by rw [hW3]; (repeat (first | exact Below.refl _ _ | assumption | (refine Below.setCell ?_ (by first | (simp; done) | (simp; omega) | omega) _) | (refine Below.drew ?_) | (refine below_drewN ?_ _) | (refine Below.alloc ?_ (by first | (simp; done) | (simp; omega) | omega) _) | (refine Below.trans ?_ (Below.mono (by assumption) (by first | (simp; done) | (simp; omega) | omega)))))
  have R3 : Blk W3 w2.heap.size [.int .i64 x, .int .i64 y, .int .i64 V, .int .i64 h] := by rw [hW3]; exact Blk.new _ _ _ _ rfl
  have hrg : w.heap.size + 1 < w2.heap.size := H2.out.2.1.lt
  have H3 := Lib.hid (CpR.mk (go := go) (n := n) (T := cpF T dx dy W V fs 0) (bf := bf) (off := off) (nf := nf) (fs := fs) (H2.out.1.past B3) (H2.out.2.1.past B3) R3
    (HO.out.1.of_block ((H2.out.2.2.trans (B3.mono H2.out.2.2.size)).block go hgo)) (HO.out.2.past (H2.out.2.2.trans (B3.mono H2.out.2.2.size))) (OneB.of_below (H2.out.2.2.trans (B3.mono H2.out.2.2.size))))
  clear hW3 B3 R3 H2
  obtain ⟨rg, hrge⟩ : ∃ rg, rg = w2.heap.size := ⟨_, rfl⟩
  rw [← hrge] at H3 hrg ⊢
  clear hrge
  have r1 := H3.out.R.c 1 _ rfl; have rl := H3.out.R.lt
  go_wp2_with fail
  clear r1 rl
  go_loopw [6, 7, 8, 9] (fun s6 _ _ _ wr => ∃ (r : Nat) (yv : Int), r ≤ h ∧ s6 = .int .i64 yv ∧ yv = y + r ∧ CpR w wr [.int .i64 X, .int .i64 Y, .int .i64 W, .int .i64 H, .slice (some ⟨go, 0, none⟩) n n] [.int .i64 x, .int .i64 y, .int .i64 V, .int .i64 h, .slice (some ⟨bf, off, none⟩) nf cf] [.int .i64 x, .int .i64 y, .int .i64 V, .int .i64 h] rg go n (cpF T dx dy W V fs (r * (4 * V))) bf off nf fs) (fun s6 _ _ _ _ => (y + h - intOf s6).toNat)
  case atStart => exact ⟨0, _, Nat.zero_le _, rfl, by simp, by simpa using H3.out⟩
  case round =>
    obtain ⟨r, yv, hr, rfl, hyv, hM⟩ := hrel
    have HM := Lib.hid hM
    have HYV := Lib.hid hyv
    have hyb : y ≤ yv ∧ yv ≤ y + h := by omega
    clear hM H3
    by_cases hrh : r < h
    · have hyl : yv < y + (h : Int) := by omega
      obtain ⟨oa, hoa⟩ : ∃ oa, oa = 4 * ((dy + r) * W + dx) := ⟨_, rfl⟩
      obtain ⟨ob, hob⟩ : ∃ ob, ob = r * (4 * V) := ⟨_, rfl⟩
      have HKA := Lib.hid (show 4 * ((yv - Y) * (W : Int) + x - X) = (oa : Int) by
        have e1 : yv - Y = ((dy + r : Nat) : Int) := by have := HXY.out.2; omega
        have e2 := HXY.out.1
        rw [e1, ← Int.natCast_mul, hoa]
        omega)
      have HKB := Lib.hid (show 4 * ((yv - y) * (V : Int)) = (ob : Int) by
        have e1 : yv - y = (r : Int) := by omega
        rw [e1, ← Int.natCast_mul, hob, Nat.mul_left_comm r 4 V]
        omega)
      have hoa2 : oa + 4 * V ≤ n := by
        have h1 : (dy + r + 1) * W ≤ H * W := Nat.mul_le_mul_right _ (by omega)
        rw [Nat.add_mul, Nat.one_mul, Nat.mul_comm H W] at h1
        have := HN.out.1
        omega
      have hob2 : ob + 4 * V ≤ nf := by
        have h1 : (r + 1) * V ≤ h * V := Nat.mul_le_mul_right _ (by omega)
        rw [Nat.add_mul, Nat.one_mul] at h1
        have := HN.out.2.1
        rw [Nat.mul_left_comm r 4 V] at hob
        omega
      have HOB := Lib.hid (And.intro hoa hob)
      clear hoa hob
      have a0 := HM.out.A.c 0 _ rfl; have a1 := HM.out.A.c 1 _ rfl; have a2 := HM.out.A.c 2 _ rfl; have a3 := HM.out.A.c 3 _ rfl; have al := HM.out.A.lt
      have f0 := HM.out.B.c 0 _ rfl; have f1 := HM.out.B.c 1 _ rfl; have f2 := HM.out.B.c 2 _ rfl; have f3 := HM.out.B.c 3 _ rfl; have fl := HM.out.B.lt
      have r0 := HM.out.R.c 0 _ rfl; have r1 := HM.out.R.c 1 _ rfl; have r3 := HM.out.R.c 3 _ rfl; have rl := HM.out.R.lt
      clear hyv
      go_upto_region 6 with fail
      refine wp_region_loose 13 JnPsi (by kernel_rfl) (by kernel_rfl) ?_
      simp only [List.take_succ_cons, List.take_zero, List.drop_succ_cons, List.drop_zero]
      iterate 5 (refine loose_wanted rfl (fun K hK => ?_); go_simp; refine hK _ ?_; clear hK K)
      refine loose_wanted rfl (fun K1 hK => ?_)
      go_simp
      refine ⟨fun p => (offset_any X Y W H x yv _ p.w (by omega) (by omega) (by have := HXY.out; omega) (by have := HXY.out; omega) (by omega) rfl).mono ?_, ?_⟩
      · rintro e w' ⟨rfl, hb⟩
        exact ⟨_, rfl, jn_psi.2 rfl, p.h.trans (hb.mono p.h.size)⟩
      intro z hz
      obtain rfl := jn_psi.1 hz
      refine hK _ ?_
      clear hK K1 hz
      iterate 5 (refine loose_wanted rfl (fun K hK => ?_); go_simp; refine hK _ ?_; clear hK K)
      refine loose_wanted rfl (fun K1 hK => ?_)
      go_simp
      refine ⟨fun p => (offset_any x y V h x yv _ p.w (by omega) (by omega) (by omega) (by omega) (by omega) rfl).mono ?_, ?_⟩
      · rintro e w' ⟨rfl, hb⟩
        exact ⟨_, rfl, jn_psi.2 rfl, p.h.trans (hb.mono p.h.size)⟩
      intro z hz
      obtain rfl := jn_psi.1 hz
      refine hK _ ?_
      clear hK K1 hz
      iterate 1 (refine loose_wanted rfl (fun K hK => ?_); go_simp; refine hK _ ?_; clear hK K)
      refine loose_nil (fun w5 hb5 => ?_)
      have H5 := Lib.hid (HM.out.past hb5)
      clear hb5 a0 a1 a2 a3 al f0 f1 f2 f3 fl r0 r1 r3 rl HM
      rw [HKA.out, HKB.out]
      have r2 := H5.out.R.c 2 _ rfl; have rl := H5.out.R.lt
      go_wp2_with fail
      clear r2 rl
      have hnn : n ≤ 65536 ∧ nf ≤ 65536 := by
        obtain ⟨e1, e2, e3, e4⟩ := HN.out
        rw [Nat.mul_comm V h] at e4
        omega
      go_loopw [9, 46] (fun _ s46 wr => ∃ i : Nat, i ≤ 4 * V ∧ s46 = .int .i64 i ∧ CpR w wr [.int .i64 X, .int .i64 Y, .int .i64 W, .int .i64 H, .slice (some ⟨go, 0, none⟩) n n] [.int .i64 x, .int .i64 y, .int .i64 V, .int .i64 h, .slice (some ⟨bf, off, none⟩) nf cf] [.int .i64 x, .int .i64 y, .int .i64 V, .int .i64 h] rg go n (cpF T dx dy W V fs (r * (4 * V) + i)) bf off nf fs) (fun _ s46 _ => 4 * V - (intOf s46).toNat)
      case atStart => exact ⟨0, Nat.zero_le _, rfl, H5.out⟩
      case round =>
        obtain ⟨i, hi, rfl, hM⟩ := hrel
        have HM := Lib.hid hM
        clear hM H5
        by_cases hiv : i < 4 * V
        · have hivi : (i : Int) < 4 * (V : Int) := by omega
          obtain ⟨da, hda⟩ : ∃ da, da = oa + i := ⟨_, rfl⟩
          obtain ⟨sb, hsb⟩ : ∃ sb, sb = ob + i := ⟨_, rfl⟩
          have wda : IntKind.i64.wrap ((oa : Int) + (i : Int)) = (da : Int) := by rw [IntKind.wrap_i64]; omega
          have wsb : IntKind.i64.wrap ((ob : Int) + (i : Int)) = (sb : Int) := by rw [IntKind.wrap_i64]; omega
          have hdn : da < n := by omega
          have hsn : sb < nf := by omega
          have hdi : (da : Int) < (n : Int) := by omega
          have hsi : (sb : Int) < (nf : Int) := by omega
          have HDS := Lib.hid (show dstF dx dy W V (r * (4 * V) + i) = da ∧ r * (4 * V) + i = sb by
            obtain ⟨e1, e2⟩ := HOB.out
            refine ⟨?_, by omega⟩
            unfold dstF
            rw [Nat.add_comm (r * (4 * V)) i, Nat.add_mul_div_right _ _ (by omega), Nat.div_eq_of_lt hiv, Nat.add_mul_mod_self_right, Nat.mod_eq_of_lt hiv, Nat.zero_add]
            omega)
          clear hda hsb
          have a4 := HM.out.A.c 4 _ rfl; have al := HM.out.A.lt
          have f4 := HM.out.B.c 4 _ rfl; have fl := HM.out.B.lt
          have c0 := HM.out.F sb hsn
          obtain ⟨v, hv⟩ : ∃ v, v = fs sb := ⟨_, rfl⟩
          rw [← hv] at c0
          have HV := Lib.hid hv
          have cl := cell_lt c0; simp only at cl
          have gl := HM.out.O.lt
          clear hv
          go_upto_region 10 with fail
          refine wp_region_loose 13 (fun _ _ u => u = .float .f32 (cn .f32 v)) (by kernel_rfl) (by kernel_rfl) ?_
          simp only [List.take_succ_cons, List.take_zero, List.drop_succ_cons, List.drop_zero]
          iterate 12 (refine loose_wanted rfl (fun K hK => ?_); go_simp; refine hK _ ?_; clear hK K)
          refine loose_wanted rfl (fun K1 hK => ?_)
          go_simp
          refine ⟨fun p => (Clean_any _ _).mono ?_, ?_⟩
          · rintro e w' ⟨rfl, rfl⟩
            exact ⟨_, rfl, rfl, p.h⟩
          refine hK _ ?_
          clear hK K1
          refine loose_nil (fun w5 hb5 => ?_)
          have H5 := Lib.hid (HM.out.past hb5)
          have x5 := H5.out.O.cell hdn
          have y5 : w5.frozen? ⟨go, da, none⟩ = false := H5.out.O.frozen _
          clear hb5 a4 al f4 fl c0 cl gl HM
          go_wp2_with fail
          go_roundw
          case rel =>
            refine ⟨i + 1, by omega, by go_num, ?_⟩
            rw [show r * (4 * V) + (i + 1) = r * (4 * V) + i + 1 by omega]
            refine H5.out.set hgo (by omega) hne da _ (fun j hj => ?_)
            show (if j = dstF dx dy W V (r * (4 * V) + i) then cn .f32 (fs (r * (4 * V) + i)) else _) = _
            rw [HDS.out.1, HDS.out.2, ← HV.out]
          case measure => simp [intOf]; omega
        · have hivi : ¬ (i : Int) < 4 * (V : Int) := by omega
          have hie : i = 4 * V := by omega
          have HN2 := Lib.hid (show CpR w wr [.int .i64 X, .int .i64 Y, .int .i64 W, .int .i64 H, .slice (some ⟨go, 0, none⟩) n n] [.int .i64 x, .int .i64 y, .int .i64 V, .int .i64 h, .slice (some ⟨bf, off, none⟩) nf cf] [.int .i64 x, .int .i64 y, .int .i64 V, .int .i64 h] rg go n (cpF T dx dy W V fs ((r + 1) * (4 * V))) bf off nf fs by have h := HM.out; rw [hie] at h; rw [Nat.add_mul, Nat.one_mul]; exact h)
          go_wp2_with fail
          go_roundw
          case rel => exact ⟨r + 1, _, by omega, rfl, by have := HYV.out; simp; omega, HN2.out⟩
          case measure => simp [intOf]; omega
    · have hyl : ¬ yv < y + (h : Int) := by omega
      have hre : r = h := by omega
      have r1 := HM.out.R.c 1 _ rfl; have r3 := HM.out.R.c 3 _ rfl; have rl := HM.out.R.lt
      clear hyv
      go_wp2_with fail
      go_end0
      have K := HM.out
      rw [hre] at K
      exact ⟨rfl, K.U, K.O⟩
end Go.Proofs.Ytnicamndlkdcmaa
