/- Spreading of errors: finish.Diffuse. Conditions: what each theorem names. -/
import Derived.Test.YthphcnchbogheaaDfC
import Derived.Test.YthphcnchbogheaaLvD
namespace Go.Proofs.Ythphcnchbogheaa
open Go Go.RowKit
/-- What stands between the pixels of the walk. -/
structure DfR (w wr : World) (La : List Value) (pe ge gl n : Nat) (t : Nat → Nat) (out : Nat → Int) : Prop where
  fa : Blk wr w.heap.size La
  ev : Blk wr pe [.slice (some ⟨ge, 0, none⟩) n n]
  er : FRow wr ge n t
  lv : wr.rowIs gl 3 n (fun j => .int .i64 (out j))
  bel : Below w.heap.size w wr
theorem DfR.past {w wr wy : World} {La : List Value} {pe ge gl n : Nat} {t : Nat → Nat} {out : Nat → Int} (k : DfR w wr La pe ge gl n t out) (h : Below wr.heap.size wr wy) : DfR w wy La pe ge gl n t out :=
  ⟨k.fa.past h, k.ev.past h, k.er.past h, k.lv.of_block (h.block gl k.lv.lt), k.bel.trans (h.mono k.bel.size)⟩
theorem DfR.set {w wr : World} {La : List Value} {pe ge gl n : Nat} {t : Nat → Nat} {out out' : Nat → Int} (k : DfR w wr La pe ge gl n t out) (h1 : w.heap.size < gl) (h2 : pe ≠ gl) (h3 : ge ≠ gl) (q : Nat) (l : Int) (ho : ∀ j, j < n → out' j = if j = q then l else out j) : DfR w (wr.setCell ⟨gl, q, none⟩ (.int .i64 l)) La pe ge gl n t out' := by
  have o : OneB gl wr (wr.setCell ⟨gl, q, none⟩ (.int .i64 l)) := (OneB.refl _ _).setCell
  refine ⟨k.fa.one o (by omega), k.ev.one o h2, k.er.one o h3, ?_, k.bel.setCell (by simp; omega) _⟩
  refine World.rowIs.congr (World.rowIs.set k.lv q _) (fun j hj => ?_)
  rw [ho j hj]
  by_cases e : j = q <;> simp [e]
/-- The levels that stand: all below m, and the one of the opacity where a says so. -/
def dfO (Z : Nat → Int) (m : Nat) (a : Bool) (q j : Nat) : Int := if j < m ∨ (a = true ∧ j = q) then Z j else 0
theorem levelOf_fr {r s : Nat} {d : Int} (h : cn .f32 r = s) (o : Nat) : levelOf r o d = levelOf s o d := by
  unfold levelOf; rw [← h, fop_cn_left]
theorem levelOf_in (v o : Nat) {d : Int} (hd : 1 ≤ d ∧ d ≤ 16) : (levelOf v o d).natAbs ≤ 2 ^ 24 := by
  have hb := pow_bd hd
  unfold levelOf
  have h := near_in0 (fop .add .f32 (fop .mul .f32 v (floatOfInt .f32 (2 ^ d.toNat - 1))) o) (show 0 ≤ 2 ^ d.toNat - 1 by omega) (by omega)
  omega
/-- What stands within a step: the walk's variables, each in a block of its own. -/
structure DfS (w wr : World) (La : List Value) (pe ge gl n : Nat) (t : Nat → Nat) (out : Nat → Int) (py px pc pb Y X A c q : Nat) : Prop where
  R : DfR w wr La pe ge gl n t out
  BY : Blk wr py [.int .i64 Y]
  BX : Blk wr px [.int .i64 X]
  BA : Blk wr (px + 1) [.int .i64 A]
  BC : Blk wr pc [.int .i64 c]
  BQ : Blk wr pb [.float .f32 q]
theorem DfR.give {w wr wy : World} {La : List Value} {pe ge gl n : Nat} {t t' : Nat → Nat} {out : Nat → Int} (k : DfR w wr La pe ge gl n t out) (o : OneB ge wr wy) (h1 : w.heap.size < ge) (h2 : pe ≠ ge) (h3 : gl ≠ ge) (hf : FRow wy ge n t') : DfR w wy La pe ge gl n t' out :=
  ⟨k.fa.one o (by omega), k.ev.one o h2, hf, k.lv.of_block (o.block gl k.lv.lt h3), k.bel.trans (o.below (by omega) k.bel.size)⟩
theorem DfS.past {w wr wy : World} {La : List Value} {pe ge gl n : Nat} {t : Nat → Nat} {out : Nat → Int} {py px pc pb Y X A c q : Nat} (k : DfS w wr La pe ge gl n t out py px pc pb Y X A c q) (h : Below wr.heap.size wr wy) : DfS w wy La pe ge gl n t out py px pc pb Y X A c q :=
  ⟨k.R.past h, k.BY.past h, k.BX.past h, k.BA.past h, k.BC.past h, k.BQ.past h⟩
theorem DfS.call {w wr : World} {pe ge gl n off cap b : Nat} {x y : Int} {V H : Nat} {t : Nat → Nat} {out : Nat → Int} {py px pc pb Y X A c q : Nat} (s : DfS w wr [.int .i64 x, .int .i64 y, .int .i64 V, .int .i64 H, .slice (some ⟨b, off, none⟩) n cap] pe ge gl n t out py px pc pb Y X A c q)
    (h1 : w.heap.size < ge ∧ pe ≠ ge ∧ gl ≠ ge ∧ py ≠ ge ∧ px ≠ ge ∧ px + 1 ≠ ge ∧ pc ≠ ge ∧ pb ≠ ge)
    (hV : 1 ≤ V ∧ V ≤ 256) (hX : X < 256) (hY : Y < 65536) (hA : A ≤ 65536) (hc : c < 3) (hn : n ≤ 65536) (dx dy : Int) (hdx : -1 ≤ dx ∧ dx ≤ 1) (hdy : 0 ≤ dy ∧ dy ≤ 1) (wt k : Nat) (cb : Bool)
    (hcb : cb = true ↔ (0 ≤ (X : Int) + dx ∧ (X : Int) + dx < V ∧ (Y : Int) + dy < H)) (hk : cb = true → k < n ∧ (k : Int) = A + 4 * (dy * V + dx) + c) :
    Calls Try.prog 22 #[.int .i64 dx, .int .i64 dy, .float .f32 wt, .pointer (some ⟨px, 0, none⟩), .pointer (some ⟨w.heap.size, 0, none⟩), .pointer (some ⟨py, 0, none⟩), .pointer (some ⟨pe, 0, none⟩), .pointer (some ⟨px + 1, 0, none⟩), .pointer (some ⟨pc, 0, none⟩), .pointer (some ⟨pb, 0, none⟩)] wr fun e w' => e = .returned (.tuple #[]) ∧ DfS w w' [.int .i64 x, .int .i64 y, .int .i64 V, .int .i64 H, .slice (some ⟨b, off, none⟩) n cap] pe ge gl n (toF cb t k q wt) out py px pc pb Y X A c q ∧ wr.heap.size ≤ w'.heap.size := by
  obtain ⟨i1, i2, i3, i4, i5, i6, i7, i8⟩ := h1
  refine (give_any w.heap.size px py pe (px + 1) pc pb ge x y H dx dy wt V X Y A c n k q _ t cb wr hV hX hY hA hc hn hdx hdy s.R.fa s.BX s.BY s.R.ev s.BA s.BC s.BQ s.R.er hcb hk).mono ?_
  rintro e w' ⟨rfl, o, hf⟩
  exact ⟨rfl, ⟨s.R.give o i1 i2 i3 hf, s.BY.one o i4, s.BX.one o i5, s.BA.one o i6, s.BC.one o i7, s.BQ.one o i8⟩, o.size⟩
set_option maxRecDepth 100000 in
set_option maxHeartbeats 3200000 in
theorem Diffuse_yes (x y d : Int) (V H b off n cap : Nat) (fs : Nat → Nat) (w : World) (he : fraErr x y (V : Int) (H : Int) n = 0) (hd : 1 ≤ d ∧ d ≤ 16) (hc : Row w b off n fs) :
    Calls Try.prog 5 #[.agg #[.int .i64 x, .int .i64 y, .int .i64 V, .int .i64 H, .slice (some ⟨b, off, none⟩) n cap], .int .i64 d] w fun e w' =>
      ∃ g, e = .returned (.tuple #[.slice (some ⟨g, 0, none⟩) n n, .int .i64 0]) ∧ w.heap.size ≤ g ∧ (∀ i, i < n → w'.cell? ⟨g, i, none⟩ = some (.int .i64 (dfZ V H d fs i))) ∧ Below w.heap.size w w' := by
  obtain ⟨hr, hl⟩ := fraErr_ok he
  obtain ⟨r1, r2, r3, r4, r5, r6, r7, r8, r9, r10⟩ := regErr_ok hr
  have hlt : 4 * (V : Int) * H ≤ 65536 := by rw [Int.mul_assoc]; omega
  have hlt1 : 4 ≤ 4 * (V : Int) * H := by rw [Int.mul_assoc]; omega
  have hn6 : n ≤ 65536 := by omega
  have hn0 : 0 < n := by omega
  have hV : 0 < V ∧ V ≤ 256 := by omega
  have hbw : b < w.heap.size := hc.lt hn0
  have hnV : n = 4 * (H * V) := by
    have : (n : Int) = 4 * ((H : Int) * V) := by rw [hl, Int.mul_assoc, Int.mul_comm (V : Int)]
    exact_mod_cast this
  obtain ⟨Z, hZ⟩ : ∃ Z, Z = dfZ V H d fs := ⟨_, rfl⟩
  obtain ⟨T, hT⟩ : ∃ T, T = stT V H d fs := ⟨_, rfl⟩
  have hT0 : (fun _ => 0) = T 0 := by rw [hT]; rfl
  rw [← hZ]
  have HZ := Lib.hid hZ; have HT := Lib.hid hT; have HT0 := Lib.hid hT0
  have HN := Lib.hid hnV; have HE := Lib.hid he
  have HC := Lib.hid (fun (w' : World) (hb : Below w.heap.size w w') => hc.below hb hbw : ∀ w', Below w.heap.size w w' → _)
  have hmk := run_make_row' (P := Try.prog) 28 3 (.int .i64 0) 8 Try.underlying28 (by kernel_rfl) rfl .i64 .i64 n (by omega) (by omega)
  have hmk2 := run_make_row' (P := Try.prog) 24 46 (.float .f32 0) 4 Try.underlying24 (by kernel_rfl) rfl .i64 .i64 n (by omega) (by omega)
  have hi := inB_t hd
  have hd' := Lib.hid hd
  clear he hl hlt hlt1 hr r5 r6 hc hd hnV hZ hT hT0
  go_enter Try.func5, Try.ntmps5
  go_upto_region 1 with fail
  refine wp_world (fun W hW => ?_)
  have A0 : Blk W w.heap.size [.int .i64 x, .int .i64 y, .int .i64 V, .int .i64 H, .slice (some ⟨b, off, none⟩) n cap] := by rw [hW]; exact Blk.new _ _ _ _ rfl
  have BW : Below w.heap.size w W := by rw [hW]; (repeat (first | exact Below.refl _ _ | assumption | (refine Below.setCell ?_ (by first | (simp; done) | (simp; omega) | omega) _) | (refine Below.drew ?_) | (refine below_drewN ?_ _) | (refine Below.alloc ?_ (by first | (simp; done) | (simp; omega) | omega) _) | (refine Below.trans ?_ (Below.mono (by assumption) (by first | (simp; done) | (simp; omega) | omega)))))
  have H0 := Lib.hid (And.intro A0 BW)
  have a0 := A0.c 0 _ rfl; have a1 := A0.c 1 _ rfl; have a2 := A0.c 2 _ rfl; have a3 := A0.c 3 _ rfl; have a4 := A0.c 4 _ rfl; have al := A0.lt
  clear hW A0 BW
  go_wp2_with fail
  refine (FCheck_any _ _ _ _ _ _ _ _).mono ?_
  rintro e w1 ⟨rfl, hb1⟩
  rw [HE.out]
  have H1 := Lib.hid (And.intro (H0.out.1.past hb1) (H0.out.2.trans (hb1.mono H0.out.2.size)))
  clear a0 a1 a2 a3 a4 al hb1 H0
  have a4 := H1.out.1.c 4 _ rfl; have al := H1.out.1.lt
  go_upto_region 8 with (first | (go_at_call 17; refine (deep_any _ _).mono ?_; rintro e w' ⟨rfl, rfl⟩))
  refine wp_world (fun W2 hW2 => ?_)
  have hg1 : w.heap.size < w1.heap.size := H1.out.1.lt
  have R2 : DfR w W2 [.int .i64 x, .int .i64 y, .int .i64 V, .int .i64 H, .slice (some ⟨b, off, none⟩) n cap] (w1.heap.size + 1 + 1) (w1.heap.size + 1) w1.heap.size n (T 0) (dfO Z 0 false 0) := by
    rw [hW2]
    rw [← HT0.out]
    have h1 := World.rowIs_made w1 (.int .i64 0) n 3
    have h2 := World.rowIs_made (w1.alloc (.cells (madeCells #[.int .i64 0] n) 3)) (.float .f32 0) n 46
    rw [show (w1.alloc (.cells (madeCells #[.int .i64 0] n) 3)).heap.size = w1.heap.size + 1 by simp] at h2
    refine ⟨H1.out.1.past (by (repeat (first | exact Below.refl _ _ | assumption | (refine Below.setCell ?_ (by first | (simp; done) | (simp; omega) | omega) _) | (refine Below.drew ?_) | (refine below_drewN ?_ _) | (refine Below.alloc ?_ (by first | (simp; done) | (simp; omega) | omega) _) | (refine Below.trans ?_ (Below.mono (by assumption) (by first | (simp; done) | (simp; omega) | omega)))))), Blk.new _ _ _ _ (by simp), ⟨fun _ => 0, h2.of_block (Below.heap_alloc _ _ _ (by simp)), fun j => FR.refl (k := .f32) (r := 0) (by decide)⟩, ?_, H1.out.2.trans (Below.mono (by (repeat (first | exact Below.refl _ _ | assumption | (refine Below.setCell ?_ (by first | (simp; done) | (simp; omega) | omega) _) | (refine Below.drew ?_) | (refine below_drewN ?_ _) | (refine Below.alloc ?_ (by first | (simp; done) | (simp; omega) | omega) _) | (refine Below.trans ?_ (Below.mono (by assumption) (by first | (simp; done) | (simp; omega) | omega)))))) H1.out.2.size)⟩
    have h3 := h1.of_block (w' := ((w1.alloc (Obj.cells (madeCells #[Value.int IntKind.i64 0] n) 3)).alloc (Obj.cells (madeCells #[Value.float FloatKind.f32 0] n) 46)).alloc (Obj.cells #[Value.slice (some { block := w1.heap.size + 1, off := 0 }) n n] 24)) (by rw [Below.heap_alloc _ _ _ (by simp; omega), Below.heap_alloc _ _ _ (by simp)])
    exact h3.congr (fun j _ => by simp [dfO])
  have H2 := Lib.hid R2
  clear a4 al hmk hmk2 H1 R2 hW2
  generalize w1.heap.size = gl at *
  have a3 := H2.out.fa.c 3 _ rfl; have al := H2.out.fa.lt
  go_wp2_with fail
  clear a3 al
  go_loopw [36] (fun s36 wr => ∃ Y : Nat, Y ≤ H ∧ s36 = .int .i64 Y ∧ DfR w wr [.int .i64 x, .int .i64 y, .int .i64 V, .int .i64 H, .slice (some ⟨b, off, none⟩) n cap] (gl + 1 + 1) (gl + 1) gl n (T (3 * (Y * V))) (dfO Z (4 * (Y * V)) false 0)) (fun s36 _ => H - (intOf s36).toNat)
  case atStart => exact ⟨0, Nat.zero_le _, rfl, by simpa using H2.out⟩
  case round =>
    obtain ⟨Y, hY, rfl, hM⟩ := hrel
    have HM := Lib.hid hM
    clear hM H2
    by_cases hYH : Y < H
    · have hYi : (Y : Int) < (H : Int) := by omega
      have al := HM.out.fa.lt
      go_upto_region 11 with fail
      refine wp_world (fun W3 hW3 => ?_)
      have B3 : Below wr.heap.size wr W3 := by rw [hW3]; (repeat (first | exact Below.refl _ _ | assumption | (refine Below.setCell ?_ (by first | (simp; done) | (simp; omega) | omega) _) | (refine Below.drew ?_) | (refine below_drewN ?_ _) | (refine Below.alloc ?_ (by first | (simp; done) | (simp; omega) | omega) _) | (refine Below.trans ?_ (Below.mono (by assumption) (by first | (simp; done) | (simp; omega) | omega)))))
      have Y3 : Blk W3 wr.heap.size [.int .i64 Y] := by rw [hW3]; exact Blk.new _ _ _ _ rfl
      have H3 := Lib.hid (And.intro (HM.out.past B3) Y3)
      have gy := HM.out.er.lt
      have gz := HM.out.ev.lt
      clear hW3 B3 Y3 al HM
      generalize wr.heap.size = py at *
      have a2 := H3.out.1.fa.c 2 _ rfl; have al := H3.out.1.fa.lt
      go_wp2_with fail
      clear a2 al
      go_loopw [42] (fun s42 wr => ∃ X : Nat, X ≤ V ∧ s42 = .int .i64 X ∧ DfR w wr [.int .i64 x, .int .i64 y, .int .i64 V, .int .i64 H, .slice (some ⟨b, off, none⟩) n cap] (gl + 1 + 1) (gl + 1) gl n (T (3 * (Y * V + X))) (dfO Z (4 * (Y * V + X)) false 0) ∧ Blk wr py [.int .i64 Y]) (fun s42 _ => V - (intOf s42).toNat)
      case atStart => exact ⟨0, Nat.zero_le _, rfl, by simpa using H3.out.1, H3.out.2⟩
      case round =>
        obtain ⟨X, hX, rfl, hM, hy⟩ := hrel
        have HM := Lib.hid (And.intro hM hy)
        clear hM hy H3
        by_cases hXV : X < V
        · have hXi : (X : Int) < (V : Int) := by omega
          have al := HM.out.1.fa.lt; have yl := HM.out.2.lt
          have a2 := HM.out.1.fa.c 2 _ rfl; have y0 := HM.out.2.c 0 _ rfl
          have gy := HM.out.1.er.lt; have gz := HM.out.1.ev.lt; have gv := HM.out.1.lv.lt
          obtain ⟨P, hP⟩ : ∃ P, P = Y * V := ⟨_, rfl⟩
          have hPn : 4 * (P + V) ≤ n := by
            have : (Y + 1) * V ≤ H * V := Nat.mul_le_mul_right _ (by omega)
            rw [Nat.add_mul] at this
            rw [HN.out, hP]; omega
          have wP : IntKind.i64.wrap ((Y : Int) * (V : Int)) = (P : Int) := by rw [← Int.natCast_mul, ← hP, IntKind.wrap_i64]; omega
          rw [← hP] at HM
          obtain ⟨A, hA⟩ : ∃ A, A = 4 * (P + X) := ⟨_, rfl⟩
          have w1 : IntKind.i64.wrap ((P : Int) + (X : Int)) = ((P + X : Nat) : Int) := by rw [IntKind.wrap_i64]; omega
          have w2 : IntKind.i64.wrap (4 * ((P + X : Nat) : Int)) = (A : Int) := by rw [IntKind.wrap_i64]; omega
          obtain ⟨k3, hk3⟩ : ∃ k3, k3 = A + 3 := ⟨_, rfl⟩
          have hA3 : k3 < n := by omega
          have HP := Lib.hid (And.intro hP (And.intro hA hk3))
          clear hP hA hPn hk3
          go_upto_region 15 with fail
          refine wp_world (fun W3 hW3 => ?_)
          have B3 : Below wr.heap.size wr W3 := by rw [hW3]; (repeat (first | exact Below.refl _ _ | assumption | (refine Below.setCell ?_ (by first | (simp; done) | (simp; omega) | omega) _) | (refine Below.drew ?_) | (refine below_drewN ?_ _) | (refine Below.alloc ?_ (by first | (simp; done) | (simp; omega) | omega) _) | (refine Below.trans ?_ (Below.mono (by assumption) (by first | (simp; done) | (simp; omega) | omega)))))
          have X3 : Blk W3 wr.heap.size [.int .i64 X] := by rw [hW3]; exact (Blk.new _ _ _ _ rfl).alloc _
          have A3 : Blk W3 (wr.heap.size + 1) [.int .i64 A] := by rw [hW3, show wrap64 (4 * ((P : Int) + (X : Int))) = (A : Int) by have := HP.out.2.1; have := HP.out.2.2; unfold wrap64; omega]; refine Blk.new _ _ _ _ ?_; simp
          have H3 := Lib.hid (And.intro (HM.out.1.past B3) (And.intro (HM.out.2.past B3) (And.intro X3 A3)))
          have hpy : py < wr.heap.size := yl
          clear hW3 B3 X3 A3 al yl a2 y0 HM
          generalize wr.heap.size = px at *
          have c0 := HC.out _ H3.out.1.bel k3 hA3
          obtain ⟨v, hv⟩ : ∃ v, v = fs k3 := ⟨_, rfl⟩
          rw [← hv] at c0
          have HV := Lib.hid hv
          clear hv
          have l0 := cell_lt c0; simp only at l0
          have a4 := H3.out.1.fa.c 4 _ rfl; have al := H3.out.1.fa.lt; have t0 := H3.out.2.2.2.c 0 _ rfl; have tl := H3.out.2.2.2.lt
          have wA : IntKind.i64.wrap ((A : Int) + 3) = (k3 : Int) := by have := HP.out.2.2; rw [IntKind.wrap_i64]; omega
          have hA3i : (k3 : Int) < (n : Int) := by omega
          refine wp_region_loose 11 (fun _ _ u => u = .int .i64 (levelOf v 0 d)) (by kernel_rfl) (by kernel_rfl) ?_
          simp only [List.take_succ_cons, List.take_zero, List.drop_succ_cons, List.drop_zero]
          iterate 10 (refine loose_wanted rfl (fun K hK => ?_); go_simp; refine hK _ ?_; clear hK K)
          refine loose_wanted rfl (fun K1 hK => ?_)
          go_simp
          refine ⟨fun p => (level_any _ _ _ p.w hd'.out).mono ?_, ?_⟩
          · rintro e w' ⟨m, rfl, rfl⟩
            exact ⟨_, rfl, rfl, below_drewN p.h m⟩
          refine hK _ ?_
          clear hK K1
          refine loose_nil (fun w5 hb5 => ?_)
          have H5 := Lib.hid (And.intro (H3.out.1.past hb5) (And.intro (H3.out.2.1.past hb5) (And.intro (H3.out.2.2.1.past hb5) (H3.out.2.2.2.past hb5))))
          have x5 : w5.cell? ⟨gl, k3, none⟩ = some (.int .i64 (dfO Z (4 * (P + X)) false 0 k3)) := H5.out.1.lv.cell hA3
          have y5 : w5.frozen? ⟨gl, k3, none⟩ = false := H5.out.1.lv.frozen _
          clear hb5 c0 l0 a4 al t0 tl H3
          go_wp2_with fail
          refine wp_world (fun W6 hW6 => ?_)
          have gx5 : px < w5.heap.size := H5.out.2.2.1.lt
          have HL := Lib.hid (show Z k3 = levelOf v 0 d by obtain ⟨-, e1, e2⟩ := HP.out; rw [HZ.out, HV.out, e2, e1]; exact dfZ_3 V H d fs (P + X))
          have R6 : DfR w W6 [.int .i64 x, .int .i64 y, .int .i64 V, .int .i64 H, .slice (some ⟨b, off, none⟩) n cap] (gl + 1 + 1) (gl + 1) gl n (T (3 * (P + X))) (dfO Z (4 * (P + X)) true k3) := by
            rw [hW6]
            refine H5.out.1.set hg1 (by omega) (by omega) k3 _ (fun j hj => ?_)
            unfold dfO
            by_cases e : j = k3
            · rw [if_pos e, if_pos (Or.inr ⟨rfl, e⟩), e]; exact HL.out
            · rw [if_neg e]; simp [e]
          have H6 := Lib.hid (show DfR w W6 [.int .i64 x, .int .i64 y, .int .i64 V, .int .i64 H, .slice (some ⟨b, off, none⟩) n cap] (gl + 1 + 1) (gl + 1) gl n (T (3 * (P + X))) (dfO Z (4 * (P + X)) true k3) ∧ Blk W6 py [.int .i64 Y] ∧ Blk W6 px [.int .i64 X] ∧ Blk W6 (px + 1) [.int .i64 A] from ⟨R6, by rw [hW6]; exact H5.out.2.1.far _ _ (by simp; omega), by rw [hW6]; exact H5.out.2.2.1.far _ _ (by simp; omega), by rw [hW6]; exact H5.out.2.2.2.far _ _ (by simp; omega)⟩)
          clear R6 hW6 x5 y5 H5
          go_loopw [65] (fun s65 wr => ∃ c : Nat, c ≤ 3 ∧ s65 = .int .i64 c ∧ DfR w wr [.int .i64 x, .int .i64 y, .int .i64 V, .int .i64 H, .slice (some ⟨b, off, none⟩) n cap] (gl + 1 + 1) (gl + 1) gl n (T (3 * (P + X) + c)) (dfO Z (4 * (P + X) + c) true k3) ∧ Blk wr py [.int .i64 Y] ∧ Blk wr px [.int .i64 X] ∧ Blk wr (px + 1) [.int .i64 A]) (fun s65 _ => 3 - (intOf s65).toNat)
          case atStart => exact ⟨0, by omega, rfl, H6.out⟩
          case round =>
            obtain ⟨c, hc3, rfl, hM⟩ := hrel
            have HM := Lib.hid hM
            clear hM H6
            by_cases hc : c < 3
            · have hci : (c : Int) < 3 := by omega
              obtain ⟨k, hk⟩ : ∃ k, k = A + c := ⟨_, rfl⟩
              have hkn : k < n := by have := HP.out.2.2; omega
              have hki : (k : Int) < (n : Int) := by omega
              have wk : IntKind.i64.wrap ((A : Int) + (c : Int)) = (k : Int) := by rw [IntKind.wrap_i64]; omega
              have al := HM.out.1.fa.lt; have pl := HM.out.1.ev.lt; have tl := HM.out.2.2.2.lt; have xl := HM.out.2.2.1.lt
              go_upto_region 19 with fail
              refine wp_world (fun W7 hW7 => ?_)
              have B7 : Below wr.heap.size wr W7 := by rw [hW7]; (repeat (first | exact Below.refl _ _ | assumption | (refine Below.setCell ?_ (by first | (simp; done) | (simp; omega) | omega) _) | (refine Below.drew ?_) | (refine below_drewN ?_ _) | (refine Below.alloc ?_ (by first | (simp; done) | (simp; omega) | omega) _) | (refine Below.trans ?_ (Below.mono (by assumption) (by first | (simp; done) | (simp; omega) | omega)))))
              have C7 : Blk W7 wr.heap.size [.int .i64 c] := by rw [hW7]; exact Blk.new _ _ _ _ rfl
              have H7 := Lib.hid (And.intro (HM.out.1.past B7) (And.intro (HM.out.2.1.past B7) (And.intro (HM.out.2.2.1.past B7) (And.intro (HM.out.2.2.2.past B7) C7))))
              have hpc : px + 1 < wr.heap.size := tl
              clear hW7 B7 C7 al pl tl xl HM
              generalize wr.heap.size = pc at *
              have f0 := HC.out _ H7.out.1.bel k hkn
              obtain ⟨u, hu⟩ : ∃ u, u = fs k := ⟨_, rfl⟩
              rw [← hu] at f0
              obtain ⟨es, G1, G2⟩ := H7.out.1.er
              have q0 := G1.cell hkn
              have G2k := Lib.hid (G2 k)
              obtain ⟨q, hq⟩ : ∃ q, q = es k := ⟨_, rfl⟩
              rw [← hq] at q0 G2k
              have HU := Lib.hid (And.intro hu hk)
              clear hu hk hq G1 G2
              have l0 := cell_lt f0; have q1 := cell_lt q0; simp only at l0 q1
              have a4 := H7.out.1.fa.c 4 _ rfl; have al := H7.out.1.fa.lt; have e0 := H7.out.1.ev.c 0 _ rfl; have el := H7.out.1.ev.lt; have t0 := H7.out.2.2.2.1.c 0 _ rfl; have tl := H7.out.2.2.2.1.lt; have z0 := H7.out.2.2.2.2.c 0 _ rfl; have zl := H7.out.2.2.2.2.lt
              refine wp_region_loose 14 (fun _ _ _ => False) (by kernel_rfl) (by kernel_rfl) ?_
              simp only [List.take_succ_cons, List.take_zero, List.drop_succ_cons, List.drop_zero]
              iterate 13 (refine loose_wanted rfl (fun K hK => ?_); go_simp; refine hK _ ?_; clear hK K)
              (first | ((with_reducible apply loose_farith); rfl; rfl; rfl; rfl; intro _ _) | ((with_reducible apply loose_up); rfl; rfl; exact Try.underlying46; exact Try.underlying69; intro _ _))
              rename_i r hr
              refine loose_nil (fun w8 hb8 => ?_)
              obtain ⟨S, hS⟩ : ∃ S, S = sumF fs (T (3 * (P + X) + c)) k := ⟨_, rfl⟩
              have hr' : FR .f32 r S := by rw [G2k.out.eq, fop_cn_left] at hr; rw [hS]; unfold sumF; rw [← HU.out.1]; exact hr
              have HZk := Lib.hid (show Z k = levelOf r 0 d by obtain ⟨-, e1, e2⟩ := HP.out; rw [levelOf_fr hr'.eq, hS, HZ.out, HT.out, HU.out.2, e1]; exact dfZ_c V H d fs (P + X) c hc)
              have HS := Lib.hid hS; have HR := Lib.hid hr'
              have H8 := Lib.hid (And.intro (H7.out.1.past hb8) (And.intro (H7.out.2.1.past hb8) (And.intro (H7.out.2.2.1.past hb8) (And.intro (H7.out.2.2.2.1.past hb8) (H7.out.2.2.2.2.past hb8)))))
              clear hS hr hr' hb8 f0 q0 l0 q1 a4 al e0 el t0 tl z0 zl G2k H7
              go_upto_region 21 with (first | (go_at_call 19; refine (level_any _ _ _ _ hd'.out).mono ?_; rintro e w' ⟨m, rfl, rfl⟩))
              refine wp_world (fun W9 hW9 => ?_)
              have B9 : Below w8.heap.size w8 W9 := by rw [hW9]; (repeat (first | exact Below.refl _ _ | assumption | (refine Below.setCell ?_ (by first | (simp; done) | (simp; omega) | omega) _) | (refine Below.drew ?_) | (refine below_drewN ?_ _) | (refine Below.alloc ?_ (by first | (simp; done) | (simp; omega) | omega) _) | (refine Below.trans ?_ (Below.mono (by assumption) (by first | (simp; done) | (simp; omega) | omega)))))
              have H9 := Lib.hid (And.intro (H8.out.1.past B9) (And.intro (H8.out.2.1.past B9) (And.intro (H8.out.2.2.1.past B9) (And.intro (H8.out.2.2.2.1.past B9) (H8.out.2.2.2.2.past B9)))))
              clear B9 hW9 H8
              have x5 : W9.cell? ⟨gl, k, none⟩ = some (.int .i64 (dfO Z (4 * (P + X) + c) true k3 k)) := H9.out.1.lv.cell hkn
              have y5 : W9.frozen? ⟨gl, k, none⟩ = false := H9.out.1.lv.frozen _
              have t0 := H9.out.2.2.2.1.c 0 _ rfl; have tl := H9.out.2.2.2.1.lt; have z0 := H9.out.2.2.2.2.c 0 _ rfl; have zl := H9.out.2.2.2.2.lt
              go_upto_region 22 with fail
              refine wp_world (fun WA hWA => ?_)
              have R10 : DfR w WA [.int .i64 x, .int .i64 y, .int .i64 V, .int .i64 H, .slice (some ⟨b, off, none⟩) n cap] (gl + 1 + 1) (gl + 1) gl n (T (3 * (P + X) + c)) (dfO Z (4 * (P + X) + (c + 1)) true k3) := by
                rw [hWA]
                refine H9.out.1.set hg1 (by omega) (by omega) k _ (fun j hj => ?_)
                obtain ⟨-, e1, e2⟩ := HP.out
                have e3 := HU.out.2
                unfold dfO
                by_cases e : j = k
                · rw [if_pos e, if_pos (Or.inl (by omega)), e]; exact HZk.out
                · rw [if_neg e]
                  by_cases h : j < 4 * (P + X) + c ∨ (true = true ∧ j = k3)
                  · rw [if_pos h, if_pos (by rcases h with h | h; exact Or.inl (by omega); exact Or.inr h)]
                  · rw [if_neg h, if_neg (by intro h'; rcases h' with h' | h'; exact h (Or.inl (by omega)); exact h (Or.inr h'))]
              have HA := Lib.hid (show DfR w WA [.int .i64 x, .int .i64 y, .int .i64 V, .int .i64 H, .slice (some ⟨b, off, none⟩) n cap] (gl + 1 + 1) (gl + 1) gl n (T (3 * (P + X) + c)) (dfO Z (4 * (P + X) + (c + 1)) true k3) ∧ Blk WA py [.int .i64 Y] ∧ Blk WA px [.int .i64 X] ∧ Blk WA (px + 1) [.int .i64 A] ∧ Blk WA pc [.int .i64 c] from ⟨R10, by rw [hWA]; exact H9.out.2.1.far _ _ (by simp; omega), by rw [hWA]; exact H9.out.2.2.1.far _ _ (by simp; omega), by rw [hWA]; exact H9.out.2.2.2.1.far _ _ (by simp; omega), by rw [hWA]; exact H9.out.2.2.2.2.far _ _ (by simp; omega)⟩)
              clear R10 hWA x5 y5 t0 tl z0 zl H9
              obtain ⟨l, hl⟩ : ∃ l, l = levelOf r 0 d := ⟨_, rfl⟩
              rw [← hl]
              have hln : l.natAbs ≤ 2 ^ 24 := by rw [hl]; exact levelOf_in r 0 hd'.out
              have HLN := Lib.hid (And.intro hl hln)
              clear hl hln
              go_upto_region 23 with (first | (go_at_call 20; refine (value_any _ _ _ hd'.out HLN.out.2).mono ?_; rintro e w' ⟨m, rfl, rfl⟩) | ((with_reducible apply wpList_farithW); rfl; rfl; rfl; intro r4 W4 hr4 hb4))
              refine wp_world (fun WB hWB => ?_)
              have BB : Below WA.heap.size WA W4 := Below.trans (by (repeat (first | exact Below.refl _ _ | assumption | (refine Below.setCell ?_ (by first | (simp; done) | (simp; omega) | omega) _) | (refine Below.drew ?_) | (refine below_drewN ?_ _) | (refine Below.alloc ?_ (by first | (simp; done) | (simp; omega) | omega) _) | (refine Below.trans ?_ (Below.mono (by assumption) (by first | (simp; done) | (simp; omega) | omega)))))) hb4
              have BW : Below W4.heap.size W4 WB := by rw [hWB]; (repeat (first | exact Below.refl _ _ | assumption | (refine Below.setCell ?_ (by first | (simp; done) | (simp; omega) | omega) _) | (refine Below.drew ?_) | (refine below_drewN ?_ _) | (refine Below.alloc ?_ (by first | (simp; done) | (simp; omega) | omega) _) | (refine Below.trans ?_ (Below.mono (by assumption) (by first | (simp; done) | (simp; omega) | omega)))))
              have hpb4 : WA.heap.size ≤ W4.heap.size := BB.size
              have QB : Blk WB W4.heap.size [.float .f32 r4] := by rw [hWB]; exact (Blk.new _ _ _ _ rfl)
              have R11 := (HA.out.1.past BB).past BW
              have H11 := Lib.hid (DfS.mk R11 ((HA.out.2.1.past BB).past BW) ((HA.out.2.2.1.past BB).past BW) ((HA.out.2.2.2.1.past BB).past BW) ((HA.out.2.2.2.2.past BB).past BW) QB)
              have hpb : pc < W4.heap.size := by have := HA.out.2.2.2.2.lt; omega
              clear BB BW hWB QB R11 hb4 HA hpb4
              generalize W4.heap.size = pb at *
              obtain ⟨q, hq⟩ : ∃ q, q = if isNum .f32 r4 = true then r4 else 0 := ⟨_, rfl⟩
              have HQ := Lib.hid (show q = errF S d by
                rw [hq]
                refine (errF_of ?_).symm
                have e1 := HR.out.eq
                have e2 : valueF l d = valueF (levelOf S 0 d) d := by rw [HLN.out.1, levelOf_fr e1]
                rw [e1, fop_cn_right, e2] at hr4
                exact hr4)
              have HQ2 := Lib.hid hq
              clear hq hr4
              have b0 := H11.out.BQ.c 0 _ rfl; have bl := H11.out.BQ.lt; have bf := H11.out.BQ.f
              go_upto_if 98 with (first | (go_at_call 21; refine (IsNumber_any _ _).mono ?_; rintro e w' ⟨rfl, rfl⟩))
              go_cut [65] (fun s65 wx => s65 = .int .i64 c ∧ DfS w wx [.int .i64 x, .int .i64 y, .int .i64 V, .int .i64 H, .slice (some ⟨b, off, none⟩) n cap] (gl + 1 + 1) (gl + 1) gl n (T (3 * (P + X) + c)) (dfO Z (4 * (P + X) + (c + 1)) true k3) py px pc pb Y X A c q)
              case first =>
                by_cases hI : isNum .f32 r4 = true
                · have hqe : q = r4 := by rw [HQ2.out, if_pos hI]
                  rw [hI]
                  go_wp2_with fail
                  go_meet
                  exact ⟨rfl, by rw [hqe]; exact H11.out⟩
                · have hqe : q = 0 := by rw [HQ2.out, if_neg hI]
                  have hI' : isNum .f32 r4 = false := by simpa using hI
                  rw [hI']
                  go_wp2_with fail
                  go_meet
                  have K := H11.out
                  refine ⟨rfl, ?_⟩
                  rw [hqe]
                  exact ⟨⟨K.R.fa.far _ _ (by simp; omega), K.R.ev.far _ _ (by simp; omega), K.R.er.one (OneB.setCell (OneB.refl _ _)) (by omega), K.R.lv.setOther (by simp; omega) _, K.R.bel.setCell (by simp; omega) _⟩, K.BY.far _ _ (by simp; omega), K.BX.far _ _ (by simp; omega), K.BA.far _ _ (by simp; omega), K.BC.far _ _ (by simp; omega), K.BQ.set 0 _⟩
              case rest =>
                obtain ⟨rfl, hB⟩ := hcut
                have HB := Lib.hid hB
                clear hB H11 HQ2 b0 bl bf
                have HXY := Lib.hid (show X < 256 ∧ Y < 65536 ∧ A ≤ 65536 ∧ V ≤ 256 ∧ (Y + 1 < H → 4 * (P + V + V) ≤ n) ∧ 4 * (P + V) ≤ n ∧ A = 4 * (P + X) by
                  obtain ⟨e0, e1, e2⟩ := HP.out
                  have h1 : (Y + 1) * V ≤ H * V := Nat.mul_le_mul_right _ (by omega)
                  have h2 : H * 1 ≤ H * V := Nat.mul_le_mul_left _ (by omega)
                  have h3 := HN.out
                  rw [Nat.add_mul] at h1
                  refine ⟨by omega, by omega, by omega, by omega, fun h => ?_, by omega, e1⟩
                  have h4 : (Y + 1 + 1) * V ≤ H * V := Nat.mul_le_mul_right _ (by omega)
                  rw [Nat.add_mul, Nat.add_mul] at h4
                  omega)
                have HNE := Lib.hid (show w.heap.size < gl + 1 ∧ gl + 1 + 1 ≠ gl + 1 ∧ gl ≠ gl + 1 ∧ py ≠ gl + 1 ∧ px ≠ gl + 1 ∧ px + 1 ≠ gl + 1 ∧ pc ≠ gl + 1 ∧ pb ≠ gl + 1 by omega)
                go_wp2_with (first | (go_at_call 22; refine (HB.out.call HNE.out (show 1 ≤ V ∧ V ≤ 256 by omega) HXY.out.1 HXY.out.2.1 HXY.out.2.2.1 hc hn6 (1) (0) (by omega) (by omega) 1088421888 (4 * (P + X) + c + 4) (decide (X + 1 < V)) (by simp only [decide_eq_true_eq]; omega) (by intro h; simp only [decide_eq_true_eq] at h; have := HXY.out; omega)).mono ?_; rintro e w' ⟨rfl, hs, hz⟩; have HC1 := Lib.hid hs; clear hs hz HB) | (go_at_call 22; refine (HC1.out.call HNE.out (show 1 ≤ V ∧ V ≤ 256 by omega) HXY.out.1 HXY.out.2.1 HXY.out.2.2.1 hc hn6 (-1) (1) (by omega) (by omega) 1077936128 (4 * (P + X) + c + 4 * V - 4) (decide (0 < X) && decide (Y + 1 < H)) (by simp only [Bool.and_eq_true, decide_eq_true_eq]; omega) (by intro h; simp only [Bool.and_eq_true, decide_eq_true_eq] at h; have := HXY.out; omega)).mono ?_; rintro e w' ⟨rfl, hs, hz⟩; have HC2 := Lib.hid hs; clear hs hz HC1) | (go_at_call 22; refine (HC2.out.call HNE.out (show 1 ≤ V ∧ V ≤ 256 by omega) HXY.out.1 HXY.out.2.1 HXY.out.2.2.1 hc hn6 (0) (1) (by omega) (by omega) 1084227584 (4 * (P + X) + c + 4 * V) (decide (Y + 1 < H)) (by simp only [decide_eq_true_eq]; omega) (by intro h; simp only [decide_eq_true_eq] at h; have := HXY.out; omega)).mono ?_; rintro e w' ⟨rfl, hs, hz⟩; have HC3 := Lib.hid hs; clear hs hz HC2) | (go_at_call 22; refine (HC3.out.call HNE.out (show 1 ≤ V ∧ V ≤ 256 by omega) HXY.out.1 HXY.out.2.1 HXY.out.2.2.1 hc hn6 (1) (1) (by omega) (by omega) 1065353216 (4 * (P + X) + c + 4 * V + 4) (decide (X + 1 < V) && decide (Y + 1 < H)) (by simp only [Bool.and_eq_true, decide_eq_true_eq]; omega) (by intro h; simp only [Bool.and_eq_true, decide_eq_true_eq] at h; have := HXY.out; omega)).mono ?_; rintro e w' ⟨rfl, hs, hz⟩; have HC4 := Lib.hid hs; clear hs hz HC3))
                go_roundw
                case rel =>
                  have K := HC4.out
                  refine ⟨c + 1, by omega, by go_num, ⟨K.R.fa, K.R.ev, ?_, K.R.lv, K.R.bel⟩, K.BY, K.BX, K.BA⟩
                  have K2 := K.R.er
                  obtain ⟨e0, -, -⟩ := HP.out
                  rw [show 3 * (P + X) + (c + 1) = 3 * (Y * V + X) + c + 1 by rw [← e0]; omega, HT.out, stT_succ V H d fs X Y c hXV hc, ← HT.out]
                  have hk : k = 4 * (P + X) + c := by rw [HU.out.2, HXY.out.2.2.2.2.2.2]
                  have eQ : q = errF (sumF fs (T (3 * (P + X) + c)) (4 * (P + X) + c)) d := by rw [HQ.out, HS.out, hk]
                  rw [← e0]
                  unfold stepF
                  simp only []
                  rw [← e0, ← eQ]
                  exact K2
                case measure => simp [intOf]; omega
            · have hce : ¬ (c : Int) < 3 := by omega
              have HM2 := Lib.hid (show DfR w wr [.int .i64 x, .int .i64 y, .int .i64 V, .int .i64 H, .slice (some ⟨b, off, none⟩) n cap] (gl + 1 + 1) (gl + 1) gl n (T (3 * (Y * V + (X + 1)))) (dfO Z (4 * (Y * V + (X + 1))) false 0) ∧ Blk wr py [.int .i64 Y] by
                obtain ⟨e0, e1, e2⟩ := HP.out
                have e : 3 * (P + X) + c = 3 * (Y * V + (X + 1)) := by rw [← e0]; omega
                obtain ⟨h, h', -⟩ := HM.out
                refine ⟨⟨h.fa, h.ev, by rw [← e]; exact h.er, h.lv.congr (fun j hj => ?_), h.bel⟩, h'⟩
                rw [← e0]
                unfold dfO
                by_cases hj : j < 4 * (P + X) + c ∨ (true = true ∧ j = k3)
                · rw [if_pos hj, if_pos (Or.inl (by omega))]
                · rw [if_neg hj, if_neg (by simp at hj ⊢; omega)])
              go_wp2_with fail
              go_roundw
              case rel => exact ⟨X + 1, by omega, by go_num, HM2.out⟩
              case measure => simp [intOf]; omega
        · have hXi : ¬ (X : Int) < (V : Int) := by omega
          have hXe : X = V := by omega
          have HM2 := Lib.hid (show DfR w wr [.int .i64 x, .int .i64 y, .int .i64 V, .int .i64 H, .slice (some ⟨b, off, none⟩) n cap] (gl + 1 + 1) (gl + 1) gl n (T (3 * ((Y + 1) * V))) (dfO Z (4 * ((Y + 1) * V)) false 0) by have e : Y * V + X = (Y + 1) * V := (by rw [hXe, Nat.add_mul]; omega); have h := HM.out.1; rw [e] at h; exact h)
          go_wp2_with fail
          go_roundw
          case rel => exact ⟨Y + 1, by omega, by go_num, HM2.out⟩
          case measure => simp [intOf]; omega
    · have hYi : ¬ (Y : Int) < (H : Int) := by omega
      have hYe : Y = H := by omega
      have HM2 := Lib.hid (show DfR w wr [.int .i64 x, .int .i64 y, .int .i64 V, .int .i64 H, .slice (some ⟨b, off, none⟩) n cap] (gl + 1 + 1) (gl + 1) gl n (T (3 * (Y * V))) (dfO Z n false 0) by have e : 4 * (Y * V) = n := (by rw [HN.out, hYe]); have h := HM.out; rw [e] at h; exact h)
      go_wp2_with fail
      go_ret2
      refine ⟨gl, rfl, by omega, fun i hi => ?_, HM2.out.bel⟩
      have := HM2.out.lv.cell hi
      rw [this]
      simp [dfO, hi]
end Go.Proofs.Ythphcnchbogheaa
