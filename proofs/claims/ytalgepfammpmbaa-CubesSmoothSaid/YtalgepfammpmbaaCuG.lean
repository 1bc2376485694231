/- An entry and its neighbours, mixed, in the document: the closure of dyeref2.SmoothedOf. Conditions: the cube is right, the place within it. -/
import Derived.Test.YtalgepfammpmbaaCuF
import Derived.Test.YtalgepfammpmbaaCuE
namespace Go.Proofs.Ytalgepfammpmbaa
open Go.RowKit
/-- What stands while one channel is summed. -/
structure SofR (w wr : World) (pc : Nat) (L : List Value) (o : Nat → Nat) : Prop where
  c : Blk wr pc L
  z : Blk wr w.heap.size [.float .f32 0, .float .f32 0, .float .f32 0]
  o : Blk wr (w.heap.size + 1) [.float .f32 (o 0), .float .f32 (o 1), .float .f32 (o 2)]
  b : Below w.heap.size w wr
  l : pc < w.heap.size
theorem SofR.past {w wr wy : World} {pc : Nat} {L : List Value} {o : Nat → Nat} (k : SofR w wr pc L o) (h : Below wr.heap.size wr wy) : SofR w wy pc L o := ⟨k.c.past h, k.z.past h, k.o.past h, k.b.trans (h.mono k.b.size), k.l⟩
theorem SofR.set0 {w wr : World} {pc : Nat} {L : List Value} {r : Nat → Nat} (k : SofR w wr pc L r) (x : Nat) : SofR w (wr.setCell ⟨w.heap.size + 1, 0, none⟩ (.float .f32 x)) pc L (fun m => if m = 0 then x else r m) :=
  have l := k.l
  ⟨k.c.far _ _ (by simp; omega), k.z.far _ _ (by simp), k.o.set 0 _, k.b.setCell (by simp) _, k.l⟩
theorem SofR.set1 {w wr : World} {pc : Nat} {L : List Value} {r : Nat → Nat} (k : SofR w wr pc L r) (x : Nat) : SofR w (wr.setCell ⟨w.heap.size + 1, 1, none⟩ (.float .f32 x)) pc L (fun m => if m = 1 then x else r m) :=
  have l := k.l
  ⟨k.c.far _ _ (by simp; omega), k.z.far _ _ (by simp), k.o.set 1 _, k.b.setCell (by simp) _, k.l⟩
theorem SofR.set2 {w wr : World} {pc : Nat} {L : List Value} {r : Nat → Nat} (k : SofR w wr pc L r) (x : Nat) : SofR w (wr.setCell ⟨w.heap.size + 1, 2, none⟩ (.float .f32 x)) pc L (fun m => if m = 2 then x else r m) :=
  have l := k.l
  ⟨k.c.far _ _ (by simp; omega), k.z.far _ _ (by simp), k.o.set 2 _, k.b.setCell (by simp) _, k.l⟩
theorem sof_out {fs : Nat → Nat} {S i j k c nn e r x1 x2 x3 : Nat} (he : e = fs (3 * enI S i j k + c)) (hN : nn = smN S i j k 6) (hr : cn .f32 r = smV fs S i j k c 6)
    (h1 : FR .f32 x1 (fop .mul .f32 (cn .f32 (cn .f32 e)) (cn .f32 1073741824))) (h2 : FR .f32 x2 (fop .add .f32 (cn .f32 x1) (cn .f32 r))) (h3 : FR .f32 x3 (fop .quo .f32 (cn .f32 x2) (cn .f32 (floatOfInt .f32 (2 + (nn : Int)))))) : cn .f32 x3 = softV fs S i j k c :=
  soft_out he hN hr (by rw [cn_cn] at h1; exact h1) h2 h3
set_option maxRecDepth 100000 in
set_option maxHeartbeats 16000000 in
theorem sof_any (S i j k : Nat) (lo hi b off n cap pc : Nat) (fs : Nat → Nat) (w : World) (hS : S ≤ 17) (h1 : i < S) (h2 : j < S) (h3 : k < S) (hn : n = 3 * (S * S * S)) (hc : Row w b off n fs) (hB : Blk w pc [.int .i64 S, .float .f32 lo, .float .f32 hi, .slice (some ⟨b, off, none⟩) n cap]) :
    Calls Try.prog 155 #[.int .i64 i, .int .i64 j, .int .i64 k, .pointer (some ⟨pc, 0, none⟩)] w fun e w' =>
      (∃ q : Nat → Nat, e = .returned (.agg #[.float .f32 (q 0), .float .f32 (q 1), .float .f32 (q 2)]) ∧ ∀ m, m < 3 → cn .f32 (q m) = softV fs S i j k m) ∧ Below w.heap.size w w' := by
  have hn0 : 0 < n := by have := enI_lt h1 h2 h3; omega
  have hbw := hc.lt hn0
  have HE : Hid (∀ x y z w', x < S → y < S → z < S → Below w.heap.size w w' → Calls Try.prog 68 #[.agg #[.int .i64 S, .float .f32 lo, .float .f32 hi, .slice (some ⟨b, off, none⟩) n cap], .int .i64 (x : Nat), .int .i64 (y : Nat), .int .i64 (z : Nat)] w' fun e w'' =>
      e = .returned (.agg #[.float .f32 (cn .f32 (fs (3 * enI S x y z))), .float .f32 (cn .f32 (fs (3 * enI S x y z + 1))), .float .f32 (cn .f32 (fs (3 * enI S x y z + 2)))]) ∧ Below w'.heap.size w' w'') := fun x y z w' hx hy hz hb => EntryOf_any S x y z lo hi b off n cap fs w' hS hx hy hz hn (hc.below hb hbw)
  have HB := Lib.hid hB
  have lp := hB.lt
  have wi : IntKind.i64.wrap (i : Int) = (i : Int) := by rw [IntKind.wrap_i64]; omega
  have wj : IntKind.i64.wrap (j : Int) = (j : Int) := by rw [IntKind.wrap_i64]; omega
  have wk : IntKind.i64.wrap (k : Int) = (k : Int) := by rw [IntKind.wrap_i64]; omega
  have ws : IntKind.i64.wrap ((S : Int) - 1) = (S : Int) - 1 := by rw [IntKind.wrap_i64]; omega
  have bi : inB (i : Int) 0 ((S : Int) - 1) = true := inB_t ⟨by omega, by omega⟩
  have bj : inB (j : Int) 0 ((S : Int) - 1) = true := inB_t ⟨by omega, by omega⟩
  have bk : inB (k : Int) 0 ((S : Int) - 1) = true := inB_t ⟨by omega, by omega⟩
  clear hc hn hn0 hbw hB
  go_enter Try.func155, Try.ntmps155
  go_wp2_with fail
  refine wp_world (fun W hW => ?_)
  have R0 : SofR w W pc [.int .i64 S, .float .f32 lo, .float .f32 hi, .slice (some ⟨b, off, none⟩) n cap] (fun _ => 0) := by
    rw [hW]
    exact ⟨(HB.out.alloc _).alloc _, (Blk.new _ _ _ _ rfl).alloc _, Blk.new _ _ _ _ (by simp), by (repeat (first | exact Below.refl _ _ | assumption | (refine Below.setCell ?_ (by first | (simp; done) | (simp; omega) | omega) _) | (refine Below.drew ?_) | (refine below_drewN ?_ _) | (refine Below.alloc ?_ (by first | (simp; done) | (simp; omega) | omega) _) | (refine Below.trans ?_ (Below.mono (by assumption) (by first | (simp; done) | (simp; omega) | omega))))), lp⟩
  have HR0 := Lib.hid R0
  clear hW R0 HB
  go_loopw [18] (fun s18 wr => ∃ m : Nat, m ≤ 3 ∧ s18 = .int .i64 m ∧ ∃ o, SofR w wr pc [.int .i64 S, .float .f32 lo, .float .f32 hi, .slice (some ⟨b, off, none⟩) n cap] o ∧ ∀ c, c < m → cn .f32 (o c) = softV fs S i j k c) (fun s18 _ => 3 - (intOf s18).toNat)
  case atStart => exact ⟨0, by omega, rfl, _, HR0.out, fun c hc => by omega⟩
  case round =>
    obtain ⟨m, hm, rfl, o, hR, he⟩ := hrel
    have HR := Lib.hid (And.intro hR he)
    clear hR he HR0
    by_cases hm3 : m < 3
    · have m3 : (m : Int) < 3 := by omega
      go_wp2_with fail
      refine wp_world (fun W2 hW2 => ?_)
      have TB : Blk W2 wr.heap.size [.int .i64 (-1), .int .i64 0, .int .i64 0, .int .i64 1, .int .i64 0, .int .i64 0, .int .i64 0, .int .i64 (-1), .int .i64 0, .int .i64 0, .int .i64 1, .int .i64 0, .int .i64 0, .int .i64 0, .int .i64 (-1), .int .i64 0, .int .i64 0, .int .i64 1] := by rw [hW2]; exact Blk.new _ _ _ _ rfl
      have B2 : Below wr.heap.size wr W2 := by rw [hW2]; (repeat (first | exact Below.refl _ _ | assumption | (refine Below.setCell ?_ (by first | (simp; done) | (simp; omega) | omega) _) | (refine Below.drew ?_) | (refine below_drewN ?_ _) | (refine Below.alloc ?_ (by first | (simp; done) | (simp; omega) | omega) _) | (refine Below.trans ?_ (Below.mono (by assumption) (by first | (simp; done) | (simp; omega) | omega)))))
      have HR2 := Lib.hid (HR.out.1.past B2); have HT2 := Lib.hid TB; have HE2 := Lib.hid HR.out.2
      clear hW2 TB B2 HR
      generalize wr.heap.size = nt at *
      go_loopw [29, 10, 11] (fun s29 s10 s11 wt => ∃ q : Nat, q ≤ 6 ∧ s29 = .int .i64 q ∧ s11 = .int .i64 (smN S i j k q : Nat) ∧ (∃ r, s10 = .float .f32 r ∧ cn .f32 r = smV fs S i j k m q) ∧ SofR w wt pc [.int .i64 S, .float .f32 lo, .float .f32 hi, .slice (some ⟨b, off, none⟩) n cap] o ∧ Blk wt nt [.int .i64 (-1), .int .i64 0, .int .i64 0, .int .i64 1, .int .i64 0, .int .i64 0, .int .i64 0, .int .i64 (-1), .int .i64 0, .int .i64 0, .int .i64 1, .int .i64 0, .int .i64 0, .int .i64 0, .int .i64 (-1), .int .i64 0, .int .i64 0, .int .i64 1]) (fun s29 _ _ _ => 6 - (intOf s29).toNat)
      case atStart => exact ⟨0, by omega, rfl, rfl, ⟨0, rfl, smV_cn fs S i j k m 0⟩, HR2.out, HT2.out⟩
      case round =>
        obtain ⟨q, hq, rfl, rfl, ⟨r, rfl, hr⟩, hR, hT⟩ := hrel
        have HR3 := Lib.hid hR; have HT3 := Lib.hid hT; have Hr := Lib.hid hr
        clear hR hT hr HR2 HT2
        by_cases hq6 : q < 6
        · rcases (show q = 0 ∨ q = 1 ∨ q = 2 ∨ q = 3 ∨ q = 4 ∨ q = 5 by omega) with rfl | rfl | rfl | rfl | rfl | rfl
          · rw [show ((0 : Nat) : Int) = 0 from rfl]
            have hnn := smN_le S i j k 0
            obtain ⟨nn, hN⟩ : ∃ nn, nn = smN S i j k 0 := ⟨_, rfl⟩
            have HN := Lib.hid hN
            rw [← hN] at hnn ⊢
            clear hN
            by_cases hO : 0 < i
            · have hOK : nbOK S i j k 0 = true := by show decide _ = true; simpa using hO
              obtain ⟨X, hX⟩ : ∃ X : Nat, X = i - 1 := ⟨_, rfl⟩
              have u : IntKind.i64.wrap ((i : Int) + -1) = (X : Int) := by rw [IntKind.wrap_i64]; omega
              have hXS : X < S := by omega
              have bX : inB (X : Int) 0 ((S : Int) - 1) = true := inB_t ⟨by omega, by omega⟩
              have hE : enI S X j k = nbE S i j k 0 := by subst hX; rfl
              have HEn := Lib.hid (HE.out X j k)
              rw [hE] at HEn
              obtain ⟨E, hEE⟩ : ∃ E, E = nbE S i j k 0 := ⟨_, rfl⟩
              rw [← hEE] at HEn
              have jx : ∀ w, (Instr.index 92 (.agg #[.float .f32 (cn .f32 (fs (3 * E))), .float .f32 (cn .f32 (fs (3 * E + 1))), .float .f32 (cn .f32 (fs (3 * E + 2)))]) (.int .i64 (m : Int))).run Try.prog w = .ok (.float .f32 (cn .f32 (fs (3 * E + m)))) w := fun w => by
                rcases (show m = 0 ∨ m = 1 ∨ m = 2 by omega) with rfl | rfl | rfl <;> kernel_rfl
              have HEE := Lib.hid hEE
              have HOK := Lib.hid hOK
              clear hX hE hOK hO hEE
              have t0 := HT3.out.c 0 _ rfl; have t1 := HT3.out.c 1 _ rfl; have t2 := HT3.out.c 2 _ rfl; have tl := HT3.out.lt
              go_wp2_with fail
              refine wp_world (fun W4 hW4 => ?_)
              have AB : Blk W4 wr.heap.size [.int .i64 (-1), .int .i64 0, .int .i64 0] := by rw [hW4]; first | exact Blk.new _ _ _ _ rfl | exact (((Blk.new _ _ _ _ rfl).set 0 _).set 1 _).set 2 _
              have B4 : Below wr.heap.size wr W4 := by rw [hW4]; (repeat (first | exact Below.refl _ _ | assumption | (refine Below.setCell ?_ (by first | (simp; done) | (simp; omega) | omega) _) | (refine Below.drew ?_) | (refine below_drewN ?_ _) | (refine Below.alloc ?_ (by first | (simp; done) | (simp; omega) | omega) _) | (refine Below.trans ?_ (Below.mono (by assumption) (by first | (simp; done) | (simp; omega) | omega)))))
              have HR4 := Lib.hid (HR3.out.past B4); have HT4 := Lib.hid (HT3.out.past B4); have HA4 := Lib.hid AB
              have a0 := AB.c 0 _ rfl; have a1 := AB.c 1 _ rfl; have a2 := AB.c 2 _ rfl; have al := AB.lt
              clear hW4 B4 AB HR3 HT3 t0 t1 t2 tl
              go_quiet (fail)
              have hb5 : Below W4.heap.size W4 (W4.drewN nq) := below_drewN (Below.refl _ _) nq
              have HR5 := Lib.hid (HR4.out.past hb5); have HT5 := Lib.hid (HT4.out.past hb5)
              have c0 := HR4.out.c.c 0 _ rfl; have c1 := HR4.out.c.c 1 _ rfl; have c2 := HR4.out.c.c 2 _ rfl; have c3 := HR4.out.c.c 3 _ rfl; have cl := HR4.out.c.lt
              clear hb5 a0 a1 a2 al HR4 HT4 HA4
              go_wp2_with (first | (go_at_call 35; refine (In_any _ _ _ _).mono ?_; rintro e w' ⟨rfl, rfl⟩))
              refine (HEn.out _ (by omega) (by omega) (by omega) HR5.out.b).mono ?_
              rintro e w6 ⟨rfl, hb6⟩
              have HR6 := Lib.hid (HR5.out.past hb6); have HT6 := Lib.hid (HT5.out.past hb6)
              clear hb6 c0 c1 c2 c3 cl HR5 HT5
              by_cases hz : nn = 0
              · have hz1 : ((nn : Int) == 0) = true := by simpa using hz
                have HZ := Lib.hid hz; clear hz
                go_wp2_with fail
                go_roundw
                case rel => exact ⟨0 + 1, by omega, by first | rfl | go_num, by rw [smN_yes HOK.out, ← HN.out]; go_num, ⟨_, rfl, by rw [smV_first HOK.out (HN.out.symm.trans HZ.out), cn_cn, HEE.out]⟩, HR6.out, HT6.out⟩
                case measure => simp [intOf]
              · have hz1 : ((nn : Int) == 0) = false := by simpa using hz
                have HZ := Lib.hid hz; clear hz
                go_wp2_with (first | ((with_reducible apply wpList_farith); rfl; rfl; rfl; intro _ _ _) | ((with_reducible apply wpList_up); rfl; exact Try.underlying27; exact Try.underlying151; intro _ _ _))
                rename_i x n2 hx
                have hx2 : cn .f32 x = smV fs S i j k m (0 + 1) := by rw [hx.eq, Hr.out, smV_more HOK.out (fun h => HZ.out (HN.out.trans h)), fop_cn_right, fop_cn_right, HEE.out]
                clear hx
                go_roundw
                case rel => exact ⟨0 + 1, by omega, by first | rfl | go_num, by rw [smN_yes HOK.out, ← HN.out]; go_num, ⟨_, rfl, hx2⟩, HR6.out.past (by (repeat (first | exact Below.refl _ _ | assumption | (refine Below.setCell ?_ (by first | (simp; done) | (simp; omega) | omega) _) | (refine Below.drew ?_) | (refine below_drewN ?_ _) | (refine Below.alloc ?_ (by first | (simp; done) | (simp; omega) | omega) _) | (refine Below.trans ?_ (Below.mono (by assumption) (by first | (simp; done) | (simp; omega) | omega)))))), HT6.out.past (by (repeat (first | exact Below.refl _ _ | assumption | (refine Below.setCell ?_ (by first | (simp; done) | (simp; omega) | omega) _) | (refine Below.drew ?_) | (refine below_drewN ?_ _) | (refine Below.alloc ?_ (by first | (simp; done) | (simp; omega) | omega) _) | (refine Below.trans ?_ (Below.mono (by assumption) (by first | (simp; done) | (simp; omega) | omega))))))⟩
                case measure => simp [intOf]
            · have hOK : nbOK S i j k 0 = false := by show decide _ = false; simpa using hO
              have u : IntKind.i64.wrap ((i : Int) + -1) = (-1) := by rw [IntKind.wrap_i64]; omega
              have bX : inB (-1) 0 ((S : Int) - 1) = false := inB_f (by omega)
              have e1 := Lib.hid (smN_no hOK)
              have e2 := Lib.hid (smV_no (fs := fs) (m := m) hOK)
              clear hOK
              have t0 := HT3.out.c 0 _ rfl; have t1 := HT3.out.c 1 _ rfl; have t2 := HT3.out.c 2 _ rfl; have tl := HT3.out.lt
              go_wp2_with fail
              refine wp_world (fun W4 hW4 => ?_)
              have AB : Blk W4 wr.heap.size [.int .i64 (-1), .int .i64 0, .int .i64 0] := by rw [hW4]; first | exact Blk.new _ _ _ _ rfl | exact (((Blk.new _ _ _ _ rfl).set 0 _).set 1 _).set 2 _
              have B4 : Below wr.heap.size wr W4 := by rw [hW4]; (repeat (first | exact Below.refl _ _ | assumption | (refine Below.setCell ?_ (by first | (simp; done) | (simp; omega) | omega) _) | (refine Below.drew ?_) | (refine below_drewN ?_ _) | (refine Below.alloc ?_ (by first | (simp; done) | (simp; omega) | omega) _) | (refine Below.trans ?_ (Below.mono (by assumption) (by first | (simp; done) | (simp; omega) | omega)))))
              have HR4 := Lib.hid (HR3.out.past B4); have HT4 := Lib.hid (HT3.out.past B4); have HA4 := Lib.hid AB
              have a0 := AB.c 0 _ rfl; have a1 := AB.c 1 _ rfl; have a2 := AB.c 2 _ rfl; have al := AB.lt
              clear hW4 B4 AB HR3 HT3 t0 t1 t2 tl
              go_quiet (fail)
              have hb5 : Below W4.heap.size W4 (W4.drewN nq) := below_drewN (Below.refl _ _) nq
              have HR5 := Lib.hid (HR4.out.past hb5); have HT5 := Lib.hid (HT4.out.past hb5)
              have c0 := HR4.out.c.c 0 _ rfl; have c1 := HR4.out.c.c 1 _ rfl; have c2 := HR4.out.c.c 2 _ rfl; have c3 := HR4.out.c.c 3 _ rfl; have cl := HR4.out.c.lt
              clear hb5 a0 a1 a2 al HR4 HT4 HA4
              go_wp2_with (first | (go_at_call 35; refine (In_any _ _ _ _).mono ?_; rintro e w' ⟨rfl, rfl⟩))
              go_roundw
              case rel => exact ⟨0 + 1, by omega, by first | rfl | go_num, by rw [e1.out, ← HN.out], ⟨r, rfl, Hr.out.trans e2.out.symm⟩, HR5.out, HT5.out⟩
              case measure => simp [intOf]
          · rw [show ((1 : Nat) : Int) = 1 from rfl]
            have hnn := smN_le S i j k 1
            obtain ⟨nn, hN⟩ : ∃ nn, nn = smN S i j k 1 := ⟨_, rfl⟩
            have HN := Lib.hid hN
            rw [← hN] at hnn ⊢
            clear hN
            by_cases hO : i + 1 < S
            · have hOK : nbOK S i j k 1 = true := by show decide _ = true; simpa using hO
              obtain ⟨X, hX⟩ : ∃ X : Nat, X = i + 1 := ⟨_, rfl⟩
              have u : IntKind.i64.wrap ((i : Int) + 1) = (X : Int) := by rw [IntKind.wrap_i64]; omega
              have hXS : X < S := by omega
              have bX : inB (X : Int) 0 ((S : Int) - 1) = true := inB_t ⟨by omega, by omega⟩
              have hE : enI S X j k = nbE S i j k 1 := by subst hX; rfl
              have HEn := Lib.hid (HE.out X j k)
              rw [hE] at HEn
              obtain ⟨E, hEE⟩ : ∃ E, E = nbE S i j k 1 := ⟨_, rfl⟩
              rw [← hEE] at HEn
              have jx : ∀ w, (Instr.index 92 (.agg #[.float .f32 (cn .f32 (fs (3 * E))), .float .f32 (cn .f32 (fs (3 * E + 1))), .float .f32 (cn .f32 (fs (3 * E + 2)))]) (.int .i64 (m : Int))).run Try.prog w = .ok (.float .f32 (cn .f32 (fs (3 * E + m)))) w := fun w => by
                rcases (show m = 0 ∨ m = 1 ∨ m = 2 by omega) with rfl | rfl | rfl <;> kernel_rfl
              have HEE := Lib.hid hEE
              have HOK := Lib.hid hOK
              clear hX hE hOK hO hEE
              have t0 := HT3.out.c 3 _ rfl; have t1 := HT3.out.c 4 _ rfl; have t2 := HT3.out.c 5 _ rfl; have tl := HT3.out.lt
              go_wp2_with fail
              refine wp_world (fun W4 hW4 => ?_)
              have AB : Blk W4 wr.heap.size [.int .i64 1, .int .i64 0, .int .i64 0] := by rw [hW4]; first | exact Blk.new _ _ _ _ rfl | exact (((Blk.new _ _ _ _ rfl).set 0 _).set 1 _).set 2 _
              have B4 : Below wr.heap.size wr W4 := by rw [hW4]; (repeat (first | exact Below.refl _ _ | assumption | (refine Below.setCell ?_ (by first | (simp; done) | (simp; omega) | omega) _) | (refine Below.drew ?_) | (refine below_drewN ?_ _) | (refine Below.alloc ?_ (by first | (simp; done) | (simp; omega) | omega) _) | (refine Below.trans ?_ (Below.mono (by assumption) (by first | (simp; done) | (simp; omega) | omega)))))
              have HR4 := Lib.hid (HR3.out.past B4); have HT4 := Lib.hid (HT3.out.past B4); have HA4 := Lib.hid AB
              have a0 := AB.c 0 _ rfl; have a1 := AB.c 1 _ rfl; have a2 := AB.c 2 _ rfl; have al := AB.lt
              clear hW4 B4 AB HR3 HT3 t0 t1 t2 tl
              go_quiet (fail)
              have hb5 : Below W4.heap.size W4 (W4.drewN nq) := below_drewN (Below.refl _ _) nq
              have HR5 := Lib.hid (HR4.out.past hb5); have HT5 := Lib.hid (HT4.out.past hb5)
              have c0 := HR4.out.c.c 0 _ rfl; have c1 := HR4.out.c.c 1 _ rfl; have c2 := HR4.out.c.c 2 _ rfl; have c3 := HR4.out.c.c 3 _ rfl; have cl := HR4.out.c.lt
              clear hb5 a0 a1 a2 al HR4 HT4 HA4
              go_wp2_with (first | (go_at_call 35; refine (In_any _ _ _ _).mono ?_; rintro e w' ⟨rfl, rfl⟩))
              refine (HEn.out _ (by omega) (by omega) (by omega) HR5.out.b).mono ?_
              rintro e w6 ⟨rfl, hb6⟩
              have HR6 := Lib.hid (HR5.out.past hb6); have HT6 := Lib.hid (HT5.out.past hb6)
              clear hb6 c0 c1 c2 c3 cl HR5 HT5
              by_cases hz : nn = 0
              · have hz1 : ((nn : Int) == 0) = true := by simpa using hz
                have HZ := Lib.hid hz; clear hz
                go_wp2_with fail
                go_roundw
                case rel => exact ⟨1 + 1, by omega, by first | rfl | go_num, by rw [smN_yes HOK.out, ← HN.out]; go_num, ⟨_, rfl, by rw [smV_first HOK.out (HN.out.symm.trans HZ.out), cn_cn, HEE.out]⟩, HR6.out, HT6.out⟩
                case measure => simp [intOf]
              · have hz1 : ((nn : Int) == 0) = false := by simpa using hz
                have HZ := Lib.hid hz; clear hz
                go_wp2_with (first | ((with_reducible apply wpList_farith); rfl; rfl; rfl; intro _ _ _) | ((with_reducible apply wpList_up); rfl; exact Try.underlying27; exact Try.underlying151; intro _ _ _))
                rename_i x n2 hx
                have hx2 : cn .f32 x = smV fs S i j k m (1 + 1) := by rw [hx.eq, Hr.out, smV_more HOK.out (fun h => HZ.out (HN.out.trans h)), fop_cn_right, fop_cn_right, HEE.out]
                clear hx
                go_roundw
                case rel => exact ⟨1 + 1, by omega, by first | rfl | go_num, by rw [smN_yes HOK.out, ← HN.out]; go_num, ⟨_, rfl, hx2⟩, HR6.out.past (by (repeat (first | exact Below.refl _ _ | assumption | (refine Below.setCell ?_ (by first | (simp; done) | (simp; omega) | omega) _) | (refine Below.drew ?_) | (refine below_drewN ?_ _) | (refine Below.alloc ?_ (by first | (simp; done) | (simp; omega) | omega) _) | (refine Below.trans ?_ (Below.mono (by assumption) (by first | (simp; done) | (simp; omega) | omega)))))), HT6.out.past (by (repeat (first | exact Below.refl _ _ | assumption | (refine Below.setCell ?_ (by first | (simp; done) | (simp; omega) | omega) _) | (refine Below.drew ?_) | (refine below_drewN ?_ _) | (refine Below.alloc ?_ (by first | (simp; done) | (simp; omega) | omega) _) | (refine Below.trans ?_ (Below.mono (by assumption) (by first | (simp; done) | (simp; omega) | omega))))))⟩
                case measure => simp [intOf]
            · have hOK : nbOK S i j k 1 = false := by show decide _ = false; simpa using hO
              have u : IntKind.i64.wrap ((i : Int) + 1) = (S : Int) := by rw [IntKind.wrap_i64]; omega
              have bX : inB (S : Int) 0 ((S : Int) - 1) = false := inB_f (by omega)
              have e1 := Lib.hid (smN_no hOK)
              have e2 := Lib.hid (smV_no (fs := fs) (m := m) hOK)
              clear hOK
              have t0 := HT3.out.c 3 _ rfl; have t1 := HT3.out.c 4 _ rfl; have t2 := HT3.out.c 5 _ rfl; have tl := HT3.out.lt
              go_wp2_with fail
              refine wp_world (fun W4 hW4 => ?_)
              have AB : Blk W4 wr.heap.size [.int .i64 1, .int .i64 0, .int .i64 0] := by rw [hW4]; first | exact Blk.new _ _ _ _ rfl | exact (((Blk.new _ _ _ _ rfl).set 0 _).set 1 _).set 2 _
              have B4 : Below wr.heap.size wr W4 := by rw [hW4]; (repeat (first | exact Below.refl _ _ | assumption | (refine Below.setCell ?_ (by first | (simp; done) | (simp; omega) | omega) _) | (refine Below.drew ?_) | (refine below_drewN ?_ _) | (refine Below.alloc ?_ (by first | (simp; done) | (simp; omega) | omega) _) | (refine Below.trans ?_ (Below.mono (by assumption) (by first | (simp; done) | (simp; omega) | omega)))))
              have HR4 := Lib.hid (HR3.out.past B4); have HT4 := Lib.hid (HT3.out.past B4); have HA4 := Lib.hid AB
              have a0 := AB.c 0 _ rfl; have a1 := AB.c 1 _ rfl; have a2 := AB.c 2 _ rfl; have al := AB.lt
              clear hW4 B4 AB HR3 HT3 t0 t1 t2 tl
              go_quiet (fail)
              have hb5 : Below W4.heap.size W4 (W4.drewN nq) := below_drewN (Below.refl _ _) nq
              have HR5 := Lib.hid (HR4.out.past hb5); have HT5 := Lib.hid (HT4.out.past hb5)
              have c0 := HR4.out.c.c 0 _ rfl; have c1 := HR4.out.c.c 1 _ rfl; have c2 := HR4.out.c.c 2 _ rfl; have c3 := HR4.out.c.c 3 _ rfl; have cl := HR4.out.c.lt
              clear hb5 a0 a1 a2 al HR4 HT4 HA4
              go_wp2_with (first | (go_at_call 35; refine (In_any _ _ _ _).mono ?_; rintro e w' ⟨rfl, rfl⟩))
              go_roundw
              case rel => exact ⟨1 + 1, by omega, by first | rfl | go_num, by rw [e1.out, ← HN.out], ⟨r, rfl, Hr.out.trans e2.out.symm⟩, HR5.out, HT5.out⟩
              case measure => simp [intOf]
          · rw [show ((2 : Nat) : Int) = 2 from rfl]
            have hnn := smN_le S i j k 2
            obtain ⟨nn, hN⟩ : ∃ nn, nn = smN S i j k 2 := ⟨_, rfl⟩
            have HN := Lib.hid hN
            rw [← hN] at hnn ⊢
            clear hN
            by_cases hO : 0 < j
            · have hOK : nbOK S i j k 2 = true := by show decide _ = true; simpa using hO
              obtain ⟨X, hX⟩ : ∃ X : Nat, X = j - 1 := ⟨_, rfl⟩
              have u : IntKind.i64.wrap ((j : Int) + -1) = (X : Int) := by rw [IntKind.wrap_i64]; omega
              have hXS : X < S := by omega
              have bX : inB (X : Int) 0 ((S : Int) - 1) = true := inB_t ⟨by omega, by omega⟩
              have hE : enI S i X k = nbE S i j k 2 := by subst hX; rfl
              have HEn := Lib.hid (HE.out i X k)
              rw [hE] at HEn
              obtain ⟨E, hEE⟩ : ∃ E, E = nbE S i j k 2 := ⟨_, rfl⟩
              rw [← hEE] at HEn
              have jx : ∀ w, (Instr.index 92 (.agg #[.float .f32 (cn .f32 (fs (3 * E))), .float .f32 (cn .f32 (fs (3 * E + 1))), .float .f32 (cn .f32 (fs (3 * E + 2)))]) (.int .i64 (m : Int))).run Try.prog w = .ok (.float .f32 (cn .f32 (fs (3 * E + m)))) w := fun w => by
                rcases (show m = 0 ∨ m = 1 ∨ m = 2 by omega) with rfl | rfl | rfl <;> kernel_rfl
              have HEE := Lib.hid hEE
              have HOK := Lib.hid hOK
              clear hX hE hOK hO hEE
              have t0 := HT3.out.c 6 _ rfl; have t1 := HT3.out.c 7 _ rfl; have t2 := HT3.out.c 8 _ rfl; have tl := HT3.out.lt
              go_wp2_with fail
              refine wp_world (fun W4 hW4 => ?_)
              have AB : Blk W4 wr.heap.size [.int .i64 0, .int .i64 (-1), .int .i64 0] := by rw [hW4]; first | exact Blk.new _ _ _ _ rfl | exact (((Blk.new _ _ _ _ rfl).set 0 _).set 1 _).set 2 _
              have B4 : Below wr.heap.size wr W4 := by rw [hW4]; (repeat (first | exact Below.refl _ _ | assumption | (refine Below.setCell ?_ (by first | (simp; done) | (simp; omega) | omega) _) | (refine Below.drew ?_) | (refine below_drewN ?_ _) | (refine Below.alloc ?_ (by first | (simp; done) | (simp; omega) | omega) _) | (refine Below.trans ?_ (Below.mono (by assumption) (by first | (simp; done) | (simp; omega) | omega)))))
              have HR4 := Lib.hid (HR3.out.past B4); have HT4 := Lib.hid (HT3.out.past B4); have HA4 := Lib.hid AB
              have a0 := AB.c 0 _ rfl; have a1 := AB.c 1 _ rfl; have a2 := AB.c 2 _ rfl; have al := AB.lt
              clear hW4 B4 AB HR3 HT3 t0 t1 t2 tl
              go_quiet (fail)
              have hb5 : Below W4.heap.size W4 (W4.drewN nq) := below_drewN (Below.refl _ _) nq
              have HR5 := Lib.hid (HR4.out.past hb5); have HT5 := Lib.hid (HT4.out.past hb5)
              have c0 := HR4.out.c.c 0 _ rfl; have c1 := HR4.out.c.c 1 _ rfl; have c2 := HR4.out.c.c 2 _ rfl; have c3 := HR4.out.c.c 3 _ rfl; have cl := HR4.out.c.lt
              clear hb5 a0 a1 a2 al HR4 HT4 HA4
              go_wp2_with (first | (go_at_call 35; refine (In_any _ _ _ _).mono ?_; rintro e w' ⟨rfl, rfl⟩))
              refine (HEn.out _ (by omega) (by omega) (by omega) HR5.out.b).mono ?_
              rintro e w6 ⟨rfl, hb6⟩
              have HR6 := Lib.hid (HR5.out.past hb6); have HT6 := Lib.hid (HT5.out.past hb6)
              clear hb6 c0 c1 c2 c3 cl HR5 HT5
              by_cases hz : nn = 0
              · have hz1 : ((nn : Int) == 0) = true := by simpa using hz
                have HZ := Lib.hid hz; clear hz
                go_wp2_with fail
                go_roundw
                case rel => exact ⟨2 + 1, by omega, by first | rfl | go_num, by rw [smN_yes HOK.out, ← HN.out]; go_num, ⟨_, rfl, by rw [smV_first HOK.out (HN.out.symm.trans HZ.out), cn_cn, HEE.out]⟩, HR6.out, HT6.out⟩
                case measure => simp [intOf]
              · have hz1 : ((nn : Int) == 0) = false := by simpa using hz
                have HZ := Lib.hid hz; clear hz
                go_wp2_with (first | ((with_reducible apply wpList_farith); rfl; rfl; rfl; intro _ _ _) | ((with_reducible apply wpList_up); rfl; exact Try.underlying27; exact Try.underlying151; intro _ _ _))
                rename_i x n2 hx
                have hx2 : cn .f32 x = smV fs S i j k m (2 + 1) := by rw [hx.eq, Hr.out, smV_more HOK.out (fun h => HZ.out (HN.out.trans h)), fop_cn_right, fop_cn_right, HEE.out]
                clear hx
                go_roundw
                case rel => exact ⟨2 + 1, by omega, by first | rfl | go_num, by rw [smN_yes HOK.out, ← HN.out]; go_num, ⟨_, rfl, hx2⟩, HR6.out.past (by (repeat (first | exact Below.refl _ _ | assumption | (refine Below.setCell ?_ (by first | (simp; done) | (simp; omega) | omega) _) | (refine Below.drew ?_) | (refine below_drewN ?_ _) | (refine Below.alloc ?_ (by first | (simp; done) | (simp; omega) | omega) _) | (refine Below.trans ?_ (Below.mono (by assumption) (by first | (simp; done) | (simp; omega) | omega)))))), HT6.out.past (by (repeat (first | exact Below.refl _ _ | assumption | (refine Below.setCell ?_ (by first | (simp; done) | (simp; omega) | omega) _) | (refine Below.drew ?_) | (refine below_drewN ?_ _) | (refine Below.alloc ?_ (by first | (simp; done) | (simp; omega) | omega) _) | (refine Below.trans ?_ (Below.mono (by assumption) (by first | (simp; done) | (simp; omega) | omega))))))⟩
                case measure => simp [intOf]
            · have hOK : nbOK S i j k 2 = false := by show decide _ = false; simpa using hO
              have u : IntKind.i64.wrap ((j : Int) + -1) = (-1) := by rw [IntKind.wrap_i64]; omega
              have bX : inB (-1) 0 ((S : Int) - 1) = false := inB_f (by omega)
              have e1 := Lib.hid (smN_no hOK)
              have e2 := Lib.hid (smV_no (fs := fs) (m := m) hOK)
              clear hOK
              have t0 := HT3.out.c 6 _ rfl; have t1 := HT3.out.c 7 _ rfl; have t2 := HT3.out.c 8 _ rfl; have tl := HT3.out.lt
              go_wp2_with fail
              refine wp_world (fun W4 hW4 => ?_)
              have AB : Blk W4 wr.heap.size [.int .i64 0, .int .i64 (-1), .int .i64 0] := by rw [hW4]; first | exact Blk.new _ _ _ _ rfl | exact (((Blk.new _ _ _ _ rfl).set 0 _).set 1 _).set 2 _
              have B4 : Below wr.heap.size wr W4 := by rw [hW4]; (repeat (first | exact Below.refl _ _ | assumption | (refine Below.setCell ?_ (by first | (simp; done) | (simp; omega) | omega) _) | (refine Below.drew ?_) | (refine below_drewN ?_ _) | (refine Below.alloc ?_ (by first | (simp; done) | (simp; omega) | omega) _) | (refine Below.trans ?_ (Below.mono (by assumption) (by first | (simp; done) | (simp; omega) | omega)))))
              have HR4 := Lib.hid (HR3.out.past B4); have HT4 := Lib.hid (HT3.out.past B4); have HA4 := Lib.hid AB
              have a0 := AB.c 0 _ rfl; have a1 := AB.c 1 _ rfl; have a2 := AB.c 2 _ rfl; have al := AB.lt
              clear hW4 B4 AB HR3 HT3 t0 t1 t2 tl
              go_quiet (fail)
              have hb5 : Below W4.heap.size W4 (W4.drewN nq) := below_drewN (Below.refl _ _) nq
              have HR5 := Lib.hid (HR4.out.past hb5); have HT5 := Lib.hid (HT4.out.past hb5)
              have c0 := HR4.out.c.c 0 _ rfl; have c1 := HR4.out.c.c 1 _ rfl; have c2 := HR4.out.c.c 2 _ rfl; have c3 := HR4.out.c.c 3 _ rfl; have cl := HR4.out.c.lt
              clear hb5 a0 a1 a2 al HR4 HT4 HA4
              go_wp2_with (first | (go_at_call 35; refine (In_any _ _ _ _).mono ?_; rintro e w' ⟨rfl, rfl⟩))
              go_roundw
              case rel => exact ⟨2 + 1, by omega, by first | rfl | go_num, by rw [e1.out, ← HN.out], ⟨r, rfl, Hr.out.trans e2.out.symm⟩, HR5.out, HT5.out⟩
              case measure => simp [intOf]
          · rw [show ((3 : Nat) : Int) = 3 from rfl]
            have hnn := smN_le S i j k 3
            obtain ⟨nn, hN⟩ : ∃ nn, nn = smN S i j k 3 := ⟨_, rfl⟩
            have HN := Lib.hid hN
            rw [← hN] at hnn ⊢
            clear hN
            by_cases hO : j + 1 < S
            · have hOK : nbOK S i j k 3 = true := by show decide _ = true; simpa using hO
              obtain ⟨X, hX⟩ : ∃ X : Nat, X = j + 1 := ⟨_, rfl⟩
              have u : IntKind.i64.wrap ((j : Int) + 1) = (X : Int) := by rw [IntKind.wrap_i64]; omega
              have hXS : X < S := by omega
              have bX : inB (X : Int) 0 ((S : Int) - 1) = true := inB_t ⟨by omega, by omega⟩
              have hE : enI S i X k = nbE S i j k 3 := by subst hX; rfl
              have HEn := Lib.hid (HE.out i X k)
              rw [hE] at HEn
              obtain ⟨E, hEE⟩ : ∃ E, E = nbE S i j k 3 := ⟨_, rfl⟩
              rw [← hEE] at HEn
              have jx : ∀ w, (Instr.index 92 (.agg #[.float .f32 (cn .f32 (fs (3 * E))), .float .f32 (cn .f32 (fs (3 * E + 1))), .float .f32 (cn .f32 (fs (3 * E + 2)))]) (.int .i64 (m : Int))).run Try.prog w = .ok (.float .f32 (cn .f32 (fs (3 * E + m)))) w := fun w => by
                rcases (show m = 0 ∨ m = 1 ∨ m = 2 by omega) with rfl | rfl | rfl <;> kernel_rfl
              have HEE := Lib.hid hEE
              have HOK := Lib.hid hOK
              clear hX hE hOK hO hEE
              have t0 := HT3.out.c 9 _ rfl; have t1 := HT3.out.c 10 _ rfl; have t2 := HT3.out.c 11 _ rfl; have tl := HT3.out.lt
              go_wp2_with fail
              refine wp_world (fun W4 hW4 => ?_)
              have AB : Blk W4 wr.heap.size [.int .i64 0, .int .i64 1, .int .i64 0] := by rw [hW4]; first | exact Blk.new _ _ _ _ rfl | exact (((Blk.new _ _ _ _ rfl).set 0 _).set 1 _).set 2 _
              have B4 : Below wr.heap.size wr W4 := by rw [hW4]; (repeat (first | exact Below.refl _ _ | assumption | (refine Below.setCell ?_ (by first | (simp; done) | (simp; omega) | omega) _) | (refine Below.drew ?_) | (refine below_drewN ?_ _) | (refine Below.alloc ?_ (by first | (simp; done) | (simp; omega) | omega) _) | (refine Below.trans ?_ (Below.mono (by assumption) (by first | (simp; done) | (simp; omega) | omega)))))
              have HR4 := Lib.hid (HR3.out.past B4); have HT4 := Lib.hid (HT3.out.past B4); have HA4 := Lib.hid AB
              have a0 := AB.c 0 _ rfl; have a1 := AB.c 1 _ rfl; have a2 := AB.c 2 _ rfl; have al := AB.lt
              clear hW4 B4 AB HR3 HT3 t0 t1 t2 tl
              go_quiet (fail)
              have hb5 : Below W4.heap.size W4 (W4.drewN nq) := below_drewN (Below.refl _ _) nq
              have HR5 := Lib.hid (HR4.out.past hb5); have HT5 := Lib.hid (HT4.out.past hb5)
              have c0 := HR4.out.c.c 0 _ rfl; have c1 := HR4.out.c.c 1 _ rfl; have c2 := HR4.out.c.c 2 _ rfl; have c3 := HR4.out.c.c 3 _ rfl; have cl := HR4.out.c.lt
              clear hb5 a0 a1 a2 al HR4 HT4 HA4
              go_wp2_with (first | (go_at_call 35; refine (In_any _ _ _ _).mono ?_; rintro e w' ⟨rfl, rfl⟩))
              refine (HEn.out _ (by omega) (by omega) (by omega) HR5.out.b).mono ?_
              rintro e w6 ⟨rfl, hb6⟩
              have HR6 := Lib.hid (HR5.out.past hb6); have HT6 := Lib.hid (HT5.out.past hb6)
              clear hb6 c0 c1 c2 c3 cl HR5 HT5
              by_cases hz : nn = 0
              · have hz1 : ((nn : Int) == 0) = true := by simpa using hz
                have HZ := Lib.hid hz; clear hz
                go_wp2_with fail
                go_roundw
                case rel => exact ⟨3 + 1, by omega, by first | rfl | go_num, by rw [smN_yes HOK.out, ← HN.out]; go_num, ⟨_, rfl, by rw [smV_first HOK.out (HN.out.symm.trans HZ.out), cn_cn, HEE.out]⟩, HR6.out, HT6.out⟩
                case measure => simp [intOf]
              · have hz1 : ((nn : Int) == 0) = false := by simpa using hz
                have HZ := Lib.hid hz; clear hz
                go_wp2_with (first | ((with_reducible apply wpList_farith); rfl; rfl; rfl; intro _ _ _) | ((with_reducible apply wpList_up); rfl; exact Try.underlying27; exact Try.underlying151; intro _ _ _))
                rename_i x n2 hx
                have hx2 : cn .f32 x = smV fs S i j k m (3 + 1) := by rw [hx.eq, Hr.out, smV_more HOK.out (fun h => HZ.out (HN.out.trans h)), fop_cn_right, fop_cn_right, HEE.out]
                clear hx
                go_roundw
                case rel => exact ⟨3 + 1, by omega, by first | rfl | go_num, by rw [smN_yes HOK.out, ← HN.out]; go_num, ⟨_, rfl, hx2⟩, HR6.out.past (by (repeat (first | exact Below.refl _ _ | assumption | (refine Below.setCell ?_ (by first | (simp; done) | (simp; omega) | omega) _) | (refine Below.drew ?_) | (refine below_drewN ?_ _) | (refine Below.alloc ?_ (by first | (simp; done) | (simp; omega) | omega) _) | (refine Below.trans ?_ (Below.mono (by assumption) (by first | (simp; done) | (simp; omega) | omega)))))), HT6.out.past (by (repeat (first | exact Below.refl _ _ | assumption | (refine Below.setCell ?_ (by first | (simp; done) | (simp; omega) | omega) _) | (refine Below.drew ?_) | (refine below_drewN ?_ _) | (refine Below.alloc ?_ (by first | (simp; done) | (simp; omega) | omega) _) | (refine Below.trans ?_ (Below.mono (by assumption) (by first | (simp; done) | (simp; omega) | omega))))))⟩
                case measure => simp [intOf]
            · have hOK : nbOK S i j k 3 = false := by show decide _ = false; simpa using hO
              have u : IntKind.i64.wrap ((j : Int) + 1) = (S : Int) := by rw [IntKind.wrap_i64]; omega
              have bX : inB (S : Int) 0 ((S : Int) - 1) = false := inB_f (by omega)
              have e1 := Lib.hid (smN_no hOK)
              have e2 := Lib.hid (smV_no (fs := fs) (m := m) hOK)
              clear hOK
              have t0 := HT3.out.c 9 _ rfl; have t1 := HT3.out.c 10 _ rfl; have t2 := HT3.out.c 11 _ rfl; have tl := HT3.out.lt
              go_wp2_with fail
              refine wp_world (fun W4 hW4 => ?_)
              have AB : Blk W4 wr.heap.size [.int .i64 0, .int .i64 1, .int .i64 0] := by rw [hW4]; first | exact Blk.new _ _ _ _ rfl | exact (((Blk.new _ _ _ _ rfl).set 0 _).set 1 _).set 2 _
              have B4 : Below wr.heap.size wr W4 := by rw [hW4]; (repeat (first | exact Below.refl _ _ | assumption | (refine Below.setCell ?_ (by first | (simp; done) | (simp; omega) | omega) _) | (refine Below.drew ?_) | (refine below_drewN ?_ _) | (refine Below.alloc ?_ (by first | (simp; done) | (simp; omega) | omega) _) | (refine Below.trans ?_ (Below.mono (by assumption) (by first | (simp; done) | (simp; omega) | omega)))))
              have HR4 := Lib.hid (HR3.out.past B4); have HT4 := Lib.hid (HT3.out.past B4); have HA4 := Lib.hid AB
              have a0 := AB.c 0 _ rfl; have a1 := AB.c 1 _ rfl; have a2 := AB.c 2 _ rfl; have al := AB.lt
              clear hW4 B4 AB HR3 HT3 t0 t1 t2 tl
              go_quiet (fail)
              have hb5 : Below W4.heap.size W4 (W4.drewN nq) := below_drewN (Below.refl _ _) nq
              have HR5 := Lib.hid (HR4.out.past hb5); have HT5 := Lib.hid (HT4.out.past hb5)
              have c0 := HR4.out.c.c 0 _ rfl; have c1 := HR4.out.c.c 1 _ rfl; have c2 := HR4.out.c.c 2 _ rfl; have c3 := HR4.out.c.c 3 _ rfl; have cl := HR4.out.c.lt
              clear hb5 a0 a1 a2 al HR4 HT4 HA4
              go_wp2_with (first | (go_at_call 35; refine (In_any _ _ _ _).mono ?_; rintro e w' ⟨rfl, rfl⟩))
              go_roundw
              case rel => exact ⟨3 + 1, by omega, by first | rfl | go_num, by rw [e1.out, ← HN.out], ⟨r, rfl, Hr.out.trans e2.out.symm⟩, HR5.out, HT5.out⟩
              case measure => simp [intOf]
          · rw [show ((4 : Nat) : Int) = 4 from rfl]
            have hnn := smN_le S i j k 4
            obtain ⟨nn, hN⟩ : ∃ nn, nn = smN S i j k 4 := ⟨_, rfl⟩
            have HN := Lib.hid hN
            rw [← hN] at hnn ⊢
            clear hN
            by_cases hO : 0 < k
            · have hOK : nbOK S i j k 4 = true := by show decide _ = true; simpa using hO
              obtain ⟨X, hX⟩ : ∃ X : Nat, X = k - 1 := ⟨_, rfl⟩
              have u : IntKind.i64.wrap ((k : Int) + -1) = (X : Int) := by rw [IntKind.wrap_i64]; omega
              have hXS : X < S := by omega
              have bX : inB (X : Int) 0 ((S : Int) - 1) = true := inB_t ⟨by omega, by omega⟩
              have hE : enI S i j X = nbE S i j k 4 := by subst hX; rfl
              have HEn := Lib.hid (HE.out i j X)
              rw [hE] at HEn
              obtain ⟨E, hEE⟩ : ∃ E, E = nbE S i j k 4 := ⟨_, rfl⟩
              rw [← hEE] at HEn
              have jx : ∀ w, (Instr.index 92 (.agg #[.float .f32 (cn .f32 (fs (3 * E))), .float .f32 (cn .f32 (fs (3 * E + 1))), .float .f32 (cn .f32 (fs (3 * E + 2)))]) (.int .i64 (m : Int))).run Try.prog w = .ok (.float .f32 (cn .f32 (fs (3 * E + m)))) w := fun w => by
                rcases (show m = 0 ∨ m = 1 ∨ m = 2 by omega) with rfl | rfl | rfl <;> kernel_rfl
              have HEE := Lib.hid hEE
              have HOK := Lib.hid hOK
              clear hX hE hOK hO hEE
              have t0 := HT3.out.c 12 _ rfl; have t1 := HT3.out.c 13 _ rfl; have t2 := HT3.out.c 14 _ rfl; have tl := HT3.out.lt
              go_wp2_with fail
              refine wp_world (fun W4 hW4 => ?_)
              have AB : Blk W4 wr.heap.size [.int .i64 0, .int .i64 0, .int .i64 (-1)] := by rw [hW4]; first | exact Blk.new _ _ _ _ rfl | exact (((Blk.new _ _ _ _ rfl).set 0 _).set 1 _).set 2 _
              have B4 : Below wr.heap.size wr W4 := by rw [hW4]; (repeat (first | exact Below.refl _ _ | assumption | (refine Below.setCell ?_ (by first | (simp; done) | (simp; omega) | omega) _) | (refine Below.drew ?_) | (refine below_drewN ?_ _) | (refine Below.alloc ?_ (by first | (simp; done) | (simp; omega) | omega) _) | (refine Below.trans ?_ (Below.mono (by assumption) (by first | (simp; done) | (simp; omega) | omega)))))
              have HR4 := Lib.hid (HR3.out.past B4); have HT4 := Lib.hid (HT3.out.past B4); have HA4 := Lib.hid AB
              have a0 := AB.c 0 _ rfl; have a1 := AB.c 1 _ rfl; have a2 := AB.c 2 _ rfl; have al := AB.lt
              clear hW4 B4 AB HR3 HT3 t0 t1 t2 tl
              go_quiet (fail)
              have hb5 : Below W4.heap.size W4 (W4.drewN nq) := below_drewN (Below.refl _ _) nq
              have HR5 := Lib.hid (HR4.out.past hb5); have HT5 := Lib.hid (HT4.out.past hb5)
              have c0 := HR4.out.c.c 0 _ rfl; have c1 := HR4.out.c.c 1 _ rfl; have c2 := HR4.out.c.c 2 _ rfl; have c3 := HR4.out.c.c 3 _ rfl; have cl := HR4.out.c.lt
              clear hb5 a0 a1 a2 al HR4 HT4 HA4
              go_wp2_with (first | (go_at_call 35; refine (In_any _ _ _ _).mono ?_; rintro e w' ⟨rfl, rfl⟩))
              refine (HEn.out _ (by omega) (by omega) (by omega) HR5.out.b).mono ?_
              rintro e w6 ⟨rfl, hb6⟩
              have HR6 := Lib.hid (HR5.out.past hb6); have HT6 := Lib.hid (HT5.out.past hb6)
              clear hb6 c0 c1 c2 c3 cl HR5 HT5
              by_cases hz : nn = 0
              · have hz1 : ((nn : Int) == 0) = true := by simpa using hz
                have HZ := Lib.hid hz; clear hz
                go_wp2_with fail
                go_roundw
                case rel => exact ⟨4 + 1, by omega, by first | rfl | go_num, by rw [smN_yes HOK.out, ← HN.out]; go_num, ⟨_, rfl, by rw [smV_first HOK.out (HN.out.symm.trans HZ.out), cn_cn, HEE.out]⟩, HR6.out, HT6.out⟩
                case measure => simp [intOf]
              · have hz1 : ((nn : Int) == 0) = false := by simpa using hz
                have HZ := Lib.hid hz; clear hz
                go_wp2_with (first | ((with_reducible apply wpList_farith); rfl; rfl; rfl; intro _ _ _) | ((with_reducible apply wpList_up); rfl; exact Try.underlying27; exact Try.underlying151; intro _ _ _))
                rename_i x n2 hx
                have hx2 : cn .f32 x = smV fs S i j k m (4 + 1) := by rw [hx.eq, Hr.out, smV_more HOK.out (fun h => HZ.out (HN.out.trans h)), fop_cn_right, fop_cn_right, HEE.out]
                clear hx
                go_roundw
                case rel => exact ⟨4 + 1, by omega, by first | rfl | go_num, by rw [smN_yes HOK.out, ← HN.out]; go_num, ⟨_, rfl, hx2⟩, HR6.out.past (by (repeat (first | exact Below.refl _ _ | assumption | (refine Below.setCell ?_ (by first | (simp; done) | (simp; omega) | omega) _) | (refine Below.drew ?_) | (refine below_drewN ?_ _) | (refine Below.alloc ?_ (by first | (simp; done) | (simp; omega) | omega) _) | (refine Below.trans ?_ (Below.mono (by assumption) (by first | (simp; done) | (simp; omega) | omega)))))), HT6.out.past (by (repeat (first | exact Below.refl _ _ | assumption | (refine Below.setCell ?_ (by first | (simp; done) | (simp; omega) | omega) _) | (refine Below.drew ?_) | (refine below_drewN ?_ _) | (refine Below.alloc ?_ (by first | (simp; done) | (simp; omega) | omega) _) | (refine Below.trans ?_ (Below.mono (by assumption) (by first | (simp; done) | (simp; omega) | omega))))))⟩
                case measure => simp [intOf]
            · have hOK : nbOK S i j k 4 = false := by show decide _ = false; simpa using hO
              have u : IntKind.i64.wrap ((k : Int) + -1) = (-1) := by rw [IntKind.wrap_i64]; omega
              have bX : inB (-1) 0 ((S : Int) - 1) = false := inB_f (by omega)
              have e1 := Lib.hid (smN_no hOK)
              have e2 := Lib.hid (smV_no (fs := fs) (m := m) hOK)
              clear hOK
              have t0 := HT3.out.c 12 _ rfl; have t1 := HT3.out.c 13 _ rfl; have t2 := HT3.out.c 14 _ rfl; have tl := HT3.out.lt
              go_wp2_with fail
              refine wp_world (fun W4 hW4 => ?_)
              have AB : Blk W4 wr.heap.size [.int .i64 0, .int .i64 0, .int .i64 (-1)] := by rw [hW4]; first | exact Blk.new _ _ _ _ rfl | exact (((Blk.new _ _ _ _ rfl).set 0 _).set 1 _).set 2 _
              have B4 : Below wr.heap.size wr W4 := by rw [hW4]; (repeat (first | exact Below.refl _ _ | assumption | (refine Below.setCell ?_ (by first | (simp; done) | (simp; omega) | omega) _) | (refine Below.drew ?_) | (refine below_drewN ?_ _) | (refine Below.alloc ?_ (by first | (simp; done) | (simp; omega) | omega) _) | (refine Below.trans ?_ (Below.mono (by assumption) (by first | (simp; done) | (simp; omega) | omega)))))
              have HR4 := Lib.hid (HR3.out.past B4); have HT4 := Lib.hid (HT3.out.past B4); have HA4 := Lib.hid AB
              have a0 := AB.c 0 _ rfl; have a1 := AB.c 1 _ rfl; have a2 := AB.c 2 _ rfl; have al := AB.lt
              clear hW4 B4 AB HR3 HT3 t0 t1 t2 tl
              go_quiet (fail)
              have hb5 : Below W4.heap.size W4 (W4.drewN nq) := below_drewN (Below.refl _ _) nq
              have HR5 := Lib.hid (HR4.out.past hb5); have HT5 := Lib.hid (HT4.out.past hb5)
              have c0 := HR4.out.c.c 0 _ rfl; have c1 := HR4.out.c.c 1 _ rfl; have c2 := HR4.out.c.c 2 _ rfl; have c3 := HR4.out.c.c 3 _ rfl; have cl := HR4.out.c.lt
              clear hb5 a0 a1 a2 al HR4 HT4 HA4
              go_wp2_with (first | (go_at_call 35; refine (In_any _ _ _ _).mono ?_; rintro e w' ⟨rfl, rfl⟩))
              go_roundw
              case rel => exact ⟨4 + 1, by omega, by first | rfl | go_num, by rw [e1.out, ← HN.out], ⟨r, rfl, Hr.out.trans e2.out.symm⟩, HR5.out, HT5.out⟩
              case measure => simp [intOf]
          · rw [show ((5 : Nat) : Int) = 5 from rfl]
            have hnn := smN_le S i j k 5
            obtain ⟨nn, hN⟩ : ∃ nn, nn = smN S i j k 5 := ⟨_, rfl⟩
            have HN := Lib.hid hN
            rw [← hN] at hnn ⊢
            clear hN
            by_cases hO : k + 1 < S
            · have hOK : nbOK S i j k 5 = true := by show decide _ = true; simpa using hO
              obtain ⟨X, hX⟩ : ∃ X : Nat, X = k + 1 := ⟨_, rfl⟩
              have u : IntKind.i64.wrap ((k : Int) + 1) = (X : Int) := by rw [IntKind.wrap_i64]; omega
              have hXS : X < S := by omega
              have bX : inB (X : Int) 0 ((S : Int) - 1) = true := inB_t ⟨by omega, by omega⟩
              have hE : enI S i j X = nbE S i j k 5 := by subst hX; rfl
              have HEn := Lib.hid (HE.out i j X)
              rw [hE] at HEn
              obtain ⟨E, hEE⟩ : ∃ E, E = nbE S i j k 5 := ⟨_, rfl⟩
              rw [← hEE] at HEn
              have jx : ∀ w, (Instr.index 92 (.agg #[.float .f32 (cn .f32 (fs (3 * E))), .float .f32 (cn .f32 (fs (3 * E + 1))), .float .f32 (cn .f32 (fs (3 * E + 2)))]) (.int .i64 (m : Int))).run Try.prog w = .ok (.float .f32 (cn .f32 (fs (3 * E + m)))) w := fun w => by
                rcases (show m = 0 ∨ m = 1 ∨ m = 2 by omega) with rfl | rfl | rfl <;> kernel_rfl
              have HEE := Lib.hid hEE
              have HOK := Lib.hid hOK
              clear hX hE hOK hO hEE
              have t0 := HT3.out.c 15 _ rfl; have t1 := HT3.out.c 16 _ rfl; have t2 := HT3.out.c 17 _ rfl; have tl := HT3.out.lt
              go_wp2_with fail
              refine wp_world (fun W4 hW4 => ?_)
              have AB : Blk W4 wr.heap.size [.int .i64 0, .int .i64 0, .int .i64 1] := by rw [hW4]; first | exact Blk.new _ _ _ _ rfl | exact (((Blk.new _ _ _ _ rfl).set 0 _).set 1 _).set 2 _
              have B4 : Below wr.heap.size wr W4 := by rw [hW4]; (repeat (first | exact Below.refl _ _ | assumption | (refine Below.setCell ?_ (by first | (simp; done) | (simp; omega) | omega) _) | (refine Below.drew ?_) | (refine below_drewN ?_ _) | (refine Below.alloc ?_ (by first | (simp; done) | (simp; omega) | omega) _) | (refine Below.trans ?_ (Below.mono (by assumption) (by first | (simp; done) | (simp; omega) | omega)))))
              have HR4 := Lib.hid (HR3.out.past B4); have HT4 := Lib.hid (HT3.out.past B4); have HA4 := Lib.hid AB
              have a0 := AB.c 0 _ rfl; have a1 := AB.c 1 _ rfl; have a2 := AB.c 2 _ rfl; have al := AB.lt
              clear hW4 B4 AB HR3 HT3 t0 t1 t2 tl
              go_quiet (fail)
              have hb5 : Below W4.heap.size W4 (W4.drewN nq) := below_drewN (Below.refl _ _) nq
              have HR5 := Lib.hid (HR4.out.past hb5); have HT5 := Lib.hid (HT4.out.past hb5)
              have c0 := HR4.out.c.c 0 _ rfl; have c1 := HR4.out.c.c 1 _ rfl; have c2 := HR4.out.c.c 2 _ rfl; have c3 := HR4.out.c.c 3 _ rfl; have cl := HR4.out.c.lt
              clear hb5 a0 a1 a2 al HR4 HT4 HA4
              go_wp2_with (first | (go_at_call 35; refine (In_any _ _ _ _).mono ?_; rintro e w' ⟨rfl, rfl⟩))
              refine (HEn.out _ (by omega) (by omega) (by omega) HR5.out.b).mono ?_
              rintro e w6 ⟨rfl, hb6⟩
              have HR6 := Lib.hid (HR5.out.past hb6); have HT6 := Lib.hid (HT5.out.past hb6)
              clear hb6 c0 c1 c2 c3 cl HR5 HT5
              by_cases hz : nn = 0
              · have hz1 : ((nn : Int) == 0) = true := by simpa using hz
                have HZ := Lib.hid hz; clear hz
                go_wp2_with fail
                go_roundw
                case rel => exact ⟨5 + 1, by omega, by first | rfl | go_num, by rw [smN_yes HOK.out, ← HN.out]; go_num, ⟨_, rfl, by rw [smV_first HOK.out (HN.out.symm.trans HZ.out), cn_cn, HEE.out]⟩, HR6.out, HT6.out⟩
                case measure => simp [intOf]
              · have hz1 : ((nn : Int) == 0) = false := by simpa using hz
                have HZ := Lib.hid hz; clear hz
                go_wp2_with (first | ((with_reducible apply wpList_farith); rfl; rfl; rfl; intro _ _ _) | ((with_reducible apply wpList_up); rfl; exact Try.underlying27; exact Try.underlying151; intro _ _ _))
                rename_i x n2 hx
                have hx2 : cn .f32 x = smV fs S i j k m (5 + 1) := by rw [hx.eq, Hr.out, smV_more HOK.out (fun h => HZ.out (HN.out.trans h)), fop_cn_right, fop_cn_right, HEE.out]
                clear hx
                go_roundw
                case rel => exact ⟨5 + 1, by omega, by first | rfl | go_num, by rw [smN_yes HOK.out, ← HN.out]; go_num, ⟨_, rfl, hx2⟩, HR6.out.past (by (repeat (first | exact Below.refl _ _ | assumption | (refine Below.setCell ?_ (by first | (simp; done) | (simp; omega) | omega) _) | (refine Below.drew ?_) | (refine below_drewN ?_ _) | (refine Below.alloc ?_ (by first | (simp; done) | (simp; omega) | omega) _) | (refine Below.trans ?_ (Below.mono (by assumption) (by first | (simp; done) | (simp; omega) | omega)))))), HT6.out.past (by (repeat (first | exact Below.refl _ _ | assumption | (refine Below.setCell ?_ (by first | (simp; done) | (simp; omega) | omega) _) | (refine Below.drew ?_) | (refine below_drewN ?_ _) | (refine Below.alloc ?_ (by first | (simp; done) | (simp; omega) | omega) _) | (refine Below.trans ?_ (Below.mono (by assumption) (by first | (simp; done) | (simp; omega) | omega))))))⟩
                case measure => simp [intOf]
            · have hOK : nbOK S i j k 5 = false := by show decide _ = false; simpa using hO
              have u : IntKind.i64.wrap ((k : Int) + 1) = (S : Int) := by rw [IntKind.wrap_i64]; omega
              have bX : inB (S : Int) 0 ((S : Int) - 1) = false := inB_f (by omega)
              have e1 := Lib.hid (smN_no hOK)
              have e2 := Lib.hid (smV_no (fs := fs) (m := m) hOK)
              clear hOK
              have t0 := HT3.out.c 15 _ rfl; have t1 := HT3.out.c 16 _ rfl; have t2 := HT3.out.c 17 _ rfl; have tl := HT3.out.lt
              go_wp2_with fail
              refine wp_world (fun W4 hW4 => ?_)
              have AB : Blk W4 wr.heap.size [.int .i64 0, .int .i64 0, .int .i64 1] := by rw [hW4]; first | exact Blk.new _ _ _ _ rfl | exact (((Blk.new _ _ _ _ rfl).set 0 _).set 1 _).set 2 _
              have B4 : Below wr.heap.size wr W4 := by rw [hW4]; (repeat (first | exact Below.refl _ _ | assumption | (refine Below.setCell ?_ (by first | (simp; done) | (simp; omega) | omega) _) | (refine Below.drew ?_) | (refine below_drewN ?_ _) | (refine Below.alloc ?_ (by first | (simp; done) | (simp; omega) | omega) _) | (refine Below.trans ?_ (Below.mono (by assumption) (by first | (simp; done) | (simp; omega) | omega)))))
              have HR4 := Lib.hid (HR3.out.past B4); have HT4 := Lib.hid (HT3.out.past B4); have HA4 := Lib.hid AB
              have a0 := AB.c 0 _ rfl; have a1 := AB.c 1 _ rfl; have a2 := AB.c 2 _ rfl; have al := AB.lt
              clear hW4 B4 AB HR3 HT3 t0 t1 t2 tl
              go_quiet (fail)
              have hb5 : Below W4.heap.size W4 (W4.drewN nq) := below_drewN (Below.refl _ _) nq
              have HR5 := Lib.hid (HR4.out.past hb5); have HT5 := Lib.hid (HT4.out.past hb5)
              have c0 := HR4.out.c.c 0 _ rfl; have c1 := HR4.out.c.c 1 _ rfl; have c2 := HR4.out.c.c 2 _ rfl; have c3 := HR4.out.c.c 3 _ rfl; have cl := HR4.out.c.lt
              clear hb5 a0 a1 a2 al HR4 HT4 HA4
              go_wp2_with (first | (go_at_call 35; refine (In_any _ _ _ _).mono ?_; rintro e w' ⟨rfl, rfl⟩))
              go_roundw
              case rel => exact ⟨5 + 1, by omega, by first | rfl | go_num, by rw [e1.out, ← HN.out], ⟨r, rfl, Hr.out.trans e2.out.symm⟩, HR5.out, HT5.out⟩
              case measure => simp [intOf]
        · have hq' : q = 6 := by omega
          subst hq'
          rw [show ((6 : Nat) : Int) = 6 from rfl]
          have hnn := smN_le S i j k 6
          obtain ⟨nn, hN⟩ : ∃ nn, nn = smN S i j k 6 := ⟨_, rfl⟩
          have HN := Lib.hid hN
          rw [← hN] at hnn ⊢
          clear hN
          have un : IntKind.i64.wrap (2 + (nn : Int)) = 2 + (nn : Int) := by rw [IntKind.wrap_i64]; omega
          have c0 := HR3.out.c.c 0 _ rfl; have c1 := HR3.out.c.c 1 _ rfl; have c2 := HR3.out.c.c 2 _ rfl; have c3 := HR3.out.c.c 3 _ rfl; have cl := HR3.out.c.lt
          obtain ⟨E, hEE⟩ : ∃ E, E = enI S i j k := ⟨_, rfl⟩
          have HEn := Lib.hid (HE.out i j k)
          rw [← hEE] at HEn
          have HEE := Lib.hid hEE
          clear hEE
          rcases (show m = 0 ∨ m = 1 ∨ m = 2 by omega) with rfl | rfl | rfl
          · rw [show ((0 : Nat) : Int) = 0 from rfl]
            have jx : ∀ w, (Instr.index 92 (.agg #[.float .f32 (cn .f32 (fs (3 * E))), .float .f32 (cn .f32 (fs (3 * E + 1))), .float .f32 (cn .f32 (fs (3 * E + 2)))]) (.int .i64 0)).run Try.prog w = .ok (.float .f32 (cn .f32 (fs (3 * E + 0)))) w := fun w => by kernel_rfl
            go_wp2_with fail
            refine (HEn.out _ h1 h2 h3 HR3.out.b).mono ?_
            rintro e w6 ⟨rfl, hb6⟩
            have HR6 := Lib.hid (HR3.out.past hb6)
            clear hb6 c0 c1 c2 c3 cl HR3
            have o0 := HR6.out.o.c 0 _ rfl; have of := HR6.out.o.f; have ol := HR6.out.o.lt
            go_wp2_with (first | ((with_reducible apply wpList_farith); rfl; rfl; rfl; intro _ _ _) | ((with_reducible apply wpList_up); rfl; exact Try.underlying27; exact Try.underlying151; intro _ _ _))
            rename_i x1 n1 hx1 x2 n2 hx2 x3 n3 hx3
            have hv := Lib.hid (sof_out (fs := fs) (S := S) (i := i) (j := j) (k := k) (c := 0) (by rw [HEE.out]; first | done | rfl) HN.out Hr.out hx1 hx2 hx3)
            clear hx1 hx2 hx3
            go_roundw
            case rel => exact ⟨0 + 1, by omega, by first | rfl | go_num, _, (HR6.out.past (by (repeat (first | exact Below.refl _ _ | assumption | (refine Below.setCell ?_ (by first | (simp; done) | (simp; omega) | omega) _) | (refine Below.drew ?_) | (refine below_drewN ?_ _) | (refine Below.alloc ?_ (by first | (simp; done) | (simp; omega) | omega) _) | (refine Below.trans ?_ (Below.mono (by assumption) (by first | (simp; done) | (simp; omega) | omega))))))).set0 x3, fun c' hc' => by
              show cn .f32 (if c' = 0 then x3 else o c') = _
              by_cases h : c' = 0
              · subst h; rw [if_pos rfl]; exact hv.out
              · rw [if_neg h]; exact HE2.out c' (by omega)⟩
            case measure => simp [intOf]
          · rw [show ((1 : Nat) : Int) = 1 from rfl]
            have jx : ∀ w, (Instr.index 92 (.agg #[.float .f32 (cn .f32 (fs (3 * E))), .float .f32 (cn .f32 (fs (3 * E + 1))), .float .f32 (cn .f32 (fs (3 * E + 2)))]) (.int .i64 1)).run Try.prog w = .ok (.float .f32 (cn .f32 (fs (3 * E + 1)))) w := fun w => by kernel_rfl
            go_wp2_with fail
            refine (HEn.out _ h1 h2 h3 HR3.out.b).mono ?_
            rintro e w6 ⟨rfl, hb6⟩
            have HR6 := Lib.hid (HR3.out.past hb6)
            clear hb6 c0 c1 c2 c3 cl HR3
            have o0 := HR6.out.o.c 1 _ rfl; have of := HR6.out.o.f; have ol := HR6.out.o.lt
            go_wp2_with (first | ((with_reducible apply wpList_farith); rfl; rfl; rfl; intro _ _ _) | ((with_reducible apply wpList_up); rfl; exact Try.underlying27; exact Try.underlying151; intro _ _ _))
            rename_i x1 n1 hx1 x2 n2 hx2 x3 n3 hx3
            have hv := Lib.hid (sof_out (fs := fs) (S := S) (i := i) (j := j) (k := k) (c := 1) (by rw [HEE.out]; first | done | rfl) HN.out Hr.out hx1 hx2 hx3)
            clear hx1 hx2 hx3
            go_roundw
            case rel => exact ⟨1 + 1, by omega, by first | rfl | go_num, _, (HR6.out.past (by (repeat (first | exact Below.refl _ _ | assumption | (refine Below.setCell ?_ (by first | (simp; done) | (simp; omega) | omega) _) | (refine Below.drew ?_) | (refine below_drewN ?_ _) | (refine Below.alloc ?_ (by first | (simp; done) | (simp; omega) | omega) _) | (refine Below.trans ?_ (Below.mono (by assumption) (by first | (simp; done) | (simp; omega) | omega))))))).set1 x3, fun c' hc' => by
              show cn .f32 (if c' = 1 then x3 else o c') = _
              by_cases h : c' = 1
              · subst h; rw [if_pos rfl]; exact hv.out
              · rw [if_neg h]; exact HE2.out c' (by omega)⟩
            case measure => simp [intOf]
          · rw [show ((2 : Nat) : Int) = 2 from rfl]
            have jx : ∀ w, (Instr.index 92 (.agg #[.float .f32 (cn .f32 (fs (3 * E))), .float .f32 (cn .f32 (fs (3 * E + 1))), .float .f32 (cn .f32 (fs (3 * E + 2)))]) (.int .i64 2)).run Try.prog w = .ok (.float .f32 (cn .f32 (fs (3 * E + 2)))) w := fun w => by kernel_rfl
            go_wp2_with fail
            refine (HEn.out _ h1 h2 h3 HR3.out.b).mono ?_
            rintro e w6 ⟨rfl, hb6⟩
            have HR6 := Lib.hid (HR3.out.past hb6)
            clear hb6 c0 c1 c2 c3 cl HR3
            have o0 := HR6.out.o.c 2 _ rfl; have of := HR6.out.o.f; have ol := HR6.out.o.lt
            go_wp2_with (first | ((with_reducible apply wpList_farith); rfl; rfl; rfl; intro _ _ _) | ((with_reducible apply wpList_up); rfl; exact Try.underlying27; exact Try.underlying151; intro _ _ _))
            rename_i x1 n1 hx1 x2 n2 hx2 x3 n3 hx3
            have hv := Lib.hid (sof_out (fs := fs) (S := S) (i := i) (j := j) (k := k) (c := 2) (by rw [HEE.out]; first | done | rfl) HN.out Hr.out hx1 hx2 hx3)
            clear hx1 hx2 hx3
            go_roundw
            case rel => exact ⟨2 + 1, by omega, by first | rfl | go_num, _, (HR6.out.past (by (repeat (first | exact Below.refl _ _ | assumption | (refine Below.setCell ?_ (by first | (simp; done) | (simp; omega) | omega) _) | (refine Below.drew ?_) | (refine below_drewN ?_ _) | (refine Below.alloc ?_ (by first | (simp; done) | (simp; omega) | omega) _) | (refine Below.trans ?_ (Below.mono (by assumption) (by first | (simp; done) | (simp; omega) | omega))))))).set2 x3, fun c' hc' => by
              show cn .f32 (if c' = 2 then x3 else o c') = _
              by_cases h : c' = 2
              · subst h; rw [if_pos rfl]; exact hv.out
              · rw [if_neg h]; exact HE2.out c' (by omega)⟩
            case measure => simp [intOf]
    · have hm' : m = 3 := by omega
      subst hm'
      have v0 := HR.out.1.o.c 0 _ rfl; have v1 := HR.out.1.o.c 1 _ rfl; have v2 := HR.out.1.o.c 2 _ rfl; have vl := HR.out.1.o.lt
      have z0 := HR.out.1.z.c 0 _ rfl; have z1 := HR.out.1.z.c 1 _ rfl; have z2 := HR.out.1.z.c 2 _ rfl; have zf := HR.out.1.z.f; have zl := HR.out.1.z.lt
      have B := HR.out.1.b
      go_wp2_with fail
      refine bodyPost_ret (v := .agg #[.float .f32 (o 0), .float .f32 (o 1), .float .f32 (o 2)]) (by simp [results, Try.results155, go_sem, z0, z1, z2]) rfl ⟨⟨o, rfl, fun m hm => HR.out.2 m hm⟩, ?_⟩
      exact ((B.setCell (by first | (simp; done) | (simp; omega) | omega) _).setCell (by first | (simp; done) | (simp; omega) | omega) _).setCell (by first | (simp; done) | (simp; omega) | omega) _
end Go.Proofs.Ytalgepfammpmbaa
