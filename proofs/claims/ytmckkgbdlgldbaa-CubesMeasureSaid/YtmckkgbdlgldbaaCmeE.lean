/- The greatest difference of neighbours, in the document: dyeref2.RoughOf and its closure. Conditions: what each theorem names. -/
import Derived.Test.YtmckkgbdlgldbaaCmeD
namespace Go.Proofs.Ytmckkgbdlgldbaa
open Go Go.RowKit
/-- The differences of one entry with the next one along an axis. -/
def roC (S : Nat) (fc : Nat → Nat) (N s : Nat) : Nat := if N / S ^ s % S + 1 < S then mostF (fun m => gapF (fc (3 * N + m)) (fc (3 * (N + S ^ s) + m))) 3 else 0
def roN (S : Nat) (fc : Nat → Nat) (N : Nat) : Nat := mostF (roC S fc N) 3
theorem roC_le (S : Nat) (fc : Nat → Nat) (N s : Nat) : roC S fc N s ≤ 2139095040 := by
  unfold roC; split
  · exact mostF_le (fun _ => gapF_le _ _) _
  · omega
theorem most_skip {W : Nat} {g : Nat → Nat} {s : Nat} (h : g s = 0) : Nat.max W (mostF g (s + 1)) = Nat.max W (mostF g s) := by
  rw [show mostF g (s + 1) = Nat.max (mostF g s) (g s) from rfl, h, show Nat.max (mostF g s) 0 = mostF g s from Nat.max_zero _]
theorem most_take {W : Nat} {g : Nat → Nat} {s : Nat} : Nat.max (Nat.max W (mostF g s)) (g s) = Nat.max W (mostF g (s + 1)) := most3 _ _ _
theorem max_pick (x y : Nat) (h : x < y) : Nat.max x y = y := Nat.max_eq_right (by omega)
theorem max_keep (x y : Nat) (h : ¬ x < y) : Nat.max x y = x := Nat.max_eq_left (by omega)
theorem en_x (S i j k : Nat) : enI S (i + 1) j k = enI S i j k + S ^ 0 := by unfold enI; rw [Nat.pow_zero]; omega
theorem en_y (S i j k : Nat) : enI S i (j + 1) k = enI S i j k + S ^ 1 := by unfold enI; rw [Nat.pow_one, Nat.mul_add, Nat.mul_add, Nat.mul_add]; omega
theorem en_z (S i j k : Nat) : enI S i j (k + 1) = enI S i j k + S ^ 2 := by
  have e : S * (j + S * (k + 1)) = S * (j + S * k) + S * S := by rw [Nat.mul_add S k 1, Nat.mul_one, ← Nat.add_assoc, Nat.mul_add S (j + S * k) S]
  unfold enI; rw [show S ^ 2 = S * S by simp [Nat.pow_succ], e]; omega
/-- What stands of the walk's variables. -/
structure RoR (w wr : World) (La : List Value) (m : Nat) : Prop where
  a : Blk wr w.heap.size La
  m : Blk wr (w.heap.size + 1) [.float .f32 m]
  w : Below w.heap.size w wr
theorem RoR.past {w wr wy : World} {La : List Value} {m : Nat} (k : RoR w wr La m) (h : Below wr.heap.size wr wy) : RoR w wy La m := ⟨k.a.past h, k.m.past h, k.w.trans (h.mono k.w.size)⟩
theorem RoR.set {w wr : World} {La : List Value} {m : Nat} (k : RoR w wr La m) (x : Nat) : RoR w (wr.setCell ⟨w.heap.size + 1, 0, none⟩ (.float .f32 x)) La x := ⟨k.a.far _ _ (by simp), k.m.set 0 _, k.w.setCell (by simp) _⟩
def EnPsi (S : Nat) (fc : Nat → Nat) (_ : FuncId) (args : Array Value) (u : Value) : Prop := u = .agg #[.float .f32 (cn .f32 (fc (3 * enI S (argI args 1).toNat (argI args 2).toNat (argI args 3).toNat))), .float .f32 (cn .f32 (fc (3 * enI S (argI args 1).toNat (argI args 2).toNat (argI args 3).toNat + 1))), .float .f32 (cn .f32 (fc (3 * enI S (argI args 1).toNat (argI args 2).toNat (argI args 3).toNat + 2)))]
theorem en_psi {S : Nat} {fc : Nat → Nat} {f : FuncId} {x u : Value} {i j k : Nat} : EnPsi S fc f #[x, .int .i64 i, .int .i64 j, .int .i64 k] u ↔ u = .agg #[.float .f32 (cn .f32 (fc (3 * enI S i j k))), .float .f32 (cn .f32 (fc (3 * enI S i j k + 1))), .float .f32 (cn .f32 (fc (3 * enI S i j k + 2)))] := by
  unfold EnPsi; simp [argI_1, argI_2, argI_3]
set_option maxRecDepth 100000 in
set_option maxHeartbeats 16000000 in
theorem RoughOf_c (S i j k lo hi b off n cap : Nat) (fc : Nat → Nat) (x : Value) (W0 : Nat) (w v : World) (hS : S ≤ 17) (h1 : i < S) (h2 : j < S) (h3 : k < S) (hn : n = 3 * (S * S * S)) (hc : Row w b off n fc) (hW : W0 ≤ 2139095040)
    (R : RoR w v [.int .i64 S, .float .f32 lo, .float .f32 hi, .slice (some ⟨b, off, none⟩) n cap] W0) :
    Calls Try.prog 147 #[x, .int .i64 i, .int .i64 j, .int .i64 k, .pointer (some ⟨w.heap.size, 0, none⟩), .pointer (some ⟨w.heap.size + 1, 0, none⟩)] v fun e w' =>
      e = .returned (.tuple #[]) ∧ RoR w w' [.int .i64 S, .float .f32 lo, .float .f32 hi, .slice (some ⟨b, off, none⟩) n cap] (Nat.max W0 (roN S fc (enI S i j k))) := by
  have hn0 : 0 < n := by have := enI_lt h1 h2 h3; omega
  have hbw := hc.lt hn0
  have HE : Hid (∀ x y z w', x < S → y < S → z < S → Below w.heap.size w w' → Calls Try.prog 40 #[.agg #[.int .i64 S, .float .f32 lo, .float .f32 hi, .slice (some ⟨b, off, none⟩) n cap], .int .i64 (x : Nat), .int .i64 (y : Nat), .int .i64 (z : Nat)] w' fun e w'' =>
      e = .returned (.agg #[.float .f32 (cn .f32 (fc (3 * enI S x y z))), .float .f32 (cn .f32 (fc (3 * enI S x y z + 1))), .float .f32 (cn .f32 (fc (3 * enI S x y z + 2)))]) ∧ Below w'.heap.size w' w'') := fun x y z w' hx hy hz hb => EntryOf_any S x y z lo hi b off n cap fc w' hS hx hy hz hn (hc.below hb hbw)
  have HI := Lib.hid (enI_dec (k := k) h1 h2)
  have HR := Lib.hid R
  have wi : IntKind.i64.wrap (i : Int) = (i : Int) := by rw [IntKind.wrap_i64]; omega
  have wj : IntKind.i64.wrap (j : Int) = (j : Int) := by rw [IntKind.wrap_i64]; omega
  have wk : IntKind.i64.wrap (k : Int) = (k : Int) := by rw [IntKind.wrap_i64]; omega
  have ni : ((i : Int) == (S : Int)) = false := by rw [beq_eq_false_iff_ne]; omega
  have nj : ((j : Int) == (S : Int)) = false := by rw [beq_eq_false_iff_ne]; omega
  have nk : ((k : Int) == (S : Int)) = false := by rw [beq_eq_false_iff_ne]; omega
  have HLT0 := Lib.hid (show w.heap.size + 1 < v.heap.size from R.m.lt)
  clear hc hn hn0 hbw R
  go_enter Try.func147, Try.ntmps147
  go_upto_region 1 with fail
  refine wp_world (fun W hW2 => ?_)
  have TB : Blk W v.heap.size [.int .i64 1, .int .i64 0, .int .i64 0, .int .i64 0, .int .i64 1, .int .i64 0, .int .i64 0, .int .i64 0, .int .i64 1] := by rw [hW2]; exact Blk.new _ _ _ _ rfl
  have B2 : Below v.heap.size v W := by rw [hW2]; (repeat (first | exact Below.refl _ _ | assumption | (refine Below.setCell ?_ (by first | (simp; done) | (simp; omega) | omega) _) | (refine Below.drew ?_) | (refine below_drewN ?_ _) | (refine Below.alloc ?_ (by first | (simp; done) | (simp; omega) | omega) _) | (refine Below.trans ?_ (Below.mono (by assumption) (by first | (simp; done) | (simp; omega) | omega)))))
  have HR2 := Lib.hid (HR.out.past B2); have HT2 := Lib.hid TB
  clear hW2 TB B2 HR
  have HLT := Lib.hid HLT0.out
  clear HLT0
  generalize v.heap.size = nt at *
  go_loopw [21] (fun s21 wt => ∃ q : Nat, q ≤ 3 ∧ s21 = .int .i64 q ∧ RoR w wt [.int .i64 S, .float .f32 lo, .float .f32 hi, .slice (some ⟨b, off, none⟩) n cap] (Nat.max W0 (mostF (roC S fc (enI S i j k)) q)) ∧ Blk wt nt [.int .i64 1, .int .i64 0, .int .i64 0, .int .i64 0, .int .i64 1, .int .i64 0, .int .i64 0, .int .i64 0, .int .i64 1]) (fun s21 _ => 3 - (intOf s21).toNat)
  case atStart => exact ⟨0, by omega, rfl, by rw [show mostF (roC S fc (enI S i j k)) 0 = 0 from rfl, show Nat.max W0 0 = W0 from Nat.max_zero _]; exact HR2.out, HT2.out⟩
  case round =>
    obtain ⟨q, hq, rfl, hR, hT⟩ := hrel
    have HR3 := Lib.hid hR; have HT3 := Lib.hid hT
    clear hR hT HR2 HT2
    by_cases hq3 : q < 3
    · rcases (show q = 0 ∨ q = 1 ∨ q = 2 by omega) with rfl | rfl | rfl
      · rw [show ((0 : Nat) : Int) = 0 from rfl]
        have t0 := HT3.out.c 0 _ rfl; have t1 := HT3.out.c 1 _ rfl; have t2 := HT3.out.c 2 _ rfl; have tl := HT3.out.lt
        have hcd : enI S i j k / S ^ 0 % S = i := by rw [Nat.pow_zero, Nat.div_one, HI.out.1]
        go_upto_region 3 with fail
        refine wp_world (fun W4 hW4 => ?_)
        have AB : Blk W4 wr.heap.size [.int .i64 1, .int .i64 0, .int .i64 0] := by rw [hW4]; first | exact Blk.new _ _ _ _ rfl | exact (((Blk.new _ _ _ _ rfl).set 0 _).set 1 _).set 2 _
        have B4 : Below wr.heap.size wr W4 := by rw [hW4]; (repeat (first | exact Below.refl _ _ | assumption | (refine Below.setCell ?_ (by first | (simp; done) | (simp; omega) | omega) _) | (refine Below.drew ?_) | (refine below_drewN ?_ _) | (refine Below.alloc ?_ (by first | (simp; done) | (simp; omega) | omega) _) | (refine Below.trans ?_ (Below.mono (by assumption) (by first | (simp; done) | (simp; omega) | omega)))))
        have HR4 := Lib.hid (HR3.out.past B4); have HT4 := Lib.hid (HT3.out.past B4); have HA4 := Lib.hid AB
        have a0 := AB.c 0 _ rfl; have a1 := AB.c 1 _ rfl; have a2 := AB.c 2 _ rfl; have al := AB.lt
        have c0 := HR4.out.a.c 0 _ rfl; have c1 := HR4.out.a.c 1 _ rfl; have c2 := HR4.out.a.c 2 _ rfl; have c3 := HR4.out.a.c 3 _ rfl; have cl := HR4.out.a.lt
        clear hW4 B4 AB HR3 HT3 t0 t1 t2 tl
        by_cases hO : i + 1 = S
        · have u : IntKind.i64.wrap ((i : Int) + 1) = (S : Int) := by rw [IntKind.wrap_i64]; omega
          have HZ := Lib.hid (show roC S fc (enI S i j k) 0 = 0 by unfold roC; rw [hcd, if_neg (by omega)])
          clear hcd
          go_wp2_with fail
          go_roundw
          case rel => exact ⟨0 + 1, by omega, by first | rfl | go_num, by rw [most_skip HZ.out]; exact HR4.out, HT4.out⟩
          case measure => simp [intOf]
        · obtain ⟨X, hX⟩ : ∃ X : Nat, X = i + 1 := ⟨_, rfl⟩
          have u : IntKind.i64.wrap ((i : Int) + 1) = (X : Int) := by rw [IntKind.wrap_i64]; omega
          have hXlt : X < S := by omega
          have nX : ((X : Int) == (S : Int)) = false := by rw [beq_eq_false_iff_ne]; omega
          have hEn : enI S X j k = enI S i j k + S ^ 0 := by rw [hX]; exact en_x S i j k
          obtain ⟨N, hN⟩ : ∃ N, N = enI S i j k := ⟨_, rfl⟩
          rw [← hN] at hEn hcd
          obtain ⟨N2, hN2⟩ : ∃ N2, N2 = N + S ^ 0 := ⟨_, rfl⟩
          have HZ := Lib.hid (show roC S fc N 0 = mostF (fun m => gapF (fc (3 * N + m)) (fc (3 * N2 + m))) 3 by unfold roC; rw [hcd, if_pos (by omega), hN2])
          have HNN := Lib.hid (And.intro hN (hEn.trans hN2.symm))
          obtain ⟨acc, hacc⟩ : ∃ acc, acc = Nat.max W0 (mostF (roC S fc N) 0) := ⟨_, rfl⟩
          have haccM : acc ≤ 2139095040 := by rw [hacc]; exact Nat.max_le.2 ⟨hW, mostF_le (roC_le S fc N) _⟩
          have HR4 : Hid (RoR w W4 [.int .i64 S, .float .f32 lo, .float .f32 hi, .slice (some ⟨b, off, none⟩) n cap] acc) := Lib.hid (by rw [hacc, hN]; exact HR4.out)
          have HACC := Lib.hid hacc
          clear hX hN hN2 hEn hcd hacc hO
          go_upto_region 4 with fail
          refine wp_region_looseM 21 (EnPsi S fc) [(19, 12, .cells #[.float .f32 0, .float .f32 0, .float .f32 0] 58), (20, 13, .cells #[.float .f32 0, .float .f32 0, .float .f32 0] 58)] (by kernel_rfl) (by kernel_rfl) (by kernel_rfl) (by intro m hm; simp at hm; rcases hm with rfl | rfl <;> exact ⟨_, rfl, ⟨rfl, rfl, fun ev w => by kernel_rfl⟩⟩) (by intro m hm; simp at hm; rcases hm with rfl | rfl <;> exact of_decide_eq_true (by kernel_rfl)) ?_
          simp only [List.take_succ_cons, List.take_zero, List.drop_succ_cons, List.drop_zero]
          iterate 4 (refine looseM_wanted rfl (fun K hK => ?_); go_simp; refine hK _ ?_; clear hK K)
          refine looseM_wanted rfl (fun K1 hK => ?_)
          go_simp
          refine ⟨fun p => (HE.out i j k p.w h1 h2 h3 (HR4.out.w.trans (p.h.mono HR4.out.w.size))).mono ?_, ?_⟩
          · rintro e w' ⟨rfl, hb⟩
            exact ⟨_, rfl, en_psi.2 rfl, hb⟩
          intro u0 hu
          obtain rfl := en_psi.1 hu
          refine hK _ ?_
          clear hK K1 hu
          iterate 13 (refine looseM_wanted rfl (fun K hK => ?_); go_simp; refine hK _ ?_; clear hK K)
          refine looseM_wanted rfl (fun K1 hK => ?_)
          go_simp
          refine ⟨fun p => (HE.out X j k p.w (by omega) (by omega) (by omega) (HR4.out.w.trans (p.h.mono HR4.out.w.size))).mono ?_, ?_⟩
          · rintro e w' ⟨rfl, hb⟩
            exact ⟨_, rfl, en_psi.2 rfl, hb⟩
          intro u0 hu
          obtain rfl := en_psi.1 hu
          refine hK _ ?_
          clear hK K1 hu
          refine looseM_lays (d := 12) (blk := .cells #[.float .f32 0, .float .f32 0, .float .f32 0] 58) ⟨rfl, rfl, fun ev w => by kernel_rfl⟩ (fun ga hga => ?_)
          refine looseM_lays (d := 13) (blk := .cells #[.float .f32 0, .float .f32 0, .float .f32 0] 58) ⟨rfl, rfl, fun ev w => by kernel_rfl⟩ (fun gb hgb => ?_)
          refine looseM_nil (fun w5 hb5 hg2 hne2 => ?_)
          obtain ⟨ga', e1, hA⟩ := hg2 _ (List.Mem.head _)
          obtain rfl : ga = ga' := by cases e1; rfl
          obtain ⟨gb', e2, hB⟩ := hg2 _ (List.Mem.tail _ (List.Mem.head _))
          obtain rfl : gb = gb' := by cases e2; rfl
          have hab : gb ≠ ga := fun h => hne2 _ (List.Mem.head _) _ (List.Mem.tail _ (List.Mem.head _)) (by decide) (by rw [e1, e2, h])
          clear hg2 hne2 e1 e2
          rw [← HNN.out.1, HNN.out.2]
          have GA : Blk w5 ga [.float .f32 0, .float .f32 0, .float .f32 0] := ⟨(Array.getElem?_eq_some_iff.1 hA).1, fun i v hv => by simp [World.cell?, hA, hv], fun o => by simp [World.frozen?, hA]⟩
          have GB : Blk w5 gb [.float .f32 0, .float .f32 0, .float .f32 0] := ⟨(Array.getElem?_eq_some_iff.1 hB).1, fun i v hv => by simp [World.cell?, hB, hv], fun o => by simp [World.frozen?, hB]⟩
          have R5 := HR4.out.past hb5; have T5 := HT4.out.past hb5
          have lA : w.heap.size + 1 < ga := by have := HR4.out.m.lt; omega
          have lB : w.heap.size + 1 < gb := by have := HR4.out.m.lt; omega
          have lT : nt < ga := by have := HT4.out.lt; omega
          have lU : nt < gb := by have := HT4.out.lt; omega
          have HR5 := Lib.hid R5; have HT5 := Lib.hid T5; have HGA := Lib.hid GA; have HGB := Lib.hid GB
          have g0 := GA.c 0 _ rfl; have g1 := GA.c 1 _ rfl; have g2 := GA.c 2 _ rfl; have gf := GA.f; have gl := GA.lt
          have k0 := GB.c 0 _ rfl; have k1 := GB.c 1 _ rfl; have k2 := GB.c 2 _ rfl; have kf := GB.f; have kl := GB.lt
          clear a0 a1 a2 al c0 c1 c2 c3 cl hA hB hb5 hga hgb R5 T5 GA GB HR4 HT4 HA4
          go_upto_region 5 with fail
          refine wp_world (fun W6 hW6 => ?_)
          have hba : ga ≠ gb := fun h => hab h.symm
          have FA : VecF W6 ga 3 (fun m => cn .f32 (fc (3 * N + m))) := by rw [hW6]; exact VecF.of3 ((((((HGA.out.set 0 _).set 1 _).set 2 _).far _ _ (by simpa using hab)).far _ _ (by simpa using hab)).far _ _ (by simpa using hab))
          have FB : VecF W6 gb 3 (fun m => cn .f32 (fc (3 * N2 + m))) := by rw [hW6]; exact VecF.of3 ((((((HGB.out.far _ _ (by simpa using hba)).far _ _ (by simpa using hba)).far _ _ (by simpa using hba)).set 0 _).set 1 _).set 2 _)
          have R6 : RoR w W6 [.int .i64 S, .float .f32 lo, .float .f32 hi, .slice (some ⟨b, off, none⟩) n cap] acc := by
            rw [hW6]
            have K := HR5.out
            exact ⟨((((((K.a.far _ _ (by simp; omega)).far _ _ (by simp; omega)).far _ _ (by simp; omega)).far _ _ (by simp; omega)).far _ _ (by simp; omega)).far _ _ (by simp; omega)), ((((((K.m.far _ _ (by simp; omega)).far _ _ (by simp; omega)).far _ _ (by simp; omega)).far _ _ (by simp; omega)).far _ _ (by simp; omega)).far _ _ (by simp; omega)), (((((K.w.setCell (by simp; omega) _).setCell (by simp; omega) _).setCell (by simp; omega) _).setCell (by simp; omega) _).setCell (by simp; omega) _).setCell (by simp; omega) _⟩
          have T6 : Blk W6 nt [.int .i64 1, .int .i64 0, .int .i64 0, .int .i64 0, .int .i64 1, .int .i64 0, .int .i64 0, .int .i64 0, .int .i64 1] := by rw [hW6]; exact ((((((HT5.out.far _ _ (by simp; omega)).far _ _ (by simp; omega)).far _ _ (by simp; omega)).far _ _ (by simp; omega)).far _ _ (by simp; omega)).far _ _ (by simp; omega))
          have H6 := Lib.hid (And.intro R6 (And.intro T6 (And.intro FA FB)))
          clear hW6 FA FB R6 T6 g0 g1 g2 gf gl k0 k1 k2 kf kl HR5 HT5 HGA HGB hba
          obtain ⟨g, hg⟩ : ∃ g, g = (fun m => gapF (fc (3 * N + m)) (fc (3 * N2 + m))) := ⟨_, rfl⟩
          rw [← hg] at HZ
          have HG := Lib.hid (And.intro (fun m => by rw [hg] : ∀ m, g m = gapF (fc (3 * N + m)) (fc (3 * N2 + m))) (fun m => by rw [hg]; exact gapF_le _ _ : ∀ m, g m ≤ 2139095040))
          clear hg
          go_wp2_with fail
          go_loopw [69] (fun s69 wy => ∃ m : Nat, m ≤ 3 ∧ s69 = .int .i64 m ∧ RoR w wy [.int .i64 S, .float .f32 lo, .float .f32 hi, .slice (some ⟨b, off, none⟩) n cap] (Nat.max acc (mostF g m)) ∧ Blk wy nt [.int .i64 1, .int .i64 0, .int .i64 0, .int .i64 0, .int .i64 1, .int .i64 0, .int .i64 0, .int .i64 0, .int .i64 1] ∧ VecF wy ga 3 (fun m => cn .f32 (fc (3 * N + m))) ∧ VecF wy gb 3 (fun m => cn .f32 (fc (3 * N2 + m)))) (fun s69 _ => 3 - (intOf s69).toNat)
          case atStart => exact ⟨0, by omega, rfl, by rw [show mostF g 0 = 0 from rfl, show Nat.max acc 0 = acc from Nat.max_zero _]; exact H6.out.1, H6.out.2⟩
          case round =>
            obtain ⟨m, hm, rfl, hR, hT, hFA, hFB⟩ := hrel
            have H7 := Lib.hid (And.intro hR (And.intro hT (And.intro hFA hFB)))
            clear hR hT hFA hFB H6
            by_cases hm3 : m < 3
            · have hmi : (m : Int) < 3 := by omega
              have p0 := H7.out.2.2.1.c m hm3; have q0 := H7.out.2.2.2.c m hm3
              have pl := H7.out.2.2.1.lt; have ql := H7.out.2.2.2.lt
              obtain ⟨va, hva⟩ : ∃ z, z = cn .f32 (fc (3 * N + m)) := ⟨_, rfl⟩
              obtain ⟨vb, hvb⟩ : ∃ z, z = cn .f32 (fc (3 * N2 + m)) := ⟨_, rfl⟩
              rw [← hva] at p0; rw [← hvb] at q0
              have hgm : gapF va vb = g m := by rw [hva, hvb, gapF_cn, HG.out.1]
              obtain ⟨mx, hmx⟩ : ∃ mx, mx = Nat.max acc (mostF g m) := ⟨_, rfl⟩
              have hmxM : mx ≤ 2139095040 := by rw [hmx]; exact Nat.max_le.2 ⟨haccM, mostF_le HG.out.2 _⟩
              have HX := Lib.hid (show Nat.max mx (gapF va vb) = Nat.max acc (mostF g (m + 1)) by rw [hmx, hgm]; exact most_take)
              have H7 : Hid (RoR w wr [.int .i64 S, .float .f32 lo, .float .f32 hi, .slice (some ⟨b, off, none⟩) n cap] mx ∧ Blk wr nt [.int .i64 1, .int .i64 0, .int .i64 0, .int .i64 0, .int .i64 1, .int .i64 0, .int .i64 0, .int .i64 0, .int .i64 1] ∧ VecF wr ga 3 (fun m => cn .f32 (fc (3 * N + m))) ∧ VecF wr gb 3 (fun m => cn .f32 (fc (3 * N2 + m)))) := Lib.hid (by rw [hmx]; exact H7.out)
              clear hva hvb hgm hmx
              go_upto_region 8 with fail
              refine wp_region_loose 7 (fun _ args u => u = .float .f32 (gapF (argF args 0) (argF args 1))) (by kernel_rfl) (by kernel_rfl) ?_
              simp only [List.take_succ_cons, List.take_zero, List.drop_succ_cons, List.drop_zero]
              iterate 6 (refine loose_wanted rfl (fun K hK => ?_); go_simp; refine hK _ ?_; clear hK K)
              refine loose_wanted rfl (fun K1 hK => ?_)
              go_simp
              refine ⟨fun p => (gapOf_any _ _ p.w).mono ?_, ?_⟩
              · rintro e w' ⟨rfl, m, rfl⟩
                exact ⟨_, rfl, by first | rfl | simp, below_drewN p.h m⟩
              refine hK _ ?_
              clear hK K1
              refine loose_nil (fun w8 hb8 => ?_)
              have H8 := Lib.hid (And.intro (H7.out.1.past hb8) (And.intro (H7.out.2.1.past hb8) (And.intro (H7.out.2.2.1.past hb8) (H7.out.2.2.2.past hb8))))
              clear hb8 p0 q0 pl ql H7
              have m0 := H8.out.1.m.c 0 _ rfl; have mf := H8.out.1.m.f; have ml := H8.out.1.m.lt
              have ho := ord_pos (gapF_le va vb) hmxM
              by_cases hl : mx < gapF va vb
              · rw [decide_eq_true hl] at ho
                have HY := Lib.hid ((max_pick _ _ hl).symm.trans HX.out)
                clear hl
                go_wp2_with fail
                go_roundw
                case rel =>
                  refine ⟨m + 1, by omega, by go_num, by rw [← HY.out]; exact H8.out.1.set _, H8.out.2.1.far _ _ (by have := HLT.out; simp; omega), H8.out.2.2.1.far _ _ (by simp; omega), H8.out.2.2.2.far _ _ (by simp; omega)⟩
                case measure => simp [intOf]; omega
              · rw [decide_eq_false hl] at ho
                have HY := Lib.hid ((max_keep _ _ hl).symm.trans HX.out)
                clear hl
                go_wp2_with fail
                go_roundw
                case rel => exact ⟨m + 1, by omega, by go_num, by rw [← HY.out]; exact H8.out.1, H8.out.2⟩
                case measure => simp [intOf]; omega
            · obtain rfl : m = 3 := by omega
              go_wp2_with fail
              go_roundw
              case rel => exact ⟨0 + 1, by omega, by first | rfl | go_num, by rw [← HNN.out.1, ← most_take, HZ.out, ← HACC.out]; exact H7.out.1, H7.out.2.1⟩
              case measure => simp [intOf]
      · rw [show ((1 : Nat) : Int) = 1 from rfl]
        have t0 := HT3.out.c 3 _ rfl; have t1 := HT3.out.c 4 _ rfl; have t2 := HT3.out.c 5 _ rfl; have tl := HT3.out.lt
        have hcd : enI S i j k / S ^ 1 % S = j := by rw [Nat.pow_one, HI.out.2.1]
        go_upto_region 3 with fail
        refine wp_world (fun W4 hW4 => ?_)
        have AB : Blk W4 wr.heap.size [.int .i64 0, .int .i64 1, .int .i64 0] := by rw [hW4]; first | exact Blk.new _ _ _ _ rfl | exact (((Blk.new _ _ _ _ rfl).set 0 _).set 1 _).set 2 _
        have B4 : Below wr.heap.size wr W4 := by rw [hW4]; (repeat (first | exact Below.refl _ _ | assumption | (refine Below.setCell ?_ (by first | (simp; done) | (simp; omega) | omega) _) | (refine Below.drew ?_) | (refine below_drewN ?_ _) | (refine Below.alloc ?_ (by first | (simp; done) | (simp; omega) | omega) _) | (refine Below.trans ?_ (Below.mono (by assumption) (by first | (simp; done) | (simp; omega) | omega)))))
        have HR4 := Lib.hid (HR3.out.past B4); have HT4 := Lib.hid (HT3.out.past B4); have HA4 := Lib.hid AB
        have a0 := AB.c 0 _ rfl; have a1 := AB.c 1 _ rfl; have a2 := AB.c 2 _ rfl; have al := AB.lt
        have c0 := HR4.out.a.c 0 _ rfl; have c1 := HR4.out.a.c 1 _ rfl; have c2 := HR4.out.a.c 2 _ rfl; have c3 := HR4.out.a.c 3 _ rfl; have cl := HR4.out.a.lt
        clear hW4 B4 AB HR3 HT3 t0 t1 t2 tl
        by_cases hO : j + 1 = S
        · have u : IntKind.i64.wrap ((j : Int) + 1) = (S : Int) := by rw [IntKind.wrap_i64]; omega
          have HZ := Lib.hid (show roC S fc (enI S i j k) 1 = 0 by unfold roC; rw [hcd, if_neg (by omega)])
          clear hcd
          go_wp2_with fail
          go_roundw
          case rel => exact ⟨1 + 1, by omega, by first | rfl | go_num, by rw [most_skip HZ.out]; exact HR4.out, HT4.out⟩
          case measure => simp [intOf]
        · obtain ⟨X, hX⟩ : ∃ X : Nat, X = j + 1 := ⟨_, rfl⟩
          have u : IntKind.i64.wrap ((j : Int) + 1) = (X : Int) := by rw [IntKind.wrap_i64]; omega
          have hXlt : X < S := by omega
          have nX : ((X : Int) == (S : Int)) = false := by rw [beq_eq_false_iff_ne]; omega
          have hEn : enI S i X k = enI S i j k + S ^ 1 := by rw [hX]; exact en_y S i j k
          obtain ⟨N, hN⟩ : ∃ N, N = enI S i j k := ⟨_, rfl⟩
          rw [← hN] at hEn hcd
          obtain ⟨N2, hN2⟩ : ∃ N2, N2 = N + S ^ 1 := ⟨_, rfl⟩
          have HZ := Lib.hid (show roC S fc N 1 = mostF (fun m => gapF (fc (3 * N + m)) (fc (3 * N2 + m))) 3 by unfold roC; rw [hcd, if_pos (by omega), hN2])
          have HNN := Lib.hid (And.intro hN (hEn.trans hN2.symm))
          obtain ⟨acc, hacc⟩ : ∃ acc, acc = Nat.max W0 (mostF (roC S fc N) 1) := ⟨_, rfl⟩
          have haccM : acc ≤ 2139095040 := by rw [hacc]; exact Nat.max_le.2 ⟨hW, mostF_le (roC_le S fc N) _⟩
          have HR4 : Hid (RoR w W4 [.int .i64 S, .float .f32 lo, .float .f32 hi, .slice (some ⟨b, off, none⟩) n cap] acc) := Lib.hid (by rw [hacc, hN]; exact HR4.out)
          have HACC := Lib.hid hacc
          clear hX hN hN2 hEn hcd hacc hO
          go_upto_region 4 with fail
          refine wp_region_looseM 21 (EnPsi S fc) [(19, 12, .cells #[.float .f32 0, .float .f32 0, .float .f32 0] 58), (20, 13, .cells #[.float .f32 0, .float .f32 0, .float .f32 0] 58)] (by kernel_rfl) (by kernel_rfl) (by kernel_rfl) (by intro m hm; simp at hm; rcases hm with rfl | rfl <;> exact ⟨_, rfl, ⟨rfl, rfl, fun ev w => by kernel_rfl⟩⟩) (by intro m hm; simp at hm; rcases hm with rfl | rfl <;> exact of_decide_eq_true (by kernel_rfl)) ?_
          simp only [List.take_succ_cons, List.take_zero, List.drop_succ_cons, List.drop_zero]
          iterate 4 (refine looseM_wanted rfl (fun K hK => ?_); go_simp; refine hK _ ?_; clear hK K)
          refine looseM_wanted rfl (fun K1 hK => ?_)
          go_simp
          refine ⟨fun p => (HE.out i j k p.w h1 h2 h3 (HR4.out.w.trans (p.h.mono HR4.out.w.size))).mono ?_, ?_⟩
          · rintro e w' ⟨rfl, hb⟩
            exact ⟨_, rfl, en_psi.2 rfl, hb⟩
          intro u0 hu
          obtain rfl := en_psi.1 hu
          refine hK _ ?_
          clear hK K1 hu
          iterate 13 (refine looseM_wanted rfl (fun K hK => ?_); go_simp; refine hK _ ?_; clear hK K)
          refine looseM_wanted rfl (fun K1 hK => ?_)
          go_simp
          refine ⟨fun p => (HE.out i X k p.w (by omega) (by omega) (by omega) (HR4.out.w.trans (p.h.mono HR4.out.w.size))).mono ?_, ?_⟩
          · rintro e w' ⟨rfl, hb⟩
            exact ⟨_, rfl, en_psi.2 rfl, hb⟩
          intro u0 hu
          obtain rfl := en_psi.1 hu
          refine hK _ ?_
          clear hK K1 hu
          refine looseM_lays (d := 12) (blk := .cells #[.float .f32 0, .float .f32 0, .float .f32 0] 58) ⟨rfl, rfl, fun ev w => by kernel_rfl⟩ (fun ga hga => ?_)
          refine looseM_lays (d := 13) (blk := .cells #[.float .f32 0, .float .f32 0, .float .f32 0] 58) ⟨rfl, rfl, fun ev w => by kernel_rfl⟩ (fun gb hgb => ?_)
          refine looseM_nil (fun w5 hb5 hg2 hne2 => ?_)
          obtain ⟨ga', e1, hA⟩ := hg2 _ (List.Mem.head _)
          obtain rfl : ga = ga' := by cases e1; rfl
          obtain ⟨gb', e2, hB⟩ := hg2 _ (List.Mem.tail _ (List.Mem.head _))
          obtain rfl : gb = gb' := by cases e2; rfl
          have hab : gb ≠ ga := fun h => hne2 _ (List.Mem.head _) _ (List.Mem.tail _ (List.Mem.head _)) (by decide) (by rw [e1, e2, h])
          clear hg2 hne2 e1 e2
          rw [← HNN.out.1, HNN.out.2]
          have GA : Blk w5 ga [.float .f32 0, .float .f32 0, .float .f32 0] := ⟨(Array.getElem?_eq_some_iff.1 hA).1, fun i v hv => by simp [World.cell?, hA, hv], fun o => by simp [World.frozen?, hA]⟩
          have GB : Blk w5 gb [.float .f32 0, .float .f32 0, .float .f32 0] := ⟨(Array.getElem?_eq_some_iff.1 hB).1, fun i v hv => by simp [World.cell?, hB, hv], fun o => by simp [World.frozen?, hB]⟩
          have R5 := HR4.out.past hb5; have T5 := HT4.out.past hb5
          have lA : w.heap.size + 1 < ga := by have := HR4.out.m.lt; omega
          have lB : w.heap.size + 1 < gb := by have := HR4.out.m.lt; omega
          have lT : nt < ga := by have := HT4.out.lt; omega
          have lU : nt < gb := by have := HT4.out.lt; omega
          have HR5 := Lib.hid R5; have HT5 := Lib.hid T5; have HGA := Lib.hid GA; have HGB := Lib.hid GB
          have g0 := GA.c 0 _ rfl; have g1 := GA.c 1 _ rfl; have g2 := GA.c 2 _ rfl; have gf := GA.f; have gl := GA.lt
          have k0 := GB.c 0 _ rfl; have k1 := GB.c 1 _ rfl; have k2 := GB.c 2 _ rfl; have kf := GB.f; have kl := GB.lt
          clear a0 a1 a2 al c0 c1 c2 c3 cl hA hB hb5 hga hgb R5 T5 GA GB HR4 HT4 HA4
          go_upto_region 5 with fail
          refine wp_world (fun W6 hW6 => ?_)
          have hba : ga ≠ gb := fun h => hab h.symm
          have FA : VecF W6 ga 3 (fun m => cn .f32 (fc (3 * N + m))) := by rw [hW6]; exact VecF.of3 ((((((HGA.out.set 0 _).set 1 _).set 2 _).far _ _ (by simpa using hab)).far _ _ (by simpa using hab)).far _ _ (by simpa using hab))
          have FB : VecF W6 gb 3 (fun m => cn .f32 (fc (3 * N2 + m))) := by rw [hW6]; exact VecF.of3 ((((((HGB.out.far _ _ (by simpa using hba)).far _ _ (by simpa using hba)).far _ _ (by simpa using hba)).set 0 _).set 1 _).set 2 _)
          have R6 : RoR w W6 [.int .i64 S, .float .f32 lo, .float .f32 hi, .slice (some ⟨b, off, none⟩) n cap] acc := by
            rw [hW6]
            have K := HR5.out
            exact ⟨((((((K.a.far _ _ (by simp; omega)).far _ _ (by simp; omega)).far _ _ (by simp; omega)).far _ _ (by simp; omega)).far _ _ (by simp; omega)).far _ _ (by simp; omega)), ((((((K.m.far _ _ (by simp; omega)).far _ _ (by simp; omega)).far _ _ (by simp; omega)).far _ _ (by simp; omega)).far _ _ (by simp; omega)).far _ _ (by simp; omega)), (((((K.w.setCell (by simp; omega) _).setCell (by simp; omega) _).setCell (by simp; omega) _).setCell (by simp; omega) _).setCell (by simp; omega) _).setCell (by simp; omega) _⟩
          have T6 : Blk W6 nt [.int .i64 1, .int .i64 0, .int .i64 0, .int .i64 0, .int .i64 1, .int .i64 0, .int .i64 0, .int .i64 0, .int .i64 1] := by rw [hW6]; exact ((((((HT5.out.far _ _ (by simp; omega)).far _ _ (by simp; omega)).far _ _ (by simp; omega)).far _ _ (by simp; omega)).far _ _ (by simp; omega)).far _ _ (by simp; omega))
          have H6 := Lib.hid (And.intro R6 (And.intro T6 (And.intro FA FB)))
          clear hW6 FA FB R6 T6 g0 g1 g2 gf gl k0 k1 k2 kf kl HR5 HT5 HGA HGB hba
          obtain ⟨g, hg⟩ : ∃ g, g = (fun m => gapF (fc (3 * N + m)) (fc (3 * N2 + m))) := ⟨_, rfl⟩
          rw [← hg] at HZ
          have HG := Lib.hid (And.intro (fun m => by rw [hg] : ∀ m, g m = gapF (fc (3 * N + m)) (fc (3 * N2 + m))) (fun m => by rw [hg]; exact gapF_le _ _ : ∀ m, g m ≤ 2139095040))
          clear hg
          go_wp2_with fail
          go_loopw [69] (fun s69 wy => ∃ m : Nat, m ≤ 3 ∧ s69 = .int .i64 m ∧ RoR w wy [.int .i64 S, .float .f32 lo, .float .f32 hi, .slice (some ⟨b, off, none⟩) n cap] (Nat.max acc (mostF g m)) ∧ Blk wy nt [.int .i64 1, .int .i64 0, .int .i64 0, .int .i64 0, .int .i64 1, .int .i64 0, .int .i64 0, .int .i64 0, .int .i64 1] ∧ VecF wy ga 3 (fun m => cn .f32 (fc (3 * N + m))) ∧ VecF wy gb 3 (fun m => cn .f32 (fc (3 * N2 + m)))) (fun s69 _ => 3 - (intOf s69).toNat)
          case atStart => exact ⟨0, by omega, rfl, by rw [show mostF g 0 = 0 from rfl, show Nat.max acc 0 = acc from Nat.max_zero _]; exact H6.out.1, H6.out.2⟩
          case round =>
            obtain ⟨m, hm, rfl, hR, hT, hFA, hFB⟩ := hrel
            have H7 := Lib.hid (And.intro hR (And.intro hT (And.intro hFA hFB)))
            clear hR hT hFA hFB H6
            by_cases hm3 : m < 3
            · have hmi : (m : Int) < 3 := by omega
              have p0 := H7.out.2.2.1.c m hm3; have q0 := H7.out.2.2.2.c m hm3
              have pl := H7.out.2.2.1.lt; have ql := H7.out.2.2.2.lt
              obtain ⟨va, hva⟩ : ∃ z, z = cn .f32 (fc (3 * N + m)) := ⟨_, rfl⟩
              obtain ⟨vb, hvb⟩ : ∃ z, z = cn .f32 (fc (3 * N2 + m)) := ⟨_, rfl⟩
              rw [← hva] at p0; rw [← hvb] at q0
              have hgm : gapF va vb = g m := by rw [hva, hvb, gapF_cn, HG.out.1]
              obtain ⟨mx, hmx⟩ : ∃ mx, mx = Nat.max acc (mostF g m) := ⟨_, rfl⟩
              have hmxM : mx ≤ 2139095040 := by rw [hmx]; exact Nat.max_le.2 ⟨haccM, mostF_le HG.out.2 _⟩
              have HX := Lib.hid (show Nat.max mx (gapF va vb) = Nat.max acc (mostF g (m + 1)) by rw [hmx, hgm]; exact most_take)
              have H7 : Hid (RoR w wr [.int .i64 S, .float .f32 lo, .float .f32 hi, .slice (some ⟨b, off, none⟩) n cap] mx ∧ Blk wr nt [.int .i64 1, .int .i64 0, .int .i64 0, .int .i64 0, .int .i64 1, .int .i64 0, .int .i64 0, .int .i64 0, .int .i64 1] ∧ VecF wr ga 3 (fun m => cn .f32 (fc (3 * N + m))) ∧ VecF wr gb 3 (fun m => cn .f32 (fc (3 * N2 + m)))) := Lib.hid (by rw [hmx]; exact H7.out)
              clear hva hvb hgm hmx
              go_upto_region 8 with fail
              refine wp_region_loose 7 (fun _ args u => u = .float .f32 (gapF (argF args 0) (argF args 1))) (by kernel_rfl) (by kernel_rfl) ?_
              simp only [List.take_succ_cons, List.take_zero, List.drop_succ_cons, List.drop_zero]
              iterate 6 (refine loose_wanted rfl (fun K hK => ?_); go_simp; refine hK _ ?_; clear hK K)
              refine loose_wanted rfl (fun K1 hK => ?_)
              go_simp
              refine ⟨fun p => (gapOf_any _ _ p.w).mono ?_, ?_⟩
              · rintro e w' ⟨rfl, m, rfl⟩
                exact ⟨_, rfl, by first | rfl | simp, below_drewN p.h m⟩
              refine hK _ ?_
              clear hK K1
              refine loose_nil (fun w8 hb8 => ?_)
              have H8 := Lib.hid (And.intro (H7.out.1.past hb8) (And.intro (H7.out.2.1.past hb8) (And.intro (H7.out.2.2.1.past hb8) (H7.out.2.2.2.past hb8))))
              clear hb8 p0 q0 pl ql H7
              have m0 := H8.out.1.m.c 0 _ rfl; have mf := H8.out.1.m.f; have ml := H8.out.1.m.lt
              have ho := ord_pos (gapF_le va vb) hmxM
              by_cases hl : mx < gapF va vb
              · rw [decide_eq_true hl] at ho
                have HY := Lib.hid ((max_pick _ _ hl).symm.trans HX.out)
                clear hl
                go_wp2_with fail
                go_roundw
                case rel =>
                  refine ⟨m + 1, by omega, by go_num, by rw [← HY.out]; exact H8.out.1.set _, H8.out.2.1.far _ _ (by have := HLT.out; simp; omega), H8.out.2.2.1.far _ _ (by simp; omega), H8.out.2.2.2.far _ _ (by simp; omega)⟩
                case measure => simp [intOf]; omega
              · rw [decide_eq_false hl] at ho
                have HY := Lib.hid ((max_keep _ _ hl).symm.trans HX.out)
                clear hl
                go_wp2_with fail
                go_roundw
                case rel => exact ⟨m + 1, by omega, by go_num, by rw [← HY.out]; exact H8.out.1, H8.out.2⟩
                case measure => simp [intOf]; omega
            · obtain rfl : m = 3 := by omega
              go_wp2_with fail
              go_roundw
              case rel => exact ⟨1 + 1, by omega, by first | rfl | go_num, by rw [← HNN.out.1, ← most_take, HZ.out, ← HACC.out]; exact H7.out.1, H7.out.2.1⟩
              case measure => simp [intOf]
      · rw [show ((2 : Nat) : Int) = 2 from rfl]
        have t0 := HT3.out.c 6 _ rfl; have t1 := HT3.out.c 7 _ rfl; have t2 := HT3.out.c 8 _ rfl; have tl := HT3.out.lt
        have hcd : enI S i j k / S ^ 2 % S = k := by rw [show S ^ 2 = S * S by simp [Nat.pow_succ], ← Nat.div_div_eq_div_mul, HI.out.2.2, Nat.mod_eq_of_lt h3]
        go_upto_region 3 with fail
        refine wp_world (fun W4 hW4 => ?_)
        have AB : Blk W4 wr.heap.size [.int .i64 0, .int .i64 0, .int .i64 1] := by rw [hW4]; first | exact Blk.new _ _ _ _ rfl | exact (((Blk.new _ _ _ _ rfl).set 0 _).set 1 _).set 2 _
        have B4 : Below wr.heap.size wr W4 := by rw [hW4]; (repeat (first | exact Below.refl _ _ | assumption | (refine Below.setCell ?_ (by first | (simp; done) | (simp; omega) | omega) _) | (refine Below.drew ?_) | (refine below_drewN ?_ _) | (refine Below.alloc ?_ (by first | (simp; done) | (simp; omega) | omega) _) | (refine Below.trans ?_ (Below.mono (by assumption) (by first | (simp; done) | (simp; omega) | omega)))))
        have HR4 := Lib.hid (HR3.out.past B4); have HT4 := Lib.hid (HT3.out.past B4); have HA4 := Lib.hid AB
        have a0 := AB.c 0 _ rfl; have a1 := AB.c 1 _ rfl; have a2 := AB.c 2 _ rfl; have al := AB.lt
        have c0 := HR4.out.a.c 0 _ rfl; have c1 := HR4.out.a.c 1 _ rfl; have c2 := HR4.out.a.c 2 _ rfl; have c3 := HR4.out.a.c 3 _ rfl; have cl := HR4.out.a.lt
        clear hW4 B4 AB HR3 HT3 t0 t1 t2 tl
        by_cases hO : k + 1 = S
        · have u : IntKind.i64.wrap ((k : Int) + 1) = (S : Int) := by rw [IntKind.wrap_i64]; omega
          have HZ := Lib.hid (show roC S fc (enI S i j k) 2 = 0 by unfold roC; rw [hcd, if_neg (by omega)])
          clear hcd
          go_wp2_with fail
          go_roundw
          case rel => exact ⟨2 + 1, by omega, by first | rfl | go_num, by rw [most_skip HZ.out]; exact HR4.out, HT4.out⟩
          case measure => simp [intOf]
        · obtain ⟨X, hX⟩ : ∃ X : Nat, X = k + 1 := ⟨_, rfl⟩
          have u : IntKind.i64.wrap ((k : Int) + 1) = (X : Int) := by rw [IntKind.wrap_i64]; omega
          have hXlt : X < S := by omega
          have nX : ((X : Int) == (S : Int)) = false := by rw [beq_eq_false_iff_ne]; omega
          have hEn : enI S i j X = enI S i j k + S ^ 2 := by rw [hX]; exact en_z S i j k
          obtain ⟨N, hN⟩ : ∃ N, N = enI S i j k := ⟨_, rfl⟩
          rw [← hN] at hEn hcd
          obtain ⟨N2, hN2⟩ : ∃ N2, N2 = N + S ^ 2 := ⟨_, rfl⟩
          have HZ := Lib.hid (show roC S fc N 2 = mostF (fun m => gapF (fc (3 * N + m)) (fc (3 * N2 + m))) 3 by unfold roC; rw [hcd, if_pos (by omega), hN2])
          have HNN := Lib.hid (And.intro hN (hEn.trans hN2.symm))
          obtain ⟨acc, hacc⟩ : ∃ acc, acc = Nat.max W0 (mostF (roC S fc N) 2) := ⟨_, rfl⟩
          have haccM : acc ≤ 2139095040 := by rw [hacc]; exact Nat.max_le.2 ⟨hW, mostF_le (roC_le S fc N) _⟩
          have HR4 : Hid (RoR w W4 [.int .i64 S, .float .f32 lo, .float .f32 hi, .slice (some ⟨b, off, none⟩) n cap] acc) := Lib.hid (by rw [hacc, hN]; exact HR4.out)
          have HACC := Lib.hid hacc
          clear hX hN hN2 hEn hcd hacc hO
          go_upto_region 4 with fail
          refine wp_region_looseM 21 (EnPsi S fc) [(19, 12, .cells #[.float .f32 0, .float .f32 0, .float .f32 0] 58), (20, 13, .cells #[.float .f32 0, .float .f32 0, .float .f32 0] 58)] (by kernel_rfl) (by kernel_rfl) (by kernel_rfl) (by intro m hm; simp at hm; rcases hm with rfl | rfl <;> exact ⟨_, rfl, ⟨rfl, rfl, fun ev w => by kernel_rfl⟩⟩) (by intro m hm; simp at hm; rcases hm with rfl | rfl <;> exact of_decide_eq_true (by kernel_rfl)) ?_
          simp only [List.take_succ_cons, List.take_zero, List.drop_succ_cons, List.drop_zero]
          iterate 4 (refine looseM_wanted rfl (fun K hK => ?_); go_simp; refine hK _ ?_; clear hK K)
          refine looseM_wanted rfl (fun K1 hK => ?_)
          go_simp
          refine ⟨fun p => (HE.out i j k p.w h1 h2 h3 (HR4.out.w.trans (p.h.mono HR4.out.w.size))).mono ?_, ?_⟩
          · rintro e w' ⟨rfl, hb⟩
            exact ⟨_, rfl, en_psi.2 rfl, hb⟩
          intro u0 hu
          obtain rfl := en_psi.1 hu
          refine hK _ ?_
          clear hK K1 hu
          iterate 13 (refine looseM_wanted rfl (fun K hK => ?_); go_simp; refine hK _ ?_; clear hK K)
          refine looseM_wanted rfl (fun K1 hK => ?_)
          go_simp
          refine ⟨fun p => (HE.out i j X p.w (by omega) (by omega) (by omega) (HR4.out.w.trans (p.h.mono HR4.out.w.size))).mono ?_, ?_⟩
          · rintro e w' ⟨rfl, hb⟩
            exact ⟨_, rfl, en_psi.2 rfl, hb⟩
          intro u0 hu
          obtain rfl := en_psi.1 hu
          refine hK _ ?_
          clear hK K1 hu
          refine looseM_lays (d := 12) (blk := .cells #[.float .f32 0, .float .f32 0, .float .f32 0] 58) ⟨rfl, rfl, fun ev w => by kernel_rfl⟩ (fun ga hga => ?_)
          refine looseM_lays (d := 13) (blk := .cells #[.float .f32 0, .float .f32 0, .float .f32 0] 58) ⟨rfl, rfl, fun ev w => by kernel_rfl⟩ (fun gb hgb => ?_)
          refine looseM_nil (fun w5 hb5 hg2 hne2 => ?_)
          obtain ⟨ga', e1, hA⟩ := hg2 _ (List.Mem.head _)
          obtain rfl : ga = ga' := by cases e1; rfl
          obtain ⟨gb', e2, hB⟩ := hg2 _ (List.Mem.tail _ (List.Mem.head _))
          obtain rfl : gb = gb' := by cases e2; rfl
          have hab : gb ≠ ga := fun h => hne2 _ (List.Mem.head _) _ (List.Mem.tail _ (List.Mem.head _)) (by decide) (by rw [e1, e2, h])
          clear hg2 hne2 e1 e2
          rw [← HNN.out.1, HNN.out.2]
          have GA : Blk w5 ga [.float .f32 0, .float .f32 0, .float .f32 0] := ⟨(Array.getElem?_eq_some_iff.1 hA).1, fun i v hv => by simp [World.cell?, hA, hv], fun o => by simp [World.frozen?, hA]⟩
          have GB : Blk w5 gb [.float .f32 0, .float .f32 0, .float .f32 0] := ⟨(Array.getElem?_eq_some_iff.1 hB).1, fun i v hv => by simp [World.cell?, hB, hv], fun o => by simp [World.frozen?, hB]⟩
          have R5 := HR4.out.past hb5; have T5 := HT4.out.past hb5
          have lA : w.heap.size + 1 < ga := by have := HR4.out.m.lt; omega
          have lB : w.heap.size + 1 < gb := by have := HR4.out.m.lt; omega
          have lT : nt < ga := by have := HT4.out.lt; omega
          have lU : nt < gb := by have := HT4.out.lt; omega
          have HR5 := Lib.hid R5; have HT5 := Lib.hid T5; have HGA := Lib.hid GA; have HGB := Lib.hid GB
          have g0 := GA.c 0 _ rfl; have g1 := GA.c 1 _ rfl; have g2 := GA.c 2 _ rfl; have gf := GA.f; have gl := GA.lt
          have k0 := GB.c 0 _ rfl; have k1 := GB.c 1 _ rfl; have k2 := GB.c 2 _ rfl; have kf := GB.f; have kl := GB.lt
          clear a0 a1 a2 al c0 c1 c2 c3 cl hA hB hb5 hga hgb R5 T5 GA GB HR4 HT4 HA4
          go_upto_region 5 with fail
          refine wp_world (fun W6 hW6 => ?_)
          have hba : ga ≠ gb := fun h => hab h.symm
          have FA : VecF W6 ga 3 (fun m => cn .f32 (fc (3 * N + m))) := by rw [hW6]; exact VecF.of3 ((((((HGA.out.set 0 _).set 1 _).set 2 _).far _ _ (by simpa using hab)).far _ _ (by simpa using hab)).far _ _ (by simpa using hab))
          have FB : VecF W6 gb 3 (fun m => cn .f32 (fc (3 * N2 + m))) := by rw [hW6]; exact VecF.of3 ((((((HGB.out.far _ _ (by simpa using hba)).far _ _ (by simpa using hba)).far _ _ (by simpa using hba)).set 0 _).set 1 _).set 2 _)
          have R6 : RoR w W6 [.int .i64 S, .float .f32 lo, .float .f32 hi, .slice (some ⟨b, off, none⟩) n cap] acc := by
            rw [hW6]
            have K := HR5.out
            exact ⟨((((((K.a.far _ _ (by simp; omega)).far _ _ (by simp; omega)).far _ _ (by simp; omega)).far _ _ (by simp; omega)).far _ _ (by simp; omega)).far _ _ (by simp; omega)), ((((((K.m.far _ _ (by simp; omega)).far _ _ (by simp; omega)).far _ _ (by simp; omega)).far _ _ (by simp; omega)).far _ _ (by simp; omega)).far _ _ (by simp; omega)), (((((K.w.setCell (by simp; omega) _).setCell (by simp; omega) _).setCell (by simp; omega) _).setCell (by simp; omega) _).setCell (by simp; omega) _).setCell (by simp; omega) _⟩
          have T6 : Blk W6 nt [.int .i64 1, .int .i64 0, .int .i64 0, .int .i64 0, .int .i64 1, .int .i64 0, .int .i64 0, .int .i64 0, .int .i64 1] := by rw [hW6]; exact ((((((HT5.out.far _ _ (by simp; omega)).far _ _ (by simp; omega)).far _ _ (by simp; omega)).far _ _ (by simp; omega)).far _ _ (by simp; omega)).far _ _ (by simp; omega))
          have H6 := Lib.hid (And.intro R6 (And.intro T6 (And.intro FA FB)))
          clear hW6 FA FB R6 T6 g0 g1 g2 gf gl k0 k1 k2 kf kl HR5 HT5 HGA HGB hba
          obtain ⟨g, hg⟩ : ∃ g, g = (fun m => gapF (fc (3 * N + m)) (fc (3 * N2 + m))) := ⟨_, rfl⟩
          rw [← hg] at HZ
          have HG := Lib.hid (And.intro (fun m => by rw [hg] : ∀ m, g m = gapF (fc (3 * N + m)) (fc (3 * N2 + m))) (fun m => by rw [hg]; exact gapF_le _ _ : ∀ m, g m ≤ 2139095040))
          clear hg
          go_wp2_with fail
          go_loopw [69] (fun s69 wy => ∃ m : Nat, m ≤ 3 ∧ s69 = .int .i64 m ∧ RoR w wy [.int .i64 S, .float .f32 lo, .float .f32 hi, .slice (some ⟨b, off, none⟩) n cap] (Nat.max acc (mostF g m)) ∧ Blk wy nt [.int .i64 1, .int .i64 0, .int .i64 0, .int .i64 0, .int .i64 1, .int .i64 0, .int .i64 0, .int .i64 0, .int .i64 1] ∧ VecF wy ga 3 (fun m => cn .f32 (fc (3 * N + m))) ∧ VecF wy gb 3 (fun m => cn .f32 (fc (3 * N2 + m)))) (fun s69 _ => 3 - (intOf s69).toNat)
          case atStart => exact ⟨0, by omega, rfl, by rw [show mostF g 0 = 0 from rfl, show Nat.max acc 0 = acc from Nat.max_zero _]; exact H6.out.1, H6.out.2⟩
          case round =>
            obtain ⟨m, hm, rfl, hR, hT, hFA, hFB⟩ := hrel
            have H7 := Lib.hid (And.intro hR (And.intro hT (And.intro hFA hFB)))
            clear hR hT hFA hFB H6
            by_cases hm3 : m < 3
            · have hmi : (m : Int) < 3 := by omega
              have p0 := H7.out.2.2.1.c m hm3; have q0 := H7.out.2.2.2.c m hm3
              have pl := H7.out.2.2.1.lt; have ql := H7.out.2.2.2.lt
              obtain ⟨va, hva⟩ : ∃ z, z = cn .f32 (fc (3 * N + m)) := ⟨_, rfl⟩
              obtain ⟨vb, hvb⟩ : ∃ z, z = cn .f32 (fc (3 * N2 + m)) := ⟨_, rfl⟩
              rw [← hva] at p0; rw [← hvb] at q0
              have hgm : gapF va vb = g m := by rw [hva, hvb, gapF_cn, HG.out.1]
              obtain ⟨mx, hmx⟩ : ∃ mx, mx = Nat.max acc (mostF g m) := ⟨_, rfl⟩
              have hmxM : mx ≤ 2139095040 := by rw [hmx]; exact Nat.max_le.2 ⟨haccM, mostF_le HG.out.2 _⟩
              have HX := Lib.hid (show Nat.max mx (gapF va vb) = Nat.max acc (mostF g (m + 1)) by rw [hmx, hgm]; exact most_take)
              have H7 : Hid (RoR w wr [.int .i64 S, .float .f32 lo, .float .f32 hi, .slice (some ⟨b, off, none⟩) n cap] mx ∧ Blk wr nt [.int .i64 1, .int .i64 0, .int .i64 0, .int .i64 0, .int .i64 1, .int .i64 0, .int .i64 0, .int .i64 0, .int .i64 1] ∧ VecF wr ga 3 (fun m => cn .f32 (fc (3 * N + m))) ∧ VecF wr gb 3 (fun m => cn .f32 (fc (3 * N2 + m)))) := Lib.hid (by rw [hmx]; exact H7.out)
              clear hva hvb hgm hmx
              go_upto_region 8 with fail
              refine wp_region_loose 7 (fun _ args u => u = .float .f32 (gapF (argF args 0) (argF args 1))) (by kernel_rfl) (by kernel_rfl) ?_
              simp only [List.take_succ_cons, List.take_zero, List.drop_succ_cons, List.drop_zero]
              iterate 6 (refine loose_wanted rfl (fun K hK => ?_); go_simp; refine hK _ ?_; clear hK K)
              refine loose_wanted rfl (fun K1 hK => ?_)
              go_simp
              refine ⟨fun p => (gapOf_any _ _ p.w).mono ?_, ?_⟩
              · rintro e w' ⟨rfl, m, rfl⟩
                exact ⟨_, rfl, by first | rfl | simp, below_drewN p.h m⟩
              refine hK _ ?_
              clear hK K1
              refine loose_nil (fun w8 hb8 => ?_)
              have H8 := Lib.hid (And.intro (H7.out.1.past hb8) (And.intro (H7.out.2.1.past hb8) (And.intro (H7.out.2.2.1.past hb8) (H7.out.2.2.2.past hb8))))
              clear hb8 p0 q0 pl ql H7
              have m0 := H8.out.1.m.c 0 _ rfl; have mf := H8.out.1.m.f; have ml := H8.out.1.m.lt
              have ho := ord_pos (gapF_le va vb) hmxM
              by_cases hl : mx < gapF va vb
              · rw [decide_eq_true hl] at ho
                have HY := Lib.hid ((max_pick _ _ hl).symm.trans HX.out)
                clear hl
                go_wp2_with fail
                go_roundw
                case rel =>
                  refine ⟨m + 1, by omega, by go_num, by rw [← HY.out]; exact H8.out.1.set _, H8.out.2.1.far _ _ (by have := HLT.out; simp; omega), H8.out.2.2.1.far _ _ (by simp; omega), H8.out.2.2.2.far _ _ (by simp; omega)⟩
                case measure => simp [intOf]; omega
              · rw [decide_eq_false hl] at ho
                have HY := Lib.hid ((max_keep _ _ hl).symm.trans HX.out)
                clear hl
                go_wp2_with fail
                go_roundw
                case rel => exact ⟨m + 1, by omega, by go_num, by rw [← HY.out]; exact H8.out.1, H8.out.2⟩
                case measure => simp [intOf]; omega
            · obtain rfl : m = 3 := by omega
              go_wp2_with fail
              go_roundw
              case rel => exact ⟨2 + 1, by omega, by first | rfl | go_num, by rw [← HNN.out.1, ← most_take, HZ.out, ← HACC.out]; exact H7.out.1, H7.out.2.1⟩
              case measure => simp [intOf]
    · obtain rfl : q = 3 := by omega
      have HN := Lib.hid (show ∀ N, mostF (roC S fc N) 3 = roN S fc N from fun _ => rfl)
      go_wp2_with fail
      go_end0
      exact ⟨rfl, HR3.out⟩
end Go.Proofs.Ytmckkgbdlgldbaa
