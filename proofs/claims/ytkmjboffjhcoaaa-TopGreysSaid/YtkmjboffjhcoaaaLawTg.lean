/- TopGreys: the walk of the statement, whole. No condition. -/
import Derived.Test.YtkmjboffjhcoaaaTgA
import Derived.Test.YtkmjboffjhcoaaaBO
namespace Go.Proofs.Ytkmjboffjhcoaaa
open Go Go.RowKit
/-- The numbers of the grey cube. -/
def tgF (fs : Nat → Nat) : Nat → Nat := fun i => fs (i / 3)
theorem tgF_grey (fs : Nat → Nat) (e : Nat) : tgF fs (3 * e) = tgF fs (3 * e + 1) ∧ tgF fs (3 * e) = tgF fs (3 * e + 2) := by
  unfold tgF
  rw [show (3 * e + 1) / 3 = 3 * e / 3 by omega, show (3 * e + 2) / 3 = 3 * e / 3 by omega]
  exact ⟨rfl, rfl⟩
theorem tg_small {S : Nat} (h : 2 ≤ S ∧ S ≤ 5) : 8 ≤ S * S * S ∧ S * S * S ≤ 125 ∧ S * S ≤ 25 := by
  rcases (show S = 2 ∨ S = 3 ∨ S = 4 ∨ S = 5 by omega) with rfl | rfl | rfl | rfl <;> decide
theorem tg_u {S M n cap : Nat} (hS : 2 ≤ S ∧ S ≤ 5) (hM : M = S * S * S) (hn : M ≤ n) (hcap : n ≤ cap) :
    IntKind.i64.wrap ((S : Int) * S) = (S : Int) * S ∧ wrap64 ((S : Int) * S * S) = (M : Int) ∧ (M : Int) ≤ (cap : Int) ∧ 0 < M ∧ M ≤ 125 := by
  obtain ⟨b1, b2, b3⟩ := tg_small hS
  rw [← hM] at b1 b2
  have e1 : (S : Int) * S = ((S * S : Nat) : Int) := (Int.natCast_mul _ _).symm
  have e2 : (S : Int) * S * S = (M : Int) := by rw [e1, ← Int.natCast_mul, ← hM]
  rw [e2, e1]
  generalize S * S = A at *
  clear e1 e2 hM
  refine ⟨by rw [IntKind.wrap_i64]; omega, Go.IntWalk.wrap64_in _ (by omega), by omega, by omega, by omega⟩
set_option maxRecDepth 100000 in
set_option maxHeartbeats 3200000 in
theorem tg_yes (S M b off n cap : Nat) (fs : Nat → Nat) (v : Nat) (w : World) (hS : 2 ≤ S ∧ S ≤ 5) (hM : M = S * S * S) (hn : M ≤ n) (hcap : n ≤ cap) (hc : Row w b off n fs) :
    Calls Try.prog 13 #[.int .i64 S, .slice (some ⟨b, off, none⟩) n cap, .float .f32 v] w fun e w' => e = .returned (.bool true) ∧ Below w.heap.size w w' := by
  obtain ⟨u1, u3, hmc, hM0, hM1⟩ := tg_u hS hM hn hcap
  have HC := Lib.hid hc
  have hbw : b < w.heap.size := hc.lt (Nat.lt_of_lt_of_le hM0 hn)
  obtain ⟨i0, hi0, hz0, hz1, hz2⟩ := info_parts infoF32
  have HMM := Lib.hid hM
  clear hc hM
  go_enter Try.func13, Try.ntmps13
  go_upto_region 3 with (first | (go_at_call 86; refine (landed_any _).mono ?_; rintro e w2 ⟨rfl, rfl⟩))
  go_cut [31] (fun s31 wx => s31 = .bool false ∧ w = wx)
  case first =>
    go_wp2_with fail
    all_goals (go_meet; exact ⟨by first | rfl | (congr 1; simp; omega), rfl⟩)
  case rest =>
    obtain ⟨rfl, rfl⟩ := hcut
    go_wp2_with fail
    refine wp_world (fun W hW => ?_)
    have M0 : TgR w W w.heap.size S 0 1065353216 (fun e _ => fs e) 0 (.slice none 0 0) := by rw [hW]; exact ⟨Blk.new _ _ _ _ rfl, World.ownsRow_nil _ _ _ _, by (repeat (first | exact Below.refl _ _ | assumption | (refine Below.setCell ?_ (by first | (simp; done) | (simp; omega) | omega) _) | (refine Below.drew ?_) | (refine below_drewN ?_ _) | (refine Below.alloc ?_ (by first | (simp; done) | (simp; omega) | omega) _) | (refine Below.trans ?_ (Below.mono (by assumption) (by first | (simp; done) | (simp; omega) | omega))))), Nat.le_refl _⟩
    clear hW u1 u3
    go_loopw [42] (fun s42 wr => ∃ i : Nat, i ≤ M ∧ s42 = .int .i64 i ∧ ∃ s, TgR w wr w.heap.size S 0 1065353216 (fun e _ => fs e) i s) (fun s42 _ => M - (intOf s42).toNat)
    case atStart => exact ⟨0, Nat.zero_le _, rfl, _, M0⟩
    case round =>
      obtain ⟨i, hi, rfl, u, hM⟩ := hrel
      have HM := Lib.hid hM
      clear M0 hM
      by_cases hiM : i < M
      · have hcell := (HC.out.below HM.out.bel hbw) i (by omega)
        obtain ⟨x, hx⟩ : ∃ x, x = fs i := ⟨_, rfl⟩
        rw [← hx] at hcell
        have HX := Lib.hid hx
        clear hx
        have c3 := HM.out.cub.c 3 _ rfl; have cf := HM.out.cub.f; have lc := HM.out.cub.lt
        have hbs := HM.out.bel.size
        have hiM' : (i : Int) < (M : Int) := by omega
        go_upto_region 11 with (first | (go_at_call 87; refine (Kind_any _ _).mono ?_; rintro e w2 ⟨⟨kd, rfl, kd0, kd4⟩, rfl⟩))
        all_goals first
          | (go_ret; exact ⟨ret_b (by simp), HM.out.bel⟩)
          | skip
        all_goals
          go_wp2_with (first | (at_builtin; refine wpList_append_lies _ rfl _ _ _ rfl (w.heap.size + 1) 38 i0 (.float .f32 0) 1 4 Try.underlying25 hi0 hz0 hz1 hz2 rfl (by decide) u (3 * i) (made3L (fun e _ => fs e) i) rfl (World.ownsRow.alloc HM.out.own _) ⟨wr.heap.size, 0, none⟩ 3 3 [.float .f32 x, .float .f32 x, .float .f32 x] rfl rfl (by intro j u hj; match j, hj with | 0, hj => (simp at hj; subst hj; simp [Addr.add]) | 1, hj => (simp at hj; subst hj; simp [Addr.add]) | 2, hj => (simp at hj; subst hj; simp [Addr.add])) (by intro u hu; simp at hu; subst hu; rfl) (by decide) (by unfold maxLen; omega) (by omega) (by simp; omega) _ rfl ?_; intro g cap w1 hown hgrow hat hlt; obtain ⟨f4w, ffw, MS0⟩ := TgR.app HM.out (by (repeat (first | exact Below.refl _ _ | assumption | (refine Below.setCell ?_ (by first | (simp; done) | (simp; omega) | omega) _) | (refine Below.drew ?_) | (refine below_drewN ?_ _) | (refine Below.alloc ?_ (by first | (simp; done) | (simp; omega) | omega) _) | (refine Below.trans ?_ (Below.mono (by assumption) (by first | (simp; done) | (simp; omega) | omega)))))) hown HX.out HX.out HX.out hgrow; have MS := Lib.hid MS0; clear MS0 hown hgrow))
          all_goals
            go_roundw
            case rel => exact ⟨i + 1, by omega, by go_num, _, MS.out⟩
            case measure => simp [intOf]; omega
      · obtain rfl : i = M := by omega
        obtain ⟨g, cp, rfl, hg1, hg2, hg3, hg4⟩ := own_form HM.out.own (by omega)
        have hcells := HM.out.own.cells (g := g) rfl
        have hrow : Row wr g 0 (3 * i) (tgF fs) := fun x hx => by
          have := hcells x (.float .f32 (fs (x / 3))) (by simp [made3L, hx])
          rw [Go.WideShapes.add_plain] at this
          show wr.cell? ⟨g, 0 + x, none⟩ = some (.float .f32 (fs (x / 3)))
          rw [Nat.zero_add, ← this]
          simp [go_sem]
        have he : cubErr S 0 1065353216 (3 * i) = 0 := by rw [HMM.out]; exact tg_cub hS
        have HTE := Lib.hid (fun p w' hb => Tetra_yes S 0 1065353216 g 0 (3 * i) cp (tgF fs) p w' he hg3 (hrow.below hb hg2) : ∀ p w', Below wr.heap.size wr w' → _)
        have HLI := Lib.hid (fun p w' hb => Linear_yes S 0 1065353216 g 0 (3 * i) cp (tgF fs) p w' he hg3 (hrow.below hb hg2) : ∀ p w', Below wr.heap.size wr w' → _)
        have c0 := HM.out.cub.c 0 _ rfl; have c1 := HM.out.cub.c 1 _ rfl; have c2 := HM.out.cub.c 2 _ rfl; have c3 := HM.out.cub.c 3 _ rfl; have cl := HM.out.cub.lt
        clear hcells hrow he hg1 hg2 hg3 hg4
        go_wp2_with fail
        refine (HTE.out (p4 v v v 1065353216) _ (Below.refl _ _)).mono ?_
        rintro e w2 ⟨rfl, hb2⟩
        obtain ⟨e1, e2⟩ := tg_grey (tgF_grey fs) S 0 1065353216 (p4 v v v 1065353216)
        rw [← e1, ← e2]
        generalize tetF S 0 1065353216 (tgF fs) (p4 v v v 1065353216) 0 = ta
        generalize tetF S 0 1065353216 (tgF fs) (p4 v v v 1065353216) 3 = tb
        have C2 := HM.out.cub.past hb2
        have HB2 := Lib.hid (And.intro C2 hb2)
        clear e1 e2 c0 c1 c2 c3 cl C2 hb2
        go_upto_region 14 with fail
        refine wp_world (fun W3 hW3 => ?_)
        have TB : Blk W3 w2.heap.size [.float .f32 ta, .float .f32 ta, .float .f32 ta, .float .f32 tb] := by rw [hW3]; exact Blk.new _ _ _ _ rfl
        have B3 : Below w2.heap.size w2 W3 := by rw [hW3]; (repeat (first | exact Below.refl _ _ | assumption | (refine Below.setCell ?_ (by first | (simp; done) | (simp; omega) | omega) _) | (refine Below.drew ?_) | (refine below_drewN ?_ _) | (refine Below.alloc ?_ (by first | (simp; done) | (simp; omega) | omega) _) | (refine Below.trans ?_ (Below.mono (by assumption) (by first | (simp; done) | (simp; omega) | omega)))))
        have C3 := HB2.out.1.past B3
        have HB3 := Lib.hid (And.intro TB (HB2.out.2.trans (B3.mono HB2.out.2.size)))
        have c0 := C3.c 0 _ rfl; have c1 := C3.c 1 _ rfl; have c2 := C3.c 2 _ rfl; have c3 := C3.c 3 _ rfl; have cl := C3.lt
        clear hW3 TB B3 C3 HB2
        generalize w2.heap.size = nt at *
        go_wp2_with fail
        refine (HLI.out (p4 v v v 1065353216) _ HB3.out.2).mono ?_
        rintro e w4 ⟨rfl, hb4⟩
        obtain ⟨e1, e2⟩ := tg_grey_lin (tgF_grey fs) S 0 1065353216 (p4 v v v 1065353216)
        rw [← e1, ← e2]
        generalize linF S 0 1065353216 (tgF fs) (p4 v v v 1065353216) 0 = la
        generalize linF S 0 1065353216 (tgF fs) (p4 v v v 1065353216) 3 = lb
        have HB4 := Lib.hid (And.intro (HB3.out.1.past hb4) (HB3.out.2.trans (hb4.mono HB3.out.2.size)))
        clear e1 e2 c0 c1 c2 c3 cl hb4 HB3
        go_upto_region 15 with fail
        refine wp_world (fun W5 hW5 => ?_)
        have LB : Blk W5 w4.heap.size [.float .f32 la, .float .f32 la, .float .f32 la, .float .f32 lb] := by rw [hW5]; exact Blk.new _ _ _ _ rfl
        have B5 : Below w4.heap.size w4 W5 := by rw [hW5]; (repeat (first | exact Below.refl _ _ | assumption | (refine Below.setCell ?_ (by first | (simp; done) | (simp; omega) | omega) _) | (refine Below.drew ?_) | (refine below_drewN ?_ _) | (refine Below.alloc ?_ (by first | (simp; done) | (simp; omega) | omega) _) | (refine Below.trans ?_ (Below.mono (by assumption) (by first | (simp; done) | (simp; omega) | omega)))))
        have TB := HB4.out.1.past B5
        have HB5 := Lib.hid (HM.out.bel.trans ((HB4.out.2.trans (B5.mono HB4.out.2.size)).mono HM.out.bel.size))
        have t0 := TB.c 0 _ rfl; have t1 := TB.c 1 _ rfl; have t2 := TB.c 2 _ rfl; have tl := TB.lt
        have l0 := LB.c 0 _ rfl; have l1 := LB.c 1 _ rfl; have l2 := LB.c 2 _ rfl; have ll := LB.lt
        clear hW5 LB B5 TB HB4
        generalize w4.heap.size = nl at *
        go_wp2_with fail
        refine wp_region_loose 42 (fun _ args u => u = .int .u32 (cn .f32 (argF args 0))) (by kernel_rfl) (by kernel_rfl) ?_
        simp only [List.take_succ_cons, List.take_zero, List.drop_succ_cons, List.drop_zero]
        iterate 9 (refine loose_wanted rfl (fun K hK => ?_); go_simp; refine hK _ ?_; clear hK K)
        refine loose_wanted rfl (fun K1 hK => ?_)
        go_simp
        refine ⟨fun p => (Bits_any _ _).mono ?_, ?_⟩
        · rintro e w' ⟨rfl, rfl⟩
          exact ⟨_, rfl, by first | rfl | simp, p.h⟩
        refine hK _ ?_
        clear hK K1
        iterate 2 (refine loose_wanted rfl (fun K hK => ?_); go_simp; refine hK _ ?_; clear hK K)
        refine loose_wanted rfl (fun K1 hK => ?_)
        go_simp
        refine ⟨fun p => (Bits_any _ _).mono ?_, ?_⟩
        · rintro e w' ⟨rfl, rfl⟩
          exact ⟨_, rfl, by first | rfl | simp, p.h⟩
        refine hK _ ?_
        clear hK K1
        iterate 5 (refine loose_wanted rfl (fun K hK => ?_); go_simp; refine hK _ ?_; clear hK K)
        refine loose_wanted rfl (fun K1 hK => ?_)
        go_simp
        refine ⟨fun p => (Bits_any _ _).mono ?_, ?_⟩
        · rintro e w' ⟨rfl, rfl⟩
          exact ⟨_, rfl, by first | rfl | simp, p.h⟩
        refine hK _ ?_
        clear hK K1
        iterate 2 (refine loose_wanted rfl (fun K hK => ?_); go_simp; refine hK _ ?_; clear hK K)
        refine loose_wanted rfl (fun K1 hK => ?_)
        go_simp
        refine ⟨fun p => (Bits_any _ _).mono ?_, ?_⟩
        · rintro e w' ⟨rfl, rfl⟩
          exact ⟨_, rfl, by first | rfl | simp, p.h⟩
        refine hK _ ?_
        clear hK K1
        iterate 5 (refine loose_wanted rfl (fun K hK => ?_); go_simp; refine hK _ ?_; clear hK K)
        refine loose_wanted rfl (fun K1 hK => ?_)
        go_simp
        refine ⟨fun p => (Bits_any _ _).mono ?_, ?_⟩
        · rintro e w' ⟨rfl, rfl⟩
          exact ⟨_, rfl, by first | rfl | simp, p.h⟩
        refine hK _ ?_
        clear hK K1
        iterate 2 (refine loose_wanted rfl (fun K hK => ?_); go_simp; refine hK _ ?_; clear hK K)
        refine loose_wanted rfl (fun K1 hK => ?_)
        go_simp
        refine ⟨fun p => (Bits_any _ _).mono ?_, ?_⟩
        · rintro e w' ⟨rfl, rfl⟩
          exact ⟨_, rfl, by first | rfl | simp, p.h⟩
        refine hK _ ?_
        clear hK K1
        iterate 5 (refine loose_wanted rfl (fun K hK => ?_); go_simp; refine hK _ ?_; clear hK K)
        refine loose_wanted rfl (fun K1 hK => ?_)
        go_simp
        refine ⟨fun p => (Bits_any _ _).mono ?_, ?_⟩
        · rintro e w' ⟨rfl, rfl⟩
          exact ⟨_, rfl, by first | rfl | simp, p.h⟩
        refine hK _ ?_
        clear hK K1
        iterate 2 (refine loose_wanted rfl (fun K hK => ?_); go_simp; refine hK _ ?_; clear hK K)
        refine loose_wanted rfl (fun K1 hK => ?_)
        go_simp
        refine ⟨fun p => (Bits_any _ _).mono ?_, ?_⟩
        · rintro e w' ⟨rfl, rfl⟩
          exact ⟨_, rfl, by first | rfl | simp, p.h⟩
        refine hK _ ?_
        clear hK K1
        iterate 2 (refine loose_wanted rfl (fun K hK => ?_); go_simp; refine hK _ ?_; clear hK K)
        refine loose_nil (fun w6 hb6 => ?_)
        go_wp2_with fail
        go_ret
        refine ⟨ret_b (by simp), ?_⟩
        exact HB5.out.trans (hb6.mono HB5.out.size)
set_option maxRecDepth 100000 in
set_option maxHeartbeats 1600000 in
theorem tg_out (size : Int) (a : Option Addr) (n cap v : Nat) (w : World) (h : ¬((2 ≤ size ∧ size ≤ 5) ∧ size * size * size ≤ (n : Int))) :
    Calls Try.prog 13 #[.int .i64 size, .slice a n cap, .float .f32 v] w fun e w' => e = .returned (.bool true) ∧ Below w.heap.size w w' := by
  go_enter Try.func13, Try.ntmps13
  go_upto_region 3 with (first | (go_at_call 86; refine (landed_any _).mono ?_; rintro e w2 ⟨rfl, rfl⟩))
  go_cut [31] (fun s31 wx => s31 = .bool true ∧ w = wx)
  case first =>
    by_cases h2 : size < 2
    · clear h
      go_wp2_with fail
      all_goals (go_meet; exact ⟨rfl, rfl⟩)
    · by_cases h5 : 5 < size
      · clear h
        go_wp2_with fail
        all_goals (go_meet; exact ⟨rfl, rfl⟩)
      · rcases (show size = 2 ∨ size = 3 ∨ size = 4 ∨ size = 5 by omega) with rfl | rfl | rfl | rfl
        all_goals
          have hn : (n : Int) < 125 := by omega
          simp at h
          clear h2 h5
          go_wp2_with fail
          all_goals (go_meet; exact ⟨by first | rfl | (simp; omega), rfl⟩)
  case rest =>
    obtain ⟨rfl, rfl⟩ := hcut
    go_wp2_with fail
    go_ret
    exact ⟨ret_b (by simp), Below.refl _ _⟩
theorem tg_walk (size : Int) (a : Option Addr) (n cap : Nat) (fs : Nat → Nat) (v : Nat) (w : World)
    (_ : IntKind.i64.min ≤ size ∧ size ≤ IntKind.i64.max) (hf : IsFloats w a n cap fs) (_ : v < 2 ^ FloatKind.f32.format.width) :
    Calls Try.prog 13 #[.int .i64 size, .slice a n cap, .float .f32 v] w fun e w' => e = .returned (.bool true) ∧ Below w.heap.size w w' := by
  by_cases h : (2 ≤ size ∧ size ≤ 5) ∧ size * size * size ≤ (n : Int)
  · obtain ⟨hs, hn⟩ := h
    obtain ⟨S, rfl⟩ : ∃ S : Nat, size = S := ⟨size.toNat, by omega⟩
    have hS : 2 ≤ S ∧ S ≤ 5 := by omega
    rw [← Int.natCast_mul, ← Int.natCast_mul] at hn
    have hn' := Int.ofNat_le.1 hn
    have hpos := (tg_small hS).1
    generalize hM : S * S * S = M at *
    rcases hf with ⟨hz, -⟩ | ⟨b, off, rfl, -, hcap, hm, hcell⟩
    · omega
    · exact tg_yes S M b off n cap fs v w hS hM.symm hn' hcap (fun i hi => (hcell i (by omega)).1)
  · exact tg_out size a n cap v w h
end Go.Proofs.Ytkmjboffjhcoaaa
