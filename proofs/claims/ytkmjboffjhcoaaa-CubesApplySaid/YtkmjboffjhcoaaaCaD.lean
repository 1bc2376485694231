/- A frame by a cube: cube.Apply, whole. No condition but what each theorem names. -/
import Derived.Test.YtkmjboffjhcoaaaCaC
import Derived.Test.YtkmjboffjhcoaaaCpB
namespace Go.Proofs.Ytkmjboffjhcoaaa
open Go Go.RowKit
/-- The singles of a frame's pixels behind a cube. -/
def apG (f : Nat → Nat → Nat → (Nat → Nat) → (Nat → Nat) → Nat → Nat) (S lo hi : Nat) (fc fs : Nat → Nat) (k m : Nat) : Nat := f S lo hi fc (p4 (fs (4 * k)) (fs (4 * k + 1)) (fs (4 * k + 2)) (fs (4 * k + 3))) m
theorem Blk.at {w : World} {n : Nat} {vs : List Value} {t : TypeId} (h : w.heap[n]? = some (.cells vs.toArray t (0, 0))) : Blk w n vs := by
  have hl : n < w.heap.size := (Array.getElem?_eq_some_iff.1 h).1
  exact ⟨hl, fun i v hv => by simp [World.cell?, h, hv], fun o => by simp [World.frozen?, h]⟩
/-- What stands of Apply's parameters. -/
structure ApR (w wr : World) (L M : List Value) : Prop where
  a : Blk wr w.heap.size L
  f : Blk wr (w.heap.size + 1) M
  z : Blk wr (w.heap.size + 2) [.int .i64 0, .int .i64 0, .int .i64 0, .int .i64 0, .slice none 0 0]
  w : Below w.heap.size w wr
theorem ApR.past {w wr wy : World} {L M : List Value} (k : ApR w wr L M) (h : Below wr.heap.size wr wy) : ApR w wy L M := ⟨k.a.past h, k.f.past h, k.z.past h, k.w.trans (h.mono k.w.size)⟩
set_option maxRecDepth 100000 in
set_option maxHeartbeats 3200000 in
theorem Apply_tetra (S lo hi bc offc nc capc : Nat) (fc : Nat → Nat) (x y v h : Int) (b off n cap : Nat) (fs : Nat → Nat) (w : World) (he : cubErr S lo hi nc = 0) (hcap : nc ≤ capc) (hc : Row w bc offc nc fc) (hE : fraErr x y v h n = 0) (hr : Row w b off n fs) :
    Calls Try.prog 109 #[.agg #[.int .i64 S, .float .f32 lo, .float .f32 hi, .slice (some ⟨bc, offc, none⟩) nc capc], .int .i64 1, .agg #[.int .i64 x, .int .i64 y, .int .i64 v, .int .i64 h, .slice (some ⟨b, off, none⟩) n cap]] w fun e w' =>
      ∃ g, e = .returned (.tuple #[.agg #[.int .i64 x, .int .i64 y, .int .i64 v, .int .i64 h, .slice (some ⟨g, 0, none⟩) n n], .int .i64 0]) ∧ g < w'.heap.size ∧ (∀ i, i < n → w'.cell? ⟨g, i, none⟩ = some (.float .f32 (apG tetF S lo hi fc fs (i / 4) (i % 4)))) ∧ Below w.heap.size w w' := by
  obtain ⟨hS, hS0, hnc, hpos, hnb⟩ := cub_ok_nat he
  obtain ⟨hre, hl⟩ := fraErr_ok hE
  obtain ⟨hn0, hn6, -, -, -⟩ := fr_n hre hl
  have hn4 : n % 4 = 0 := by
    have h1 : 4 * v * h = 4 * (v * h) := Int.mul_assoc _ _ _
    rw [h1] at hl
    omega
  have hbw : bc < w.heap.size := hc.lt (by omega)
  have hbf : b < w.heap.size := hr.lt (by omega)
  have HT := Lib.hid (fun p w' hb => tetra_any S lo hi bc offc nc capc fc p w' ⟨hS0, hS⟩ hnc hcap (hc.below hb hbw) : ∀ p w', Below w.heap.size w w' → _)
  have HE := Lib.hid (And.intro he hE); have HRF := Lib.hid hr; have HN4 := Lib.hid hn4
  have sa := array_at
  clear he hcap hc hE hr hS hS0 hnc hpos hnb hre hl hn4
  go_enter Try.func109, Try.ntmps109
  go_upto_region 1 with fail
  refine wp_world (fun W hW => ?_)
  have R0 : ApR w W (cubV S lo hi bc offc nc capc) [.int .i64 x, .int .i64 y, .int .i64 v, .int .i64 h, .slice (some ⟨b, off, none⟩) n cap] := by rw [hW]; exact ⟨((Blk.new _ _ _ _ rfl).alloc _).alloc _, (Blk.new _ _ _ _ (by simp)).alloc _, Blk.new _ _ _ _ (by simp), by (repeat (first | exact Below.refl _ _ | assumption | (refine Below.setCell ?_ (by first | (simp; done) | (simp; omega) | omega) _) | (refine Below.drew ?_) | (refine below_drewN ?_ _) | (refine Below.alloc ?_ (by first | (simp; done) | (simp; omega) | omega) _) | (refine Below.trans ?_ (Below.mono (by assumption) (by first | (simp; done) | (simp; omega) | omega)))))⟩
  have HR := Lib.hid R0
  have p0 := R0.a.c 0 _ rfl; have p1 := R0.a.c 1 _ rfl; have p2 := R0.a.c 2 _ rfl; have p3 := R0.a.c 3 _ rfl; have pl := R0.a.lt
  clear hW R0
  go_wp2_with fail
  refine (CuCheck_any _ _ _ _ _ _ _).mono ?_
  rintro e w2 ⟨rfl, hb2⟩
  rw [HE.out.1]
  have HR2 := Lib.hid (HR.out.past hb2)
  clear hb2 HR p0 p1 p2 p3 pl
  have f0 := HR2.out.f.c 0 _ rfl; have f1 := HR2.out.f.c 1 _ rfl; have f2 := HR2.out.f.c 2 _ rfl; have f3 := HR2.out.f.c 3 _ rfl; have f4 := HR2.out.f.c 4 _ rfl; have fl := HR2.out.f.lt
  go_wp2_with fail
  refine (FClean_yes x y v h b off n cap fs _ HE.out.2 (HRF.out.below HR2.out.w hbf)).mono ?_
  rintro e w3 ⟨g, rfl, hg1, hrow, hb3⟩
  have HR3 := Lib.hid (HR2.out.past hb3)
  have hg2 : w.heap.size + 2 < g := by have := HR2.out.z.lt; omega
  clear f0 f1 f2 f3 f4 fl hb3 hg1 HR2
  go_upto_region 11 with fail
  refine wp_world (fun W4 hW4 => ?_)
  have O4 : Blk W4 w3.heap.size [.int .i64 x, .int .i64 y, .int .i64 v, .int .i64 h, .slice (some ⟨g, 0, none⟩) n n] := by rw [hW4]; exact Blk.new _ _ _ _ rfl
  have B4 : Below w3.heap.size w3 W4 := by rw [hW4]; (repeat (first | exact Below.refl _ _ | assumption | (refine Below.setCell ?_ (by first | (simp; done) | (simp; omega) | omega) _) | (refine Below.drew ?_) | (refine below_drewN ?_ _) | (refine Below.alloc ?_ (by first | (simp; done) | (simp; omega) | omega) _) | (refine Below.trans ?_ (Below.mono (by assumption) (by first | (simp; done) | (simp; omega) | omega)))))
  have R4 : W4.rowIs g 38 n (fun i => .float .f32 (cn .f32 (fs i))) := hrow.of_block (B4.block g hrow.lt)
  have hgl : g < w3.heap.size := hrow.lt
  have HR4 := Lib.hid (HR3.out.past B4); have HO4 := Lib.hid O4; have HRW4 := Lib.hid R4
  clear hW4 B4 R4 O4 HR3 hrow
  generalize w3.heap.size = no at *
  have hno : no ≠ g := by omega
  go_wp2_with fail
  go_loopw [12] (fun s12 wr => ∃ k : Nat, 4 * k ≤ n ∧ s12 = .int .i64 (4 * k : Nat) ∧ wr.rowIs g 38 n (fun j => if j < 4 * k then .float .f32 (apG tetF S lo hi fc fs (j / 4) (j % 4)) else .float .f32 (cn .f32 (fs j))) ∧ W4.grownBy wr (some g)) (fun s12 _ => n - (intOf s12).toNat)
  case atStart => exact ⟨0, by omega, rfl, by simpa using HRW4.out, World.grownBy.refl _ _⟩
  case round =>
    obtain ⟨k, hk, rfl, hrw, hgr⟩ := hrel
    have sw := hgr.size
    have A1 := HR4.out.a.block sw (hgr.block _ HR4.out.a.lt (by simp; omega))
    have Z1 := HR4.out.z.block sw (hgr.block _ HR4.out.z.lt (by simp; omega))
    have O1 := HO4.out.block sw (hgr.block _ HO4.out.lt (by simp; omega))
    have BW : Below w.heap.size w wr := HR4.out.w.grown hgr (by have := HR4.out.w.size; omega) (by intro j hj; cases hj; omega)
    have HRW := Lib.hid hrw; have HGR := Lib.hid hgr; have HWB := Lib.hid BW
    have hgw : g < wr.heap.size := hrw.lt
    have o4 := O1.c 4 _ rfl; have ol := O1.lt
    have HO1 := Lib.hid O1; have HZ1 := Lib.hid Z1; have HA1 := Lib.hid A1
    by_cases hkn : 4 * k < n
    · have hk4 : 4 * k + 4 ≤ n := by have := HN4.out; omega
      obtain ⟨i, hik⟩ : ∃ i, i = 4 * k := ⟨_, rfl⟩
      have C : ∀ m, m < 4 → wr.cell? ⟨g, 4 * k + m, none⟩ = some (.float .f32 (cn .f32 (fs (4 * k + m)))) := fun m hm => by
        have := hrw.cell (show 4 * k + m < n by omega)
        rw [this, if_neg (by omega)]
      have C0 := C 0 (by omega); have C1 := C 1 (by omega); have C2 := C 2 (by omega); have C3 := C 3 (by omega)
      obtain ⟨p, hp⟩ : ∃ p, p = p4 (cn .f32 (fs (4 * k))) (cn .f32 (fs (4 * k + 1))) (cn .f32 (fs (4 * k + 2))) (cn .f32 (fs (4 * k + 3))) := ⟨_, rfl⟩
      rw [Nat.add_zero, show cn .f32 (fs (4 * k)) = p 0 by rw [hp]; rfl] at C0
      rw [show cn .f32 (fs (4 * k + 1)) = p 1 by rw [hp]; rfl] at C1
      rw [show cn .f32 (fs (4 * k + 2)) = p 2 by rw [hp]; rfl] at C2
      rw [show cn .f32 (fs (4 * k + 3)) = p 3 by rw [hp]; rfl] at C3
      have HQ := Lib.hid (show ∀ a, cn .f32 (p a) = cn .f32 (p4 (fs (4 * k)) (fs (4 * k + 1)) (fs (4 * k + 2)) (fs (4 * k + 3)) a) from fun a => by rw [hp]; exact p4_congr (cn_cn _ _) (cn_cn _ _) (cn_cn _ _) (cn_cn _ _) a)
      rw [← hik] at hkn hk4 C0 C1 C2 C3 hrw HRW ⊢
      have HII := Lib.hid hik
      obtain ⟨q, hq⟩ : ∃ q : Nat → Nat, q = tetF S lo hi fc p := ⟨_, rfl⟩
      have HQQ := Lib.hid hq
      clear hq
      clear hik hp C hgr hrw BW A1 Z1 O1
      have a0 := HA1.out.c 0 _ rfl; have a1 := HA1.out.c 1 _ rfl; have a2 := HA1.out.c 2 _ rfl; have a3 := HA1.out.c 3 _ rfl; have al := HA1.out.lt
      have wi : IntKind.i64.wrap ((i : Int) + 4) = (i : Int) + 4 := by rw [IntKind.wrap_i64]; omega
      have j0 : (0 : Int) ≤ (i : Int) + 4 := by omega
      have j1 : (i : Int) + 4 ≤ (n : Int) := by omega
      have j2 : ((i : Int) + 4).toNat = i + 4 := by omega
      have j3 : i + 4 - i = 4 := by omega
      have j4 : ¬ n = i := by omega
      go_wp2_with fail
      refine wp_region_looseM 12 (fun _ _ u => u = .agg #[.float .f32 (q 0), .float .f32 (q 1), .float .f32 (q 2), .float .f32 (q 3)]) [(11, 13, .cells #[.float .f32 0, .float .f32 0, .float .f32 0, .float .f32 0] 65)] (by kernel_rfl) (by kernel_rfl) (by kernel_rfl) (by intro m hm; cases hm with | head => exact ⟨_, rfl, ⟨rfl, rfl, fun ev w => by kernel_rfl⟩⟩ | tail _ h => cases h) (by intro m hm; cases hm with | head => exact of_decide_eq_true (by kernel_rfl) | tail _ h => cases h) ?_
      simp only [List.take_succ_cons, List.take_zero, List.drop_succ_cons, List.drop_zero]
      iterate 10 (refine looseM_wanted rfl (fun K hK => ?_); go_simp; refine hK _ ?_; clear hK K)
      refine looseM_wanted rfl (fun K1 hK => ?_)
      go_simp
      refine ⟨fun pp => (HT.out p pp.w (HWB.out.trans (pp.h.mono HWB.out.size))).mono ?_, ?_⟩
      · rintro e w' ⟨rfl, hb⟩
        exact ⟨_, rfl, by rw [HQQ.out], hb⟩
      refine hK _ ?_
      clear hK K1
      refine looseM_lays (d := 13) (blk := .cells #[.float .f32 0, .float .f32 0, .float .f32 0, .float .f32 0] 65) ⟨rfl, rfl, fun ev w => by kernel_rfl⟩ (fun pg hpg => ?_)
      refine looseM_nil (fun w6 hb6 hg6 _ => ?_)
      obtain ⟨pg', hpg1, hpg2⟩ := hg6 _ (List.Mem.head _)
      obtain rfl : pg = pg' := by cases hpg1; rfl
      clear hpg1 hg6
      have NB : Blk w6 pg [.float .f32 0, .float .f32 0, .float .f32 0, .float .f32 0] := Blk.at hpg2
      have hR6 := HRW.out.of_block (hb6.block g hgw)
      have hO6 := HO1.out.past hb6
      have hG6 : W4.grownBy w6 (some g) := grown_past HGR.out hb6
      have hpgg : pg ≠ g := by omega
      have hpno : pg ≠ no := by have := HO1.out.lt; omega
      have hpz : wr.heap.size ≤ pg := hpg
      have HNB := Lib.hid NB; have HR6 := Lib.hid hR6; have HO6 := Lib.hid hO6; have HG6 := Lib.hid hG6
      have n0 := NB.c 0 _ rfl; have n1 := NB.c 1 _ rfl; have n2 := NB.c 2 _ rfl; have n3 := NB.c 3 _ rfl; have nf := NB.f; have nl := NB.lt
      have hs6 := hb6.size
      clear NB hR6 hO6 hG6 hb6 hpg2 hpg C0 C1 C2 C3 a0 a1 a2 a3 al o4 ol
      go_upto_region 17 with fail
      refine wp_world (fun W8 hW8 => ?_)
      have PB : Blk W8 pg [.float .f32 (q 0), .float .f32 (q 1), .float .f32 (q 2), .float .f32 (q 3)] := by rw [hW8]; exact (((HNB.out.set 0 _).set 1 _).set 2 _).set 3 _
      have hR8 : W8.rowIs g 38 n (fun j => if j < i then .float .f32 (apG tetF S lo hi fc fs (j / 4) (j % 4)) else .float .f32 (cn .f32 (fs j))) := by rw [hW8]; exact (((HR6.out.setOther (by simpa using Ne.symm hpgg) _).setOther (by simpa using Ne.symm hpgg) _).setOther (by simpa using Ne.symm hpgg) _).setOther (by simpa using Ne.symm hpgg) _
      have hO8 : Blk W8 no [.int .i64 x, .int .i64 y, .int .i64 v, .int .i64 h, .slice (some ⟨g, 0, none⟩) n n] := by rw [hW8]; exact (((HO6.out.far _ _ (by simpa using hpno)).far _ _ (by simpa using hpno)).far _ _ (by simpa using hpno)).far _ _ (by simpa using hpno)
      have hG8 : W4.grownBy W8 (some g) := by rw [hW8]; exact grown_far (grown_far (grown_far (grown_far HG6.out _ _ (by simp; omega)) _ _ (by simp; omega)) _ _ (by simp; omega)) _ _ (by simp; omega)
      obtain ⟨cur, hcu, hcl, hsp⟩ := rowIs_splice hR8 i q hk4
      have HSP := Lib.hid hsp; have HO8 := Lib.hid hO8; have HG8 := Lib.hid hG8; have HCU := Lib.hid hcu
      have o4 := hO8.c 4 _ rfl; have ol := hO8.lt
      have v0 := PB.c 0 _ rfl; have v1 := PB.c 1 _ rfl; have v2 := PB.c 2 _ rfl; have v3 := PB.c 3 _ rfl; have vl := PB.lt
      have HPB := Lib.hid PB
      have hin : (i : Int) ≤ (n : Int) := by omega
      clear hW8 hR8 hO8 hG8 hsp hcu PB HR6 HO6 HG6 HNB n0 n1 n2 n3 nf nl hs6
      go_region_law (refine step_copy_row rfl (.tmp 57) (.tmp 58) 25 25 rfl 38 Try.underlying25 (by kernel_rfl) g i (n - i) (n - i) ⟨pg, 0, none⟩ 4 4 rfl rfl cur 38 HCU.out [.float .f32 (q 0), .float .f32 (q 1), .float .f32 (q 2), .float .f32 (q 3)] (show 4 = min 4 (n - i) by omega) (by intro j u hj; match j, hj with | 0, hj => (simp at hj; subst hj; simpa [Addr.add] using v0) | 1, hj => (simp at hj; subst hj; simpa [Addr.add] using v1) | 2, hj => (simp at hj; subst hj; simpa [Addr.add] using v2) | 3, hj => (simp at hj; subst hj; simpa [Addr.add] using v3)) (by rw [hcl]; exact hk4) (by intro u hu; simp at hu; rcases hu with rfl | rfl | rfl | rfl <;> rfl) ?_)
      go_wp2_with fail
      go_roundw
      case rel =>
        have hI := HII.out
        refine ⟨k + 1, by omega, by rw [show ((4 * (k + 1) : Nat) : Int) = (i : Int) + 4 by omega], World.rowIs.congr (w := _) (show _ from HSP.out) (fun j hj => ?_), grown_trans HG8.out (grown_row _ _ _)⟩
        by_cases h1 : i ≤ j ∧ j < i + 4
        · rw [if_pos h1, if_pos (by omega), HQQ.out]
          unfold apG
          rw [show j / 4 = k by omega, show j % 4 = j - i by omega, tet_congr4 S lo hi fc HQ.out (j - i)]
        · rw [if_neg h1]
          by_cases h2 : j < i
          · rw [if_pos h2, if_pos (by omega)]
          · rw [if_neg h2, if_neg (by omega)]
      case measure => simp [intOf]; omega
    · have hkn' : 4 * k = n := by omega
      have HROW := Lib.hid (fun j hj => by have := HRW.out.cell (i := j) hj; rw [this, if_pos (by omega)] : ∀ j, j < n → wr.cell? ⟨g, j, none⟩ = some (.float .f32 (apG tetF S lo hi fc fs (j / 4) (j % 4))))
      have hkn2 : ¬ ((4 * k : Nat) : Int) + 4 ≤ (n : Int) := by omega
      have wi : IntKind.i64.wrap (((4 * k : Nat) : Int) + 4) = ((4 * k : Nat) : Int) + 4 := by rw [IntKind.wrap_i64]; omega
      have o0 := O1.c 0 _ rfl; have o1 := O1.c 1 _ rfl; have o2 := O1.c 2 _ rfl; have o3 := O1.c 3 _ rfl
      have z0 := Z1.c 0 _ rfl; have z1 := Z1.c 1 _ rfl; have z2 := Z1.c 2 _ rfl; have z3 := Z1.c 3 _ rfl; have z4 := Z1.c 4 _ rfl; have zf := Z1.f; have zl := Z1.lt
      have hgz : w.heap.size + 2 ≠ g := by omega
      generalize 4 * k = i at *
      clear hrw hgr A1 Z1 O1 BW hkn
      go_wp2_with fail
      refine bodyPost_ret (v := .tuple #[.agg #[.int .i64 x, .int .i64 y, .int .i64 v, .int .i64 h, .slice (some ⟨g, 0, none⟩) n n], .int .i64 0]) (by simp [results, Try.results109, go_sem, z0, z1, z2, z3, z4]) rfl ⟨g, rfl, by simpa [World.setCell] using hgw, fun x hx => ?_, ?_⟩
      · have h := HROW.out x hx
        rw [← h]
        simp only [World.cell?_setCell_other _ _ _ _ (show (⟨w.heap.size + 2, _, none⟩ : Addr) ≠ ⟨g, x, none⟩ from fun e => hgz (congrArg Addr.block e))]
      · have B3 := HWB.out
        exact ((((B3.setCell (by first | (simp; done) | (simp; omega) | omega) _).setCell (by first | (simp; done) | (simp; omega) | omega) _).setCell (by first | (simp; done) | (simp; omega) | omega) _).setCell (by first | (simp; done) | (simp; omega) | omega) _).setCell (by first | (simp; done) | (simp; omega) | omega) _
set_option maxRecDepth 100000 in
set_option maxHeartbeats 3200000 in
theorem Apply_linear (S lo hi bc offc nc capc : Nat) (fc : Nat → Nat) (x y v h : Int) (b off n cap : Nat) (fs : Nat → Nat) (w : World) (he : cubErr S lo hi nc = 0) (hcap : nc ≤ capc) (hc : Row w bc offc nc fc) (hE : fraErr x y v h n = 0) (hr : Row w b off n fs) :
    Calls Try.prog 109 #[.agg #[.int .i64 S, .float .f32 lo, .float .f32 hi, .slice (some ⟨bc, offc, none⟩) nc capc], .int .i64 2, .agg #[.int .i64 x, .int .i64 y, .int .i64 v, .int .i64 h, .slice (some ⟨b, off, none⟩) n cap]] w fun e w' =>
      ∃ g, e = .returned (.tuple #[.agg #[.int .i64 x, .int .i64 y, .int .i64 v, .int .i64 h, .slice (some ⟨g, 0, none⟩) n n], .int .i64 0]) ∧ g < w'.heap.size ∧ (∀ i, i < n → w'.cell? ⟨g, i, none⟩ = some (.float .f32 (apG linF S lo hi fc fs (i / 4) (i % 4)))) ∧ Below w.heap.size w w' := by
  obtain ⟨hS, hS0, hnc, hpos, hnb⟩ := cub_ok_nat he
  obtain ⟨hre, hl⟩ := fraErr_ok hE
  obtain ⟨hn0, hn6, -, -, -⟩ := fr_n hre hl
  have hn4 : n % 4 = 0 := by
    have h1 : 4 * v * h = 4 * (v * h) := Int.mul_assoc _ _ _
    rw [h1] at hl
    omega
  have hbw : bc < w.heap.size := hc.lt (by omega)
  have hbf : b < w.heap.size := hr.lt (by omega)
  have HT := Lib.hid (fun p w' hb => linear_any S lo hi bc offc nc capc fc p w' ⟨hS0, hS⟩ hnc hcap (hc.below hb hbw) : ∀ p w', Below w.heap.size w w' → _)
  have HE := Lib.hid (And.intro he hE); have HRF := Lib.hid hr; have HN4 := Lib.hid hn4
  have sa := array_at
  clear he hcap hc hE hr hS hS0 hnc hpos hnb hre hl hn4
  go_enter Try.func109, Try.ntmps109
  go_upto_region 1 with fail
  refine wp_world (fun W hW => ?_)
  have R0 : ApR w W (cubV S lo hi bc offc nc capc) [.int .i64 x, .int .i64 y, .int .i64 v, .int .i64 h, .slice (some ⟨b, off, none⟩) n cap] := by rw [hW]; exact ⟨((Blk.new _ _ _ _ rfl).alloc _).alloc _, (Blk.new _ _ _ _ (by simp)).alloc _, Blk.new _ _ _ _ (by simp), by (repeat (first | exact Below.refl _ _ | assumption | (refine Below.setCell ?_ (by first | (simp; done) | (simp; omega) | omega) _) | (refine Below.drew ?_) | (refine below_drewN ?_ _) | (refine Below.alloc ?_ (by first | (simp; done) | (simp; omega) | omega) _) | (refine Below.trans ?_ (Below.mono (by assumption) (by first | (simp; done) | (simp; omega) | omega)))))⟩
  have HR := Lib.hid R0
  have p0 := R0.a.c 0 _ rfl; have p1 := R0.a.c 1 _ rfl; have p2 := R0.a.c 2 _ rfl; have p3 := R0.a.c 3 _ rfl; have pl := R0.a.lt
  clear hW R0
  go_wp2_with fail
  refine (CuCheck_any _ _ _ _ _ _ _).mono ?_
  rintro e w2 ⟨rfl, hb2⟩
  rw [HE.out.1]
  have HR2 := Lib.hid (HR.out.past hb2)
  clear hb2 HR p0 p1 p2 p3 pl
  have f0 := HR2.out.f.c 0 _ rfl; have f1 := HR2.out.f.c 1 _ rfl; have f2 := HR2.out.f.c 2 _ rfl; have f3 := HR2.out.f.c 3 _ rfl; have f4 := HR2.out.f.c 4 _ rfl; have fl := HR2.out.f.lt
  go_wp2_with fail
  refine (FClean_yes x y v h b off n cap fs _ HE.out.2 (HRF.out.below HR2.out.w hbf)).mono ?_
  rintro e w3 ⟨g, rfl, hg1, hrow, hb3⟩
  have HR3 := Lib.hid (HR2.out.past hb3)
  have hg2 : w.heap.size + 2 < g := by have := HR2.out.z.lt; omega
  clear f0 f1 f2 f3 f4 fl hb3 hg1 HR2
  go_upto_region 11 with fail
  refine wp_world (fun W4 hW4 => ?_)
  have O4 : Blk W4 w3.heap.size [.int .i64 x, .int .i64 y, .int .i64 v, .int .i64 h, .slice (some ⟨g, 0, none⟩) n n] := by rw [hW4]; exact Blk.new _ _ _ _ rfl
  have B4 : Below w3.heap.size w3 W4 := by rw [hW4]; (repeat (first | exact Below.refl _ _ | assumption | (refine Below.setCell ?_ (by first | (simp; done) | (simp; omega) | omega) _) | (refine Below.drew ?_) | (refine below_drewN ?_ _) | (refine Below.alloc ?_ (by first | (simp; done) | (simp; omega) | omega) _) | (refine Below.trans ?_ (Below.mono (by assumption) (by first | (simp; done) | (simp; omega) | omega)))))
  have R4 : W4.rowIs g 38 n (fun i => .float .f32 (cn .f32 (fs i))) := hrow.of_block (B4.block g hrow.lt)
  have hgl : g < w3.heap.size := hrow.lt
  have HR4 := Lib.hid (HR3.out.past B4); have HO4 := Lib.hid O4; have HRW4 := Lib.hid R4
  clear hW4 B4 R4 O4 HR3 hrow
  generalize w3.heap.size = no at *
  have hno : no ≠ g := by omega
  go_wp2_with fail
  go_loopw [12] (fun s12 wr => ∃ k : Nat, 4 * k ≤ n ∧ s12 = .int .i64 (4 * k : Nat) ∧ wr.rowIs g 38 n (fun j => if j < 4 * k then .float .f32 (apG linF S lo hi fc fs (j / 4) (j % 4)) else .float .f32 (cn .f32 (fs j))) ∧ W4.grownBy wr (some g)) (fun s12 _ => n - (intOf s12).toNat)
  case atStart => exact ⟨0, by omega, rfl, by simpa using HRW4.out, World.grownBy.refl _ _⟩
  case round =>
    obtain ⟨k, hk, rfl, hrw, hgr⟩ := hrel
    have sw := hgr.size
    have A1 := HR4.out.a.block sw (hgr.block _ HR4.out.a.lt (by simp; omega))
    have Z1 := HR4.out.z.block sw (hgr.block _ HR4.out.z.lt (by simp; omega))
    have O1 := HO4.out.block sw (hgr.block _ HO4.out.lt (by simp; omega))
    have BW : Below w.heap.size w wr := HR4.out.w.grown hgr (by have := HR4.out.w.size; omega) (by intro j hj; cases hj; omega)
    have HRW := Lib.hid hrw; have HGR := Lib.hid hgr; have HWB := Lib.hid BW
    have hgw : g < wr.heap.size := hrw.lt
    have o4 := O1.c 4 _ rfl; have ol := O1.lt
    have HO1 := Lib.hid O1; have HZ1 := Lib.hid Z1; have HA1 := Lib.hid A1
    by_cases hkn : 4 * k < n
    · have hk4 : 4 * k + 4 ≤ n := by have := HN4.out; omega
      obtain ⟨i, hik⟩ : ∃ i, i = 4 * k := ⟨_, rfl⟩
      have C : ∀ m, m < 4 → wr.cell? ⟨g, 4 * k + m, none⟩ = some (.float .f32 (cn .f32 (fs (4 * k + m)))) := fun m hm => by
        have := hrw.cell (show 4 * k + m < n by omega)
        rw [this, if_neg (by omega)]
      have C0 := C 0 (by omega); have C1 := C 1 (by omega); have C2 := C 2 (by omega); have C3 := C 3 (by omega)
      obtain ⟨p, hp⟩ : ∃ p, p = p4 (cn .f32 (fs (4 * k))) (cn .f32 (fs (4 * k + 1))) (cn .f32 (fs (4 * k + 2))) (cn .f32 (fs (4 * k + 3))) := ⟨_, rfl⟩
      rw [Nat.add_zero, show cn .f32 (fs (4 * k)) = p 0 by rw [hp]; rfl] at C0
      rw [show cn .f32 (fs (4 * k + 1)) = p 1 by rw [hp]; rfl] at C1
      rw [show cn .f32 (fs (4 * k + 2)) = p 2 by rw [hp]; rfl] at C2
      rw [show cn .f32 (fs (4 * k + 3)) = p 3 by rw [hp]; rfl] at C3
      have HQ := Lib.hid (show ∀ a, cn .f32 (p a) = cn .f32 (p4 (fs (4 * k)) (fs (4 * k + 1)) (fs (4 * k + 2)) (fs (4 * k + 3)) a) from fun a => by rw [hp]; exact p4_congr (cn_cn _ _) (cn_cn _ _) (cn_cn _ _) (cn_cn _ _) a)
      rw [← hik] at hkn hk4 C0 C1 C2 C3 hrw HRW ⊢
      have HII := Lib.hid hik
      obtain ⟨q, hq⟩ : ∃ q : Nat → Nat, q = linF S lo hi fc p := ⟨_, rfl⟩
      have HQQ := Lib.hid hq
      clear hq
      clear hik hp C hgr hrw BW A1 Z1 O1
      have a0 := HA1.out.c 0 _ rfl; have a1 := HA1.out.c 1 _ rfl; have a2 := HA1.out.c 2 _ rfl; have a3 := HA1.out.c 3 _ rfl; have al := HA1.out.lt
      have wi : IntKind.i64.wrap ((i : Int) + 4) = (i : Int) + 4 := by rw [IntKind.wrap_i64]; omega
      have j0 : (0 : Int) ≤ (i : Int) + 4 := by omega
      have j1 : (i : Int) + 4 ≤ (n : Int) := by omega
      have j2 : ((i : Int) + 4).toNat = i + 4 := by omega
      have j3 : i + 4 - i = 4 := by omega
      have j4 : ¬ n = i := by omega
      go_wp2_with fail
      refine wp_region_looseM 12 (fun _ _ u => u = .agg #[.float .f32 (q 0), .float .f32 (q 1), .float .f32 (q 2), .float .f32 (q 3)]) [(11, 13, .cells #[.float .f32 0, .float .f32 0, .float .f32 0, .float .f32 0] 65)] (by kernel_rfl) (by kernel_rfl) (by kernel_rfl) (by intro m hm; cases hm with | head => exact ⟨_, rfl, ⟨rfl, rfl, fun ev w => by kernel_rfl⟩⟩ | tail _ h => cases h) (by intro m hm; cases hm with | head => exact of_decide_eq_true (by kernel_rfl) | tail _ h => cases h) ?_
      simp only [List.take_succ_cons, List.take_zero, List.drop_succ_cons, List.drop_zero]
      iterate 10 (refine looseM_wanted rfl (fun K hK => ?_); go_simp; refine hK _ ?_; clear hK K)
      refine looseM_wanted rfl (fun K1 hK => ?_)
      go_simp
      refine ⟨fun pp => (HT.out p pp.w (HWB.out.trans (pp.h.mono HWB.out.size))).mono ?_, ?_⟩
      · rintro e w' ⟨rfl, hb⟩
        exact ⟨_, rfl, by rw [HQQ.out], hb⟩
      refine hK _ ?_
      clear hK K1
      refine looseM_lays (d := 13) (blk := .cells #[.float .f32 0, .float .f32 0, .float .f32 0, .float .f32 0] 65) ⟨rfl, rfl, fun ev w => by kernel_rfl⟩ (fun pg hpg => ?_)
      refine looseM_nil (fun w6 hb6 hg6 _ => ?_)
      obtain ⟨pg', hpg1, hpg2⟩ := hg6 _ (List.Mem.head _)
      obtain rfl : pg = pg' := by cases hpg1; rfl
      clear hpg1 hg6
      have NB : Blk w6 pg [.float .f32 0, .float .f32 0, .float .f32 0, .float .f32 0] := Blk.at hpg2
      have hR6 := HRW.out.of_block (hb6.block g hgw)
      have hO6 := HO1.out.past hb6
      have hG6 : W4.grownBy w6 (some g) := grown_past HGR.out hb6
      have hpgg : pg ≠ g := by omega
      have hpno : pg ≠ no := by have := HO1.out.lt; omega
      have hpz : wr.heap.size ≤ pg := hpg
      have HNB := Lib.hid NB; have HR6 := Lib.hid hR6; have HO6 := Lib.hid hO6; have HG6 := Lib.hid hG6
      have n0 := NB.c 0 _ rfl; have n1 := NB.c 1 _ rfl; have n2 := NB.c 2 _ rfl; have n3 := NB.c 3 _ rfl; have nf := NB.f; have nl := NB.lt
      have hs6 := hb6.size
      clear NB hR6 hO6 hG6 hb6 hpg2 hpg C0 C1 C2 C3 a0 a1 a2 a3 al o4 ol
      go_upto_region 17 with fail
      refine wp_world (fun W8 hW8 => ?_)
      have PB : Blk W8 pg [.float .f32 (q 0), .float .f32 (q 1), .float .f32 (q 2), .float .f32 (q 3)] := by rw [hW8]; exact (((HNB.out.set 0 _).set 1 _).set 2 _).set 3 _
      have hR8 : W8.rowIs g 38 n (fun j => if j < i then .float .f32 (apG linF S lo hi fc fs (j / 4) (j % 4)) else .float .f32 (cn .f32 (fs j))) := by rw [hW8]; exact (((HR6.out.setOther (by simpa using Ne.symm hpgg) _).setOther (by simpa using Ne.symm hpgg) _).setOther (by simpa using Ne.symm hpgg) _).setOther (by simpa using Ne.symm hpgg) _
      have hO8 : Blk W8 no [.int .i64 x, .int .i64 y, .int .i64 v, .int .i64 h, .slice (some ⟨g, 0, none⟩) n n] := by rw [hW8]; exact (((HO6.out.far _ _ (by simpa using hpno)).far _ _ (by simpa using hpno)).far _ _ (by simpa using hpno)).far _ _ (by simpa using hpno)
      have hG8 : W4.grownBy W8 (some g) := by rw [hW8]; exact grown_far (grown_far (grown_far (grown_far HG6.out _ _ (by simp; omega)) _ _ (by simp; omega)) _ _ (by simp; omega)) _ _ (by simp; omega)
      obtain ⟨cur, hcu, hcl, hsp⟩ := rowIs_splice hR8 i q hk4
      have HSP := Lib.hid hsp; have HO8 := Lib.hid hO8; have HG8 := Lib.hid hG8; have HCU := Lib.hid hcu
      have o4 := hO8.c 4 _ rfl; have ol := hO8.lt
      have v0 := PB.c 0 _ rfl; have v1 := PB.c 1 _ rfl; have v2 := PB.c 2 _ rfl; have v3 := PB.c 3 _ rfl; have vl := PB.lt
      have HPB := Lib.hid PB
      have hin : (i : Int) ≤ (n : Int) := by omega
      clear hW8 hR8 hO8 hG8 hsp hcu PB HR6 HO6 HG6 HNB n0 n1 n2 n3 nf nl hs6
      go_region_law (refine step_copy_row rfl (.tmp 57) (.tmp 58) 25 25 rfl 38 Try.underlying25 (by kernel_rfl) g i (n - i) (n - i) ⟨pg, 0, none⟩ 4 4 rfl rfl cur 38 HCU.out [.float .f32 (q 0), .float .f32 (q 1), .float .f32 (q 2), .float .f32 (q 3)] (show 4 = min 4 (n - i) by omega) (by intro j u hj; match j, hj with | 0, hj => (simp at hj; subst hj; simpa [Addr.add] using v0) | 1, hj => (simp at hj; subst hj; simpa [Addr.add] using v1) | 2, hj => (simp at hj; subst hj; simpa [Addr.add] using v2) | 3, hj => (simp at hj; subst hj; simpa [Addr.add] using v3)) (by rw [hcl]; exact hk4) (by intro u hu; simp at hu; rcases hu with rfl | rfl | rfl | rfl <;> rfl) ?_)
      go_wp2_with fail
      go_roundw
      case rel =>
        have hI := HII.out
        refine ⟨k + 1, by omega, by rw [show ((4 * (k + 1) : Nat) : Int) = (i : Int) + 4 by omega], World.rowIs.congr (w := _) (show _ from HSP.out) (fun j hj => ?_), grown_trans HG8.out (grown_row _ _ _)⟩
        by_cases h1 : i ≤ j ∧ j < i + 4
        · rw [if_pos h1, if_pos (by omega), HQQ.out]
          unfold apG
          rw [show j / 4 = k by omega, show j % 4 = j - i by omega, lin_congr4 S lo hi fc HQ.out (j - i)]
        · rw [if_neg h1]
          by_cases h2 : j < i
          · rw [if_pos h2, if_pos (by omega)]
          · rw [if_neg h2, if_neg (by omega)]
      case measure => simp [intOf]; omega
    · have hkn' : 4 * k = n := by omega
      have HROW := Lib.hid (fun j hj => by have := HRW.out.cell (i := j) hj; rw [this, if_pos (by omega)] : ∀ j, j < n → wr.cell? ⟨g, j, none⟩ = some (.float .f32 (apG linF S lo hi fc fs (j / 4) (j % 4))))
      have hkn2 : ¬ ((4 * k : Nat) : Int) + 4 ≤ (n : Int) := by omega
      have wi : IntKind.i64.wrap (((4 * k : Nat) : Int) + 4) = ((4 * k : Nat) : Int) + 4 := by rw [IntKind.wrap_i64]; omega
      have o0 := O1.c 0 _ rfl; have o1 := O1.c 1 _ rfl; have o2 := O1.c 2 _ rfl; have o3 := O1.c 3 _ rfl
      have z0 := Z1.c 0 _ rfl; have z1 := Z1.c 1 _ rfl; have z2 := Z1.c 2 _ rfl; have z3 := Z1.c 3 _ rfl; have z4 := Z1.c 4 _ rfl; have zf := Z1.f; have zl := Z1.lt
      have hgz : w.heap.size + 2 ≠ g := by omega
      generalize 4 * k = i at *
      clear hrw hgr A1 Z1 O1 BW hkn
      go_wp2_with fail
      refine bodyPost_ret (v := .tuple #[.agg #[.int .i64 x, .int .i64 y, .int .i64 v, .int .i64 h, .slice (some ⟨g, 0, none⟩) n n], .int .i64 0]) (by simp [results, Try.results109, go_sem, z0, z1, z2, z3, z4]) rfl ⟨g, rfl, by simpa [World.setCell] using hgw, fun x hx => ?_, ?_⟩
      · have h := HROW.out x hx
        rw [← h]
        simp only [World.cell?_setCell_other _ _ _ _ (show (⟨w.heap.size + 2, _, none⟩ : Addr) ≠ ⟨g, x, none⟩ from fun e => hgz (congrArg Addr.block e))]
      · have B3 := HWB.out
        exact ((((B3.setCell (by first | (simp; done) | (simp; omega) | omega) _).setCell (by first | (simp; done) | (simp; omega) | omega) _).setCell (by first | (simp; done) | (simp; omega) | omega) _).setCell (by first | (simp; done) | (simp; omega) | omega) _).setCell (by first | (simp; done) | (simp; omega) | omega) _
def apE (ec how ef : Int) : Int := firstE ec (firstE (whenE (!inB how 1 2) 1) ef)
set_option maxRecDepth 100000 in
set_option maxHeartbeats 3200000 in
theorem Apply_no (sa : Int) (la ha : Nat) (aa : Option Addr) (na ca : Nat) (how : Int) (x y v h : Int) (a : Option Addr) (n cap : Nat) (w : World) (hE : apE (cubErr sa la ha na) how (fraErr x y v h n) ≠ 0) :
    Calls Try.prog 109 #[.agg #[.int .i64 sa, .float .f32 la, .float .f32 ha, .slice aa na ca], .int .i64 how, .agg #[.int .i64 x, .int .i64 y, .int .i64 v, .int .i64 h, .slice a n cap]] w fun e w' => e = .returned (.tuple #[.agg #[.int .i64 0, .int .i64 0, .int .i64 0, .int .i64 0, .slice none 0 0], .int .i64 (apE (cubErr sa la ha na) how (fraErr x y v h n))]) ∧ Below w.heap.size w w' := by
  obtain ⟨EA, hEA⟩ : ∃ E, E = cubErr sa la ha na := ⟨_, rfl⟩
  obtain ⟨EF, hEF⟩ : ∃ E, E = fraErr x y v h n := ⟨_, rfl⟩
  rw [← hEA, ← hEF] at hE ⊢
  have HEA := Lib.hid hEA; have HEF := Lib.hid hEF; have HE := Lib.hid hE
  clear hEA hEF hE
  go_enter Try.func109, Try.ntmps109
  go_upto_region 1 with fail
  refine wp_world (fun W hW => ?_)
  have R0 : ApR w W [.int .i64 sa, .float .f32 la, .float .f32 ha, .slice aa na ca] [.int .i64 x, .int .i64 y, .int .i64 v, .int .i64 h, .slice a n cap] := by rw [hW]; exact ⟨((Blk.new _ _ _ _ rfl).alloc _).alloc _, (Blk.new _ _ _ _ (by simp)).alloc _, Blk.new _ _ _ _ (by simp), by (repeat (first | exact Below.refl _ _ | assumption | (refine Below.setCell ?_ (by first | (simp; done) | (simp; omega) | omega) _) | (refine Below.drew ?_) | (refine below_drewN ?_ _) | (refine Below.alloc ?_ (by first | (simp; done) | (simp; omega) | omega) _) | (refine Below.trans ?_ (Below.mono (by assumption) (by first | (simp; done) | (simp; omega) | omega)))))⟩
  have HR := Lib.hid R0
  have p0 := R0.a.c 0 _ rfl; have p1 := R0.a.c 1 _ rfl; have p2 := R0.a.c 2 _ rfl; have p3 := R0.a.c 3 _ rfl; have pl := R0.a.lt
  clear hW R0
  go_wp2_with fail
  refine (CuCheck_any _ _ _ _ _ _ _).mono ?_
  rintro e w2 ⟨rfl, hb2⟩
  rw [← HEA.out]
  have HR2 := Lib.hid (HR.out.past hb2)
  clear hb2 HR p0 p1 p2 p3 pl
  by_cases hA : EA = 0
  · subst hA
    by_cases hw1 : how = 1 ∨ how = 2
    · have hin : inB how 1 2 = true := inB_t (by omega)
      have hef : EF ≠ 0 := by have := HE.out; unfold apE at this; rw [hin] at this; exact this
      have hEq := Lib.hid (show apE 0 how EF = EF by unfold apE; rw [hin]; rfl)
      have hc : (EF != 0) = true := by simpa using hef
      have f0 := HR2.out.f.c 0 _ rfl; have f1 := HR2.out.f.c 1 _ rfl; have f2 := HR2.out.f.c 2 _ rfl; have f3 := HR2.out.f.c 3 _ rfl; have f4 := HR2.out.f.c 4 _ rfl; have fl := HR2.out.f.lt
      have HNE := Lib.hid hef
      clear hef hin HE
      rcases hw1 with rfl | rfl
      · skip
        go_wp2_with fail
        refine (FClean_no _ _ _ _ _ _ _ _ (by rw [← HEF.out]; exact HNE.out)).mono ?_
        rintro e w3 ⟨rfl, hb3⟩
        rw [← HEF.out]
        have HR3 := Lib.hid (HR2.out.past hb3)
        clear f0 f1 f2 f3 f4 fl hb3
        go_upto_region 11 with fail
        refine wp_world (fun W4 hW4 => ?_)
        have B4 : Below w3.heap.size w3 W4 := by rw [hW4]; (repeat (first | exact Below.refl _ _ | assumption | (refine Below.setCell ?_ (by first | (simp; done) | (simp; omega) | omega) _) | (refine Below.drew ?_) | (refine below_drewN ?_ _) | (refine Below.alloc ?_ (by first | (simp; done) | (simp; omega) | omega) _) | (refine Below.trans ?_ (Below.mono (by assumption) (by first | (simp; done) | (simp; omega) | omega)))))
        have R4 := HR3.out.past B4
        have z0 := R4.z.c 0 _ rfl; have z1 := R4.z.c 1 _ rfl; have z2 := R4.z.c 2 _ rfl; have z3 := R4.z.c 3 _ rfl; have z4 := R4.z.c 4 _ rfl; have zf := R4.z.f; have zl := R4.z.lt
        have B2 := R4.w
        clear hW4 B4 R4
        go_wp2_with fail
        refine bodyPost_ret (v := .tuple #[.agg #[.int .i64 0, .int .i64 0, .int .i64 0, .int .i64 0, .slice none 0 0], .int .i64 EF]) (by simp [results, Try.results109, go_sem, z0, z1, z2, z3, z4]) rfl ⟨by rw [hEq.out], ?_⟩
        exact ((((B2.setCell (by first | (simp; done) | (simp; omega) | omega) _).setCell (by first | (simp; done) | (simp; omega) | omega) _).setCell (by first | (simp; done) | (simp; omega) | omega) _).setCell (by first | (simp; done) | (simp; omega) | omega) _).setCell (by first | (simp; done) | (simp; omega) | omega) _
      · skip
        go_wp2_with fail
        refine (FClean_no _ _ _ _ _ _ _ _ (by rw [← HEF.out]; exact HNE.out)).mono ?_
        rintro e w3 ⟨rfl, hb3⟩
        rw [← HEF.out]
        have HR3 := Lib.hid (HR2.out.past hb3)
        clear f0 f1 f2 f3 f4 fl hb3
        go_upto_region 11 with fail
        refine wp_world (fun W4 hW4 => ?_)
        have B4 : Below w3.heap.size w3 W4 := by rw [hW4]; (repeat (first | exact Below.refl _ _ | assumption | (refine Below.setCell ?_ (by first | (simp; done) | (simp; omega) | omega) _) | (refine Below.drew ?_) | (refine below_drewN ?_ _) | (refine Below.alloc ?_ (by first | (simp; done) | (simp; omega) | omega) _) | (refine Below.trans ?_ (Below.mono (by assumption) (by first | (simp; done) | (simp; omega) | omega)))))
        have R4 := HR3.out.past B4
        have z0 := R4.z.c 0 _ rfl; have z1 := R4.z.c 1 _ rfl; have z2 := R4.z.c 2 _ rfl; have z3 := R4.z.c 3 _ rfl; have z4 := R4.z.c 4 _ rfl; have zf := R4.z.f; have zl := R4.z.lt
        have B2 := R4.w
        clear hW4 B4 R4
        go_wp2_with fail
        refine bodyPost_ret (v := .tuple #[.agg #[.int .i64 0, .int .i64 0, .int .i64 0, .int .i64 0, .slice none 0 0], .int .i64 EF]) (by simp [results, Try.results109, go_sem, z0, z1, z2, z3, z4]) rfl ⟨by rw [hEq.out], ?_⟩
        exact ((((B2.setCell (by first | (simp; done) | (simp; omega) | omega) _).setCell (by first | (simp; done) | (simp; omega) | omega) _).setCell (by first | (simp; done) | (simp; omega) | omega) _).setCell (by first | (simp; done) | (simp; omega) | omega) _).setCell (by first | (simp; done) | (simp; omega) | omega) _
    · have hin : inB how 1 2 = false := inB_f (by omega)
      have h1 : ¬ how = 1 := by omega
      have h2 : ¬ how = 2 := by omega
      have hEq := Lib.hid (show apE 0 how EF = 1 by unfold apE; rw [hin]; rfl)
      clear hw1 hin HE
      have z0 := HR2.out.z.c 0 _ rfl; have z1 := HR2.out.z.c 1 _ rfl; have z2 := HR2.out.z.c 2 _ rfl; have z3 := HR2.out.z.c 3 _ rfl; have z4 := HR2.out.z.c 4 _ rfl; have zf := HR2.out.z.f; have zl := HR2.out.z.lt
      have B2 := HR2.out.w
      go_wp2_with fail
      refine bodyPost_ret (v := .tuple #[.agg #[.int .i64 0, .int .i64 0, .int .i64 0, .int .i64 0, .slice none 0 0], .int .i64 1]) (by simp [results, Try.results109, go_sem, z0, z1, z2, z3, z4]) rfl ⟨by rw [hEq.out], ?_⟩
      exact ((((B2.setCell (by first | (simp; done) | (simp; omega) | omega) _).setCell (by first | (simp; done) | (simp; omega) | omega) _).setCell (by first | (simp; done) | (simp; omega) | omega) _).setCell (by first | (simp; done) | (simp; omega) | omega) _).setCell (by first | (simp; done) | (simp; omega) | omega) _
  · have hc : (EA != 0) = true := by simpa using hA
    have hEq := Lib.hid (show apE EA how EF = EA by unfold apE; rw [firstE_of _ hA])
    clear hA HE
    have z0 := HR2.out.z.c 0 _ rfl; have z1 := HR2.out.z.c 1 _ rfl; have z2 := HR2.out.z.c 2 _ rfl; have z3 := HR2.out.z.c 3 _ rfl; have z4 := HR2.out.z.c 4 _ rfl; have zf := HR2.out.z.f; have zl := HR2.out.z.lt
    have B2 := HR2.out.w
    go_wp2_with fail
    refine bodyPost_ret (v := .tuple #[.agg #[.int .i64 0, .int .i64 0, .int .i64 0, .int .i64 0, .slice none 0 0], .int .i64 EA]) (by simp [results, Try.results109, go_sem, z0, z1, z2, z3, z4]) rfl ⟨by rw [hEq.out], ?_⟩
    exact ((((B2.setCell (by first | (simp; done) | (simp; omega) | omega) _).setCell (by first | (simp; done) | (simp; omega) | omega) _).setCell (by first | (simp; done) | (simp; omega) | omega) _).setCell (by first | (simp; done) | (simp; omega) | omega) _).setCell (by first | (simp; done) | (simp; omega) | omega) _
end Go.Proofs.Ytkmjboffjhcoaaa
