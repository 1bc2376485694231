/- CubesMeasure: the walk where the first cube is wrong; the walk whole. No condition. -/
import Derived.Test.YtmckkgbdlgldbaaLawCme
namespace Go.Proofs.Ytmckkgbdlgldbaa
open Go Go.RowKit
set_option maxRecDepth 100000 in
set_option maxHeartbeats 8000000 in
theorem cme_no (sa : Int) (la ha : Nat) (aa : Option Addr) (na ca : Nat) (sb : Int) (lb hb : Nat) (ab : Option Addr) (nb cb : Nat) (w : World) (hE : cubErr sa la ha na ≠ 0) :
    Calls Try.prog 8 #[.agg #[.int .i64 sa, .float .f32 la, .float .f32 ha, .slice aa na ca], .agg #[.int .i64 sb, .float .f32 lb, .float .f32 hb, .slice ab nb cb]] w fun e w' => e = .returned (.bool true) ∧ Below w.heap.size w w' := by
  obtain ⟨EA, hEA⟩ : ∃ E, E = cubErr sa la ha na := ⟨_, rfl⟩
  have hbo : bothE (cubErr sa la ha na) (cubErr sb lb hb nb) (confB sa sb la lb ha hb) = EA := by unfold bothE; rw [hEA, firstE_of _ hE, firstE_of _ hE]
  have HGN := Lib.hid (fun w' => Grey_no sa la ha aa na ca w' hE : ∀ w', _)
  have HRN := Lib.hid (fun w' => Rough_no sa la ha aa na ca w' hE : ∀ w', _)
  have HAN := Lib.hid (fun w' => Apart_no sa la ha aa na ca sb lb hb ab nb cb w' (by rw [hbo]; rw [hEA]; exact hE) : ∀ w', _)
  have HBN := Lib.hid (fun w' => Bounds_no sa la ha aa na ca w' hE : ∀ w', _)
  rw [← hEA] at HGN HRN HBN
  rw [hbo] at HAN
  rw [← hEA] at hE
  have n1 : (EA != 0) = true := by simpa using hE
  have HEA := Lib.hid hEA
  have z : (FloatKind.f32.format.order 0 0 == some .eq) = true := by decide +kernel
  have ez : ∀ w, Sem.run Try.prog (Op.equalIn 10000 58 (.agg #[.float .f32 0, .float .f32 0, .float .f32 0]) (.agg #[.float .f32 0, .float .f32 0, .float .f32 0])) w = .ok true w := fun w => by kernel_rfl
  clear hE hEA hbo
  go_enter Try.func8, Try.ntmps8
  go_upto_region 1 with fail
  refine wp_world (fun W hW => ?_)
  have R0 : EbR w W [.int .i64 sa, .float .f32 la, .float .f32 ha, .slice aa na ca] [.int .i64 sb, .float .f32 lb, .float .f32 hb, .slice ab nb cb] := by rw [hW]; exact ⟨(Blk.new _ _ _ _ rfl).alloc _, Blk.new _ _ _ _ (by simp), by (repeat (first | exact Below.refl _ _ | assumption | (refine Below.setCell ?_ (by first | (simp; done) | (simp; omega) | omega) _) | (refine Below.drew ?_) | (refine below_drewN ?_ _) | (refine Below.alloc ?_ (by first | (simp; done) | (simp; omega) | omega) _) | (refine Below.trans ?_ (Below.mono (by assumption) (by first | (simp; done) | (simp; omega) | omega)))))⟩
  have HR0 := Lib.hid R0
  clear hW R0
  have a0 := HR0.out.a.c 0 _ rfl; have a1 := HR0.out.a.c 1 _ rfl; have a2 := HR0.out.a.c 2 _ rfl; have a3 := HR0.out.a.c 3 _ rfl; have al := HR0.out.a.lt
  go_wp2_with fail
  refine (HGN.out _).mono ?_
  rintro e w1 ⟨rfl, hb1⟩
  have HR1 := Lib.hid (HR0.out.past hb1)
  clear a0 a1 a2 a3 al HR0 hb1 HGN
  have a0 := HR1.out.a.c 0 _ rfl; have a1 := HR1.out.a.c 1 _ rfl; have a2 := HR1.out.a.c 2 _ rfl; have a3 := HR1.out.a.c 3 _ rfl; have al := HR1.out.a.lt
  go_wp2_with fail
  refine (HRN.out _).mono ?_
  rintro e w2 ⟨rfl, hb2⟩
  have HR2 := Lib.hid (HR1.out.past hb2)
  clear a0 a1 a2 a3 al HR1 hb2 HRN
  have a0 := HR2.out.a.c 0 _ rfl; have a1 := HR2.out.a.c 1 _ rfl; have a2 := HR2.out.a.c 2 _ rfl; have a3 := HR2.out.a.c 3 _ rfl; have al := HR2.out.a.lt
  have b0 := HR2.out.b.c 0 _ rfl; have b1 := HR2.out.b.c 1 _ rfl; have b2 := HR2.out.b.c 2 _ rfl; have b3 := HR2.out.b.c 3 _ rfl; have bl := HR2.out.b.lt
  go_wp2_with fail
  refine (HAN.out _).mono ?_
  rintro e w3 ⟨rfl, hb3⟩
  have HR3 := Lib.hid (HR2.out.past hb3)
  clear a0 a1 a2 a3 al HR2 hb3 HAN
  clear b0 b1 b2 b3 bl
  have a0 := HR3.out.a.c 0 _ rfl; have a1 := HR3.out.a.c 1 _ rfl; have a2 := HR3.out.a.c 2 _ rfl; have a3 := HR3.out.a.c 3 _ rfl; have al := HR3.out.a.lt
  go_wp2_with fail
  refine (HBN.out _).mono ?_
  rintro e w4 ⟨rfl, hb4⟩
  have HR4 := Lib.hid (HR3.out.past hb4)
  clear a0 a1 a2 a3 al HR3 hb4 HBN
  go_upto_region 5 with fail
  refine wp_world (fun W5 hW5 => ?_)
  have HM5 := Lib.hid (MeR.mk (w := w) (W := W5) (La := [.int .i64 sa, .float .f32 la, .float .f32 ha, .slice aa na ca]) (Lb := [.int .i64 sb, .float .f32 lb, .float .f32 hb, .slice ab nb cb]) (nl := w4.heap.size) (l := fun _ => 0) (h := fun _ => 0)
    (by rw [hW5]; exact HR4.out.a.past (by (repeat (first | exact Below.refl _ _ | assumption | (refine Below.setCell ?_ (by first | (simp; done) | (simp; omega) | omega) _) | (refine Below.drew ?_) | (refine below_drewN ?_ _) | (refine Below.alloc ?_ (by first | (simp; done) | (simp; omega) | omega) _) | (refine Below.trans ?_ (Below.mono (by assumption) (by first | (simp; done) | (simp; omega) | omega))))))) (by rw [hW5]; exact HR4.out.b.past (by (repeat (first | exact Below.refl _ _ | assumption | (refine Below.setCell ?_ (by first | (simp; done) | (simp; omega) | omega) _) | (refine Below.drew ?_) | (refine below_drewN ?_ _) | (refine Below.alloc ?_ (by first | (simp; done) | (simp; omega) | omega) _) | (refine Below.trans ?_ (Below.mono (by assumption) (by first | (simp; done) | (simp; omega) | omega))))))) (by rw [hW5]; exact VecF.of3 ((Blk.new _ [.float .f32 0, .float .f32 0, .float .f32 0] _ _ rfl).alloc _)) (by rw [hW5]; exact VecF.of3 (Blk.new _ [.float .f32 0, .float .f32 0, .float .f32 0] _ _ (by simp))) HR4.out.b.lt (by rw [hW5]; exact HR4.out.w.trans (Below.mono (by (repeat (first | exact Below.refl _ _ | assumption | (refine Below.setCell ?_ (by first | (simp; done) | (simp; omega) | omega) _) | (refine Below.drew ?_) | (refine below_drewN ?_ _) | (refine Below.alloc ?_ (by first | (simp; done) | (simp; omega) | omega) _) | (refine Below.trans ?_ (Below.mono (by assumption) (by first | (simp; done) | (simp; omega) | omega)))))) HR4.out.w.size)))
  clear hW5 HR4
  generalize w4.heap.size = nl at *
  have a0 := HM5.out.a.c 0 _ rfl; have a1 := HM5.out.a.c 1 _ rfl; have a2 := HM5.out.a.c 2 _ rfl; have a3 := HM5.out.a.c 3 _ rfl; have al := HM5.out.a.lt
  go_wp2_with fail
  refine (CubeError_any _ _ _ _ _ _ _).mono ?_
  rintro e w6 ⟨rfl, hb6⟩
  rw [← HEA.out]
  have HM6 := Lib.hid (HM5.out.past hb6)
  clear a0 a1 a2 a3 al HM5 hb6
  go_wp2_with fail
  refine (cubes_any _).mono ?_
  rintro e w7 ⟨rfl, hb7⟩
  have HM7 := Lib.hid (HM6.out.past hb7)
  clear hb7 HM6
  go_wp2_with fail
  refine (cubes_any _).mono ?_
  rintro e w8 ⟨rfl, hb8⟩
  have HM8 := Lib.hid (HM7.out.past hb8)
  clear hb8 HM7
  have l0 := HM8.out.l.c 0 (by omega); have l1 := HM8.out.l.c 1 (by omega); have l2 := HM8.out.l.c 2 (by omega); have ll := HM8.out.l.lt
  have h0 := HM8.out.h.c 0 (by omega); have h1 := HM8.out.h.c 1 (by omega); have h2 := HM8.out.h.c 2 (by omega); have hl := HM8.out.h.lt
  go_wp2_with fail
  go_ret
  exact ⟨by simp, HM8.out.w.trans (Below.mono (by (repeat (first | exact Below.refl _ _ | assumption | (refine Below.setCell ?_ (by first | (simp; done) | (simp; omega) | omega) _) | (refine Below.drew ?_) | (refine below_drewN ?_ _) | (refine Below.alloc ?_ (by first | (simp; done) | (simp; omega) | omega) _) | (refine Below.trans ?_ (Below.mono (by assumption) (by first | (simp; done) | (simp; omega) | omega)))))) HM8.out.w.size)⟩
theorem cme_walk (sa : Int) (la ha : Nat) (aa : Option Addr) (na ca : Nat) (fa : Nat → Nat) (sb : Int) (lb hb : Nat) (ab : Option Addr) (nb cb : Nat) (fb : Nat → Nat) (w : World)
    (_ : IntKind.i64.min ≤ sa ∧ sa ≤ IntKind.i64.max) (_ : la < 2 ^ FloatKind.f32.format.width) (_ : ha < 2 ^ FloatKind.f32.format.width) (hfa : IsFloats w aa na ca fa)
    (_ : IntKind.i64.min ≤ sb ∧ sb ≤ IntKind.i64.max) (_ : lb < 2 ^ FloatKind.f32.format.width) (_ : hb < 2 ^ FloatKind.f32.format.width) (hfb : IsFloats w ab nb cb fb) :
    Calls Try.prog 8 #[.agg #[.int .i64 sa, .float .f32 la, .float .f32 ha, .slice aa na ca], .agg #[.int .i64 sb, .float .f32 lb, .float .f32 hb, .slice ab nb cb]] w fun e w' => e = .returned (.bool true) ∧ Below w.heap.size w w' := by
  by_cases hE : cubErr sa la ha na = 0
  · obtain ⟨S, rfl⟩ := cub_size hE
    obtain ⟨-, -, hn, hpos, hnb⟩ := cub_ok_nat hE
    rcases hfa with ⟨hz, -⟩ | ⟨b, off, rfl, -, hcap, hm, hcell⟩
    · omega
    · have hrow : Row w b off na fa := fun i hi => (hcell i (by omega)).1
      have hbo : bothE (cubErr S la ha na) (cubErr sb lb hb nb) (confB S sb la lb ha hb) = firstE (cubErr sb lb hb nb) (whenE (confB S sb la lb ha hb) 12) := by unfold bothE; rw [hE, firstE_0]
      by_cases h0 : bothE (cubErr S la ha na) (cubErr sb lb hb nb) (confB S sb la lb ha hb) = 0
      · have h1 := h0
        rw [hbo] at h1
        obtain ⟨z1, z2⟩ := firstE_zero h1
        have hcf : confB S sb la lb ha hb = false := by
          cases h : confB S sb la lb ha hb
          · rfl
          · rw [h] at z2; cases z2
        have hs : (S : Int) = sb := by unfold confB at hcf; simp at hcf; exact hcf.1.1
        subst hs
        obtain ⟨-, -, hn2, -, -⟩ := cub_ok_nat z1
        obtain rfl : nb = na := by omega
        rcases hfb with ⟨hz, -⟩ | ⟨b', off', rfl, -, hcap', hm', hcell'⟩
        · omega
        · have hrow' : Row w b' off' nb fb := fun i hi => (hcell' i (by omega)).1
          have hbw := hrow.lt (by omega)
          have hbw' := hrow'.lt (by omega)
          exact cme_core S la ha b off nb ca S lb hb (some ⟨b', off', none⟩) nb cb fa (mostF (fun i => gapF (fa i) (fb i)) nb) 0 w hE hcap hrow h1.symm
            (fun w' hw => Apart_yes S S la ha lb hb b off nb ca b' off' cb fa fb w' h0 (by omega) hnb (hrow.below hw hbw) (hrow'.below hw hbw')) (fun h => absurd rfl h)
            (fun _ w' hw => CubesApart_yes S S la ha lb hb b off nb ca b' off' cb fa fb w' (by omega) hnb (hrow.below hw hbw) (hrow'.below hw hbw'))
      · exact cme_core S la ha b off na ca sb lb hb ab nb cb fa 0 (bothE (cubErr S la ha na) (cubErr sb lb hb nb) (confB S sb la lb ha hb)) w hE hcap hrow hbo
          (fun w' _ => Apart_no S la ha (some ⟨b, off, none⟩) na ca sb lb hb ab nb cb w' h0) (fun _ => rfl) (fun h => absurd h h0)
  · exact cme_no _ _ _ _ _ _ _ _ _ _ _ _ w hE
end Go.Proofs.Ytmckkgbdlgldbaa
