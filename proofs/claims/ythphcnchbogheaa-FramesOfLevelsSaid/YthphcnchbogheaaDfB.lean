/- The closure of finish.Diffuse. Conditions: what each theorem names. -/
import Derived.Test.YthphcnchbogheaaDfA
import Derived.BigQuiet
import Derived.BigRegion
namespace Go.Proofs.Ythphcnchbogheaa
open Go Go.RowKit
set_option maxRecDepth 100000 in
set_option maxHeartbeats 3200000 in
theorem give_no (pf px py pe pa pc pr : Nat) (x y h dx dy : Int) (wt V X Y : Nat) (sl : Value) (w : World)
    (hX : X < 256) (hY : Y < 65536) (hdx : -1 ≤ dx ∧ dx ≤ 1) (hdy : 0 ≤ dy ∧ dy ≤ 1)
    (hF : Blk w pf [.int .i64 x, .int .i64 y, .int .i64 V, .int .i64 h, sl]) (hx : Blk w px [.int .i64 X]) (hy : Blk w py [.int .i64 Y])
    (hno : ¬ (0 ≤ (X : Int) + dx ∧ (X : Int) + dx < V ∧ (Y : Int) + dy < h)) :
    Calls Try.prog 22 #[.int .i64 dx, .int .i64 dy, .float .f32 wt, .pointer (some ⟨px, 0, none⟩), .pointer (some ⟨pf, 0, none⟩), .pointer (some ⟨py, 0, none⟩), .pointer (some ⟨pe, 0, none⟩), .pointer (some ⟨pa, 0, none⟩), .pointer (some ⟨pc, 0, none⟩), .pointer (some ⟨pr, 0, none⟩)] w fun e w' => e = .returned (.tuple #[]) ∧ w' = w := by
  have x0 := hx.c 0 _ rfl; have y0 := hy.c 0 _ rfl; have f2 := hF.c 2 _ rfl; have f3 := hF.c 3 _ rfl
  have xl := hx.lt; have yl := hy.lt; have fl := hF.lt
  obtain ⟨sx, hsx⟩ : ∃ sx, sx = (X : Int) + dx := ⟨_, rfl⟩
  obtain ⟨sy, hsy⟩ : ∃ sy, sy = (Y : Int) + dy := ⟨_, rfl⟩
  have wx : IntKind.i64.wrap ((X : Int) + dx) = sx := by rw [IntKind.wrap_i64, hsx]; omega
  have wy : IntKind.i64.wrap ((Y : Int) + dy) = sy := by rw [IntKind.wrap_i64, hsy]; omega
  rw [← hsx, ← hsy] at hno
  have HS := Lib.hid (And.intro hsx hsy)
  clear hsx hsy hF hx hy
  by_cases c1 : 0 ≤ sx
  · by_cases c2 : sx < V
    · have c3 : ¬ sy < h := fun c => hno ⟨c1, c2, c⟩
      clear hno
      go_enter Try.func22, Try.ntmps22
      go_wp2_with fail
      go_end0; exact ⟨rfl, rfl⟩
    · clear hno
      go_enter Try.func22, Try.ntmps22
      go_wp2_with fail
      go_end0; exact ⟨rfl, rfl⟩
  · clear hno
    go_enter Try.func22, Try.ntmps22
    go_wp2_with fail
    go_end0; exact ⟨rfl, rfl⟩
set_option maxRecDepth 100000 in
set_option maxHeartbeats 3200000 in
theorem give_yes (pf px py pe pa pc pr g : Nat) (x y h dx dy : Int) (wt V X Y A c n k r : Nat) (sl : Value) (es : Nat → Nat) (w : World)
    (hV : 1 ≤ V ∧ V ≤ 256) (hX : X < 256) (hY : Y < 65536) (hA : A ≤ 65536) (hc : c < 3) (hn : n ≤ 65536) (hdx : -1 ≤ dx ∧ dx ≤ 1) (hdy : 0 ≤ dy ∧ dy ≤ 1)
    (hF : Blk w pf [.int .i64 x, .int .i64 y, .int .i64 V, .int .i64 h, sl]) (hx : Blk w px [.int .i64 X]) (hy : Blk w py [.int .i64 Y]) (he : Blk w pe [.slice (some ⟨g, 0, none⟩) n n]) (ha : Blk w pa [.int .i64 A]) (hcc : Blk w pc [.int .i64 c]) (hr : Blk w pr [.float .f32 r])
    (hG : w.rowIs g 46 n (fun j => .float .f32 (es j))) (hkn : k < n) (hk : (k : Int) = A + 4 * (dy * V + dx) + c)
    (hin : 0 ≤ (X : Int) + dx ∧ (X : Int) + dx < V ∧ (Y : Int) + dy < h) :
    Calls Try.prog 22 #[.int .i64 dx, .int .i64 dy, .float .f32 wt, .pointer (some ⟨px, 0, none⟩), .pointer (some ⟨pf, 0, none⟩), .pointer (some ⟨py, 0, none⟩), .pointer (some ⟨pe, 0, none⟩), .pointer (some ⟨pa, 0, none⟩), .pointer (some ⟨pc, 0, none⟩), .pointer (some ⟨pr, 0, none⟩)] w fun e w' => e = .returned (.tuple #[]) ∧ ∃ W v, Below w.heap.size w W ∧ w' = W.setCell ⟨g, k, none⟩ (.float .f32 v) ∧ FR .f32 v (fop .add .f32 (es k) (fop .quo .f32 (fop .mul .f32 r wt) 1098907648)) := by
  have x0 := hx.c 0 _ rfl; have y0 := hy.c 0 _ rfl; have f2 := hF.c 2 _ rfl; have f3 := hF.c 3 _ rfl; have e0 := he.c 0 _ rfl; have a0 := ha.c 0 _ rfl; have c0 := hcc.c 0 _ rfl; have r0 := hr.c 0 _ rfl
  have xl := hx.lt; have yl := hy.lt; have fl := hF.lt; have el := he.lt; have al := ha.lt; have cl := hcc.lt; have rl := hr.lt
  have gc : w.cell? ⟨g, k, none⟩ = some (.float .f32 (es k)) := hG.cell hkn
  have gf : w.frozen? ⟨g, k, none⟩ = false := hG.frozen k
  have gl := hG.lt
  obtain ⟨q, hq⟩ : ∃ q, q = es k := ⟨_, rfl⟩
  rw [← hq] at gc ⊢
  obtain ⟨sx, hsx⟩ : ∃ sx, sx = (X : Int) + dx := ⟨_, rfl⟩
  obtain ⟨sy, hsy⟩ : ∃ sy, sy = (Y : Int) + dy := ⟨_, rfl⟩
  obtain ⟨P, hP⟩ : ∃ P, P = dy * (V : Int) := ⟨_, rfl⟩
  have hPb : 0 ≤ P ∧ P ≤ 256 := by
    rcases (show dy = 0 ∨ dy = 1 by omega) with e | e <;> rw [hP, e] <;> omega
  rw [← hP] at hk
  have wx : IntKind.i64.wrap ((X : Int) + dx) = sx := by rw [IntKind.wrap_i64, hsx]; omega
  have wy : IntKind.i64.wrap ((Y : Int) + dy) = sy := by rw [IntKind.wrap_i64, hsy]; omega
  have wP : IntKind.i64.wrap (dy * (V : Int)) = P := by rw [IntKind.wrap_i64, ← hP]; omega
  obtain ⟨k1, hk1⟩ : ∃ k1, k1 = P + dx := ⟨_, rfl⟩
  obtain ⟨k2, hk2⟩ : ∃ k2, k2 = 4 * k1 := ⟨_, rfl⟩
  obtain ⟨k3, hk3⟩ : ∃ k3, k3 = (A : Int) + k2 := ⟨_, rfl⟩
  have w1 : IntKind.i64.wrap (P + dx) = k1 := by rw [IntKind.wrap_i64, hk1]; omega
  have w2 : IntKind.i64.wrap (4 * k1) = k2 := by rw [IntKind.wrap_i64, hk2]; omega
  have w3 : IntKind.i64.wrap ((A : Int) + k2) = k3 := by rw [IntKind.wrap_i64, hk3]; omega
  have w4 : IntKind.i64.wrap (k3 + (c : Int)) = (k : Int) := by rw [IntKind.wrap_i64, hk, hk3, hk2, hk1]; omega
  rw [← hsx, ← hsy] at hin
  obtain ⟨c1, c2, c3⟩ := hin
  have hkn' : (k : Int) < (n : Int) := by omega
  clear hsx hsy hF hx hy he ha hcc hr hG hP hk1 hk2 hk3 hk hq hA hc
  go_enter Try.func22, Try.ntmps22
  have HG := Lib.hid (And.intro gc (And.intro gf gl))
  go_upto_region 1 with fail
  refine wp_region_loose 20 (fun _ _ _ => False) (by kernel_rfl) (by kernel_rfl) ?_
  simp only [List.take_succ_cons, List.take_zero, List.drop_succ_cons, List.drop_zero]
  iterate 17 (refine loose_wanted rfl (fun K hK => ?_); go_simp; refine hK _ ?_; clear hK K)
  (first | ((with_reducible apply loose_farith); rfl; rfl; rfl; rfl; intro _ _) | ((with_reducible apply loose_up); rfl; rfl; exact Try.underlying46; exact Try.underlying69; intro _ _))
  rename_i r1 hr1
  (first | ((with_reducible apply loose_farith); rfl; rfl; rfl; rfl; intro _ _) | ((with_reducible apply loose_up); rfl; rfl; exact Try.underlying46; exact Try.underlying69; intro _ _))
  rename_i r2 hr2
  (first | ((with_reducible apply loose_farith); rfl; rfl; rfl; rfl; intro _ _) | ((with_reducible apply loose_up); rfl; rfl; exact Try.underlying46; exact Try.underlying69; intro _ _))
  rename_i r3 hr3
  have hR3 : FR .f32 r3 (fop .add .f32 q (fop .quo .f32 (fop .mul .f32 r wt) 1098907648)) := by
    rw [hr1.eq, fop_cn_left, fop_cn_right, fop_cn_right] at hr2
    rw [hr2.eq, fop_cn_left] at hr3
    exact hr3
  have HR3 := Lib.hid hR3
  clear hr1 hr2 hr3 hR3
  refine loose_nil (fun w5 hb5 => ?_)
  have x5 : w5.cell? ⟨g, k, none⟩ = some (.float .f32 q) := (hb5.cell (p := ⟨g, k, none⟩) HG.out.2.2).trans HG.out.1
  have y5 : w5.frozen? ⟨g, k, none⟩ = false := (World.frozen?_of_block (hb5.block g HG.out.2.2)).trans HG.out.2.1
  have HB5 := Lib.hid hb5
  clear hb5 x0 y0 f2 f3 e0 a0 c0 r0 xl yl fl el al cl rl gc gf gl
  go_wp2_with fail
  go_end0
  refine ⟨rfl, _, _, ?_, rfl, HR3.out⟩
  have hb5 := HB5.out
  (repeat (first | exact Below.refl _ _ | assumption | (refine Below.setCell ?_ (by first | (simp; done) | (simp; omega) | omega) _) | (refine Below.drew ?_) | (refine below_drewN ?_ _) | (refine Below.alloc ?_ (by first | (simp; done) | (simp; omega) | omega) _) | (refine Below.trans ?_ (Below.mono (by assumption) (by first | (simp; done) | (simp; omega) | omega)))))
end Go.Proofs.Ythphcnchbogheaa
