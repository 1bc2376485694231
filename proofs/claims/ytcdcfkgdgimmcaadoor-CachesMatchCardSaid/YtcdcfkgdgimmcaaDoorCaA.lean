/- A frame by a function of the number of a single: frame.each, by any closure; frame.Clean. Conditions: the frame is right; its singles are known. -/
import Derived.Test.YtcdcfkgdgimmcaaDoorCB
namespace Go.Proofs.YtcdcfkgdgimmcaaDoor
open Go Go.RowKit
theorem fr_n {x y v h : Int} {n : Nat} (he : regErr x y v h = 0) (hl : (n : Int) = 4 * v * h) : 4 ≤ n ∧ n ≤ 65536 ∧ wrap64 (4 * v * h) = (n : Int) ∧ 1 ≤ v ∧ v ≤ 256 := by
  obtain ⟨r1, r2, r3, r4, r5, r6, -⟩ := regErr_ok he
  have h1 : 4 * v * h = 4 * (v * h) := Int.mul_assoc _ _ _
  rw [h1] at hl
  rw [h1, ← hl]
  generalize v * h = p at *
  clear h1
  exact ⟨by omega, by omega, Go.IntWalk.wrap64_in _ (by omega), r1, r2⟩
set_option maxRecDepth 100000 in
set_option maxHeartbeats 3200000 in
theorem fe_any (K : Nat) (caps : Array Value) (x y v h : Int) (n : Nat) (F : Nat → Nat) (w : World) (hKC : K ≠ 125) (he : regErr x y v h = 0) (hl : (n : Int) = 4 * v * h)
    (hent : ∀ args w, (callFunc K args).run Tryd.prog w = .ok (.enter K args) w)
    (hk : ∀ (i : Nat) w', i < n → Below w.heap.size w w' → Calls Tryd.prog K (#[.int .i64 (i : Nat)] ++ caps) w' fun e w'' => e = .returned (.float .f32 (F i)) ∧ Below w'.heap.size w' w'') :
    Calls Tryd.prog 92 #[.agg #[.int .i64 x, .int .i64 y, .int .i64 v, .int .i64 h], .func (.func K) #[] caps] w fun e w' =>
      ∃ g, e = .returned (.agg #[.int .i64 x, .int .i64 y, .int .i64 v, .int .i64 h, .slice (some ⟨g, 0, none⟩) n n]) ∧ w.heap.size ≤ g ∧ w'.rowIs g 50 n (fun i => .float .f32 (cn .f32 (F i))) ∧ Below w.heap.size w w' := by
  obtain ⟨hn0, hn, hu, hv1, hv2⟩ := fr_n he hl
  have hk' := Lib.hid hk; clear hk
  have hmk := run_make_row' (P := Tryd.prog) 36 50 (.float .f32 0) 4 Tryd.underlying36 (by kernel_rfl) rfl .i64 .i64 n (by omega) (by omega)
  clear he hl
  go_enter Tryd.func92, Tryd.ntmps92
  go_upto_region 1 with fail
  refine wp_world (fun W hW => ?_)
  have A0 : Blk W w.heap.size [.int .i64 x, .int .i64 y, .int .i64 v, .int .i64 h] := by rw [hW]; exact (Blk.new _ _ _ _ rfl).alloc _
  have Z0 : Blk W (w.heap.size + 1) [.int .i64 0, .int .i64 0, .int .i64 0, .int .i64 0, .slice none 0 0] := by rw [hW]; exact Blk.new _ _ _ _ (by simp)
  have BW : Below w.heap.size w W := by rw [hW]; (repeat (first | exact Below.refl _ _ | assumption | (refine Below.setCell ?_ (by first | (simp; done) | (simp; omega) | omega) _) | (refine Below.drew ?_) | (refine below_drewN ?_ _) | (refine Below.alloc ?_ (by first | (simp; done) | (simp; omega) | omega) _) | (refine Below.trans ?_ (Below.mono (by assumption) (by first | (simp; done) | (simp; omega) | omega)))))
  have a0 := A0.c 0 _ rfl; have a1 := A0.c 1 _ rfl; have a2 := A0.c 2 _ rfl; have a3 := A0.c 3 _ rfl; have al := A0.lt
  have HZ := Lib.hid (And.intro Z0 BW)
  have hWl : w.heap.size + 1 < W.heap.size := Z0.lt
  clear hW Z0 A0 BW
  go_cut [5] (fun s5 wx => ∃ nf g : Nat, s5 = .pointer (some ⟨nf, 0, none⟩) ∧ Blk wx nf [.int .i64 x, .int .i64 y, .int .i64 v, .int .i64 h, .slice (some ⟨g, 0, none⟩) n n] ∧ wx.rowIs g 50 n (fun _ => .float .f32 0) ∧ nf ≠ g ∧ W.heap.size ≤ nf ∧ W.heap.size ≤ g ∧ Below W.heap.size W wx)
  case first =>
    go_region
    · go_wp2_with fail
      go_meet
      refine ⟨W.heap.size + 1, W.heap.size, rfl, (Blk.new _ _ _ _ (by simp)).drew, ?_, by omega, by omega, by omega, by (repeat (first | exact Below.refl _ _ | assumption | (refine Below.setCell ?_ (by first | (simp; done) | (simp; omega) | omega) _) | (refine Below.drew ?_) | (refine below_drewN ?_ _) | (refine Below.alloc ?_ (by first | (simp; done) | (simp; omega) | omega) _) | (refine Below.trans ?_ (Below.mono (by assumption) (by first | (simp; done) | (simp; omega) | omega)))))⟩
      have hr := World.rowIs_made W (.float .f32 0) n 50
      exact (hr.alloc _).drew
    · go_wp2_with fail
      go_meet
      refine ⟨W.heap.size, W.heap.size + 1, rfl, ((Blk.new _ _ _ _ rfl).alloc _).drew, ?_, by omega, by omega, by omega, by (repeat (first | exact Below.refl _ _ | assumption | (refine Below.setCell ?_ (by first | (simp; done) | (simp; omega) | omega) _) | (refine Below.drew ?_) | (refine below_drewN ?_ _) | (refine Below.alloc ?_ (by first | (simp; done) | (simp; omega) | omega) _) | (refine Below.trans ?_ (Below.mono (by assumption) (by first | (simp; done) | (simp; omega) | omega)))))⟩
      have hr := World.rowIs_made (W.alloc (.cells #[.int .i64 x, .int .i64 y, .int .i64 v, .int .i64 h, .slice (some ⟨W.heap.size + 1, 0, none⟩) n n] 38)) (.float .f32 0) n 50
      simp only [World.size_alloc] at hr
      exact hr.drew
  case rest =>
    obtain ⟨nf, g, rfl, hF, hrow, hne, hnf, hg, hbx⟩ := hcut
    have HF := Lib.hid hF; have HW := Lib.hid hrow
    have HZ1 := Lib.hid (HZ.out.1.past hbx)
    have HB1 := Lib.hid (HZ.out.2.trans (hbx.mono HZ.out.2.size))
    have f4 := hF.c 4 _ rfl; have fl := hF.lt
    have hgl := hrow.lt
    clear hF hrow hmk hbx a0 a1 a2 a3 al HZ hu
    go_wp2_with fail
    clear f4
    go_loopw [19] (fun s19 wr => ∃ k : Nat, k ≤ n ∧ s19 = .int .i64 (k : Nat) ∧ wr.rowIs g 50 n (fun j => if j < k then .float .f32 (cn .f32 (F j)) else .float .f32 0) ∧ wc.grownBy wr (some g)) (fun s19 _ => n - (intOf s19).toNat)
    case atStart => exact ⟨0, by omega, rfl, by simpa using HW.out, World.grownBy.refl _ _⟩
    case round =>
      obtain ⟨k, hk, rfl, hrw, hgr⟩ := hrel
      have ewz := hgr.block (w.heap.size + 1) (by have := HZ1.out.lt; omega) (by simp; omega)
      have ewf := hgr.block nf fl (by simp; omega)
      have sw := hgr.size
      have Z1 := HZ1.out.block sw ewz; have F1 := HF.out.block sw ewf
      have BW : Below w.heap.size w wr := HB1.out.grown hgr (by have := HB1.out.size; omega) (by intro j hj; cases hj; omega)
      have HRW := Lib.hid hrw; have HGR := Lib.hid hgr
      have hgw : g < wr.heap.size := hrw.lt
      by_cases hkn : k < n
      · have f4 := F1.c 4 _ rfl; have fl' := F1.lt
        have hki : (k : Int) < (n : Int) := by omega
        have HWB := Lib.hid BW
        clear hrw hgr ewz ewf Z1 F1 BW
        go_wp2_with fail
        refine wp_region_loose 8 (fun f _ u => u = .float .f32 (if f = 125 then cn .f32 (F k) else F k)) (by kernel_rfl) (by kernel_rfl) ?_
        simp only [List.take_succ_cons, List.take_zero, List.drop_succ_cons, List.drop_zero]
        iterate 5 (refine loose_wanted rfl (fun K hK => ?_); go_simp; refine hK _ ?_; clear hK K)
        refine loose_wanted rfl (fun K1 hK => ?_)
        go_simp
        refine ⟨fun p => (hk'.out k p.w hkn (HWB.out.trans (p.h.mono HWB.out.size))).mono ?_, ?_⟩
        · rintro e w' ⟨rfl, hb⟩
          exact ⟨_, rfl, rfl, p.h.trans (hb.mono p.h.size)⟩
        refine hK _ ?_
        clear hK K1
        refine loose_wanted rfl (fun K1 hK => ?_)
        go_simp
        refine ⟨fun p => (Clean_any _ p.w).mono ?_, ?_⟩
        · rintro e w' ⟨rfl, rfl⟩
          exact ⟨_, rfl, by simp, p.h⟩
        refine hK _ ?_
        clear hK K1
        iterate 1 (refine loose_wanted rfl (fun K hK => ?_); go_simp; refine hK _ ?_; clear hK K)
        refine loose_nil (fun w5 hb5 => ?_)
        have hR5 : w5.rowIs g 50 n _ := HRW.out.of_block (hb5.block g hgw)
        have hG5 : wc.grownBy w5 (some g) := grown_past HGR.out hb5
        have x5 : w5.cell? ⟨g, k, none⟩ = some (.float .f32 0) := by have := hR5.cell hkn; rw [this]; simp
        have y5 : w5.frozen? ⟨g, k, none⟩ = false := hR5.frozen _
        have HR5 := Lib.hid hR5; have HG5 := Lib.hid hG5
        clear hR5 hG5 hb5 f4
        go_wp2_with fail
        go_roundw
        case rel =>
          refine ⟨k + 1, by omega, by go_num, (HR5.out.set k _).congr (fun j hj => ?_), grown_set HG5.out k _⟩
          by_cases hjk : j = k
          · subst hjk
            simp
          · simp only [hjk, if_false]
            by_cases h : j < k
            · rw [if_pos h, if_pos (by omega)]
            · rw [if_neg h, if_neg (by omega)]
        case measure => simp [intOf]; omega
      · obtain rfl : k = n := by omega
        have HROW := Lib.hid (hrw.congr (g := fun i => .float .f32 (cn .f32 (F i))) (fun j hj => by simp [hj]))
        have f0 := F1.c 0 _ rfl; have f1 := F1.c 1 _ rfl; have f2 := F1.c 2 _ rfl; have f3 := F1.c 3 _ rfl; have f4 := F1.c 4 _ rfl
        have z0 := Z1.c 0 _ rfl; have z1 := Z1.c 1 _ rfl; have z2 := Z1.c 2 _ rfl; have z3 := Z1.c 3 _ rfl; have z4 := Z1.c 4 _ rfl; have zf := Z1.f; have zl := Z1.lt
        have hgz : g ≠ w.heap.size + 1 := by have := HZ1.out.lt; have := HZ1.out; omega
        have HZ := Lib.hid (And.intro BW hgz)
        clear hrw hgr ewz ewf Z1 F1 BW hgz
        go_wp2_with fail
        refine bodyPost_ret (v := .agg #[.int .i64 x, .int .i64 y, .int .i64 v, .int .i64 h, .slice (some ⟨g, 0, none⟩) k k]) (by simp [results, Tryd.results92, go_sem, z0, z1, z2, z3, z4]) rfl ⟨g, rfl, by omega, ?_, ?_⟩
        · have hgz := HZ.out.2
          exact ((((HROW.out.setOther (by simpa using hgz) _).setOther (by simpa using hgz) _).setOther (by simpa using hgz) _).setOther (by simpa using hgz) _).setOther (by simpa using hgz) _
        · have B3 := HZ.out.1
          exact ((((B3.setCell (by first | (simp; done) | (simp; omega) | omega) _).setCell (by first | (simp; done) | (simp; omega) | omega) _).setCell (by first | (simp; done) | (simp; omega) | omega) _).setCell (by first | (simp; done) | (simp; omega) | omega) _).setCell (by first | (simp; done) | (simp; omega) | omega) _
end Go.Proofs.YtcdcfkgdgimmcaaDoor
