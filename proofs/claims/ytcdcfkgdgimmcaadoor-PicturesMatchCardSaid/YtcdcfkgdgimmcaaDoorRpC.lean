/- finish.ReadPicture of a text that is a picture: the frame. Conditions: the library's variables read as listed (LibW). -/
import Derived.Test.YtcdcfkgdgimmcaaDoorRpB
namespace Go.Proofs.YtcdcfkgdgimmcaaDoor
open Go Go.RowKit
theorem four_three {W H : Int} {n len : Nat} (h : (n : Int) = 3 * W * H) (hl : (len : Int) = 4 * W * H) : 3 * len = 4 * n := by
  rw [Int.mul_assoc] at h hl
  omega
set_option maxRecDepth 100000 in
set_option maxHeartbeats 12800000 in
theorem ReadPicture_yes (s : ByteArray) (w : World) (hL : LibW w) (hs : s.size ≤ 1048576) (hp : picB s.data.toList = true) (hE : regErr 0 0 (intV (picD s.data.toList).1) (intV (picD s.data.toList).2.1) = 0) (len : Nat) (hlen : (len : Int) = 4 * intV (picD s.data.toList).1 * intV (picD s.data.toList).2.1) :
    Calls Tryd.prog 30 #[.string s] w fun e w' => ∃ g, e = .returned (.tuple #[.agg #[.int .i64 0, .int .i64 0, .int .i64 (intV (picD s.data.toList).1), .int .i64 (intV (picD s.data.toList).2.1), .slice (some ⟨g, 0, none⟩) len len], .int .i64 0]) ∧ w.heap.size ≤ g ∧ (∀ i, i < len → w'.cell? ⟨g, i, none⟩ = some (.float .f32 (picF (picR s.data.toList) i))) ∧ Below w.heap.size w w' := by
  obtain ⟨h1, z1, r1, r2, a, b, k1, k2, k3, k4, k5, k6, W, H, X⟩ := picX_of s hs
  have HX := Lib.hid X
  have hok := X.ok
  rw [hp] at hok
  obtain ⟨w1, w2⟩ := X.W0
  obtain ⟨y1, y2⟩ := X.H0
  obtain ⟨eW, eH⟩ := X.vs hp
  rw [← eW, ← eH] at hE hlen ⊢
  have HRS := Lib.hid X.rs
  clear X eW eH
  have hs' : ¬ (1048576 : Int) < (s.size : Int) := by omega
  have HL := Lib.hid (hL.past (show Below w.heap.size w (w.alloc (.cells #[.int .i64 0, .int .i64 0, .int .i64 0, .int .i64 0, .slice none 0 0] 38)) by (repeat (first | exact Below.refl _ _ | assumption | (refine Below.setCell ?_ (by first | (simp; done) | (simp; omega) | omega) _) | (refine Below.drew ?_) | (refine below_drewN ?_ _) | (refine Below.alloc ?_ (by first | (simp; done) | (simp; omega) | omega) _) | (refine Below.trans ?_ (Below.mono (by assumption) (by first | (simp; done) | (simp; omega) | omega)))))))
  have HK := Lib.hid hok
  have HR := Lib.hid hE
  have HLN := Lib.hid hlen
  clear hL hp hok hs hE hlen
  go_enter Tryd.func30, Tryd.ntmps30
  go_upto_region 5 with (first | (go_at_call 32; refine (HX.out.c1 _).mono ?_; rintro e w' ⟨rfl, rfl⟩) | (go_at_call 33; refine (HX.out.c2 _ HL.out).mono ?_; rintro e v1 ⟨rfl, hb1⟩))
  have H1 : Hid (LibW v1 ∧ Blk v1 w.heap.size [.int .i64 0, .int .i64 0, .int .i64 0, .int .i64 0, .slice none 0 0] ∧ Below w.heap.size w v1) := Lib.hid ⟨HL.out.past hb1, (Blk.new _ _ _ _ rfl).past hb1, Below.trans (by (repeat (first | exact Below.refl _ _ | assumption | (refine Below.setCell ?_ (by first | (simp; done) | (simp; omega) | omega) _) | (refine Below.drew ?_) | (refine below_drewN ?_ _) | (refine Below.alloc ?_ (by first | (simp; done) | (simp; omega) | omega) _) | (refine Below.trans ?_ (Below.mono (by assumption) (by first | (simp; done) | (simp; omega) | omega)))))) (hb1.mono (by simp))⟩
  clear hb1 HL
  go_upto_region 7 with (first | (go_at_call 32; refine (HX.out.c3 _).mono ?_; rintro e w' ⟨rfl, rfl⟩) | (go_at_call 33; refine (HX.out.c4 _ H1.out.1).mono ?_; rintro e v2 ⟨rfl, hb2⟩))
  have H2 : Hid (LibW v2 ∧ Blk v2 w.heap.size [.int .i64 0, .int .i64 0, .int .i64 0, .int .i64 0, .slice none 0 0] ∧ Below w.heap.size w v2) := Lib.hid ⟨H1.out.1.past hb2, H1.out.2.1.past hb2, H1.out.2.2.trans (hb2.mono H1.out.2.2.size)⟩
  clear hb2 H1
  go_upto_region 8 with (go_at_call 59; refine (HX.out.c5 _ H2.out.1).mono ?_; rintro e v3 ⟨rfl, hb3⟩)
  have H3 : Hid (LibW v3 ∧ Blk v3 w.heap.size [.int .i64 0, .int .i64 0, .int .i64 0, .int .i64 0, .slice none 0 0] ∧ Below w.heap.size w v3) := Lib.hid ⟨H2.out.1.past hb3, H2.out.2.1.past hb3, H2.out.2.2.trans (hb3.mono H2.out.2.2.size)⟩
  clear hb3 H2
  go_upto_region 9 with (go_at_call 59; refine (HX.out.c6 _ H3.out.1).mono ?_; rintro e v4 ⟨rfl, hb4⟩)
  have H4 : Hid (Blk v4 w.heap.size [.int .i64 0, .int .i64 0, .int .i64 0, .int .i64 0, .slice none 0 0] ∧ Below w.heap.size w v4) := Lib.hid ⟨H3.out.2.1.past hb4, H3.out.2.2.trans (hb4.mono H3.out.2.2.size)⟩
  clear hb4 H3 HX
  have q0 := H4.out.1.c 0 _ rfl; have q1 := H4.out.1.c 1 _ rfl; have q2 := H4.out.1.c 2 _ rfl; have q3 := H4.out.1.c 3 _ rfl; have q4 := H4.out.1.c 4 _ rfl
  have qf := H4.out.1.f
  have ql := H4.out.1.lt
  obtain ⟨rfl, rfl, rfl, rfl, rfl, rfl, ha, hb, hc, hd, hn⟩ := pic_good HK.out
  clear HK
  have hn' : ((r2.size : Int) != 3 * W * H) = false := by rw [hn]; simp
  have HN := Lib.hid hn
  have HQ := Lib.hid (four_three hn HLN.out)
  obtain ⟨m1, m2⟩ := mul_bd3 ha hb hc hd
  clear hn
  go_upto_region 13 with (go_at_call 60; refine (CheckRegion_any _ _ _ _ _).mono ?_; rintro e v5 ⟨rfl, hb5⟩; rw [HR.out])
  have hb45 : Hid (Below v4.heap.size v4 v5) := Lib.hid (Below.trans (show Below v4.heap.size v4 _ by (repeat (first | exact Below.refl _ _ | assumption | (refine Below.setCell ?_ (by first | (simp; done) | (simp; omega) | omega) _) | (refine Below.drew ?_) | (refine below_drewN ?_ _) | (refine Below.alloc ?_ (by first | (simp; done) | (simp; omega) | omega) _) | (refine Below.trans ?_ (Below.mono (by assumption) (by first | (simp; done) | (simp; omega) | omega)))))) (hb5.mono (by simp)))
  have H5 : Hid (Blk v5 w.heap.size [.int .i64 0, .int .i64 0, .int .i64 0, .int .i64 0, .slice none 0 0] ∧ Below w.heap.size w v5 ∧ Blk v5 v4.heap.size [.int .i64 0, .int .i64 0, .int .i64 W, .int .i64 H] ∧ w.heap.size < v4.heap.size) := Lib.hid ⟨(H4.out.1.past ((Below.refl _ _).alloc (Nat.le_refl _) _)).past hb5, H4.out.2.trans (hb45.out.mono H4.out.2.size), (Blk.new v4 [.int .i64 0, .int .i64 0, .int .i64 W, .int .i64 H] _ _ rfl).past hb5, ql⟩
  clear hb5 hb45 H4 q0 q1 q2 q3 q4 qf ql hn' m1 m2
  have q0 := H5.out.2.2.1.c 0 _ rfl; have q1 := H5.out.2.2.1.c 1 _ rfl; have q2 := H5.out.2.2.1.c 2 _ rfl; have q3 := H5.out.2.2.1.c 3 _ rfl
  have ql := H5.out.2.2.1.lt
  have hln : 4 * W * H = (len : Int) := HLN.out.symm
  have hl1 : len ≤ 65536 := by
    have h2 := (regErr_ok HR.out).2.2.2.2.1
    have h3 := HLN.out
    rw [Int.mul_assoc] at h3; omega
  have hl0 : 0 < len := by
    have h2 := (regErr_ok HR.out).2.2.2.2.2.1
    have h3 := HLN.out
    rw [Int.mul_assoc] at h3; omega
  have hmk := run_make_row' (P := Tryd.prog) 36 50 (.float .f32 0) 4 Tryd.underlying36 (by kernel_rfl) rfl .i64 .i64 len (by omega) (by omega)
  go_upto_region 15 with fail
  go_cut [18] (fun s18 wx => ∃ nf g : Nat, s18 = .pointer (some ⟨nf, 0, none⟩) ∧ FrameAt wx nf 0 0 W H g len ∧ wx.rowIs g 50 len (fun _ => .float .f32 0) ∧ nf ≠ g ∧ v5.heap.size ≤ nf ∧ v5.heap.size ≤ g ∧ Below v5.heap.size v5 wx)
  case first =>
    go_region
    · go_wp2_with fail
      go_meet
      exact ⟨_, v5.heap.size, rfl, ⟨by simp [go_sem], by simp [go_sem], by simp [go_sem], by simp [go_sem], by simp [go_sem]⟩, ((World.rowIs_made v5 _ len _).alloc _).drew, by omega, by omega, by omega, (((Below.refl _ _).alloc (Nat.le_refl _) _).alloc (by simp) _).drew⟩
    · go_wp2_with fail
      go_meet
      have hr := World.rowIs_made (v5.alloc (.cells #[.int .i64 0, .int .i64 0, .int .i64 W, .int .i64 H, .slice (some ⟨v5.heap.size + 1, 0, none⟩) len len] 38)) (.float .f32 0) len 50
      simp only [World.size_alloc] at hr
      exact ⟨_, v5.heap.size + 1, rfl, ⟨by simp [go_sem], by simp [go_sem], by simp [go_sem], by simp [go_sem], by simp [go_sem]⟩, hr.drew, by omega, by omega, by omega, (((Below.refl _ _).alloc (Nat.le_refl _) _).alloc (by simp) _).drew⟩
  case rest =>
    obtain ⟨nf, g, rfl, hF, hrow, hne2, hn1, hg1, hbx⟩ := hcut
    have hqx := hbx.size
    have hgl := hrow.lt
    have hnl : nf < wc.heap.size := cell_lt hF.c0
    have HZ : Hid (Blk wc w.heap.size [.int .i64 0, .int .i64 0, .int .i64 0, .int .i64 0, .slice none 0 0] ∧ Below w.heap.size w wc ∧ w.heap.size < v5.heap.size) := Lib.hid ⟨H5.out.1.past hbx, H5.out.2.1.trans (hbx.mono H5.out.2.1.size), H5.out.1.lt⟩
    have hF4 := hF.c4
    clear q0 q1 q2 q3 ql hln hmk hbx H5
    go_wp2_with fail
    go_loopw [123] (fun i wr => ∃ k : Nat, k ≤ len ∧ i = .int .i64 k ∧ wr.rowIs g 50 len (fun j => if j < k then .float .f32 (picF r2.data.toList j) else .float .f32 0) ∧ wc.grownBy wr (some g)) (fun i _ => len - (intOf i).toNat)
    case atStart => exact ⟨0, Nat.zero_le _, rfl, by simpa using hrow, World.grownBy.refl _ _⟩
    case round =>
      obtain ⟨k, hk, rfl, hrw, hgr⟩ := hrel
      by_cases hlN : k < len
      · have hF4' : wr.cell? ⟨nf, 4, none⟩ = some (.slice (some ⟨g, 0, none⟩) len len) := by rw [World.cell?_of_block (hgr.block nf (by omega) (by simp; omega))]; exact hF4
        have hgw : g < wr.heap.size := hrw.lt
        have hnw : nf < wr.heap.size := cell_lt hF4'
        have hqr := hgr.size
        have hxk : wr.cell? ⟨g, k, none⟩ = some (.float .f32 0) := by have := hrw.cell hlN; rw [this]; simp
        have hfk : wr.frozen? ⟨g, k, none⟩ = false := hrw.frozen k
        obtain ⟨q, hq⟩ : ∃ q, q = k / 4 := ⟨_, rfl⟩
        obtain ⟨m, hm⟩ : ∃ m, m = k % 4 := ⟨_, rfl⟩
        have hkm : (k : Int) % 4 = (m : Int) := by omega
        have HQM := Lib.hid (And.intro hq hm)
        clear hq hm
        by_cases hm3 : m < 3
        · have hm3' : (m : Int) < 3 := by omega
          go_upto_region 21 with fail
          refine wp_world (fun W1 hW1 => ?_)
          have HW : Hid (W1.rowIs g 50 len (fun j => if j = k then .float .f32 1065353216 else if j < k then .float .f32 (picF r2.data.toList j) else .float .f32 0) ∧ W1.cell? ⟨nf, 4, none⟩ = some (.slice (some ⟨g, 0, none⟩) len len) ∧ wc.grownBy W1 (some g)) := Lib.hid (by
            rw [hW1]
            refine ⟨hrw.set k _, ?_, grown_step hgr (Below.refl _ _) _⟩
            rw [World.cell?_setCell_other _ _ _ _ (by first | (simp; done) | (simp; omega))]; exact hF4')
          clear hW1 hrw hgr hxk hfk hF4'
          have hz4 := HW.out.2.1
          have hgw : g < W1.heap.size := HW.out.1.lt
          have hnw : nf < W1.heap.size := cell_lt hz4
          obtain ⟨T, hT⟩ : ∃ T, T = q * 3 := ⟨_, rfl⟩
          obtain ⟨j, hj⟩ : ∃ j, j = T + m := ⟨_, rfl⟩
          have hix : j < r2.size := by have := HQ.out; have := HQM.out; omega
          have e1 : IntKind.i64.wrap ((k : Int) / 4) = (q : Int) := by rw [IntWalk.i64_in _ (by have := HQM.out; omega)]; have := HQM.out; omega
          have e2 : IntKind.i64.wrap ((q : Int) * 3) = (T : Int) := by rw [IntWalk.i64_in _ (by have := HQM.out; omega)]; omega
          have e3 : (k : Int).tmod 4 = (m : Int) := by rw [Int.tmod_eq_emod_of_nonneg (by omega)]; exact hkm
          have e4 : IntKind.i64.wrap ((T : Int) + (m : Int)) = (j : Int) := by rw [IntWalk.i64_in _ (by have := HQM.out; omega)]; omega
          have e5 : (j : Int) < (r2.size : Int) := by omega
          obtain ⟨B, hB⟩ : ∃ B : Nat, B = (r2[j]).toNat := ⟨_, rfl⟩
          have hB1 : ((r2[j]).toNat : Int) = (B : Int) := by rw [hB]
          have hB2 : B ≤ 255 := by rw [hB]; have := (r2[j]).toNat_lt; omega
          have e6 : IntKind.i64.wrap (B : Int) = (B : Int) := IntWalk.i64_in _ (by omega)
          have HB := Lib.hid (And.intro hB (And.intro hT hj))
          clear hB hT hj hkm
          refine wp_region_loose 13 (fun f args u => f = 61 ∧ args = #[.int .i64 B, .int .i64 8] ∧ u = .float .f32 (valueF B 8)) (by kernel_rfl) (by kernel_rfl) ?_
          simp only [List.take_succ_cons, List.take_zero, List.drop_succ_cons, List.drop_zero]
          repeat (refine loose_wanted rfl (fun K hK => ?_); go_simp; refine hK _ ?_; clear hK K)
          refine loose_step rfl (fun K hK => ?_)
          go_simp
          refine ⟨fun p => (value_any _ _ _ ⟨by omega, by omega⟩ (by omega)).mono ?_, ?_⟩
          · rintro e w' ⟨n, rfl, rfl⟩
            exact ⟨_, rfl, rfl, below_drewN p.h n⟩
          refine hK _ ?_
          clear hK K
          repeat (refine loose_wanted rfl (fun K hK => ?_); go_simp; refine hK _ ?_; clear hK K)
          refine loose_nil (fun w2 hb2 => ?_)
          have hr2 : w2.rowIs g 50 len _ := HW.out.1.of_block (hb2.block g hgw)
          have hx2 : w2.cell? ⟨g, k, none⟩ = some (.float .f32 1065353216) := by have := hr2.cell hlN; rw [this]; simp
          have hf2 : w2.frozen? ⟨g, k, none⟩ = false := hr2.frozen k
          have hpk : picF r2.data.toList k = valueF B 8 := by
            obtain ⟨b1, b2, b3⟩ := HB.out
            obtain ⟨z1, z2⟩ := HQM.out
            unfold picF
            rw [← z2, if_pos hm3, ← z1, ← b2, ← b3, b1]
            have hl : j < r2.data.toList.length := by rw [← Lib.size_eq]; exact hix
            have e : r2.data.toList.getD j 0 = r2[j] := by rw [List.getD_eq_getElem?_getD, List.getElem?_eq_getElem hl]; rfl
            rw [e]
          have HP := Lib.hid hpk
          have HG := Lib.hid (grown_step HW.out.2.2 hb2 (.float .f32 (valueF B 8)) (k := k))
          clear e1 e2 e3 e4 e5 e6 hB1 hpk
          go_wp2_with fail
          go_roundw
          case rel =>
            refine ⟨k + 1, by omega, by go_num, (hr2.set k _).congr (fun i hi => ?_), HG.out⟩
            by_cases hjk : i = k
            · subst hjk; simp [HP.out]
            · simp only [hjk, if_false]
              by_cases h : i < k
              · rw [if_pos h, if_pos (by omega)]
              · rw [if_neg h, if_neg (by omega)]
          case measure => simp [intOf]; omega
        · have hm3' : ¬ (m : Int) < 3 := by omega
          go_wp2_with fail
          go_roundw
          case rel =>
            refine ⟨k + 1, by omega, by go_num, (hrw.set k _).congr (fun i hi => ?_), grown_step hgr (Below.refl _ _) _⟩
            by_cases hjk : i = k
            · subst hjk
              have hpk : picF r2.data.toList i = 1065353216 := by
                unfold picF
                rw [← HQM.out.2, if_neg hm3]
              simp [hpk]
            · simp only [hjk, if_false]
              by_cases h : i < k
              · rw [if_pos h, if_pos (by omega)]
              · rw [if_neg h, if_neg (by omega)]
          case measure => simp [intOf]; omega
      · obtain rfl : k = len := by omega
        have hnb := hgr.block nf (by omega) (by simp; omega)
        have f0 : wr.cell? ⟨nf, 0, none⟩ = some (.int .i64 0) := by rw [World.cell?_of_block hnb]; exact hF.c0
        have f1 : wr.cell? ⟨nf, 1, none⟩ = some (.int .i64 0) := by rw [World.cell?_of_block hnb]; exact hF.c1
        have f2 : wr.cell? ⟨nf, 2, none⟩ = some (.int .i64 W) := by rw [World.cell?_of_block hnb]; exact hF.c2
        have f3 : wr.cell? ⟨nf, 3, none⟩ = some (.int .i64 H) := by rw [World.cell?_of_block hnb]; exact hF.c3
        have f4 : wr.cell? ⟨nf, 4, none⟩ = some (.slice (some ⟨g, 0, none⟩) k k) := by rw [World.cell?_of_block hnb]; exact hF.c4
        have hzz := HZ.out.2.2
        have hqr := hgr.size
        have hB0 := HZ.out.1.block hqr (hgr.block w.heap.size (by omega) (by simp; omega))
        have q0 := hB0.c 0 _ rfl; have q1 := hB0.c 1 _ rfl; have q2 := hB0.c 2 _ rfl; have q3 := hB0.c 3 _ rfl; have q4 := hB0.c 4 _ rfl
        have qf := hB0.f
        have ql := hB0.lt
        have hnfw : nf ≠ w.heap.size := by omega
        have hgw : g ≠ w.heap.size := by omega
        have HE0 : Hid (Below w.heap.size w wr) := Lib.hid (HZ.out.2.1.grown hgr HZ.out.2.1.size (by intro j hj; cases hj; omega))
        have HRW := Lib.hid hrw
        clear hgr hF hF4 hrw hB0
        go_wp2_with fail
        refine bodyPost_ret (v := .tuple #[.agg #[.int .i64 0, .int .i64 0, .int .i64 W, .int .i64 H, .slice (some ⟨g, 0, none⟩) k k], .int .i64 0]) (by simp [results, Tryd.results30, go_sem, q0, q1, q2, q3, q4]) rfl ⟨g, rfl, by omega, fun i hi => ?_, ?_⟩
        · have hr := HRW.out.cell hi
          simp only [hi, if_true] at hr
          rw [← HRS.out, ← hr]
          simp [go_sem]
        · exact ((((HE0.out.setCell (by simp) _).setCell (by simp) _).setCell (by simp) _).setCell (by simp) _).setCell (by simp) _
end Go.Proofs.YtcdcfkgdgimmcaaDoor
