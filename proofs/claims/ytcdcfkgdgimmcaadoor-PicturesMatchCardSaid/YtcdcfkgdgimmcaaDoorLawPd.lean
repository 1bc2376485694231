/- PicturesMatch: the walk of the statement where the frame is right. Conditions: the frame reads as such; the library's variables read as listed (LibW). -/
import Derived.Test.YtcdcfkgdgimmcaaDoorLawPc
namespace Go.Proofs.YtcdcfkgdgimmcaaDoor
open Go Go.RowKit
theorem freshN (w : World) (m : Nat) (v : Value) (t : TypeId) : ((w.drewN m).alloc (Obj.cells #[v] t)).cell? ((⟨w.heap.size, 0, none⟩ : Addr).add 0) = some v := by
  rw [add_at]
  simp [World.cell?, World.alloc, World.drewN]
theorem want_ok {F how : Int} (hF : F = 0) (hh : 0 ≤ how ∧ how ≤ 2) : firstE F (whenE (!inB how 0 2) 1) = 0 := by
  have e : inB how 0 2 = true := inB_iff.2 hh
  rw [hF, e]; rfl
set_option maxRecDepth 100000 in
set_option maxHeartbeats 25600000 in
theorem pc_yes (x y h how s : Int) (V b off n cap : Nat) (fs : Nat → Nat) (w : World) (hL : LibW w) (hx : -9223372036854775808 ≤ x ∧ x ≤ 9223372036854775807) (hy : -9223372036854775808 ≤ y ∧ y ≤ 9223372036854775807) (he : fraErr x y (V : Int) h n = 0) (hh : 0 ≤ how ∧ how ≤ 2) (hc : Row w b off n fs) :
    Calls Tryd.prog 5 #[.agg #[.int .i64 x, .int .i64 y, .int .i64 V, .int .i64 h, .slice (some ⟨b, off, none⟩) n cap], .int .i64 how, .int .u32 s] w fun e w' => e = .returned (.bool true) ∧ Below w.heap.size w w' := by
  obtain ⟨hr, hl⟩ := fraErr_ok he
  obtain ⟨r1, r2, r3, r4, r5, r6, r7, r8, r9, r10⟩ := regErr_ok hr
  have hn1 : n ≤ 65536 := by rw [Int.mul_assoc] at hl; omega
  have hn0 : 0 < n := by rw [Int.mul_assoc] at hl; omega
  have hbw : b < w.heap.size := by have := cell_lt (hc 0 hn0); exact this
  obtain ⟨F, hF⟩ : ∃ F, F = lvZ how s x y V fs 8 := ⟨_, rfl⟩
  have HZ : Hid (∀ k, 0 ≤ F k ∧ F k ≤ 255) := Lib.hid (fun k => by rw [hF]; exact lvZ_in how s x y V fs (by omega) k)
  obtain ⟨T, hT⟩ : ∃ T : ByteArray, T = ⟨(picT V h F n).toArray⟩ := ⟨_, rfl⟩
  have HTD : Hid (T.data.toList = headT V h ++ picBy (fun i => by8 (F i)) n) := Lib.hid (by rw [hT]; rfl)
  have HP : Hid (∀ w', Below w.heap.size w w' → Calls Tryd.prog 36 #[.agg #[.int .i64 x, .int .i64 y, .int .i64 V, .int .i64 h, .slice (some ⟨b, off, none⟩) n cap], .int .i64 how, .int .u32 s] w' fun e w'' => e = .returned (.tuple #[.string T, .int .i64 0]) ∧ Below w'.heap.size w' w'') := Lib.hid (fun w' hb => by
    rw [hT, hF]; exact Picture_yes x y h how s V b off n cap fs w' (hL.past hb) he hh (hc.past hb))
  have HF := Lib.hid (fun w' => FrameError_any x y V h (some ⟨b, off, none⟩) n cap w' hx hy : ∀ w', _)
  have HE := Lib.hid (want_ok he hh)
  have HLO : Hid (∀ w', Below w.heap.size w w' → Calls Tryd.prog 38 #[.agg #[.int .i64 x, .int .i64 y, .int .i64 V, .int .i64 h, .slice (some ⟨b, off, none⟩) n cap], .int .i64 how, .int .u32 s, .int .i64 8] w' fun e w'' =>
      (∃ g c, e = .returned (.slice (some ⟨g, 0, none⟩) n c) ∧ ∀ i, i < n → w''.cell? ⟨g, i, none⟩ = some (.int .i64 (F i))) ∧ Below w'.heap.size w' w'') := Lib.hid (fun w' hb => by
    rw [hF]
    refine (LevelsOf_yes x y h how s 8 V b off n cap fs w' he (by omega) (hc.past hb)).mono ?_
    rintro e w'' ⟨u, rfl, k⟩
    obtain ⟨g, c, rfl, -, -, -, -⟩ := own_form k.own hn0
    refine ⟨⟨g, c, rfl, fun i hi => ?_⟩, k.bel⟩
    have := k.own.cells (g := g) rfl i _ (valsI_get _ n i hi)
    rw [add_at, Nat.zero_add] at this
    exact this)
  have HB4 : Hid (((picBy (fun i => by8 (F i)) n).length : Int) = 3 * V * h) := Lib.hid (by
    rw [picBy_len]
    have h3 := hl
    rw [Int.mul_assoc] at h3 ⊢
    omega)
  have HG : Hid (∀ w', LibW w' → Calls Tryd.prog 30 #[.string T] w' fun e w'' => ∃ g, e = .returned (.tuple #[.agg #[.int .i64 0, .int .i64 0, .int .i64 V, .int .i64 h, .slice (some ⟨g, 0, none⟩) n n], .int .i64 0]) ∧ (∀ i, i < n → w''.cell? ⟨g, 0 + i, none⟩ = some (.float .f32 (vaF F i))) ∧ Below w'.heap.size w' w'') := Lib.hid (fun w' h' => by
    obtain ⟨p1, p2, p3, p4⟩ := pic_of (W := (V : Int)) (H := h) ⟨r1, r2⟩ ⟨r3, r4⟩ (picBy (fun i => by8 (F i)) n) HB4.out
    rw [← HTD.out] at p1 p2 p3 p4
    have hsz : T.size ≤ 1048576 := by
      rw [Lib.size_eq, HTD.out, List.length_append, picBy_len]
      have := headT_len (W := (V : Int)) (H := h) ⟨r1, r2⟩ ⟨r3, r4⟩
      omega
    have hy := ReadPicture_yes T w' h' hsz p1 (by rw [p3, p4]; unfold regErr; rw [if_neg (by omega), if_neg (by omega), if_neg (by omega)]) n (by rw [p3, p4]; exact hl)
    rw [p2, p3, p4] at hy
    refine hy.mono ?_
    rintro e w'' ⟨g, rfl, -, hcl, hb⟩
    exact ⟨g, rfl, fun i hi => by rw [Nat.zero_add, hcl i hi, vaF_pic F n i (HZ.out i) hi], hb⟩)
  have HL := Lib.hid hL
  clear hF hc hL he hr hl hx hy hh hT HB4
  go_enter Tryd.func5, Tryd.ntmps5
  go_upto_region 2 with (go_at_call 36; refine (HP.out _ (by (repeat (first | exact Below.refl _ _ | assumption | (refine Below.setCell ?_ (by first | (simp; done) | (simp; omega) | omega) _) | (refine Below.drew ?_) | (refine below_drewN ?_ _) | (refine Below.alloc ?_ (by first | (simp; done) | (simp; omega) | omega) _) | (refine Below.trans ?_ (Below.mono (by assumption) (by first | (simp; done) | (simp; omega) | omega))))))).mono ?_; rintro e v1 ⟨rfl, hb1⟩)
  have H1 : Hid (Blk v1 w.heap.size [.int .i64 x, .int .i64 y, .int .i64 V, .int .i64 h, .slice (some ⟨b, off, none⟩) n cap] ∧ Below w.heap.size w v1) := Lib.hid ⟨(Blk.new _ _ _ _ rfl).past hb1, Below.trans (by clear hb1; (repeat (first | exact Below.refl _ _ | assumption | (refine Below.setCell ?_ (by first | (simp; done) | (simp; omega) | omega) _) | (refine Below.drew ?_) | (refine below_drewN ?_ _) | (refine Below.alloc ?_ (by first | (simp; done) | (simp; omega) | omega) _) | (refine Below.trans ?_ (Below.mono (by assumption) (by first | (simp; done) | (simp; omega) | omega)))))) (hb1.mono (by simp))⟩
  have q0 := H1.out.1.c 0 _ rfl; have q1 := H1.out.1.c 1 _ rfl; have q2 := H1.out.1.c 2 _ rfl; have q3 := H1.out.1.c 3 _ rfl; have q4 := H1.out.1.c 4 _ rfl
  have ql := H1.out.1.lt
  clear hb1 HP
  go_upto_region 3 with (first | (go_at_call 15; refine (HF.out _).mono ?_; rintro e v2 ⟨rfl, hb2⟩) | (go_at_call 8; refine (In_any _ _ _ _).mono ?_; rintro e w' ⟨rfl, rfl⟩) | (go_at_call 14; refine (When_any _ _ _).mono ?_; rintro e w' ⟨rfl, rfl⟩) | (go_at_call 13; refine (First2_new _ _ _ _ _ (heap_new _ _ _ (by simp))).mono ?_; rintro e w' ⟨rfl, rfl⟩))
  rw [HE.out]
  refine wp_world (fun V2 hV2 => ?_)
  have H2 : Hid (Blk V2 w.heap.size [.int .i64 x, .int .i64 y, .int .i64 V, .int .i64 h, .slice (some ⟨b, off, none⟩) n cap] ∧ Below w.heap.size w V2) := Lib.hid (by
    have hbb : Below v1.heap.size v1 V2 := by rw [hV2]; exact hb2.trans (Below.mono (show Below v2.heap.size v2 _ by clear hb2; (repeat (first | exact Below.refl _ _ | assumption | (refine Below.setCell ?_ (by first | (simp; done) | (simp; omega) | omega) _) | (refine Below.drew ?_) | (refine below_drewN ?_ _) | (refine Below.alloc ?_ (by first | (simp; done) | (simp; omega) | omega) _) | (refine Below.trans ?_ (Below.mono (by assumption) (by first | (simp; done) | (simp; omega) | omega)))))) hb2.size)
    exact ⟨H1.out.1.past hbb, H1.out.2.trans (hbb.mono H1.out.2.size)⟩)
  clear hV2 hb2 q0 q1 q2 q3 q4 ql HF HE H1
  have q0 := H2.out.1.c 0 _ rfl; have q1 := H2.out.1.c 1 _ rfl; have q2 := H2.out.1.c 2 _ rfl; have q3 := H2.out.1.c 3 _ rfl; have q4 := H2.out.1.c 4 _ rfl
  have ql := H2.out.1.lt
  by_cases hfew : (n : Int) ≤ 400
  · have hf1 : decide ((n : Int) ≤ 400) = true := decide_eq_true hfew
    go_upto_region 7 with (first | (go_at_call 31; refine (finishes_any _).mono ?_; rintro e w' ⟨nf, rfl, rfl⟩) | (go_at_call 37; refine (few_P _ _ _ _ _ _ _ _).mono ?_; rintro e v3 ⟨rfl, hb3⟩))
    have H3 : Hid (Blk v3 w.heap.size [.int .i64 x, .int .i64 y, .int .i64 V, .int .i64 h, .slice (some ⟨b, off, none⟩) n cap] ∧ Below w.heap.size w v3 ∧ LibW v3) := Lib.hid (by
      have hbb : Below V2.heap.size V2 v3 := Below.trans (show Below V2.heap.size V2 _ by clear hb3; (repeat (first | exact Below.refl _ _ | assumption | (refine Below.setCell ?_ (by first | (simp; done) | (simp; omega) | omega) _) | (refine Below.drew ?_) | (refine below_drewN ?_ _) | (refine Below.alloc ?_ (by first | (simp; done) | (simp; omega) | omega) _) | (refine Below.trans ?_ (Below.mono (by assumption) (by first | (simp; done) | (simp; omega) | omega)))))) (hb3.mono (by simp))
      have h1 := H2.out.2.trans (hbb.mono H2.out.2.size)
      exact ⟨H2.out.1.past hbb, h1, HL.out.past h1⟩)
    clear hb3 q0 q1 q2 q3 q4 ql H2
    have q2 := H3.out.1.c 2 _ rfl; have q3 := H3.out.1.c 3 _ rfl
    have ql := H3.out.1.lt
    have s1 := itoaB_size V (by omega) (by omega)
    have s2 := itoaB_size h (by omega) (by omega)
    have c1 : ¬ 9223372036854775807 < 3 + (itoaB #[.int .i64 (V : Int)]).size := by omega
    have c2 : ¬ 9223372036854775807 < 3 + (itoaB #[.int .i64 (V : Int)]).size + 1 := by omega
    have c3 : ¬ 9223372036854775807 < 3 + (itoaB #[.int .i64 (V : Int)]).size + 1 + (itoaB #[.int .i64 h]).size := by omega
    have c4 : ¬ 9223372036854775807 < 3 + (itoaB #[.int .i64 (V : Int)]).size + 1 + (itoaB #[.int .i64 h]).size + 5 := by omega
    refine wp_region_loose 12 (fun f args u => f = 35 ∧ u = .string (itoaB args)) (by kernel_rfl) (by kernel_rfl) ?_
    simp only [List.take_succ_cons, List.take_zero, List.drop_succ_cons, List.drop_zero]
    repeat (refine loose_wanted rfl (fun K hK => ?_); go_simp; refine hK _ ?_; clear hK K)
    refine loose_step rfl (fun K hK => ?_)
    go_simp
    refine ⟨fun p => (Itoa_any _ _ (H3.out.2.2.past p.h) (by omega) (by omega)).mono ?_, ?_⟩
    · rintro e w' ⟨rfl, hb⟩
      exact ⟨_, rfl, rfl, p.h.trans (hb.mono p.h.size)⟩
    refine hK _ ?_
    clear hK K
    repeat (refine loose_wanted rfl (fun K hK => ?_); go_simp; refine hK _ ?_; clear hK K)
    refine loose_step rfl (fun K hK => ?_)
    go_simp
    refine ⟨fun p => (Itoa_any _ _ (H3.out.2.2.past p.h) (by omega) (by omega)).mono ?_, ?_⟩
    · rintro e w' ⟨rfl, hb⟩
      exact ⟨_, rfl, rfl, p.h.trans (hb.mono p.h.size)⟩
    refine hK _ ?_
    clear hK K
    repeat (refine loose_wanted rfl (fun K hK => ?_); go_simp; refine hK _ ?_; clear hK K)
    refine loose_nil (fun v4 hb4 => ?_)
    refine wpList_bytesB rfl (sizeX _ _ s1 s2) ?_
    intro u0 v5 hown hb5
    rw [headX] at hown
    obtain ⟨g0, cp0, hu0, hg0, hgl0, hcp0⟩ := ownB_lt hown
    subst hu0
    have H5 : Hid (Blk v5 w.heap.size [.int .i64 x, .int .i64 y, .int .i64 V, .int .i64 h, .slice (some ⟨b, off, none⟩) n cap] ∧ Below w.heap.size w v5 ∧ w.heap.size < v4.heap.size) := Lib.hid (by
      have hbb : Below v3.heap.size v3 v5 := hb4.trans (hb5.mono hb4.size)
      exact ⟨H3.out.1.past hbb, H3.out.2.1.trans (hbb.mono H3.out.2.1.size), (H3.out.1.past hb4).lt⟩)
    have HHL := Lib.hid (headT_len (W := (V : Int)) (H := h) ⟨r1, r2⟩ ⟨r3, r4⟩)
    obtain ⟨L0, hL0⟩ : ∃ L0, L0 = headT V h := ⟨_, rfl⟩
    rw [← hL0] at hown HHL ⊢
    have HOW := Lib.hid hown
    have HL0 := Lib.hid hL0
    clear hown hL0 hb4 hb5 c1 c2 c3 c4 s1 s2 q2 q3 ql H3
    have q0 := H5.out.1.c 0 _ rfl; have q1 := H5.out.1.c 1 _ rfl; have q2 := H5.out.1.c 2 _ rfl; have q3 := H5.out.1.c 3 _ rfl; have q4 := H5.out.1.c 4 _ rfl
    have ql := H5.out.1.lt
    go_upto_region 10 with (go_at_call 38; refine (HLO.out _ H5.out.2.1).mono ?_; rintro e wL ⟨⟨g, c, rfl, hcl⟩, hbL⟩)
    have hgL : g < wL.heap.size := cell_lt (hcl 0 hn0)
    have hg00 : wL.cell? ⟨g0, 0, none⟩ = some (.int .u8 80) := by
      refine ownB_cell (ownB_past HOW.out hbL) 0 _ ?_
      rw [HL0.out]; rfl
    have hgg : g ≠ g0 := fun e => by
      have := hcl 0 hn0
      rw [e, hg00] at this
      cases this
    have HBL : Hid (Blk wL w.heap.size [.int .i64 x, .int .i64 y, .int .i64 V, .int .i64 h, .slice (some ⟨b, off, none⟩) n cap] ∧ Below w.heap.size w wL ∧ (∀ i, i < n → wL.cell? ⟨g, i, none⟩ = some (.int .i64 (F i))) ∧ w.heap.size < g0 ∧ v4.heap.size ≤ wL.heap.size) := Lib.hid ⟨H5.out.1.past hbL, H5.out.2.1.trans (hbL.mono H5.out.2.1.size), hcl, by have := H5.out.2.2; omega, by have := hbL.size; omega⟩
    have HM0 : Hid (PmR wL wL v4.heap.size g0 (.slice (some ⟨g0, 0, none⟩) L0.length cp0) (.slice none 0 0) (L0 ++ picBy (fun i => by8 (F i)) 0) (vaF F) 0) := Lib.hid ⟨World.grownBy.refl _ _, by rw [show picBy (fun i => by8 (F i)) 0 = [] from rfl, List.append_nil]; exact ownB_past HOW.out hbL, World.ownsRow_nil _ _ _ _, fun j hj => .inl (by simpa [Value.ownBlock] using hj.symm), fun j _ e => by cases e⟩
    have HTT : Hid (∀ k, k = n → (⟨(L0 ++ picBy (fun i => by8 (F i)) k).toArray⟩ : ByteArray) = T) := Lib.hid (fun k hk => by
      subst hk
      rw [HL0.out, ← HTD.out])
    clear hcl hg00 hbL HOW HL0 H5 HLO q0 q1 q2 q3 q4 ql hg0 hgl0
    obtain ⟨i0, hi0, hz0, hz1, hz2⟩ := info_parts infoF32
    go_wp2_with fail
    go_loopw [70, 10, 11] (fun s70 s10 s11 wr => ∃ k : Nat, k ≤ n ∧ s70 = .int .i64 k ∧ ∃ ub uf, ub = s10 ∧ uf = s11 ∧ PmR wL wr v4.heap.size g0 ub uf (L0 ++ picBy (fun i => by8 (F i)) k) (vaF F) k) (fun s70 _ _ _ => n - (intOf s70).toNat)
    case atStart => exact ⟨0, Nat.zero_le _, rfl, _, _, rfl, rfl, HM0.out⟩
    case round =>
      obtain ⟨k, hk, rfl, ub, uf, rfl, rfl, hM⟩ := hrel
      have HM := Lib.hid hM
      clear hM HM0
      by_cases hlN : k < n
      · have hlN' : (k : Int) < (n : Int) := by omega
        obtain ⟨z, hz⟩ : ∃ z, z = F k := ⟨_, rfl⟩
        have hzc : wr.cell? ⟨g, k, none⟩ = some (.int .i64 z) := by rw [World.cell?_of_block (HM.out.gr.block g hgL (by simpa using hgg)), hz]; exact HBL.out.2.2.1 k hlN
        have hgw : g < wr.heap.size := by have := HM.out.gr.size; omega
        obtain ⟨z0, z1⟩ : 0 ≤ z ∧ z ≤ 255 := by rw [hz]; exact HZ.out k
        have HZK := Lib.hid hz
        obtain ⟨m, hm⟩ : ∃ m, m = k % 4 := ⟨_, rfl⟩
        have hkm : (k : Int) % 4 = (m : Int) := by omega
        have hm4 : m < 4 := by omega
        have HKM := Lib.hid hm
        clear hz hm
        by_cases hm3 : m = 3
        · have hm3' : ((m : Int) == 3) = true := by rw [hm3]; rfl
          have HM3 := Lib.hid hm3
          clear hm3
          go_wp2_with (first | (at_builtin; refine wpList_append_lies _ rfl _ _ _ rfl wL.heap.size 50 i0 (.float .f32 0) 1 4 Tryd.underlying36 hi0 hz0 hz1 hz2 rfl (by decide) uf k (valsF (vaF F) k) rfl (own_past HM.out.of ((Below.refl _ _).alloc (Nat.le_refl _) _)) ⟨wr.heap.size, 0, none⟩ 1 1 [.float .f32 1065353216] rfl rfl (by intro j u hj; match j, hj with | 0, hj => (simp at hj; subst hj; simp [Addr.add])) (by intro u hu; simp at hu; subst hu; rfl) (by decide) (by unfold maxLen; omega) (by omega) (by have := HM.out.gr.size; simp; omega) _ rfl ?_; intro gf cf w7 hown hgrow hat hlt))
          have HN := Lib.hid (PmR.value HM.out ((Below.refl _ _).alloc (Nat.le_refl _) _) (by unfold vaF; rw [if_neg (by have := HKM.out; have := HM3.out; omega)]) hown hgrow hat)
          clear hown hgrow hat hlt
          go_roundw
          case rel => exact ⟨k + 1, by omega, by go_num, _, _, rfl, rfl, by unfold picBy; rw [if_neg (by have := HKM.out; have := HM3.out; omega)]; exact HN.out⟩
          case measure => simp [intOf]; omega
        · have hm3' : ((m : Int) == 3) = false := by simp; omega
          have hz8 : IntKind.u8.wrap z = ((by8 z).toNat : Int) := by8_wrap z
          have hpl : (L0 ++ picBy (fun i => by8 (F i)) k).length + 1 ≤ 1000000000 := by
            rw [List.length_append, picBy_len]; have := HHL.out; omega
          have hbs : v4.heap.size ≤ wr.heap.size := by have := HM.out.gr.size; have := HBL.out.2.2.2.2; omega
          obtain ⟨B, hB⟩ : ∃ B, B = by8 z := ⟨_, rfl⟩
          rw [← hB] at hz8
          have HBY := Lib.hid hB
          have HM3 := Lib.hid (show k % 4 < 3 by have := HKM.out; omega)
          clear hB
          go_upto_region 15 with (first | (at_builtin; refine wpList_appB v4.heap.size ub _ B ⟨wr.heap.size, 0, none⟩ 1 (ownB_past HM.out.ob ((Below.refl _ _).alloc (Nat.le_refl _) _)) (by simp) hpl (by simp; omega) rfl _ _ rfl rfl rfl ?_; intro ub2 w7 hown hgrow hat))
          have HN := Lib.hid (PmR.byte HM.out ((Below.refl _ _).alloc (Nat.le_refl _) _) hown hgrow hat)
          have hsz : wL.heap.size ≤ w7.heap.size := by have := HN.out.gr.size; omega
          clear hown hgrow hat hz8 hzc hgw HM hbs hpl
          go_wp2_with (first | (go_at_call 39; refine (ValueOf_any _ _ _ (by omega) (by omega)).mono ?_; rintro e w8 ⟨nd, rfl, rfl⟩) | (at_builtin; refine wpList_append_lies _ rfl _ _ _ rfl wL.heap.size 50 i0 (.float .f32 0) 1 4 Tryd.underlying36 hi0 hz0 hz1 hz2 rfl (by decide) uf k (valsF (vaF F) k) rfl (own_past HN.out.of (by (repeat (first | exact Below.refl _ _ | assumption | (refine Below.setCell ?_ (by first | (simp; done) | (simp; omega) | omega) _) | (refine Below.drew ?_) | (refine below_drewN ?_ _) | (refine Below.alloc ?_ (by first | (simp; done) | (simp; omega) | omega) _) | (refine Below.trans ?_ (Below.mono (by assumption) (by first | (simp; done) | (simp; omega) | omega))))))) ⟨w7.heap.size, 0, none⟩ 1 1 [.float .f32 (valueF z 8)] rfl rfl (by intro j u hj; match j, hj with | 0, hj => (simp at hj; subst hj; exact freshN _ _ _ _)) (by intro u hu; simp at hu; subst hu; rfl) (by decide) (by unfold maxLen; omega) (by omega) (by simp; omega) _ rfl ?_; intro gf cf w9 hown hgrow hat hlt))
          have HN2 := Lib.hid (PmR.value HN.out (by (repeat (first | exact Below.refl _ _ | assumption | (refine Below.setCell ?_ (by first | (simp; done) | (simp; omega) | omega) _) | (refine Below.drew ?_) | (refine below_drewN ?_ _) | (refine Below.alloc ?_ (by first | (simp; done) | (simp; omega) | omega) _) | (refine Below.trans ?_ (Below.mono (by assumption) (by first | (simp; done) | (simp; omega) | omega)))))) (by unfold vaF; rw [if_pos HM3.out, ← HZK.out]) hown hgrow (hat.imp id fun e => e.trans (by simp)))
          clear hown hgrow hat hlt
          go_roundw
          case rel => exact ⟨k + 1, by omega, by go_num, _, _, rfl, rfl, by unfold picBy; rw [if_pos HM3.out, ← List.append_assoc, ← HZK.out, ← HBY.out]; exact HN2.out⟩
          case measure => simp [intOf]; omega
      · obtain rfl : k = n := by omega
        obtain ⟨gf, cf, rfl, hgf1, hgf2, -, -⟩ := own_form HM.out.of hn0
        have HFC : Hid (∀ i, i < k → wr.cell? ⟨gf, 0 + i, none⟩ = some (.float .f32 (vaF F i))) := Lib.hid (fun i hi => by
          have := HM.out.of.cells (g := gf) rfl i _ (valsF_get _ k i hi)
          rw [add_at] at this
          exact this)
        have HR : Hid (Blk wr w.heap.size [.int .i64 x, .int .i64 y, .int .i64 V, .int .i64 h, .slice (some ⟨b, off, none⟩) k cap] ∧ Below w.heap.size w wr ∧ LibW wr) := Lib.hid (by
          have hbw2 : Below w.heap.size w wr := HBL.out.2.1.grown HM.out.gr HBL.out.2.1.size (by intro j hj; cases hj; have := HBL.out.2.2.2.1; omega)
          exact ⟨HBL.out.1.block HM.out.gr.size (HM.out.gr.block _ HBL.out.1.lt (by have := HBL.out.2.2.2.1; simp; omega)), hbw2, HL.out.past hbw2⟩)
        have HOB := Lib.hid HM.out.ob
        clear HM HBL
        go_upto_region 18 with (go_at_call 30; refine (HG.out _ HR.out.2.2).mono ?_; rintro e v9 ⟨gp, rfl, hcp, hb9⟩)
        refine wp_world (fun V9 hV9 => ?_)
        have H9 : Hid (Blk V9 w.heap.size [.int .i64 x, .int .i64 y, .int .i64 V, .int .i64 h, .slice (some ⟨b, off, none⟩) k cap] ∧ Below w.heap.size w V9 ∧ Blk V9 v9.heap.size [.int .i64 0, .int .i64 0, .int .i64 V, .int .i64 h, .slice (some ⟨gp, 0, none⟩) k k] ∧ (∀ i, i < k → V9.cell? ⟨gf, 0 + i, none⟩ = some (.float .f32 (vaF F i))) ∧ (∀ i, i < k → V9.cell? ⟨gp, 0 + i, none⟩ = some (.float .f32 (vaF F i))) ∧ ownB V9 v4.heap.size ub (L0 ++ picBy (fun i => by8 (F i)) k)) := Lib.hid (by
          have h9V : Below v9.heap.size v9 V9 := by rw [hV9]; (repeat (first | exact Below.refl _ _ | assumption | (refine Below.setCell ?_ (by first | (simp; done) | (simp; omega) | omega) _) | (refine Below.drew ?_) | (refine below_drewN ?_ _) | (refine Below.alloc ?_ (by first | (simp; done) | (simp; omega) | omega) _) | (refine Below.trans ?_ (Below.mono (by assumption) (by first | (simp; done) | (simp; omega) | omega)))))
          have hbb : Below wr.heap.size wr V9 := hb9.trans (h9V.mono hb9.size)
          refine ⟨HR.out.1.past hbb, HR.out.2.1.trans (hbb.mono HR.out.2.1.size), by rw [hV9]; exact Blk.new _ _ _ _ rfl, fun i hi => ?_, fun i hi => ?_, ownB_past HOB.out hbb⟩
          · rw [hbb.cell (p := ⟨gf, 0 + i, none⟩) hgf2]; exact HFC.out i hi
          · rw [h9V.cell (p := ⟨gp, 0 + i, none⟩) (cell_lt (hcp i hi))]; exact hcp i hi)
        clear hb9 hV9 hcp HFC HR HOB
        have hstr := run_stringB H9.out.2.2.2.2.2
        rw [HTT.out _ rfl] at hstr
        have HSF := Lib.hid (fun w' (hb : Below V9.heap.size V9 w') => SameFrame_yes 0 0 V h gp 0 gf 0 k k cf (vaF F) w' hn1 (Nat.lt_of_lt_of_le (cell_lt (H9.out.2.2.2.2.1 0 hn0)) hb.size) (Nat.lt_of_lt_of_le (cell_lt (H9.out.2.2.2.1 0 hn0)) hb.size) (fun i hi => by rw [hb.cell (p := ⟨gp, 0 + i, none⟩) (cell_lt (H9.out.2.2.2.2.1 i hi))]; exact H9.out.2.2.2.2.1 i hi) (fun i hi => by rw [hb.cell (p := ⟨gf, 0 + i, none⟩) (cell_lt (H9.out.2.2.2.1 i hi))]; exact H9.out.2.2.2.1 i hi) : ∀ w', _)
        have q2 := H9.out.1.c 2 _ rfl; have q3 := H9.out.1.c 3 _ rfl
        have ql := H9.out.1.lt
        have p0 := H9.out.2.2.1.c 0 _ rfl; have p1 := H9.out.2.2.1.c 1 _ rfl; have p2 := H9.out.2.2.1.c 2 _ rfl; have p3 := H9.out.2.2.1.c 3 _ rfl; have p4 := H9.out.2.2.1.c 4 _ rfl
        have pl := H9.out.2.2.1.lt
        go_wp2_with (go_at_call 24; refine (HSF.out _ (by (repeat (first | exact Below.refl _ _ | assumption | (refine Below.setCell ?_ (by first | (simp; done) | (simp; omega) | omega) _) | (refine Below.drew ?_) | (refine below_drewN ?_ _) | (refine Below.alloc ?_ (by first | (simp; done) | (simp; omega) | omega) _) | (refine Below.trans ?_ (Below.mono (by assumption) (by first | (simp; done) | (simp; omega) | omega))))))).mono ?_; rintro e v10 ⟨rfl, hb10⟩)
        go_ret
        exact ⟨rfl, H9.out.2.1.trans (hb10.mono H9.out.2.1.size)⟩
  · have hf1 : decide ((n : Int) ≤ 400) = false := decide_eq_false hfew
    go_wp2_with (first | (go_at_call 31; refine (finishes_any _).mono ?_; rintro e w' ⟨nf, rfl, rfl⟩) | (go_at_call 37; refine (few_P _ _ _ _ _ _ _ _).mono ?_; rintro e v3 ⟨rfl, hb3⟩))
    go_ret
    exact ⟨rfl, H2.out.2.trans (Below.mono (Below.trans (show Below V2.heap.size V2 _ by clear hb3; (repeat (first | exact Below.refl _ _ | assumption | (refine Below.setCell ?_ (by first | (simp; done) | (simp; omega) | omega) _) | (refine Below.drew ?_) | (refine below_drewN ?_ _) | (refine Below.alloc ?_ (by first | (simp; done) | (simp; omega) | omega) _) | (refine Below.trans ?_ (Below.mono (by assumption) (by first | (simp; done) | (simp; omega) | omega)))))) (hb3.mono (by simp))) H2.out.2.size)⟩
/-- THE WALK OF THE STATEMENT. -/
theorem pc_walk (x y v h : Int) (a : Option Addr) (n cap : Nat) (fs : Nat → Nat) (how s : Int) (w : World) (hL : LibW w)
    (hx : IntKind.i64.min ≤ x ∧ x ≤ IntKind.i64.max) (hy : IntKind.i64.min ≤ y ∧ y ≤ IntKind.i64.max) (_ : IntKind.i64.min ≤ v ∧ v ≤ IntKind.i64.max) (_ : IntKind.i64.min ≤ h ∧ h ≤ IntKind.i64.max) (hf : IsFloats w a n cap fs)
    (_ : IntKind.i64.min ≤ how ∧ how ≤ IntKind.i64.max) (_ : IntKind.u32.min ≤ s ∧ s ≤ IntKind.u32.max) :
    Calls Tryd.prog 5 #[.agg #[.int .i64 x, .int .i64 y, .int .i64 v, .int .i64 h, .slice a n cap], .int .i64 how, .int .u32 s] w fun e w' => e = .returned (.bool true) ∧ Below w.heap.size w w' := by
  by_cases hE : levE how 8 (fraErr x y v h n) = 0
  · rw [levE8] at hE
    have e1 : fraErr x y v h n = 0 := by
      unfold firstE at hE
      split at hE
      · assumption
      · rename_i h0; exact absurd hE h0
    have e2 : whenE (!inB how 0 2) 1 = 0 := by
      rw [e1] at hE
      exact hE
    have hh : 0 ≤ how ∧ how ≤ 2 := by
      cases hi : inB how 0 2
      · rw [hi] at e2; cases e2
      · exact inB_iff.1 hi
    obtain ⟨hr, hl⟩ := fraErr_ok e1
    obtain ⟨r1, r2, r3, r4, r5, r6, -⟩ := regErr_ok hr
    have hlt1 : 4 ≤ 4 * v * h := by rw [Int.mul_assoc]; omega
    obtain ⟨V, rfl⟩ : ∃ V : Nat, v = V := ⟨v.toNat, by omega⟩
    rcases hf with ⟨h0, -⟩ | ⟨b, off, rfl, -, hnc, -, hcell⟩
    · omega
    · exact pc_yes x y h how s V b off n cap fs w hL hx hy e1 hh (fun i hi => (hcell i (by omega)).1)
  · exact pc_no x y v h a n cap how s w hx hy hE
end Go.Proofs.YtcdcfkgdgimmcaaDoor
