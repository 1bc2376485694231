/- The cache's calls: Put of a right frame under a right key. Conditions: what each theorem names. -/
import Derived.Test.YtcdcfkgdgimmcaaDoorKpH
namespace Go.Proofs.YtcdcfkgdgimmcaaDoor
open Go Go.RowKit
/-- What putting in gives. -/
def PutR (w : World) (c mb : Nat) (ks : Value) (most hi mi : Int) (N : Nat) (L : List Kp) (T : Option Nat) (w' : World) : Prop :=
  ∃ ks', (ks'.ownBlock = ks.ownBlock ∨ ∀ b, ks'.ownBlock = some b → w.heap.size ≤ b) ∧ CacheG w' Tryd.prog 9 c mb ks' most hi mi N L T ∧ Tch (Sp c mb ks) w w'
theorem fitK_len (most : Int) (L : List Kp) : (fitK most L).length ≤ L.length := (fitK_sub most L).length_le
set_option maxRecDepth 100000 in
set_option maxHeartbeats 6400000 in
theorem Put_yes (c mb : Nat) (ks : Value) (most hi mi : Int) (N : Nat) (L : List Kp) (T : Option Nat) (nm : ByteArray) (w : World) (x y v h : Int) (b off n cap : Nat) (fs : Nat → Nat) (hG : CacheG w Tryd.prog 9 c mb ks most hi mi N L T) (hT : ∀ b, T = some b → b < w.heap.size) (hnm : nm.size ≤ 9223372036854775807) (hr : rgK nm = true) (hE : fraErr x y v h n = 0) (hrow : Row w b off n fs) (hL : L.length ≤ 900) (hN : N ≤ 900) (hm : 0 ≤ most ∧ most ≤ 16777216) :
    Calls Tryd.prog 16 #[.pointer (some ⟨c, 0, none⟩), .string nm, .agg #[.int .i64 x, .int .i64 y, .int .i64 v, .int .i64 h, .slice (some ⟨b, off, none⟩) n cap]] w fun e w' => e = .returned (.int .i64 0) ∧ PutR w c mb ks most hi mi (N + 1) (fitK most (dropK nm L ++ [⟨nm, x, y, v, h, n, fun i => cn .f32 (fs i)⟩])) T w' := by
  have HT := Lib.hid (fun w => trimH_any nm w hnm)
  have HG := Lib.hid hG
  obtain ⟨t, ht⟩ : ∃ t, t = trH nm := ⟨_, rfl⟩
  unfold rgK at hr
  rw [← ht, Bool.and_eq_true, decide_eq_true_eq] at hr
  rw [← ht] at HT
  obtain ⟨h16, htq⟩ := hr
  have hnm2 : nm.size ≤ maxLen := by unfold maxLen; omega
  obtain ⟨KP, hKP⟩ : ∃ KP : Kp, KP = ⟨nm, x, y, v, h, n, fun i => cn .f32 (fs i)⟩ := ⟨_, rfl⟩
  have hok : KP.ok := by rw [hKP]; exact ⟨hE, hnm2⟩
  have kb := Kp.ok_bd hok
  have hq : KP.pix = v * h := by rw [hKP]; rfl
  have hkn : KP.n = n := by rw [hKP]
  rw [hkn] at kb
  obtain ⟨q, hqq⟩ : ∃ q, q = KP.pix := ⟨_, rfl⟩
  rw [← hqq] at hq kb
  have hvh : v * h = q := hq.symm
  have hbl : b < w.heap.size := hrow.lt (by omega)
  have HRW := Lib.hid (And.intro hrow hE)
  have HK := Lib.hid (And.intro hKP (And.intro hok (And.intro hqq kb)))
  rw [← hKP]
  clear ht hrow hE hKP hok hqq hq hkn hG
  go_enter Tryd.func16, Tryd.ntmps16
  go_upto_region 3 with (go_at_call 12; refine (HT.out _).mono ?_; rintro e w1 ⟨rfl, hb1⟩; have F1 := (Blk.new w [.int .i64 x, .int .i64 y, .int .i64 v, .int .i64 h, .slice (some ⟨b, off, none⟩) n cap] _ _ rfl).past hb1; have B1 := ((Below.refl _ w).alloc (Nat.le_refl _) _).trans (hb1.mono (by simp)); have H1 := Lib.hid (And.intro F1 B1); clear hb1 F1 B1)
  have f0 := H1.out.1.c 0 _ rfl; have f1 := H1.out.1.c 1 _ rfl; have f2 := H1.out.1.c 2 _ rfl; have f3 := H1.out.1.c 3 _ rfl; have f4 := H1.out.1.c 4 _ rfl; have fl := H1.out.1.lt
  go_wp2_with fail
  refine (FClean_yes x y v h b off n cap fs w1 HRW.out.2 (HRW.out.1.past H1.out.2)).mono ?_
  rintro e w2 ⟨g, rfl, hg, hrw, hb2⟩
  have F2 := H1.out.1.past hb2
  have H2 := Lib.hid (And.intro hg (And.intro hrw (And.intro F2 (H1.out.2.trans (hb2.mono H1.out.2.size)))))
  clear f0 f1 f2 f3 f4 fl hb2 hrw hg
  have f0 := F2.c 0 _ rfl; have f1 := F2.c 1 _ rfl; have f2 := F2.c 2 _ rfl; have f3 := F2.c 3 _ rfl; have f4 := F2.c 4 _ rfl; have fl := F2.lt; have ff := F2.f
  clear F2
  go_upto_region 6 with fail
  refine wp_world (fun W hW => ?_)
  have F3 : Blk W w.heap.size [.int .i64 x, .int .i64 y, .int .i64 v, .int .i64 h, .slice (some ⟨g, 0, none⟩) n n] := by
    rw [hW]
    exact by simpa using ((((H2.out.2.2.1.set 0 (.int .i64 x)).set 1 (.int .i64 y)).set 2 (.int .i64 v)).set 3 (.int .i64 h)).set 4 (.slice (some ⟨g, 0, none⟩) n n)
  have hcl := HG.out.b.lt
  have hg1 : w.heap.size < g := by have := H2.out.1; have := H1.out.1.lt; omega
  have R3 : Row W g 0 KP.n KP.fs := fun i hi => by
    rw [HK.out.1] at hi ⊢
    have h1 := H2.out.2.1.cell hi
    rw [Nat.zero_add, hW]
    rw [World.cell?_setCell_other _ _ _ _ (by first | (simp; done) | (simp; omega) | omega), World.cell?_setCell_other _ _ _ _ (by first | (simp; done) | (simp; omega) | omega), World.cell?_setCell_other _ _ _ _ (by first | (simp; done) | (simp; omega) | omega), World.cell?_setCell_other _ _ _ _ (by first | (simp; done) | (simp; omega) | omega), World.cell?_setCell_other _ _ _ _ (by first | (simp; done) | (simp; omega) | omega)]
    exact h1
  have B3 : Below w.heap.size w W := by have B2 := H2.out.2.2.2; rw [hW]; (repeat (first | exact Below.refl _ _ | assumption | (refine Below.setCell ?_ (by first | (simp; done) | (simp; omega) | omega) _) | (refine Below.drew ?_) | (refine below_drewN ?_ _) | (refine Below.alloc ?_ (by first | (simp; done) | (simp; omega) | omega) _) | (refine Below.trans ?_ (Below.mono (by assumption) (by first | (simp; done) | (simp; omega) | omega)))))
  have hgW : g < W.heap.size := R3.lt (by rw [HK.out.1]; show 0 < n; have := HK.out.2.2.2; omega)
  have H3 := Lib.hid (And.intro B3 (And.intro F3 (And.intro R3 (HG.out.past B3))))
  have hwW : w.heap.size < W.heap.size := F3.lt
  clear hW F3 R3 B3 f0 f1 f2 f3 f4 fl ff H1 H2
  have hL' : L.length ≤ 1000 := by omega
  go_upto_region 7 with (go_at_call 25; refine (Drop_any c mb ks most hi mi N L T nm _ H3.out.2.2.2 hL' hnm2).mono ?_; rintro e w4 ⟨rfl, hD4⟩; have H4 := Lib.hid hD4; clear hD4)
  obtain ⟨ks4, o4, G4, t4⟩ := H4.out
  obtain ⟨D4, hO4, hM4⟩ := G4.m
  have hSp : ∀ b, Sp c mb ks b → b < w.heap.size := fun b hb => by
    rcases hb with e | e | e
    · omega
    · obtain ⟨D, hD, -⟩ := HG.out.m; have := hD.lt; omega
    · exact HG.out.k.lt e
  have F4 := H3.out.2.1.tch t4 (fun e => by have := hSp _ e; omega)
  have R4 : Row w4 g 0 KP.n KP.fs := fun i hi => by
    rw [World.cell?_of_block (a := ⟨g, 0 + i, none⟩) (t4.block g hgW (fun e => by have := hSp _ e; omega))]
    exact H3.out.2.2.1 i hi
  obtain ⟨W5, hrun, hO5, hT5⟩ := (hO4.drew).store lawS Tryd.underlying92 (by unfold maxLen; omega) (key := .string nm) (val := .agg #[.int .i64 x, .int .i64 y, .int .i64 v, .int .i64 h, .slice (some ⟨g, 0, none⟩) n n]) (key_mk hnm2) rfl
  have c3 := G4.b.c 3 _ rfl; have cl := G4.b.lt; have cf := G4.b.f
  have f0 := F4.c 0 _ rfl; have f1 := F4.c 1 _ rfl; have f2 := F4.c 2 _ rfl; have f3 := F4.c 3 _ rfl; have f4 := F4.c 4 _ rfl; have fl := F4.lt
  have hI4 := hO4.isMap
  have H5 := Lib.hid (And.intro o4 (And.intro G4 (And.intro t4 (And.intro F4 (And.intro R4 (And.intro hO5 (And.intro hT5 (And.intro hM4 hI4))))))))
  have HSP := Lib.hid hSp
  clear o4 G4 t4 F4 R4 hO5 hT5 hM4 hO4 hI4 hSp H4
  go_wp2_with fail
  go_region
  have t5 : Tch (fun b => b = mb) w4 W5 := by have h := turned_tch (S := fun b => b = mb) H5.out.2.2.2.2.2.2.1 rfl; exact ⟨h.os, h.tape, h.output, h.size, h.block⟩
  have B5 := H5.out.2.1.b.tch t5 H5.out.2.1.ne
  have K5 := H5.out.2.1.k.tch t5 (fun b hb e => (H5.out.2.1.nk b hb).2 e)
  have F5 := H5.out.2.2.2.1.tch t5 (fun e => by have := HSP.out mb (.inr (.inl rfl)); omega)
  have R5 : Row W5 g 0 KP.n KP.fs := fun i hi => by
    rw [World.cell?_of_block (a := ⟨g, 0 + i, none⟩) (t5.block g (by have := H5.out.2.2.1.size; omega) (fun e => by have := HSP.out mb (.inr (.inl rfl)); omega))]
    exact H5.out.2.2.2.2.1 i hi
  obtain ⟨ao4, kn4, kc4, rfl⟩ : ∃ ao n cap, ks4 = .slice ao n cap := by obtain ⟨-, ao, cap, rfl, -⟩ := K5; exact ⟨_, _, _, rfl⟩
  have H6 := Lib.hid (And.intro t5 (And.intro B5 (And.intro K5 (And.intro F5 (And.intro R5 H5.out.2.2.2.2.2.1)))))
  obtain ⟨i0, hi0, hz0, hz1, hz2⟩ := info_parts infoStr
  have hl4 : (dropK nm L).length ≤ L.length := dropK_len _ _
  have hw5 : W.heap.size ≤ W5.heap.size := Nat.le_trans H5.out.2.2.1.size t5.size
  have c2 := B5.c 2 _ rfl; have cl := B5.lt; have cf := B5.f
  clear t5 B5 K5 F5 R5 c3 f0 f1 f2 f3 f4 fl hrun
  go_upto_region 9 with (at_builtin; refine wpList_append_row (v := .slice ao4 kn4 kc4) _ rfl _ _ 23 rfl Tryd.underlying23 hi0 hz0 hz1 hz2 rfl (by decide) rfl (H6.out.2.2.1.past ((Below.refl _ _).alloc (Nat.le_refl _) _)) ⟨W5.heap.size, 0, none⟩ 1 [.string nm] rfl rfl (by intro j u hj; match j, hj with | 0, hj => (simp at hj; subst hj; simp [Addr.add])) (by intro u hu; simp at hu; subst hu; rfl) (by unfold maxLen; omega) (by omega) ?_; intro ao5 cap5 w6 hR6 hG6 ho6; have hb6 := (H6.out.2.1.alloc _).tch (Tch.of_grown (S := fun b => Value.ownBlock (.slice ao4 kn4 kc4) = some b) hG6 (fun b hb => hb)) (fun hb => (HG.out.nk c (by rw [← H5.out.1]; exact hb)).1 rfl); have d2 := hb6.c 2 _ rfl; have dl := hb6.lt; have df := hb6.f; have H7 := Lib.hid (And.intro hR6 (And.intro hG6 (And.intro ho6 hb6))); clear hR6 hG6 ho6 hb6)
  refine wp_world (fun W7 hW7 => ?_)
  have t6 : Tch (fun b => ks.ownBlock = some b) W5 w6 := Tch.then (T := fun b => ks.ownBlock = some b) (Tch.of_below ((Below.refl _ _).alloc (Nat.le_refl _) _)) (Tch.of_grown H7.out.2.1 (fun b hb => by rw [← H5.out.1]; exact hb)) (fun _ _ e => e)
  have t7 : Tch (fun b => b = c) w6 W7 := by rw [hW7]; exact (Tch.refl _ _).set2 _ _ (.inl rfl)
  have B7 : Blk W7 c [.int .i64 most, .int .i64 (pixL (dropK nm L)), .slice ao5 ((dropK nm L).length + 1) cap5, .map (some mb), .int .i64 hi, .int .i64 mi] := by rw [hW7]; exact (by simpa using H7.out.2.2.2.set 2 (.slice ao5 ((dropK nm L).length + 1) cap5))
  have hks5 : ∀ b, (Value.slice ao5 ((dropK nm L).length + 1) cap5).ownBlock = some b → ks.ownBlock = some b ∨ W5.heap.size ≤ b := fun b hb => by
    rcases H7.out.2.2.1 with e | e
    · left; rw [← H5.out.1, ← e]; exact hb
    · right; have := e b hb; simp at this; omega
  have K7 := H7.out.1.tch t7 (fun b hb e => by
    rcases hks5 b hb with e' | e'
    · exact (HG.out.nk b e').1 e
    · omega)
  have F7 := (H6.out.2.2.2.1.tch t6 (fun e => by have := HG.out.k.lt e; omega)).tch t7 (by omega)
  have t67 : Tch (fun b => b = c ∨ ks.ownBlock = some b) W5 W7 := (t6.mono (fun b _ e => .inr e)).trans (t7.mono (fun b _ e => .inl e))
  have M7 := ownsMap_tch H6.out.2.2.2.2.2 t67 (by rintro (e | e); exact HG.out.ne e.symm; exact (HG.out.nk mb e).2 rfl)
  have R7 : Row W7 g 0 KP.n KP.fs := fun i hi => by
    rw [World.cell?_of_block (a := ⟨g, 0 + i, none⟩) (t67.block g (by omega) (by rintro (e | e); omega; have := HG.out.k.lt e; omega))]
    exact H6.out.2.2.2.2.1 i hi
  have H8 := Lib.hid (And.intro t67 (And.intro B7 (And.intro hks5 (And.intro K7 (And.intro M7 R7)))))
  have b1 := B7.c 1 _ rfl; have bl := B7.lt; have bf := B7.f
  have f2 := F7.c 2 _ rfl; have f3 := F7.c 3 _ rfl; have fl := F7.lt
  obtain ⟨S, hS⟩ : ∃ S, S = pixL (dropK nm L) := ⟨_, rfl⟩
  have hSb := pixL_bd (HG.out.ok.drop nm).1
  rw [← hS] at b1 hSb
  have HS := Lib.hid hS
  have hqb : 1 ≤ q ∧ q ≤ 16384 := ⟨HK.out.2.2.2.1, HK.out.2.2.2.2.1⟩
  have hw7 : W5.heap.size ≤ W7.heap.size := t67.size
  clear hW7 t6 t7 B7 K7 F7 t67 M7 R7 c2 cl cf d2 dl df hS hks5
  go_wp2_with fail
  go_region
  refine kp_exit (fun W8 hW8 => ?_)
  have t8 : Tch (fun b => b = c) W7 W8 := by
    have h := (Tch.refl (fun b => b = c) W7).set ⟨c, 1, none⟩ (.int .i64 (S + q)) rfl
    rw [hW8]; exact ⟨h.os, h.tape, h.output, h.size, h.block⟩
  have B8 : Blk W8 c [.int .i64 most, .int .i64 (S + q), .slice ao5 ((dropK nm L).length + 1) cap5, .map (some mb), .int .i64 hi, .int .i64 mi] := by rw [hW8]; exact (by simpa using (H8.out.2.1.set 1 (.int .i64 (S + q))).drew)
  have hnmK : KP.nm = nm := by rw [HK.out.1]
  have tA : Tch (Sp c mb ks) W5 W8 := (H8.out.1.mono (fun b _ e => by rcases e with e | e; exact .inl e; exact .inr (.inr e))).trans (t8.mono (fun b _ e => .inl e))
  have t48 : Tch (Sp c mb ks) w4 W8 := (H6.out.1.mono (fun b _ e => .inr (.inl e))).trans tA
  have tW : Tch (Sp c mb ks) w W8 := ((Tch.of_below H3.out.1).trans H5.out.2.2.1).trans t48
  have hk5 := H8.out.2.2.1
  have hgT : ∀ b, T = some b → b ≠ g := fun b hb e => by have := hT b hb; omega
  have hD4m := HG.out.m
  have hmbl : mb < w.heap.size := by obtain ⟨D, hD, -⟩ := hD4m; exact hD.lt
  have G8 : CacheG W8 Tryd.prog 9 c mb (.slice ao5 ((dropK nm L).length + 1) cap5) most hi mi (N + 1) (dropK nm L ++ [KP]) T := by
    refine ⟨?_, ?_, ⟨_, ownsMap_tch H8.out.2.2.2.2.1 t8 (fun e => HG.out.ne e.symm), ?_⟩, HG.out.ne, ?_, ⟨HG.out.t.1, HG.out.t.2.1, ?_⟩, (HG.out.ok.drop nm).app HK.out.2.1 (fun a ha => by rw [hnmK]; exact dropK_none HG.out.ok nm a ha)⟩
    · rw [pixL_app, ← HS.out]
      have : pixL [KP] = q := by rw [HK.out.2.2.1]; simp [pixL]
      rw [this]; exact B8
    · rw [List.flatMap_append, show (dropK nm L ++ [KP]).length = (dropK nm L).length + 1 by simp]
      have e : [Value.string nm] = [KP].flatMap nmC := by simp [nmC, hnmK]
      rw [← e]
      exact H8.out.2.2.2.1.tch t8 (fun b hb e => by
        rcases hk5 b hb with e' | e'
        · exact (HG.out.nk b e').1 e
        · have := H5.out.2.2.1.size; omega)
    · have hp := H5.out.2.2.2.2.2.2.2.1.put H5.out.2.2.2.2.2.2.2.2 KP g ⟨by omega, by omega, fun e => by have := HG.out.k.lt (H5.out.1 ▸ e); omega, fun e => hgT g e rfl⟩ (by have := H5.out.2.2.1.size; omega) H5.out.2.2.2.2.1 (fun a ha => by rw [hnmK]; exact dropK_none HG.out.ok nm a ha) trivial
      rw [hnmK] at hp
      have hv : kpV KP g = .agg #[.int .i64 x, .int .i64 y, .int .i64 v, .int .i64 h, .slice (some ⟨g, 0, none⟩) n n] := by rw [HK.out.1]; rfl
      rw [hv] at hp
      refine hp.tch t48 (fun g' hg' hG => ⟨?_, hG.1, hG.2.1, fun e => ?_, hG.2.2.2⟩)
      · rintro (e | e | e)
        · exact hG.1 e
        · exact hG.2.1 e
        · exact hG.2.2.1 (by rw [H5.out.1]; exact e)
      · rcases hk5 g' e with e' | e'
        · exact hG.2.2.1 (by rw [H5.out.1]; exact e')
        · have := H6.out.1.size; omega
    · intro b hb
      rcases hk5 b hb with e | e
      · exact HG.out.nk b e
      · have := H5.out.2.2.1.size; omega
    · intro b hb e
      rcases hk5 b hb with e' | e'
      · exact HG.out.t.2.2 b e' e
      · have := hT b e; omega
  have H9 := Lib.hid (And.intro G8 tW)
  have hl8 : (dropK nm L ++ [KP]).length ≤ 901 := by simp; omega
  obtain ⟨L2, hL2⟩ : ∃ L2, L2 = dropK nm L ++ [KP] := ⟨_, rfl⟩
  rw [← hL2] at hl8 H9
  have HL2 := Lib.hid hL2
  clear hL2 t8 B8 tA t48 tW hgT hD4m G8 b1 bl bf f2 f3 fl hW8 hnmK
  go_wp2_with fail
  go_loopg [] 1000 (fun gk wr => ∃ (L' : List Kp) (ks' : Value), fitK most L' = fitK most L2 ∧ L'.length < gk ∧ gk ≤ 1000 ∧ ks'.ownBlock = (Value.slice ao5 ((dropK nm L).length + 1) cap5).ownBlock ∧ CacheG wr Tryd.prog 9 c mb ks' most hi mi (N + 1) L' T ∧ Tch (Sp c mb (.slice ao5 ((dropK nm L).length + 1) cap5)) W8 wr)
  case atStart => exact ⟨L2, _, rfl, by omega, Nat.le_refl _, rfl, H9.out.1, Tch.refl _ _⟩
  case round =>
    obtain ⟨L', ks', r1, r2, r3, r4, r5, r6⟩ := hrel
    have HR := Lib.hid (And.intro r1 (And.intro r4 (And.intro r5 r6)))
    have b0 := r5.b.c 0 _ rfl; have b1 := r5.b.c 1 _ rfl; have b2 := r5.b.c 2 _ rfl; have bl := r5.b.lt
    obtain ⟨P, hP⟩ : ∃ P, P = pixL L' := ⟨_, rfl⟩
    rw [← hP] at b1
    have HP := Lib.hid hP
    clear hP r1 r4 r5 r6
    by_cases hmP : most < P
    · obtain ⟨k, l, rfl⟩ : ∃ k l, L' = k :: l := by
        cases L' with
        | nil => have := HP.out; simp [pixL] at this; omega
        | cons k l => exact ⟨k, l, rfl⟩
      obtain ⟨bk, ok, ck, rfl, hk1, hk2, hk3⟩ := nm_at HR.out.2.2.1.k (k := 0) (x := k) rfl
      have hk0 : 0 < ck := by simp at hk1; omega
      rw [Nat.add_zero] at hk3
      have bkl := cell_lt hk3; simp only at bkl
      have hn0 : (0 : Int) < (((k :: l).length : Nat) : Int) := by rw [List.length_cons]; omega
      have HL := Lib.hid (And.intro r2 r3)
      obtain ⟨nl, hnl⟩ : ∃ nl, nl = (k :: l).length := ⟨_, rfl⟩
      rw [← hnl] at b2 hn0 hk1 r2
      have HNL := Lib.hid hnl
      have hkc : ck ≤ 9223372036854775807 := by unfold maxLen at hk2; omega
      have hkey : k.nm.size ≤ maxLen := (HR.out.2.2.1.ok.1 k (by simp)).2
      generalize hkn : k.nm = kn at *
      have HKN := Lib.hid hkn
      clear hnl hkn hk2
      go_wp2_with fail
      go_quiet (fail)
      refine kp_exit (fun Wq hWq => ?_)
      have bq : Below wr.heap.size wr Wq := by rw [hWq]; exact below_drewN (Below.refl _ _) _
      have Gq := HR.out.2.2.1.past bq
      have HQ := Lib.hid (And.intro bq Gq)
      have c2 := (bq.cell (p := ⟨c, 2, none⟩) bl).trans b2
      have c3 := (bq.cell (p := ⟨bk, ok, none⟩) bkl).trans hk3
      have cl : c < Wq.heap.size := by have := bq.size; omega
      have ckl : bk < Wq.heap.size := by have := bq.size; omega
      clear hWq bq Gq b0 b1 b2 hk3 bl bkl
      go_wp2_with fail
      refine (Drop_any c mb _ most hi mi (N + 1) (k :: l) T kn Wq HQ.out.2 (by have := HNL.out; omega) hkey).mono ?_
      rintro e w9 ⟨rfl, ks9, o9, G9, t9⟩
      have hdk : dropK kn (k :: l) = l := by
        have : posK kn (k :: l) = 0 := by unfold posK; rw [if_pos HKN.out]
        unfold dropK; rw [this]; simp
      rw [hdk] at G9
      have H10 := Lib.hid (And.intro o9 (And.intro G9 t9))
      clear o9 G9 t9 hdk c2 c3 cl ckl
      go_wp2_with fail
      go_roundg (gk - 1)
      case rel =>
        have hlk : nl = l.length + 1 := by rw [HNL.out]; simp
        refine ⟨l, ks9, by rw [← HR.out.1, fitK_step (by have := HP.out; omega)], by omega, by omega, by rw [H10.out.1]; exact HR.out.2.1, H10.out.2.1, (HR.out.2.2.2.trans (Tch.of_below HQ.out.1)).trans (H10.out.2.2.mono (fun b _ e => ?_))⟩
        rcases e with e | e | e
        · exact .inl e
        · exact .inr (.inl e)
        · exact .inr (.inr (by rw [← HR.out.2.1]; exact e))
      case measure => omega
    · clear b2
      have HM := Lib.hid hmP
      go_wp2_with fail
      go_quiet (fail)
      go_wp2_with fail
      go_ret
      have bq : Below wr.heap.size wr (wr.drewN nq) := below_drewN (Below.refl _ _) _
      refine ⟨rfl, ks', ?_, ?_, ?_⟩
      · rw [HR.out.2.1]
        rcases H7.out.2.2.1 with e | e
        · left; rw [e]; exact H5.out.1
        · right
          intro b' hb'
          have h1 := e b' hb'
          have h2 := H5.out.2.2.1.size
          simp at h1
          omega
      · rw [← HL2.out, ← HR.out.1, fitK_end (by have := HP.out; have := HM.out; omega)]
        exact HR.out.2.2.1.past bq
      · refine H9.out.2.then ((HR.out.2.2.2).more bq) (fun i hi e => ?_)
        rcases e with e | e | e
        · exact .inl e
        · exact .inr (.inl e)
        · rcases H8.out.2.2.1 i e with e' | e'
          · exact .inr (.inr e')
          · have := H5.out.2.2.1.size
            omega
end Go.Proofs.YtcdcfkgdgimmcaaDoor
