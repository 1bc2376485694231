/- The cache's calls: Get. Conditions: what each theorem names. -/
import Derived.Test.YtcdcfkgdgimmcaaDoorKpF
namespace Go.Proofs.YtcdcfkgdgimmcaaDoor
open Go Go.RowKit
/-- What a look that finds gives: a frame of its own with the same singles. -/
def GetR (w : World) (c mb : Nat) (ks : Value) (most hi mi : Int) (N : Nat) (L : List Kp) (T : Option Nat) (g n cap : Nat) (fs : Nat → Nat) (w' : World) : Prop :=
  w.heap.size ≤ g ∧ g < w'.heap.size ∧ n ≤ cap ∧ cap ≤ maxLen ∧ Row w' g 0 n fs ∧ ∃ ks', (ks'.ownBlock = ks.ownBlock ∨ ∀ b, ks'.ownBlock = some b → w.heap.size ≤ b) ∧ ks'.ownBlock ≠ some g ∧ CacheG w' Tryd.prog 9 c mb ks' most hi mi N L T ∧ Tch (Sp c mb ks) w w'
theorem Tch.set2 {S : Nat → Prop} {w w' : World} (h : Tch S w w') (q : Addr) (v : Value) (hq : S q.block ∨ w.heap.size ≤ q.block) : Tch S w (w'.setCell q v) :=
  h.then (T := fun b => b = q.block) ⟨rfl, rfl, rfl, by simp [World.setCell], fun k _ hS => Below.heap_setCell _ _ _ _ (fun e => hS e)⟩ (fun i hi e => by rcases hq with hq | hq; exact e ▸ hq; omega)
theorem Tch.more {S : Nat → Prop} {w w' w'' : World} (h : Tch S w w') (k : Below w'.heap.size w' w'') : Tch S w w'' := h.trans (Tch.of_below k)
theorem bodyPost_retW {P : Program} {fn : Func} {R : Ending → World → Prop} {a : Act} {w : World} {v : Value} (hr : (results fn a.tmps).run P w = .ok v w) (hd : a.defers = []) (hR : ∀ W, W = w → R (.returned v) W) : bodyPost P fn R .ret a w := bodyPost_ret hr hd (hR w rfl)
/-- The counts (and what else stands in the cache's own block) told anew. -/
theorem CacheG.own {w w' : World} {P : Program} {kt : TypeId} {c mb : Nat} {ks : Value} {most hi mi hi' mi' : Int} {N : Nat} {L : List Kp} {T : Option Nat} (h : CacheG w P kt c mb ks most hi mi N L T) (t : Tch (fun b => b = c) w w') (hb : Blk w' c [.int .i64 most, .int .i64 (pixL L), ks, .map (some mb), .int .i64 hi', .int .i64 mi']) : CacheG w' P kt c mb ks most hi' mi' N L T := by
  obtain ⟨D, hD, hM⟩ := h.m
  exact ⟨hb, h.k.tch t (fun b hb e => (h.nk b hb).1 e), ⟨D, ownsMap_tch hD t (fun e => h.ne e.symm), hM.tch t (fun g _ hg => ⟨hg.1, hg⟩)⟩, h.ne, h.nk, h.t, h.ok⟩
set_option maxRecDepth 100000 in
set_option maxHeartbeats 3200000 in
theorem Get_miss (c mb : Nat) (ks : Value) (most hi mi : Int) (N : Nat) (L : List Kp) (T : Option Nat) (nm : ByteArray) (w : World) (h : CacheG w Tryd.prog 9 c mb ks most hi mi N L T) (hnm : nm.size ≤ maxLen) (hp : ¬ posK nm L < L.length) (hmi : 0 ≤ mi ∧ mi ≤ 1000) :
    Calls Tryd.prog 22 #[.pointer (some ⟨c, 0, none⟩), .string nm] w fun e w' => e = .returned (.tuple #[zeroFr, .bool false]) ∧ CacheG w' Tryd.prog 9 c mb ks most hi (mi + 1) N L T ∧ Tch (Sp c mb ks) w w' := by
  obtain ⟨D, hD, hM⟩ := h.m
  have H := Lib.hid h
  have HD := Lib.hid (And.intro hD hM)
  have b3 := h.b.c 3 _ rfl; have bl := h.b.lt
  have hk := key_mk hnm
  have hm := hM.miss hp
  have hat := hm.2 (.held zeroFr)
  have his := hm.1
  unfold zeroFr at hat
  have hzf := zeroFrame
  unfold zeroFr at hzf
  clear hM hm hp h
  go_enter Tryd.func22, Tryd.ntmps22
  go_upto_region 2 with (at_lookup; refine wpList_look _ rfl _ _ 92 rfl 9 38 lawS Tryd.underlying92 (hzf _) mb N D rfl (hD.alloc _) _ _ rfl hk _ false hat his ?_)
  refine wp_world (fun W hW => ?_)
  have BW : Below w.heap.size w W := by rw [hW]; (repeat (first | exact Below.refl _ _ | assumption | (refine Below.setCell ?_ (by first | (simp; done) | (simp; omega) | omega) _) | (refine Below.drew ?_) | (refine below_drewN ?_ _) | (refine Below.alloc ?_ (by first | (simp; done) | (simp; omega) | omega) _) | (refine Below.trans ?_ (Below.mono (by assumption) (by first | (simp; done) | (simp; omega) | omega)))))
  have ZW : Blk W w.heap.size [.int .i64 0, .int .i64 0, .int .i64 0, .int .i64 0, .slice none 0 0] := by rw [hW]; exact (Blk.new _ _ _ _ rfl).alloc _
  have GW := H.out.past BW
  have c5 := GW.b.c 5 _ rfl; have cl := GW.b.lt; have cf := GW.b.f
  have HW := Lib.hid (And.intro BW (And.intro GW ZW))
  have hcn : c ≠ w.heap.size := by omega
  have zf := ZW.f; have zl := ZW.lt
  have z0 := ZW.c 0 _ rfl; have z1 := ZW.c 1 _ rfl; have z2 := ZW.c 2 _ rfl; have z3 := ZW.c 3 _ rfl; have z4 := ZW.c 4 _ rfl
  have hbld := fun w => show (Instr.build 38 #[]).run Tryd.prog w = .ok (.agg #[.int .i64 0, .int .i64 0, .int .i64 0, .int .i64 0, .slice none 0 0]) w by kernel_rfl
  clear hW BW ZW GW hD hat his b3 bl
  go_wp2_with fail
  have B5 := HW.out.2.1.b.set 5 (.int .i64 (mi + 1))
  refine bodyPost_ret (v := .tuple #[zeroFr, .bool false]) (by simp [results, Tryd.results22, go_sem, z0, z1, z2, z3, z4, zeroFr]) rfl ((fun tc bc => ⟨rfl, H.out.own tc bc, tc.mono (fun b _ e => .inl e)⟩) ?_ ?_)
  · have t0 : Tch (fun b => b = c) w W := Tch.of_below HW.out.1
    (repeat (first | with_reducible exact Tch.refl _ _ | with_reducible assumption | (with_reducible refine Tch.set2 ?_ _ _ (by first | exact .inl rfl | exact .inl (.inl rfl) | exact .inr (Nat.le_refl _) | exact .inr (Nat.le_succ _) | (right; simp; done) | (right; simp; omega)))))
  · exact ((((((by simpa using B5 : Blk _ c _).far _ _ (Ne.symm hcn)).far _ _ (Ne.symm hcn)).far _ _ (Ne.symm hcn)).far _ _ (Ne.symm hcn)).far _ _ (Ne.symm hcn))
set_option maxRecDepth 100000 in
set_option maxHeartbeats 3200000 in
theorem Get_hit (c mb : Nat) (ks : Value) (most hi mi : Int) (N : Nat) (L : List Kp) (T : Option Nat) (nm : ByteArray) (k : Kp) (w : World) (h : CacheG w Tryd.prog 9 c mb ks most hi mi N L T) (hT : ∀ b, T = some b → b < w.heap.size) (hnm : nm.size ≤ maxLen) (hp : L[posK nm L]? = some k) (hhi : 0 ≤ hi ∧ hi ≤ 1000) (hL : L.length ≤ 1000) :
    Calls Tryd.prog 22 #[.pointer (some ⟨c, 0, none⟩), .string nm] w fun e w' => ∃ g cap, e = .returned (.tuple #[.agg #[.int .i64 k.x, .int .i64 k.y, .int .i64 k.v, .int .i64 k.h, .slice (some ⟨g, 0, none⟩) k.n cap], .bool true]) ∧ GetR w c mb ks most (hi + 1) mi N (getK nm L) T g k.n cap k.fs w' := by
  obtain ⟨D, hD, hM⟩ := h.m
  have H := Lib.hid h
  have HD := Lib.hid (And.intro hD hM)
  have b3 := h.b.c 3 _ rfl; have bl := h.b.lt
  have hk := key_mk hnm
  have hpl := (List.getElem?_eq_some_iff.1 hp).1
  obtain ⟨k', g, k1, k2, k3, k4, k5, k6, k7⟩ := hM.hit hpl
  rw [hp] at k1; cases k1
  have kb := Kp.ok_bd (h.ok.1 k (List.mem_of_getElem? hp))
  have hgt : getK nm L = dropK nm L ++ [k] := by unfold getK dropK; rw [hp, if_pos hpl]
  have hdl : (dropK nm L).length ≤ L.length := dropK_len _ _
  have HPX := Lib.hid (pixL_get (L := L) nm)
  have HGT := Lib.hid hgt
  have hat := k7 (.held zeroFr)
  have hval : kpV k g = .agg #[.int .i64 k.x, .int .i64 k.y, .int .i64 k.v, .int .i64 k.h, .slice (some ⟨g, 0, none⟩) k.n k.n] := rfl
  rw [hval] at hat
  have HP := Lib.hid (And.intro k3 (And.intro k4 (And.intro k5 (And.intro k2 hp))))
  have HK := Lib.hid kb
  clear hval kb hgt k2 k3 k4 k5 k7 hM h hpl hp
  go_enter Tryd.func22, Tryd.ntmps22
  go_upto_region 2 with (at_lookup; refine wpList_look _ rfl _ _ 92 rfl 9 38 lawS Tryd.underlying92 (zeroFrame _) mb N D rfl (hD.alloc _) _ _ rfl hk _ true hat k6 ?_)
  refine wp_world (fun W hW => ?_)
  have BW : Below w.heap.size w W := by rw [hW]; (repeat (first | exact Below.refl _ _ | assumption | (refine Below.setCell ?_ (by first | (simp; done) | (simp; omega) | omega) _) | (refine Below.drew ?_) | (refine below_drewN ?_ _) | (refine Below.alloc ?_ (by first | (simp; done) | (simp; omega) | omega) _) | (refine Below.trans ?_ (Below.mono (by assumption) (by first | (simp; done) | (simp; omega) | omega)))))
  have ZW : Blk W w.heap.size [.int .i64 0, .int .i64 0, .int .i64 0, .int .i64 0, .slice none 0 0] := by rw [hW]; exact (Blk.new _ _ _ _ rfl).alloc _
  have FW : Blk W (w.heap.size + 1) [.int .i64 k.x, .int .i64 k.y, .int .i64 k.v, .int .i64 k.h, .slice (some ⟨g, 0, none⟩) k.n k.n] := by rw [hW]; exact Blk.new _ _ _ _ (by simp)
  have GW := H.out.past BW
  have c4 := GW.b.c 4 _ rfl; have cl := GW.b.lt; have cf := GW.b.f
  have HW := Lib.hid (And.intro BW (And.intro GW (And.intro ZW FW)))
  have hWs : w.heap.size + 1 < W.heap.size := FW.lt
  clear hW BW ZW FW GW hD hat b3
  go_upto_region 6 with fail
  refine wp_world (fun W1 hW1 => ?_)
  have t1 : Tch (fun b => b = c) W W1 := by rw [hW1]; exact (Tch.refl _ _).set2 _ _ (.inl rfl)
  have B1 : Blk W1 c [.int .i64 most, .int .i64 (pixL L), ks, .map (some mb), .int .i64 (hi + 1), .int .i64 mi] := by rw [hW1]; exact (by simpa using HW.out.2.1.b.set 4 (.int .i64 (hi + 1)))
  have K1 := HW.out.2.1.k.tch t1 (fun b hb e => (H.out.nk b hb).1 e)
  have H1 := Lib.hid (And.intro t1 (And.intro B1 K1))
  clear hW1 t1 B1 K1 c4 cl cf
  go_upto_region 7 with (go_at_call 55; refine (forget_any c _ _ _ _ _ ks L nm _ H1.out.2.1 H1.out.2.2 (fun b hb => (H.out.nk b hb).1) hL).mono ?_; rintro e w2 ⟨rfl, ks2, B2, o2, K2, t2⟩; have H2 := Lib.hid (And.intro B2 (And.intro o2 (And.intro K2 t2))); clear B2 o2 K2 t2)
  have F2 := (HW.out.2.2.2.tch H1.out.1 (by omega)).tch H2.out.2.2.2 (by rintro (e | e); exact absurd e (by omega); have := H.out.k.lt e; omega)
  have Z2 := (HW.out.2.2.1.tch H1.out.1 (by omega)).tch H2.out.2.2.2 (by rintro (e | e); exact absurd e (by omega); have := H.out.k.lt e; omega)
  have H3 := Lib.hid (And.intro F2 Z2)
  have c2 := H2.out.1.c 2 _ rfl; have cl := H2.out.1.lt; have cf := H2.out.1.f
  have hks2 : ∃ ao n cap, ks2 = .slice ao n cap := by obtain ⟨-, ao, cap, rfl, -⟩ := H2.out.2.2.1; exact ⟨_, _, _, rfl⟩
  obtain ⟨ao2, n2, cap2, rfl⟩ := hks2
  obtain ⟨i0, hi0, hz0, hz1, hz2⟩ := info_parts infoStr
  have hw2 : w.heap.size + 1 < w2.heap.size := F2.lt
  clear F2 Z2 hhi
  go_upto_region 8 with (at_builtin; refine wpList_append_row (v := .slice ao2 n2 cap2) _ rfl _ _ 23 rfl Tryd.underlying23 hi0 hz0 hz1 hz2 rfl (by decide) rfl (H2.out.2.2.1.past ((Below.refl _ _).alloc (Nat.le_refl _) _)) ⟨w2.heap.size, 0, none⟩ 1 [.string nm] rfl rfl (by intro j u hj; match j, hj with | 0, hj => (simp at hj; subst hj; simp [Addr.add])) (by intro u hu; simp at hu; subst hu; rfl) (by unfold maxLen; omega) (by omega) ?_; intro ao3 cap3 w3 hR3 hG3 ho3; have hb3 := (H2.out.1.alloc _).tch (Tch.of_grown (S := fun b => Value.ownBlock (.slice ao2 n2 cap2) = some b) hG3 (fun b hb => hb)) (fun hb => (H.out.nk c (by rw [← H2.out.2.1]; exact hb)).1 rfl); have d2 := hb3.c 2 _ rfl; have dl := hb3.lt; have df := hb3.f; have H4 := Lib.hid (And.intro hR3 (And.intro hG3 (And.intro ho3 hb3))); clear hR3 hG3 ho3 hb3)
  refine wp_world (fun W4 hW4 => ?_)
  have t3 : Tch (fun b => ks.ownBlock = some b) w2 w3 := Tch.then (T := fun b => ks.ownBlock = some b) (Tch.of_below ((Below.refl _ _).alloc (Nat.le_refl _) _)) (Tch.of_grown H4.out.2.1 (fun b hb => by rw [← H2.out.2.1]; exact hb)) (fun _ _ e => e)
  have t4 : Tch (fun b => b = c) w3 W4 := by rw [hW4]; exact (Tch.refl _ _).set2 _ _ (.inl rfl)
  have B4 : Blk W4 c [.int .i64 most, .int .i64 (pixL L), .slice ao3 ((dropK nm L).length + 1) cap3, .map (some mb), .int .i64 (hi + 1), .int .i64 mi] := by rw [hW4]; exact (by simpa using H4.out.2.2.2.set 2 (.slice ao3 ((dropK nm L).length + 1) cap3))
  have hks3 : ∀ b, (Value.slice ao3 ((dropK nm L).length + 1) cap3).ownBlock = some b → ks.ownBlock = some b ∨ w2.heap.size ≤ b := fun b hb => by
    rcases H4.out.2.2.1 with e | e
    · left; rw [← H2.out.2.1, ← e]; exact hb
    · right; have := e b hb; simp at this; omega
  have K4 := H4.out.1.tch t4 (fun b hb e => by
    rcases hks3 b hb with e' | e'
    · exact (H.out.nk b e').1 e
    · have := H2.out.1.lt; omega)
  have F4 := (H3.out.1.tch t3 (fun e => by have := H.out.k.lt e; omega)).tch t4 (by omega)
  have Z4 := (H3.out.2.tch t3 (fun e => by have := H.out.k.lt e; omega)).tch t4 (by omega)
  have tK : Tch (fun b => b = c ∨ ks.ownBlock = some b) w W4 := ((((Tch.of_below HW.out.1).trans (H1.out.1.mono (fun b _ e => .inl e))).trans H2.out.2.2.2).trans (t3.mono (fun b _ e => .inr e))).trans (t4.mono (fun b _ e => .inl e))
  have R4 : Row W4 g 0 k.n k.fs := fun i hi => by
    rw [World.cell?_of_block (a := ⟨g, 0 + i, none⟩) (tK.block g HP.out.2.1 (by rintro (e | e); exact HP.out.1.1 e; exact HP.out.1.2.2.1 e))]
    exact HP.out.2.2.1 i hi
  have hnk : 0 < k.n ∧ k.n ≤ 65536 := by have := HK.out; omega
  have H5 := Lib.hid (And.intro B4 (And.intro K4 (And.intro F4 (And.intro Z4 (And.intro tK (And.intro R4 hks3))))))
  have f0 := F4.c 0 _ rfl; have f1 := F4.c 1 _ rfl; have f2 := F4.c 2 _ rfl; have f3 := F4.c 3 _ rfl; have f4 := F4.c 4 _ rfl; have fl := F4.lt; have ff := F4.f
  clear hW4 t3 t4 B4 hks3 K4 Z4 F4 tK R4 c2 cl cf d2 dl df
  have HZ := Lib.hid hnk
  clear hnk
  go_wp2_with fail
  refine (cloneFl_any g 0 k.n k.n k.fs W4 H5.out.2.2.2.2.2.1 HZ.out.1 HZ.out.2).mono ?_
  rintro e w5 ⟨g5, cap5, rfl, hg1, hg2, hg3, hg4, hR5, hB5⟩
  have F5 := H5.out.2.2.1.past hB5
  have Z5 := H5.out.2.2.2.1.past hB5
  have H6 := Lib.hid (And.intro hg1 (And.intro hg2 (And.intro hg3 (And.intro hg4 (And.intro hR5 (And.intro hB5 (And.intro F5 Z5)))))))
  clear f0 f1 f2 f3 f4 fl ff hg1 hg2 hg3 hg4 hR5 hB5
  have f0 := F5.c 0 _ rfl; have f1 := F5.c 1 _ rfl; have f2 := F5.c 2 _ rfl; have f3 := F5.c 3 _ rfl; have f4 := F5.c 4 _ rfl; have fl := F5.lt; have ff := F5.f
  have z0 := Z5.c 0 _ rfl; have z1 := Z5.c 1 _ rfl; have z2 := Z5.c 2 _ rfl; have z3 := Z5.c 3 _ rfl; have z4 := Z5.c 4 _ rfl; have zl := Z5.lt; have zf := Z5.f
  clear F5 Z5
  go_wp2_with fail
  have hcl0 : c < w.heap.size := bl
  have hd5 : W4.heap.size ≤ w5.heap.size := H6.out.2.2.2.2.2.1.size
  have hw4 : w.heap.size + 1 < W4.heap.size := H5.out.2.2.1.lt
  have hg5 := H6.out.1
  refine bodyPost_retW (v := .tuple #[.agg #[.int .i64 k.x, .int .i64 k.y, .int .i64 k.v, .int .i64 k.h, .slice (some ⟨g5, 0, none⟩) k.n cap5], .bool true]) (by simp [results, Tryd.results22, go_sem, z0, z1, z2, z3, z4]) rfl (fun WF hWF => ⟨g5, cap5, rfl, ?_⟩)
  have tF : Tch (fun b => b = c ∨ ks.ownBlock = some b) w WF := by
    have t0 : Tch (fun b => b = c ∨ ks.ownBlock = some b) w w5 := H5.out.2.2.2.2.1.more H6.out.2.2.2.2.2.1
    rw [hWF]
    (repeat (first | with_reducible exact Tch.refl _ _ | with_reducible assumption | (with_reducible refine Tch.set2 ?_ _ _ (by first | exact .inl rfl | exact .inl (.inl rfl) | exact .inr (Nat.le_refl _) | exact .inr (Nat.le_succ _) | (right; simp; done) | (right; simp; omega)))))
  have hF : ∀ b, b ≠ w.heap.size → b ≠ w.heap.size + 1 → WF.heap[b]? = w5.heap[b]? := by
    intro b e1 e2
    rw [hWF, Below.heap_setCell _ _ _ _ e1, Below.heap_setCell _ _ _ _ e1, Below.heap_setCell _ _ _ _ e1, Below.heap_setCell _ _ _ _ e1, Below.heap_setCell _ _ _ _ e1, Below.heap_setCell _ _ _ _ e2]
  clear z0 z1 z2 z3 z4 zl zf f0 f1 f2 f3 f4 fl ff
  have hsF : w5.heap.size = WF.heap.size := by rw [hWF]; simp [World.setCell]
  clear hWF
  have hks3 := H5.out.2.2.2.2.2.2
  have hkF : ∀ b, (Value.slice ao3 ((dropK nm L).length + 1) cap3).ownBlock = some b → b ≠ w.heap.size ∧ b ≠ w.heap.size + 1 := fun b hb => by
    rcases hks3 b hb with e | e
    · have := H.out.k.lt e; omega
    · omega
  have hgl : (getK nm L).length = (dropK nm L).length + 1 := by rw [HGT.out]; simp
  refine ⟨by omega, by have := H6.out.2.1; omega, H6.out.2.2.1, H6.out.2.2.2.1, fun i hi => ?_, .slice ao3 ((dropK nm L).length + 1) cap3, ?_, ?_, ⟨?_, ?_, ⟨_, ownsMap_tch HD.out.1 tF ?_, ?_⟩, H.out.ne, ?_, ?_, H.out.ok.get nm⟩, tF.mono (fun b _ e => by rcases e with e | e; exact .inl e; exact .inr (.inr e))⟩
  · rw [World.cell?_of_block (a := ⟨g5, 0 + i, none⟩) (hF g5 (by omega) (by omega))]
    exact H6.out.2.2.2.2.1 i hi
  · rcases H4.out.2.2.1 with e | e
    · left; rw [e, ← H2.out.2.1]
    · right; intro b hb; have := e b hb; simp at this; omega
  · intro e
    have := H5.out.2.1.lt e
    omega
  · rw [HPX.out]
    exact (H5.out.1.past H6.out.2.2.2.2.2.1).block (by omega) (hF c (by omega) (by omega))
  · rw [hgl, HGT.out, List.flatMap_append]
    refine RowV.block (H5.out.2.1.past H6.out.2.2.2.2.2.1) (by omega) (fun b hb => hF b (hkF b hb).1 (hkF b hb).2) |> fun h => ?_
    have e : [Value.string nm] = [k].flatMap nmC := by simp [nmC, HP.out.2.2.2.1]
    rw [← e]; exact h
  · rintro (e | e)
    · exact H.out.ne e.symm
    · exact (H.out.nk mb e).2 rfl
  · refine (HD.out.2.get nm).tch tF (fun g' hg' hG => ⟨?_, hG.1, hG.2.1, fun e => ?_, hG.2.2.2⟩)
    · rintro (e | e)
      · exact hG.1 e
      · exact hG.2.2.1 e
    · rcases hks3 g' e with e' | e'
      · exact hG.2.2.1 e'
      · omega
  · intro b hb
    rcases hks3 b hb with e | e
    · exact H.out.nk b e
    · have h2 := HD.out.1.lt
      omega
  · refine ⟨H.out.t.1, H.out.t.2.1, fun b hb e => ?_⟩
    rcases hks3 b hb with e' | e'
    · exact H.out.t.2.2 b e' e
    · have := hT b e; omega
end Go.Proofs.YtcdcfkgdgimmcaaDoor
