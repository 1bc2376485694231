/- Levels of a frame, in the document: dyeref2.LevelsOf. Conditions: what each theorem names. -/
import Derived.Test.YtcdcfkgdgimmcaaDoorLvA
import Derived.Test.YtcdcfkgdgimmcaaDoorPkG
namespace Go.Proofs.YtcdcfkgdgimmcaaDoor
open Go Go.RowKit
/-- What stands of the walk's variables. -/
structure LoR (w wr : World) (La : List Value) (u : Value) (f : Nat → Int) (n : Nat) : Prop where
  fa : Blk wr w.heap.size La
  own : wr.ownsRow (w.heap.size + 1) 3 1 u n (valsI f n)
  bel : Below w.heap.size w wr
theorem LoR.past {w wr wy : World} {La : List Value} {u : Value} {f : Nat → Int} {n : Nat} (k : LoR w wr La u f n) (h : Below wr.heap.size wr wy) : LoR w wy La u f n := ⟨k.fa.past h, own_past k.own h, k.bel.trans (h.mono k.bel.size)⟩
theorem LoR.app {w wr wa w1 : World} {La : List Value} {u u' : Value} {f : Nat → Int} {n : Nat} {x : Int} (k0 : LoR w wr La u f n) (hb : Below wr.heap.size wr wa) (hx : x = f n) (hown : w1.ownsRow (w.heap.size + 1) 3 1 u' (n + 1) (valsI f n ++ [.int .i64 x])) (hg : wa.grownBy w1 u.ownBlock) : LoR w w1 La u' f (n + 1) := by
  have k := k0.past hb
  have blk := hg.block w.heap.size k.fa.lt (own_block k.own (by omega))
  refine ⟨k.fa.block hg.size blk, by rw [valsI_succ, ← hx]; exact hown, k.bel.grown hg k.bel.size (fun j hj => ?_)⟩
  have := k.own.lt j hj
  omega
theorem fresh3 (w6 : World) (m : Nat) (v : Value) : ((w6.drewN m).alloc (Obj.cells #[v] 3)).cell? { block := w6.heap.size, off := 0 } = some v := by
  simp [World.cell?, World.alloc, World.drewN]
set_option maxRecDepth 100000 in
set_option maxHeartbeats 3200000 in
theorem LevelsOf_yes (x y h how s d : Int) (V b off n cap : Nat) (fs : Nat → Nat) (w : World) (he : fraErr x y (V : Int) h n = 0) (hd : 1 ≤ d ∧ d ≤ 16) (hc : Row w b off n fs) :
    Calls Tryd.prog 38 #[.agg #[.int .i64 x, .int .i64 y, .int .i64 V, .int .i64 h, .slice (some ⟨b, off, none⟩) n cap], .int .i64 how, .int .u32 s, .int .i64 d] w fun e w' =>
      ∃ u, e = .returned u ∧ LoR w w' [.int .i64 x, .int .i64 y, .int .i64 V, .int .i64 h, .slice (some ⟨b, off, none⟩) n cap] u (lvZ how s x y V fs d) n := by
  obtain ⟨hr, hl⟩ := fraErr_ok he
  obtain ⟨r1, r2, r3, r4, r5, r6, r7, r8, r9, r10⟩ := regErr_ok hr
  have hlt : 4 * (V : Int) * h ≤ 65536 := by rw [Int.mul_assoc]; omega
  have hlt1 : 4 ≤ 4 * (V : Int) * h := by rw [Int.mul_assoc]; omega
  have hn6 : n ≤ 65536 := by omega
  have hn0 : 0 < n := by omega
  have hV : 0 < V ∧ V ≤ 256 := by omega
  have hbw : b < w.heap.size := hc.lt hn0
  obtain ⟨Z, hZ⟩ : ∃ Z : Nat → Int, Z = lvZ how s x y V fs d := ⟨_, rfl⟩
  rw [← hZ]
  have HZ := Lib.hid hZ
  have HC := Lib.hid (fun (w' : World) (hb : Below w.heap.size w w') => hc.below hb hbw : ∀ w', Below w.heap.size w w' → _)
  have hd' := Lib.hid hd
  obtain ⟨i0, hi0, hz0, hz1, hz2⟩ := info_parts infoI64
  clear hZ he hl hlt hlt1 hr r5 r6 hc hd
  go_enter Tryd.func38, Tryd.ntmps38
  go_upto_region 1 with fail
  refine wp_world (fun W hW => ?_)
  have R0 : LoR w W [.int .i64 x, .int .i64 y, .int .i64 V, .int .i64 h, .slice (some ⟨b, off, none⟩) n cap] (.slice none 0 0) Z 0 := by rw [hW]; exact ⟨Blk.new _ _ _ _ rfl, World.ownsRow_nil _ _ _ _, by (repeat (first | exact Below.refl _ _ | assumption | (refine Below.setCell ?_ (by first | (simp; done) | (simp; omega) | omega) _) | (refine Below.drew ?_) | (refine below_drewN ?_ _) | (refine Below.alloc ?_ (by first | (simp; done) | (simp; omega) | omega) _) | (refine Below.trans ?_ (Below.mono (by assumption) (by first | (simp; done) | (simp; omega) | omega)))))⟩
  have HR0 := Lib.hid R0
  have a4 := R0.fa.c 4 _ rfl; have al := R0.fa.lt
  clear hW R0
  go_wp2_with fail
  clear a4 al
  go_loopw [9, 19] (fun s9 s19 wr => ∃ k : Nat, k ≤ n ∧ s19 = .int .i64 k ∧ ∃ u, u = s9 ∧ LoR w wr [.int .i64 x, .int .i64 y, .int .i64 V, .int .i64 h, .slice (some ⟨b, off, none⟩) n cap] u Z k) (fun _ s19 _ => n - (intOf s19).toNat)
  case atStart => exact ⟨0, Nat.zero_le _, rfl, _, rfl, HR0.out⟩
  case round =>
    obtain ⟨k, hk, rfl, u, rfl, hM⟩ := hrel
    have HM := Lib.hid hM
    clear hM HR0
    by_cases hkn : k < n
    · have hkn' : (k : Int) < (n : Int) := by omega
      have c0 := HC.out _ HM.out.bel k hkn
      obtain ⟨v, hv⟩ : ∃ v, v = fs k := ⟨_, rfl⟩
      rw [← hv] at c0
      have l0 := cell_lt c0; simp only at l0
      obtain ⟨c, hcc⟩ : ∃ c, c = k % 4 := ⟨_, rfl⟩
      have hc4 : c < 4 := by omega
      have tm : (k : Int).tmod 4 = (c : Int) := by rw [Int.tmod_eq_emod_of_nonneg (by omega)]; omega
      have a0 := HM.out.fa.c 0 _ rfl; have a1 := HM.out.fa.c 1 _ rfl; have a2 := HM.out.fa.c 2 _ rfl; have al := HM.out.fa.lt
      obtain ⟨q, hq⟩ : ∃ q, q = k / 4 := ⟨_, rfl⟩
      obtain ⟨qm, hqm⟩ : ∃ q', q' = q % V := ⟨_, rfl⟩
      obtain ⟨qd, hqd⟩ : ∃ q', q' = q / V := ⟨_, rfl⟩
      have hqm2 : qm < V := by rw [hqm]; exact Nat.mod_lt _ hV.1
      have hqd2 : qd ≤ q := by rw [hqd]; exact Nat.div_le_self _ _
      have hq6 : q ≤ 16384 := by omega
      have d4 : (k : Int).tdiv 4 = (q : Int) := by rw [Int.tdiv_eq_ediv_of_nonneg (by omega)]; omega
      have dm : (q : Int).tmod (V : Int) = (qm : Int) := by rw [Int.tmod_eq_emod_of_nonneg (by omega), hqm]; exact (Int.natCast_emod _ _).symm
      have dd : (q : Int).tdiv (V : Int) = (qd : Int) := by rw [Int.tdiv_eq_ediv_of_nonneg (by omega), hqd]; exact (Int.natCast_ediv _ _).symm
      obtain ⟨X, hX⟩ : ∃ X : Int, X = x + (qm : Int) := ⟨_, rfl⟩
      obtain ⟨Y, hY⟩ : ∃ Y : Int, Y = y + (qd : Int) := ⟨_, rfl⟩
      have wX : IntKind.i64.wrap (x + (qm : Int)) = X := by rw [IntKind.wrap_i64, hX]; omega
      have wY : IntKind.i64.wrap (y + (qd : Int)) = Y := by rw [IntKind.wrap_i64, hY]; omega
      have hV0 : ¬ (V : Int) = 0 := by omega
      have hVn : ¬ V = 0 := by omega
      have wq : IntKind.i64.wrap (q : Int) = (q : Int) := by rw [IntKind.wrap_i64]; omega
      have wqd : IntKind.i64.wrap (qd : Int) = (qd : Int) := by rw [IntKind.wrap_i64]; omega
      have wqm : IntKind.i64.wrap (qm : Int) = (qm : Int) := by rw [IntKind.wrap_i64]; omega
      obtain ⟨O, hO⟩ : ∃ O, O = offF how s X Y (c : Int) := ⟨_, rfl⟩
      have HX := Lib.hid (show Z k = levelOf v (if c < 3 then O else 0) d by rw [HZ.out]; unfold lvZ offZ; rw [← hcc, ← hq, ← hqm, ← hqd, ← hX, ← hY, ← hO, ← hv])
      have HO := Lib.hid hO
      clear hv hcc hq hqm hqd hX hY hO
      go_upto_region 5 with fail
      go_quiet (fail)
      refine lv_exit (fun w5 hw5 => ?_)
      have HM5 := Lib.hid (HM.out.past (show Below wr.heap.size wr w5 by rw [hw5]; (repeat (first | exact Below.refl _ _ | assumption | (refine Below.setCell ?_ (by first | (simp; done) | (simp; omega) | omega) _) | (refine Below.drew ?_) | (refine below_drewN ?_ _) | (refine Below.alloc ?_ (by first | (simp; done) | (simp; omega) | omega) _) | (refine Below.trans ?_ (Below.mono (by assumption) (by first | (simp; done) | (simp; omega) | omega)))))))
      clear hw5 c0 a0 a1 a2 al l0 HM
      go_wp2_with fail
      refine (OffsetOf_any how s X Y (c : Int) _).mono ?_
      rintro e w6 ⟨rfl, hb6⟩
      rw [← HO.out]
      have HM6 := Lib.hid (HM5.out.past hb6)
      clear hb6 HM5
      by_cases hc3 : c < 3
      · have hce : ((c : Int) == 3) = false := by simp; omega
        have HY := Lib.hid (show Z k = levelOf v O d by rw [HX.out, if_pos hc3])
        go_wp2_with (first | (go_at_call 70; refine (LevelOf_any _ _ _ _ hd'.out).mono ?_; rintro e w' ⟨m, rfl, rfl⟩) | (at_builtin; refine wpList_append_lies _ rfl _ _ _ rfl (w.heap.size + 1) 3 i0 (.int .i64 0) 1 8 Tryd.underlying82 hi0 hz0 hz1 hz2 rfl (by decide) u k (valsI Z k) rfl (own_past HM6.out.own (by (repeat (first | exact Below.refl _ _ | assumption | (refine Below.setCell ?_ (by first | (simp; done) | (simp; omega) | omega) _) | (refine Below.drew ?_) | (refine below_drewN ?_ _) | (refine Below.alloc ?_ (by first | (simp; done) | (simp; omega) | omega) _) | (refine Below.trans ?_ (Below.mono (by assumption) (by first | (simp; done) | (simp; omega) | omega))))))) ⟨w6.heap.size, 0, none⟩ 1 1 [.int .i64 (levelOf v O d)] rfl rfl (by intro j u hj; match j, hj with | 0, hj => (simp at hj; subst hj; simp only [Addr.add, Nat.add_zero]; exact fresh3 _ _ _)) (by intro u hu; simp at hu; subst hu; rfl) (by decide) (by unfold maxLen; omega) (by omega) (by have := HM6.out.fa.lt; simp; omega) _ rfl ?_; intro g cap w1 hown hgrow hat hlt))
        have HN := Lib.hid (LoR.app HM6.out (by (repeat (first | exact Below.refl _ _ | assumption | (refine Below.setCell ?_ (by first | (simp; done) | (simp; omega) | omega) _) | (refine Below.drew ?_) | (refine below_drewN ?_ _) | (refine Below.alloc ?_ (by first | (simp; done) | (simp; omega) | omega) _) | (refine Below.trans ?_ (Below.mono (by assumption) (by first | (simp; done) | (simp; omega) | omega)))))) HY.out.symm hown hgrow)
        clear hown hgrow hat hlt
        go_roundw
        case rel => exact ⟨k + 1, by omega, by go_num, _, rfl, HN.out⟩
        case measure => simp [intOf]; omega
      · have hce : ((c : Int) == 3) = true := by simp; omega
        have HY := Lib.hid (show Z k = levelOf v 0 d by rw [HX.out, if_neg hc3])
        go_wp2_with (first | (go_at_call 70; refine (LevelOf_any _ _ _ _ hd'.out).mono ?_; rintro e w' ⟨m, rfl, rfl⟩) | (at_builtin; refine wpList_append_lies _ rfl _ _ _ rfl (w.heap.size + 1) 3 i0 (.int .i64 0) 1 8 Tryd.underlying82 hi0 hz0 hz1 hz2 rfl (by decide) u k (valsI Z k) rfl (own_past HM6.out.own (by (repeat (first | exact Below.refl _ _ | assumption | (refine Below.setCell ?_ (by first | (simp; done) | (simp; omega) | omega) _) | (refine Below.drew ?_) | (refine below_drewN ?_ _) | (refine Below.alloc ?_ (by first | (simp; done) | (simp; omega) | omega) _) | (refine Below.trans ?_ (Below.mono (by assumption) (by first | (simp; done) | (simp; omega) | omega))))))) ⟨w6.heap.size, 0, none⟩ 1 1 [.int .i64 (levelOf v 0 d)] rfl rfl (by intro j u hj; match j, hj with | 0, hj => (simp at hj; subst hj; simp only [Addr.add, Nat.add_zero]; exact fresh3 _ _ _)) (by intro u hu; simp at hu; subst hu; rfl) (by decide) (by unfold maxLen; omega) (by omega) (by have := HM6.out.fa.lt; simp; omega) _ rfl ?_; intro g cap w1 hown hgrow hat hlt))
        have HN := Lib.hid (LoR.app HM6.out (by (repeat (first | exact Below.refl _ _ | assumption | (refine Below.setCell ?_ (by first | (simp; done) | (simp; omega) | omega) _) | (refine Below.drew ?_) | (refine below_drewN ?_ _) | (refine Below.alloc ?_ (by first | (simp; done) | (simp; omega) | omega) _) | (refine Below.trans ?_ (Below.mono (by assumption) (by first | (simp; done) | (simp; omega) | omega)))))) HY.out.symm hown hgrow)
        clear hown hgrow hat hlt
        go_roundw
        case rel => exact ⟨k + 1, by omega, by go_num, _, rfl, HN.out⟩
        case measure => simp [intOf]; omega
    · have hkk : ¬ (k : Int) < (n : Int) := by omega
      have HN := Lib.hid (show LoR w wr [.int .i64 x, .int .i64 y, .int .i64 V, .int .i64 h, .slice (some ⟨b, off, none⟩) n cap] u Z n by have e : k = n := (by omega); have h := HM.out; rw [e] at h; exact h)
      go_wp2_with fail
      go_ret
      exact ⟨_, rfl, HN.out⟩
end Go.Proofs.YtcdcfkgdgimmcaaDoor
