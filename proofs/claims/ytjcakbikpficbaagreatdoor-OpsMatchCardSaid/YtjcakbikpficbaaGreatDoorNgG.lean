/- node.Compile at the program of one step 'a fill ..'. Conditions: its cells can be read; the library's variables read as listed (LibW). -/
import Derived.Test.YtjcakbikpficbaaGreatDoorNgF
namespace Go.Proofs.YtjcakbikpficbaaGreatDoor
open Go Go.RowKit
theorem entNeed : ∀ args w, (callFunc 58 args).run Tryz.prog w = .ok (.enter 58 args) w := body_enters Tryz.func58 (by kernel_rfl) rfl
set_option maxRecDepth 100000 in
set_option maxHeartbeats 6400000 in
theorem compile_one (b off c br ro cr : Nat) (rs : List Nat) (w : World) (hL : LibW w) (h : OneAt w b off (some ⟨br, ro, none⟩) cr) (hr : rs.length = 4) (hR : RealsAt 0 w (some ⟨br, ro, none⟩) rs) : Calls Tryz.prog 15 #[.agg #[.slice (some ⟨b, off, none⟩) 1 c, .string ⟨#[97]⟩]] w fun e w' => (∃ ao cap, e = .returned (.tuple #[.agg #[.slice ao 1 cap, .int .i64 0], .int .i64 0])) ∧ Below w.heap.size w w' := by
  have hmm := @run_makeMap Tryz.prog
  have hent := entNeed
  have HH := Lib.hid (And.intro hL (And.intro h (And.intro hr hR)))
  clear h hL hr hR
  go_enter Tryz.func15, Tryz.ntmps15
  go_upto_region 4 with (go_at_call 57; refine (check_one _ _ _ _ _ _ (HH.out.2.1.past (by (repeat (first | exact Below.refl _ _ | assumption | (refine Below.setCell ?_ (by first | (simp; done) | (simp; omega) | omega) _) | (refine Below.drew ?_) | (refine below_drewN ?_ _) | (refine Below.alloc ?_ (by first | (simp; done) | (simp; omega) | omega) _) | (refine Below.trans ?_ (Below.mono (by assumption) (by first | (simp; done) | (simp; omega) | omega)))))))).mono ?_; rintro e w1 ⟨rfl, hb1⟩)
  have H1 : Hid (Blk w1 w.heap.size [.slice (some ⟨b, off, none⟩) 1 c, .string ⟨#[97]⟩] ∧ Blk w1 (w.heap.size + 1) [.slice none 0 0, .int .i64 0] ∧ Below w.heap.size w w1) := Lib.hid ⟨((Blk.new w [.slice (some ⟨b, off, none⟩) 1 c, .string ⟨#[97]⟩] 40 _ rfl).alloc (.cells #[.slice none 0 0, .int .i64 0] 43)).past hb1, (Blk.new (w.alloc (.cells #[.slice (some ⟨b, off, none⟩) 1 c, .string ⟨#[97]⟩] 40)) [.slice none 0 0, .int .i64 0] 43 (w.heap.size + 1) (by simp)).past hb1, by (repeat (first | exact Below.refl _ _ | assumption | (refine Below.setCell ?_ (by first | (simp; done) | (simp; omega) | omega) _) | (refine Below.drew ?_) | (refine below_drewN ?_ _) | (refine Below.alloc ?_ (by first | (simp; done) | (simp; omega) | omega) _) | (refine Below.trans ?_ (Below.mono (by assumption) (by first | (simp; done) | (simp; omega) | omega)))))⟩
  clear hb1
  go_upto_region 5 with fail
  refine wp_world (fun V hV => ?_)
  obtain ⟨ms, hms⟩ : ∃ ms, ms = w1.heap.size := ⟨_, rfl⟩
  have hb2 : Below w1.heap.size w1 V := by rw [hV]; (repeat (first | exact Below.refl _ _ | assumption | (refine Below.setCell ?_ (by first | (simp; done) | (simp; omega) | omega) _) | (refine Below.drew ?_) | (refine below_drewN ?_ _) | (refine Below.alloc ?_ (by first | (simp; done) | (simp; omega) | omega) _) | (refine Below.trans ?_ (Below.mono (by assumption) (by first | (simp; done) | (simp; omega) | omega)))))
  have HV : Hid (Below w1.heap.size w1 V ∧ Blk V (ms + 1) [.map (some ms)] ∧ V.ownsMap Tryz.prog 9 heldV ms 0 (.map []) ∧ w1.heap.size = ms) := Lib.hid (by
    refine ⟨hb2, ?_, ?_, hms.symm⟩
    · rw [hV, hms]; exact Blk.new _ _ _ _ (by simp)
    · rw [hV, hms]; exact (World.ownsMap_made w1 _ _ _).alloc _)
  rw [← hms]
  have m0 := (H1.out.1.past hb2).c 0 _ rfl; have ml := (H1.out.1.past hb2).lt
  clear hV hb2 hms
  have HO := HH.out.2.1.past (H1.out.2.2.trans (HV.out.1.mono H1.out.2.2.size))
  have c0 := HO.c0; have c1 := HO.c1; have c2 := HO.c2; have c3 := HO.c3; have c4 := HO.c4
  have cl := cell_lt c0; simp only at cl
  have p0 := HV.out.2.1.c 0 _ rfl; have pl := HV.out.2.1.lt
  clear HO
  go_wp2_with fail
  refine wp_loop_rounds 2 ?_
  rw [rounds_succ]
  go_upto_region 8 with fail
  refine wp_world (fun U hU => ?_)
  have HU : Hid (Below V.heap.size V U ∧ Blk U V.heap.size [.string ⟨#[97]⟩, .string ⟨#[102, 105, 108, 108]⟩, .slice none 0 0, .slice none 0 0, .slice (some ⟨br, ro, none⟩) 4 cr]) := Lib.hid (by rw [hU]; exact ⟨by (repeat (first | exact Below.refl _ _ | assumption | (refine Below.setCell ?_ (by first | (simp; done) | (simp; omega) | omega) _) | (refine Below.drew ?_) | (refine below_drewN ?_ _) | (refine Below.alloc ?_ (by first | (simp; done) | (simp; omega) | omega) _) | (refine Below.trans ?_ (Below.mono (by assumption) (by first | (simp; done) | (simp; omega) | omega))))), Blk.new _ _ _ _ rfl⟩)
  have HM : Hid (U.ownsMap Tryz.prog 9 heldV ms 0 (.map [])) := Lib.hid (ownsMap_block HV.out.2.2.1 (HU.out.1.block ms HV.out.2.2.1.lt))
  have q0 := HU.out.2.c 0 _ rfl; have q1 := HU.out.2.c 1 _ rfl; have q2 := HU.out.2.c 2 _ rfl; have q3 := HU.out.2.c 3 _ rfl; have q4 := HU.out.2.c 4 _ rfl; have ql := HU.out.2.lt
  have r0 := (HV.out.2.1.past HU.out.1).c 0 _ rfl; have rl := (HV.out.2.1.past HU.out.1).lt
  clear hU c0 c1 c2 c3 c4 cl p0 pl m0 ml
  go_wp2_with (at_mapUpdate; refine wpList_mapUpdate_own _ rfl _ _ _ 105 rfl 9 107 lawStr Tryz.underlying105 heldV ms 0 (.map []) rfl HM.out (by decide) _ _ (keyS ⟨#[97]⟩) rfl rfl (keyS_mk (by decide)) (.held (stepV (some ⟨br, ro, none⟩) cr)) [] rfl ?_; intro w3 hown3 hgrow3)
  have hT : Tch (fun j => j = ms) U w3 := Tch.of_grown hgrow3 (fun j hj => by cases hj; rfl)
  have hBms : w.heap.size + 2 ≤ w1.heap.size := by have := H1.out.2.1.lt; omega
  have H3 : Hid (w3.ownsMap Tryz.prog 9 heldV ms 1 ((DataW.map []).put (keyS ⟨#[97]⟩) (.held (stepV (some ⟨br, ro, none⟩) cr))) ∧ Blk w3 (ms + 1) [.map (some ms)] ∧ Blk w3 w.heap.size [.slice (some ⟨b, off, none⟩) 1 c, .string ⟨#[97]⟩] ∧ Blk w3 (w.heap.size + 1) [.slice none 0 0, .int .i64 0] ∧ Below w1.heap.size w1 w3) := Lib.hid (by
    have hBU : Below w1.heap.size w1 U := HV.out.1.trans (HU.out.1.mono HV.out.1.size)
    have hB3 : Below w1.heap.size w1 w3 := hBU.grown hgrow3 hBU.size (fun j hj => by cases hj; exact Nat.le_of_eq HV.out.2.2.2)
    exact ⟨hown3, (HV.out.2.1.past HU.out.1).tch hT (fun e => by omega), H1.out.1.past hB3, H1.out.2.1.past hB3, hB3⟩)
  clear hown3 hgrow3 hT q0 q1 q2 q3 q4 ql r0 rl
  rw [rounds_succ]
  go_upto_region 14 with fail
  refine wp_world (fun Y hY => ?_)
  obtain ⟨N, hN⟩ : ∃ N, N = w3.heap.size := ⟨_, rfl⟩
  have HY : Hid (NeedW Y (N + 1 + 1 + 1 + 1) (ms + 1) (N + 1 + 1 + 1) N (N + 1 + 1) ms (N + 1) (some ⟨br, ro, none⟩) cr ∧ Blk Y (N + 1 + 1 + 1 + 1 + 1) [.func (.func 58) #[] #[.pointer (some ⟨N + 1 + 1 + 1 + 1, 0, none⟩), .pointer (some ⟨ms + 1, 0, none⟩), .pointer (some ⟨N + 1 + 1 + 1 + 1 + 1, 0, none⟩), .pointer (some ⟨N + 1 + 1 + 1, 0, none⟩), .pointer (some ⟨N, 0, none⟩)]] ∧ Below w3.heap.size w3 Y) := Lib.hid (by
    rw [hY, ← hN]
    clear hY
    have hbel : ∀ X, Below w3.heap.size w3 X → w3.heap.size ≤ X.heap.size := fun X h => h.size
    refine ⟨⟨?_, ?_, ?_, ?_, ?_, ?_, ?_, by omega, by omega⟩, ?_, by (repeat (first | exact Below.refl _ _ | assumption | (refine Below.setCell ?_ (by first | (simp; done) | (simp; omega) | omega) _) | (refine Below.drew ?_) | (refine below_drewN ?_ _) | (refine Below.alloc ?_ (by first | (simp; done) | (simp; omega) | omega) _) | (refine Below.trans ?_ (Below.mono (by assumption) (by first | (simp; done) | (simp; omega) | omega)))))⟩
    · exact (Blk.new _ _ _ _ (by simp [hN])).alloc _
    · exact H3.out.2.1.past (by (repeat (first | exact Below.refl _ _ | assumption | (refine Below.setCell ?_ (by first | (simp; done) | (simp; omega) | omega) _) | (refine Below.drew ?_) | (refine below_drewN ?_ _) | (refine Below.alloc ?_ (by first | (simp; done) | (simp; omega) | omega) _) | (refine Below.trans ?_ (Below.mono (by assumption) (by first | (simp; done) | (simp; omega) | omega))))))
    · exact ((Blk.new _ _ _ _ (by simp [hN])).alloc _).alloc _
    · exact ((((((Blk.new _ _ _ _ (by simp [hN])).alloc _).alloc _).alloc _).alloc _).alloc _)
    · have h := World.ownsMap_made ((w3.alloc (.cells #[.slice none 0 0, .int .i64 0] 43)).alloc (.map #[] 0)) Tryz.prog 9 heldV
      exact (((by simpa [hN] using h : World.ownsMap _ _ _ _ (N + 1 + 1) _ _).alloc _).alloc _).alloc _
    · exact ((((((H3.out.1.alloc _).alloc _).alloc _).alloc _).alloc _).alloc _)
    · have h := World.ownsMap_made (w3.alloc (.cells #[.slice none 0 0, .int .i64 0] 43)) Tryz.prog 9 heldV
      exact ((((by simpa [hN] using h : World.ownsMap _ _ _ _ (N + 1) _ _).alloc _).alloc _).alloc _).alloc _
    · exact Blk.new _ _ _ _ (by simp [hN]))
  rw [← hN]
  have HS := Lib.hid (And.intro (H3.out.2.2.1.past HY.out.2.2) (And.intro (H3.out.2.2.2.1.past HY.out.2.2) (H1.out.2.2.trans ((H3.out.2.2.2.2.trans (HY.out.2.2.mono H3.out.2.2.2.2.size)).mono H1.out.2.2.size))))
  have HN1 : Hid (w.heap.size + 2 ≤ N) := Lib.hid (by have h1 := H1.out.2.1.lt; have h2 := H3.out.2.2.2.2.size; omega)
  have HND : Hid (Calls Tryz.prog 58 #[.string ⟨#[97]⟩, .pointer (some ⟨N + 1 + 1 + 1 + 1, 0, none⟩), .pointer (some ⟨ms + 1, 0, none⟩), .pointer (some ⟨N + 1 + 1 + 1 + 1 + 1, 0, none⟩), .pointer (some ⟨N + 1 + 1 + 1, 0, none⟩), .pointer (some ⟨N, 0, none⟩)] Y fun e w' => e = .returned (.int .i64 0) ∧ NeedP (N + 1 + 1 + 1 + 1) N (N + 1 + 1) (N + 1) Y w') := Lib.hid (need_one _ _ _ _ _ _ _ _ br ro cr rs Y (HH.out.1.past HS.out.2.2) HY.out.1 HH.out.2.2.1 (HH.out.2.2.2.past HS.out.2.2))
  have n0 := HY.out.2.1.c 0 _ rfl; have nl := HY.out.2.1.lt
  have p1 := HS.out.1.c 1 _ rfl; have pl := HS.out.1.lt
  clear hY hN HU HV H3 H1 HM hmm hBms
  go_upto_region 15 with (go_at_call 58; refine HND.out.mono ?_; rintro e w4 ⟨rfl, ⟨ao, cc, hg⟩, hT, -⟩; have g1 := hg.c 1 _ rfl; have gl := hg.lt; have gf := hg.f)
  refine wp_world (fun w5 hW5 => ?_)
  have hT5 : Tch (fun b => b = N) w4 w5 := by rw [hW5]; exact (Tch.refl (fun b => b = N) w4).set ⟨N, 1, none⟩ _ rfl
  have H5 : Hid (Blk w5 N [.slice ao 1 cc, .int .i64 0] ∧ Blk w5 (w.heap.size + 1) [.slice none 0 0, .int .i64 0] ∧ Below w.heap.size w w5) := Lib.hid (by
    have hle := HN1.out
    have tY : Tch (fun b => N ≤ b) Y w5 := (hT.mono (fun b _ hb => by rcases hb with rfl | rfl | rfl <;> omega)).trans (hT5.mono (fun b _ hb => by subst hb; exact Nat.le_refl _))
    refine ⟨by rw [hW5]; simpa using hg.set 1 (.int .i64 0), HS.out.2.1.tch tY (fun e => by omega), ?_⟩
    exact (((Tch.of_below (S := fun _ => False) HS.out.2.2).then tY (fun i hi e => by omega)).to_below (Nat.le_refl _) (fun _ hk => hk.elim)))
  clear hW5 hT5 hT hg g1 gl gf n0 nl p1 pl
  have g0 := H5.out.1.c 0 _ rfl; have g1 := H5.out.1.c 1 _ rfl; have gl := H5.out.1.lt
  have z0 := H5.out.2.1.c 0 _ rfl; have z1 := H5.out.2.1.c 1 _ rfl; have zl := H5.out.2.1.lt; have zf := H5.out.2.1.f
  go_wp2_with fail
  refine bodyPost_retN (v := .tuple #[.agg #[.slice ao 1 cc, .int .i64 0], .int .i64 0]) (by simp [results, Tryz.results15, go_sem, z0, z1]) rfl (fun WF hWF => ⟨⟨ao, cc, rfl⟩, ?_⟩)
  have hT6 : Tch (fun b => b = w.heap.size + 1) w5 WF := by rw [hWF]; exact ((Tch.refl (fun b => b = w.heap.size + 1) w5).set ⟨w.heap.size + 1, 0, none⟩ _ rfl).set ⟨w.heap.size + 1, 1, none⟩ _ rfl
  exact below_own H5.out.2.2 hT6 (by omega)
end Go.Proofs.YtjcakbikpficbaaGreatDoor
