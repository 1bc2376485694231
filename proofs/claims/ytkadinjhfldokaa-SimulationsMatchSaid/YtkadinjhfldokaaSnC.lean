/- Work on machines, the document's: dyelaw2.simulated. Conditions: what each theorem names. -/
import Derived.Test.YtkadinjhfldokaaSnC4
import Derived.Test.YtkadinjhfldokaaSnC8
import Derived.Test.YtkadinjhfldokaaSnC10
import Derived.Test.YtkadinjhfldokaaSX
import Derived.Deep.CutBlock
namespace Go.Proofs.Ytkadinjhfldokaa
open Go Go.RowKit
/-- Each array as it is made. -/
theorem cmD_scp : ∀ {kc : Nat}, kc = 33 → (∀ args w, (callFunc kc args).run Try.prog w = .ok (.enter kc args) w) ∧ (∀ x y, PrR x → PrR y → (cmD x y < 0 ↔ keyR x < keyR y)) ∧ ∀ (x y : RunV) (wr : World), PrR x → PrR y → Calls Try.prog kc #[.agg #[.int .i64 x.wk, .int .i64 x.mc, .int .i64 x.fr, .int .i64 x.to, .bool x.fl], .agg #[.int .i64 y.wk, .int .i64 y.mc, .int .i64 y.fr, .int .i64 y.to, .bool y.fl]] wr fun e w' => e = .returned (.int .i64 (cmD x y)) ∧ Below wr.heap.size wr w' := by
  rintro kc rfl
  exact ⟨fun _ _ => by kernel_rfl, fun x y hx hy => keyR_cmD hx hy, fun x y wr hx hy => cmD_any x y wr hx hy⟩
/-- How it stands at the head of the great loop. -/
def DocTop (D : SimD) (gk : Nat) (T : DocS) : Prop := (DocR D false T ∧ (23001000001 - T.t).toNat < gk) ∨ (T.t = -1 ∧ ∃ T0, DocR D true T0 ∧ (docW D T0 D.nw < 0 ∨ docM D T0 D.nm < 0) ∧ LeastOf (fun c => endP T0 D.nm c ∨ downP D D.nm c) T0.t (-1) ∧ T0.k = T.k ∧ T0.q = T.q)
section
variable {aw : Option Addr} {cw : Nat} {am : Option Addr} {cm : Nat} {D : SimD}
set_option maxRecDepth 100000 in
set_option maxHeartbeats 12800000 in
theorem simulated_any (w : World) (hW : IsWorks w aw D.nw cw D.W) (hM : IsMachines w am D.nm cm D.M) (g : GoodD D) :
    Calls Try.prog 15 #[.slice aw D.nw cw, .slice am D.nm cm, .int .i64 D.tr] w fun e w' => (∃ rv, e = .returned rv ∧ DocOut D w.heap.size w' rv) ∧ Below w.heap.size w w' := by
  have HW := Lib.hid (And.intro hW (And.intro hM g))
  have hn1 : D.nw ≤ 2000 := g.work.1
  have hn2 : D.nm ≤ 64 := g.mach.1.2
  have hmk : ∀ w : World, (Instr.makeSlice 46 (.int .i64 D.nw) (.int .i64 D.nw)).run Try.prog w = .ok (.slice (some ⟨w.heap.size, 0, none⟩) D.nw D.nw) (w.alloc (.cells (madeCells #[.int .i64 0] D.nw) 3)) := fun w =>
    run_make_row' (P := Try.prog) 46 3 (.int .i64 0) 8 Try.underlying46 (by kernel_rfl) rfl .i64 .i64 D.nw (by omega) (by omega) w
  have hmk1 : ∀ w : World, (Instr.makeSlice 46 (.int .i64 D.nm) (.int .i64 D.nm)).run Try.prog w = .ok (.slice (some ⟨w.heap.size, 0, none⟩) D.nm D.nm) (w.alloc (.cells (madeCells #[.int .i64 0] D.nm) 3)) := fun w =>
    run_make_row' (P := Try.prog) 46 3 (.int .i64 0) 8 Try.underlying46 (by kernel_rfl) rfl .i64 .i64 D.nm (by omega) (by omega) w
  have hmk2 : ∀ w : World, (Instr.makeSlice 62 (.int .i64 D.nw) (.int .i64 D.nw)).run Try.prog w = .ok (.slice (some ⟨w.heap.size, 0, none⟩) D.nw D.nw) (w.alloc (.cells (madeCells #[.bool false] D.nw) 4)) := fun w =>
    run_make_row' (P := Try.prog) 62 4 (.bool false) 1 Try.underlying62 (by kernel_rfl) rfl .i64 .i64 D.nw (by omega) (by omega) w
  clear hW hM g
  go_enter Try.func15, Try.ntmps15
  go_upto_region 1 with fail
  refine wp_world (fun W1 hW1 => ?_)
  have B1 : Below w.heap.size w W1 := by rw [hW1]; (repeat (first | exact Below.refl _ _ | assumption | (refine Below.setCell ?_ (by first | (simp; done) | (simp; omega) | omega) _) | (refine Below.drew ?_) | (refine below_drewN ?_ _) | (refine Below.alloc ?_ (by first | (simp; done) | (simp; omega) | omega) _) | (refine Below.trans ?_ (Below.mono (by assumption) (by first | (simp; done) | (simp; omega) | omega)))))
  have M1 : Blk W1 w.heap.size [.slice am D.nm cm] := by rw [hW1]; exact Blk.new _ _ _ _ rfl
  obtain ⟨pm, hpm⟩ : ∃ pm, pm = w.heap.size := ⟨_, rfl⟩
  rw [← hpm] at M1 ⊢
  have H1 := Lib.hid (And.intro B1 (And.intro M1 (And.intro (Nat.le_of_eq hpm.symm) M1.lt)))
  clear hW1 B1 M1 hpm
  go_cut [7, 8] (fun s7 s8 wx => ∃ pd gd go, s7 = .pointer (some ⟨pd, 0, none⟩) ∧ s8 = .slice (some ⟨go, 0, none⟩) D.nw D.nw ∧ Blk wx pd [.slice (some ⟨gd, 0, none⟩) D.nw D.nw] ∧ VecV wx gd D.nw (fun _ => .bool false) ∧ VecV wx go D.nw (fun _ => .bool false) ∧ Below W1.heap.size W1 wx ∧ pd ≠ gd ∧ pd ≠ go ∧ gd ≠ go ∧ W1.heap.size ≤ pd ∧ W1.heap.size ≤ gd ∧ W1.heap.size ≤ go)
  case first =>
    go_region
    all_goals (go_wp2_with fail; go_meet)
    · exact ⟨_, W1.heap.size, _, rfl, rfl, (Blk.new _ _ _ _ (by simp)).past (Below.drew (Below.refl _ _)), (((VecV.made' rfl).alloc _).alloc _).past (Below.drew (Below.refl _ _)), ((VecV.made' (by simp)).alloc _).past (Below.drew (Below.refl _ _)), by (repeat (first | exact Below.refl _ _ | assumption | (refine Below.setCell ?_ (by first | (simp; done) | (simp; omega) | omega) _) | (refine Below.drew ?_) | (refine below_drewN ?_ _) | (refine Below.alloc ?_ (by first | (simp; done) | (simp; omega) | omega) _) | (refine Below.trans ?_ (Below.mono (by assumption) (by first | (simp; done) | (simp; omega) | omega))))), by omega, by omega, by omega, by omega, by omega, by omega⟩
    · exact ⟨_, W1.heap.size, _, rfl, rfl, ((Blk.new _ _ _ _ (by simp)).alloc _).past (Below.drew (Below.refl _ _)), (((VecV.made' rfl).alloc _).alloc _).past (Below.drew (Below.refl _ _)), (VecV.made' (by simp)).past (Below.drew (Below.refl _ _)), by (repeat (first | exact Below.refl _ _ | assumption | (refine Below.setCell ?_ (by first | (simp; done) | (simp; omega) | omega) _) | (refine Below.drew ?_) | (refine below_drewN ?_ _) | (refine Below.alloc ?_ (by first | (simp; done) | (simp; omega) | omega) _) | (refine Below.trans ?_ (Below.mono (by assumption) (by first | (simp; done) | (simp; omega) | omega))))), by omega, by omega, by omega, by omega, by omega, by omega⟩
    · exact ⟨_, W1.heap.size + 1, _, rfl, rfl, (Blk.new _ _ _ _ (by simp)).past (Below.drew (Below.refl _ _)), ((VecV.made' (by simp)).alloc _).past (Below.drew (Below.refl _ _)), (((VecV.made' rfl).alloc _).alloc _).past (Below.drew (Below.refl _ _)), by (repeat (first | exact Below.refl _ _ | assumption | (refine Below.setCell ?_ (by first | (simp; done) | (simp; omega) | omega) _) | (refine Below.drew ?_) | (refine below_drewN ?_ _) | (refine Below.alloc ?_ (by first | (simp; done) | (simp; omega) | omega) _) | (refine Below.trans ?_ (Below.mono (by assumption) (by first | (simp; done) | (simp; omega) | omega))))), by omega, by omega, by omega, by omega, by omega, by omega⟩
    · exact ⟨_, W1.heap.size + 1 + 1, _, rfl, rfl, ((Blk.new _ _ _ _ (by simp)).alloc _).past (Below.drew (Below.refl _ _)), (VecV.made' (by simp)).past (Below.drew (Below.refl _ _)), (((VecV.made' rfl).alloc _).alloc _).past (Below.drew (Below.refl _ _)), by (repeat (first | exact Below.refl _ _ | assumption | (refine Below.setCell ?_ (by first | (simp; done) | (simp; omega) | omega) _) | (refine Below.drew ?_) | (refine below_drewN ?_ _) | (refine Below.alloc ?_ (by first | (simp; done) | (simp; omega) | omega) _) | (refine Below.trans ?_ (Below.mono (by assumption) (by first | (simp; done) | (simp; omega) | omega))))), by omega, by omega, by omega, by omega, by omega, by omega⟩
    · exact ⟨_, W1.heap.size + 1, _, rfl, rfl, (((Blk.new _ _ _ _ rfl).alloc _).alloc _).past (Below.drew (Below.refl _ _)), ((VecV.made' (by simp)).alloc _).past (Below.drew (Below.refl _ _)), (VecV.made' (by simp)).past (Below.drew (Below.refl _ _)), by (repeat (first | exact Below.refl _ _ | assumption | (refine Below.setCell ?_ (by first | (simp; done) | (simp; omega) | omega) _) | (refine Below.drew ?_) | (refine below_drewN ?_ _) | (refine Below.alloc ?_ (by first | (simp; done) | (simp; omega) | omega) _) | (refine Below.trans ?_ (Below.mono (by assumption) (by first | (simp; done) | (simp; omega) | omega))))), by omega, by omega, by omega, by omega, by omega, by omega⟩
    · exact ⟨_, W1.heap.size + 1 + 1, _, rfl, rfl, (((Blk.new _ _ _ _ rfl).alloc _).alloc _).past (Below.drew (Below.refl _ _)), (VecV.made' (by simp)).past (Below.drew (Below.refl _ _)), ((VecV.made' (by simp)).alloc _).past (Below.drew (Below.refl _ _)), by (repeat (first | exact Below.refl _ _ | assumption | (refine Below.setCell ?_ (by first | (simp; done) | (simp; omega) | omega) _) | (refine Below.drew ?_) | (refine below_drewN ?_ _) | (refine Below.alloc ?_ (by first | (simp; done) | (simp; omega) | omega) _) | (refine Below.trans ?_ (Below.mono (by assumption) (by first | (simp; done) | (simp; omega) | omega))))), by omega, by omega, by omega, by omega, by omega, by omega⟩
  case rest =>
    obtain ⟨pd, gd, go, rfl, rfl, k1, k2, k3, k4, k5, k6, k7, k8, k9, k10⟩ := hcut
    have H2 := Lib.hid (And.intro k1 (And.intro k2 (And.intro k3 (And.intro k4 (And.intro k5 (And.intro k6 (And.intro k7 (And.intro k8 (And.intro k9 k10)))))))))
    clear k1 k2 k3 k4 k5 k6 k7 k8 k9 k10
    have k0 := H1.out.2.1.past H2.out.2.2.2.1
    have m0 := k0.c 0 _ rfl; have ml := k0.lt
    go_upto_region 4 with fail
    clear m0 ml k0
    refine wp_world (fun W4 hW4 => ?_)
    have F4 : VecV W4 wc.heap.size D.nw (fun _ => .int .i64 0) := by rw [hW4]; exact (VecV.made' rfl).alloc _
    have R4 : VecV W4 (wc.heap.size + 1) D.nm (fun _ => .int .i64 0) := by rw [hW4]; exact VecV.made' (by simp)
    have B4 : Below wc.heap.size wc W4 := by rw [hW4]; (repeat (first | exact Below.refl _ _ | assumption | (refine Below.setCell ?_ (by first | (simp; done) | (simp; omega) | omega) _) | (refine Below.drew ?_) | (refine below_drewN ?_ _) | (refine Below.alloc ?_ (by first | (simp; done) | (simp; omega) | omega) _) | (refine Below.trans ?_ (Below.mono (by assumption) (by first | (simp; done) | (simp; omega) | omega)))))
    have S4 : W4.heap.size = wc.heap.size + 2 := by rw [hW4]; simp
    obtain ⟨W2, hW2⟩ : ∃ W2, W2 = wc := ⟨_, rfl⟩
    obtain ⟨gr, hgr⟩ : ∃ gr, gr = wc.heap.size + 1 := ⟨_, rfl⟩
    obtain ⟨gf, hgf⟩ : ∃ gf, gf = wc.heap.size := ⟨_, rfl⟩
    have hgn : gr = gf + 1 := by omega
    rw [← hgr] at R4 ⊢
    rw [← hgf] at F4 ⊢
    have H4 := Lib.hid (And.intro F4 (And.intro R4 (And.intro B4 (And.intro S4 (And.intro hgf hgn)))))
    have HW2 := Lib.hid hW2
    clear hW4 F4 R4 B4 S4 hgf hgr hgn hW2
    go_upto_block 0 with fail
    go_cut [] (fun wx => VecV wx gr D.nm (fun _ => .int .i64 (-1)) ∧ Below gr W4 wx)
    case first =>
      go_wp2_with fail
      go_loopw [50] (fun s50 wr => ∃ k : Nat, k ≤ D.nm ∧ s50 = .int .i64 k ∧ VecV wr gr D.nm (fun i => .int .i64 (if i < k then -1 else 0)) ∧ Below gr W4 wr) (fun s50 _ => D.nm - (intOf s50).toNat)
      case atStart => exact ⟨0, Nat.zero_le _, rfl, H4.out.2.1, Below.refl _ _⟩
      case round =>
        obtain ⟨k, hk, rfl, hv, hq⟩ := hrel
        have HR := Lib.hid (And.intro hv hq)
        by_cases hin : k < D.nm
        · have hini : (k : Int) < (D.nm : Int) := by omega
          have r0 := hv.c k hin; have rl := hv.lt; have rf := hv.f
          clear hv hq
          go_wp2_with fail
          go_roundw
          case rel =>
            refine ⟨k + 1, by omega, by go_num, VecV.congr (HR.out.1.set k _) (fun j _ => ?_), HR.out.2.setCell (by simp) _⟩
            unfold updF
            by_cases e : j = k
            · subst e; rw [if_pos rfl, if_pos (by omega)]
            · rw [if_neg e]
              dsimp only
              by_cases e2 : j < k
              · rw [if_pos e2, if_pos (by omega)]
              · rw [if_neg e2, if_neg (by omega)]
          case measure => simp [intOf]; omega
        · have hini : ¬ (k : Int) < (D.nm : Int) := by omega
          clear hv hq
          go_wp2_with fail
          go_meet
          exact ⟨VecV.congr HR.out.1 (fun j hj => by rw [if_pos (by omega)]), HR.out.2⟩
    case rest =>
      obtain ⟨hr5, hb5⟩ := hcut
      have H5 := Lib.hid (And.intro hr5 hb5)
      obtain ⟨V5, hV5⟩ : ∃ V5, V5 = wc := ⟨_, rfl⟩
      rw [← hV5] at H5 ⊢
      clear hr5 hb5 hV5
      go_upto_block 2 with fail
      refine wp_world (fun V6 hV6 => ?_)
      have A6 : VecV V6 V5.heap.size D.nw (fun _ => .bool false) := by rw [hV6]; exact (VecV.made' rfl).alloc _
      have P6 : Blk V6 (V5.heap.size + 1) [.int .i64 0] := by rw [hV6]; exact Blk.new _ _ _ _ (by simp)
      have B6 : Below V5.heap.size V5 V6 := by rw [hV6]; (repeat (first | exact Below.refl _ _ | assumption | (refine Below.setCell ?_ (by first | (simp; done) | (simp; omega) | omega) _) | (refine Below.drew ?_) | (refine below_drewN ?_ _) | (refine Below.alloc ?_ (by first | (simp; done) | (simp; omega) | omega) _) | (refine Below.trans ?_ (Below.mono (by assumption) (by first | (simp; done) | (simp; omega) | omega)))))
      have S6 : V6.heap.size = V5.heap.size + 2 := by rw [hV6]; simp
      obtain ⟨b1, hb1⟩ : ∃ b1, b1 = V5.heap.size + 1 := ⟨_, rfl⟩
      obtain ⟨gb, hgb⟩ : ∃ gb, gb = V5.heap.size := ⟨_, rfl⟩
      rw [← hb1] at P6 ⊢
      rw [← hgb] at A6 ⊢
      have hpm := H1.out.2.2.1
      have hpl := H1.out.2.2.2
      have k0 := H2.out
      obtain ⟨k1, k2, k3, k4, k5, k6, k7, k8, k9, k10⟩ := H2.out
      rw [← HW2.out] at k1 k2 k3 k4
      have l1 := k1.lt; have l2 := k2.lt; have l3 := k3.lt; have lg := H4.out.2.2.2.2; have l4 := H4.out.2.2.2.1; have l5 := H5.out.2.size
      rw [← HW2.out] at lg l4
      have HNE : Hid (NeD w pm pd gd go gf gr gb b1) := by
        refine Lib.hid ?_
        unfold NeD
        (repeat' apply And.intro) <;> omega
      have BX : Below W2.heap.size W2 V5 := by
        have h := H4.out.2.2.1
        rw [← HW2.out] at h
        exact h.trans (H5.out.2.mono (by omega))
      have BY : Below W2.heap.size W2 V6 := BX.trans (B6.mono BX.size)
      have HG : Hid (DocG w am cm D pm pd gd go gf gr gb b1 V6 docStart b1 (.slice none 0 0)) := by
        refine Lib.hid ⟨(H1.out.2.1.past k4).past BY, k1.past BY, k2.past BY, k3.past BY, ?_, H5.out.1.past B6, A6, P6, ⟨Nat.le_refl _, by simp [Value.ownBlock]⟩, World.ownsRow_nil _ _ _ _, ?_, by omega⟩
        · exact (H4.out.1.block l5 (H5.out.2.block gf (by omega))).past B6
        · exact H1.out.1.trans ((k4.trans (BY.mono k4.size)).mono H1.out.1.size)
      clear hV6 A6 P6 B6 S6 hb1 hgb hpm hpl k0 k1 k2 k3 k4 k5 k6 k7 k8 k9 k10 l1 l2 l3 lg l4 l5 BX BY H1 H2 H4 H5 HW2 hmk hmk1 hmk2
      go_wp2_with fail
      refine wp_loop_ghost_k (fun gk a wr => ∃ (l : List Value) (T : DocS) (pt : Nat) (rv : Value), a = ⟨l.toArray, []⟩ ∧ AtS aw cw am cm D pm pd go gf gr gb rv pt l ∧ DocG w am cm D pm pd gd go gf gr gb b1 wr T pt rv ∧ DocTop D gk T) 23001000003 ?atStart ?round
      case atStart =>
        have h : DocTop D 23001000003 docStart := .inl ⟨DocR.start rfl rfl (fun _ _ => ⟨rfl, rfl, rfl, rfl⟩) (fun _ _ => rfl), by show (23001000001 - (0 : Int)).toNat < 23001000003; omega⟩
        exact ⟨_, docStart, b1, .slice none 0 0, rfl, ⟨rfl, rfl, rfl, rfl, rfl, rfl, rfl, rfl, rfl, rfl, rfl, rfl, rfl⟩, HG.out, h⟩
      case round =>
        intro gk a wr hinv J K hJ hK
        obtain ⟨l, T, pt, rv, rfl, hA, hG, hT⟩ := hinv
        obtain ⟨us, rfl⟩ := hA.out
        have HGG := Lib.hid hG
        have t0 := hG.kT.c 0 _ rfl; have tl := hG.kT.lt
        clear hA
        rcases hT with ⟨hR, hgk⟩ | ⟨ht, hfin⟩
        · have HBD := Lib.hid (hR.bd HW.out.2.2)
          have htp : 0 ≤ T.t := HBD.out.t.1
          have HR := Lib.hid (And.intro hR hgk)
          clear hR hgk hG HG
          go_upto_block 4 with fail
          clear t0 tl
          refine wp_cut (fun a wx => ∃ (l : List Value), a = ⟨l.toArray, []⟩ ∧ AtS aw cw am cm D pm pd go gf gr gb rv pt l ∧ DocG w am cm D pm pd gd go gf gr gb b1 wx (docEnd D.tr T D.nm) pt rv) ?rest ?first
          case first =>
            intro J1 K1 hJ1 hK1
            exact simB4 HW HNE HGG HBD ⟨rfl, rfl, rfl, rfl, rfl, rfl, rfl, rfl, rfl, rfl, rfl, rfl, rfl⟩ rfl rfl rfl (fun a w h => hK1 a w (hJ1 a w h))
          case rest =>
            intro a wc hcut
            obtain ⟨l, rfl, hA, hcut⟩ := hcut
            obtain ⟨us, rfl⟩ := hA.out
            have HG1 := Lib.hid hcut
            have HE1 := Lib.hid (And.intro (DocR.ended HR.out.1) (docEnd_t D.tr T D.nm))
            obtain ⟨T1, hT1⟩ : ∃ T1, T1 = docEnd D.tr T D.nm := ⟨_, rfl⟩
            rw [← hT1] at HG1 HE1
            clear hcut hT1 HGG HBD hA
            go_upto_block 6 with fail
            refine wp_cut (fun a wx => ∃ (l : List Value) (T2 : DocS) (rv2 : Value), a = ⟨l.toArray, []⟩ ∧ AtS aw cw am cm D pm pd go gf gr gb rv2 pt l ∧ DocG w am cm D pm pd gd go gf gr gb b1 wx T2 pt rv2 ∧ DocR D true T2 ∧ T2.t = T.t ∧ (docW D T2 D.nw < 0 ∨ docM D T2 D.nm < 0)) ?rest ?first
            case first =>
              intro J1 K1 hJ1 hK1
              go_wp2_with fail
              refine wp_loop_ghost_k (fun gk a wr => ∃ (l : List Value) (T2 : DocS) (rv2 : Value), a = ⟨l.toArray, []⟩ ∧ AtS aw cw am cm D pm pd go gf gr gb rv2 pt l ∧ DocG w am cm D pm pd gd go gf gr gb b1 wr T2 pt rv2 ∧ DocR D true T2 ∧ T2.t = T.t ∧ idleN T2 D.nm < gk) (D.nm + 1) ?atStart ?round
              case atStart => exact ⟨_, T1, rv, rfl, ⟨rfl, rfl, rfl, rfl, rfl, rfl, rfl, rfl, rfl, rfl, rfl, rfl, rfl⟩, HG1.out, HE1.out.1, HE1.out.2, by have := idleN_le T1 D.nm; omega⟩
              case round =>
                intro gj a V hinv J2 K2 hJ2 hK2
                obtain ⟨l, T2, rv2, rfl, hA, g1, g2, g3, g4⟩ := hinv
                obtain ⟨us, rfl⟩ := hA.out
                have HGI := Lib.hid (And.intro g1 (And.intro g2 (And.intro g3 g4)))
                have HB2 := Lib.hid (g2.bd HW.out.2.2)
                clear g1 g2 g3 g4 hA HG1 HE1
                go_upto_block 8 with fail
                refine wp_cut (fun a wx => ∃ (l : List Value), a = ⟨l.toArray, []⟩ ∧ AtS aw cw am cm D pm pd go gf gr gb rv2 pt l ∧ l[20]? = some (.int .i64 (-1)) ∧ l[19]? = some (.int .i64 (docW D T2 D.nw)) ∧ Below V.heap.size V wx) ?rest8 ?first8
                case first8 =>
                  intro J9 K9 hJ9 hK9
                  exact simB8 HW HNE HGI.out.1 ⟨rfl, rfl, rfl, rfl, rfl, rfl, rfl, rfl, rfl, rfl, rfl, rfl, rfl⟩ rfl rfl rfl rfl rfl (fun a w h => hK9 a w (hJ9 a w h))
                case rest8 =>
                  intro a wc hcut
                  obtain ⟨l, rfl, hA, y20, y19, hb⟩ := hcut
                  obtain ⟨x, hx⟩ : ∃ x, x = docW D T2 D.nw := ⟨_, rfl⟩
                  rw [← hx] at y19
                  obtain ⟨us, rfl⟩ := hA.out
                  have z19 : us 19 = .int .i64 x := Option.some.inj y19
                  have z20 : us 20 = .int .i64 (-1) := Option.some.inj y20
                  rw [z19, z20]
                  clear hA y19 y20 z19 z20
                  have HX := Lib.hid (And.intro hx hb)
                  obtain ⟨V7, hV7⟩ : ∃ V7, V7 = wc := ⟨_, rfl⟩
                  rw [← hV7] at HX ⊢
                  clear hx hb hV7
                  have m0 := (HGI.out.1.past HX.out.2).kM.c 0 _ rfl; have ml := (HGI.out.1.past HX.out.2).kM.lt
                  go_upto_block 10 with fail
                  clear m0 ml
                  refine wp_cut (fun a wx => ∃ (l : List Value), a = ⟨l.toArray, []⟩ ∧ AtS aw cw am cm D pm pd go gf gr gb rv2 pt l ∧ l[19]? = some (.int .i64 x) ∧ l[20]? = some (.int .i64 (docM D T2 D.nm)) ∧ Below V7.heap.size V7 wx) ?rest10 ?first10
                  case first10 =>
                    intro J9 K9 hJ9 hK9
                    exact simB10 HW HNE (HGI.out.1.past HX.out.2) HB2 ⟨rfl, rfl, rfl, rfl, rfl, rfl, rfl, rfl, rfl, rfl, rfl, rfl, rfl⟩ rfl rfl rfl rfl rfl (fun a w h => hK9 a w (hJ9 a w h))
                  case rest10 =>
                    intro a wc hcut
                    obtain ⟨l, rfl, hA, y19, y20, hb⟩ := hcut
                    obtain ⟨y, hy⟩ : ∃ y, y = docM D T2 D.nm := ⟨_, rfl⟩
                    rw [← hy] at y20
                    obtain ⟨us, rfl⟩ := hA.out
                    have z19 : us 19 = .int .i64 x := Option.some.inj y19
                    have z20 : us 20 = .int .i64 y := Option.some.inj y20
                    rw [z19, z20]
                    clear hA y19 y20 z19 z20
                    have HY := Lib.hid (And.intro hy (HX.out.2.trans (hb.mono HX.out.2.size)))
                    obtain ⟨V8, hV8⟩ : ∃ V8, V8 = wc := ⟨_, rfl⟩
                    rw [← hV8] at HY ⊢
                    clear hy hb hV8
                    by_cases hx0 : x < 0
                    · go_wp2_with fail
                      refine Met.intro ?_
                      go_step
                      exact ⟨_, T2, rv2, rfl, ⟨rfl, rfl, rfl, rfl, rfl, rfl, rfl, rfl, rfl, rfl, rfl, rfl, rfl⟩, HGI.out.1.past HY.out.2, HGI.out.2.1, HGI.out.2.2.1, .inl (by have := HX.out.1; omega)⟩
                    · by_cases hy0 : y < 0
                      · go_wp2_with fail
                        refine Met.intro ?_
                        go_step
                        exact ⟨_, T2, rv2, rfl, ⟨rfl, rfl, rfl, rfl, rfl, rfl, rfl, rfl, rfl, rfl, rfl, rfl, rfl⟩, HGI.out.1.past HY.out.2, HGI.out.2.1, HGI.out.2.2.1, .inr (by have := HY.out.1; omega)⟩
                      · refine ?_
                        obtain ⟨wn, e1, hwn⟩ : ∃ wn : Nat, x = (wn : Int) ∧ wn < D.nw := by
                          have h := HX.out.1
                          rcases docW_in D T2 D.nw with e | ⟨w', e, e2, -⟩
                          · omega
                          · exact ⟨w', by omega, e2⟩
                        obtain ⟨mn, f1, hmn, hidle⟩ : ∃ mn : Nat, y = (mn : Int) ∧ mn < D.nm ∧ T2.rn mn < 0 := by
                          have h := HY.out.1
                          rcases docM_in D T2 D.nm with e | ⟨w', e, e2, e3⟩
                          · omega
                          · refine ⟨w', by omega, e2, ?_⟩
                            unfold docFree at e3
                            rw [Bool.and_eq_true] at e3
                            exact of_decide_eq_true e3.1
                        have HGV := Lib.hid (show DocR D true (docBegin D T2 wn mn) from DocR.given HGI.out.2.1 (by rw [← HX.out.1]; exact e1) (by rw [← HY.out.1]; exact f1))
                        have HID := Lib.hid hidle
                        subst e1 f1
                        have hG := HGI.out.1.past HY.out.2
                        have HG8 := Lib.hid hG
                        have hwk := HW.out.2.2.work.2 wn hwn
                        have hmc := HW.out.2.2.mach.2 mn hmn
                        have hMw := HW.out.2.1.below hG.bel
                        have hWw := HW.out.1.below hG.bel
                        obtain ⟨bm, om, hab, hcm⟩ := hMw.2.2 (by omega)
                        obtain ⟨bw, ow, haw, hcw⟩ := hWw.2.2 (by omega)
                        have k1 : D.nm ≤ cm := hMw.1
                        have k2 : cm ≤ 9223372036854775807 := by have := hMw.2.1; unfold maxLen at this; omega
                        have k3 : D.nw ≤ cw := hWw.1
                        have k4 : cw ≤ 9223372036854775807 := by have := hWw.2.1; unfold maxLen at this; omega
                        have hmi : (mn : Int) < (D.nm : Int) := by omega
                        have hwi : (wn : Int) < (D.nw : Int) := by omega
                        have c0 := (hcm mn hmn).1; have c1 := (hcm mn hmn).2.1
                        have d0 := (hcw wn hwn).1
                        have HIN := Lib.hid (hcm mn hmn).2.2.2
                        have HNR := Lib.hid (show newRun D T2.t wn mn = match firstS (cutC (D.M mn) T2.t (endT D T2.t wn mn)) (D.M mn).dn with
                          | some x => ⟨wn, mn, T2.t, x, true⟩
                          | none => ⟨wn, mn, T2.t, endT D T2.t wn mn, false⟩ from rfl)
                        have HET := Lib.hid (show endT D T2.t wn mn = T2.t + ((D.W wn).cost + (D.M mn).sp - 1) / (D.M mn).sp from rfl)
                        obtain ⟨et, het⟩ : ∃ et, et = endT D T2.t wn mn := ⟨_, rfl⟩
                        rw [← het] at HNR HET
                        clear het
                        obtain ⟨nr, hnr⟩ : ∃ nr, nr = newRun D T2.t wn mn := ⟨_, rfl⟩
                        rw [← hnr] at HNR
                        have HNQ := Lib.hid hnr
                        clear hnr
                        obtain ⟨K, hK⟩ : ∃ K, K = D.M mn := ⟨_, rfl⟩
                        rw [← hK] at c0 c1 hmc HIN HNR HET
                        obtain ⟨sp, da, dn, dc, df, dt⟩ := K
                        obtain ⟨co, hco⟩ : ∃ co, co = (D.W wn).cost := ⟨_, rfl⟩
                        rw [← hco] at d0 hwk HET
                        simp only at c0 c1 hmc HIN HNR HET
                        have hco1 := hwk.1
                        have hsp1 := hmc.1
                        clear hK hco hwk hmc hcm hcw hMw hWw
                        have l0 := cell_lt c0; have l1 := cell_lt d0; simp only at l0 l1
                        have m0 := hG.kM.c 0 _ rfl; have ml := hG.kM.lt
                        have t0 := hG.kT.c 0 _ rfl; have tl := hG.kT.lt
                        have hnow := HB2.out.t
                        have hT : (co + sp - 1) / sp * sp ≤ co + sp - 1 ∧ 0 ≤ (co + sp - 1) / sp ∧ (co + sp - 1) / sp ≤ co + sp - 1 := ⟨Int.ediv_mul_le _ (by omega), Int.ediv_nonneg (by omega) (by omega), Int.ediv_le_self _ (by omega)⟩
                        obtain ⟨T9, hTT⟩ : ∃ T9, T9 = (co + sp - 1) / sp := ⟨_, rfl⟩
                        have q1 : (co + sp - 1).tdiv sp = T9 := by rw [Int.tdiv_eq_ediv_of_nonneg (by omega), hTT]
                        rw [← hTT] at hT HET
                        obtain ⟨-, t1, t2⟩ := hT
                        have q2 : sp ≠ 0 := by omega
                        obtain ⟨now, hno⟩ : ∃ now, now = T2.t := ⟨_, rfl⟩
                        rw [← hno] at hnow HNR HET t0
                        have hete : now + T9 = et := HET.out.symm
                        have HNO := Lib.hid hno
                        clear hTT HET hno hG hidle
                        have HC1 := Lib.hid c1
                        subst hab haw
                        go_upto_region 41 with fail
                        refine wp_region_looseM 25 (fun _ _ _ => False) [(24, 25, .cells #[.int .i64 0, .int .i64 0, .int .i64 0, .int .i64 0, .bool false] 36)] (by kernel_rfl) (by kernel_rfl) (by kernel_rfl) (by intro m hm; cases hm with | head => exact ⟨_, rfl, ⟨rfl, rfl, fun ev w => by kernel_rfl⟩⟩ | tail _ h => cases h) (by intro m hm; cases hm with | head => exact of_decide_eq_true (by kernel_rfl) | tail _ h => cases h) ?_
                        simp only [List.take_succ_cons, List.take_zero, List.drop_succ_cons, List.drop_zero]
                        iterate 24 (refine looseM_wanted rfl (fun K hK => ?_); go_simp; refine hK _ ?_; clear hK K)
                        refine looseM_lays (d := 25) (blk := .cells #[.int .i64 0, .int .i64 0, .int .i64 0, .int .i64 0, .bool false] 36) ⟨rfl, rfl, fun ev w => by kernel_rfl⟩ (fun pr hpr0 => ?_)
                        refine looseM_nil (fun w5 hb5 hg5 _ => ?_)
                        obtain ⟨pr', hp1, hp2⟩ := hg5 _ (List.Mem.head _)
                        obtain rfl : pr = pr' := by cases hp1; rfl
                        clear hp1 hg5
                        have NB : Blk w5 pr [.int .i64 0, .int .i64 0, .int .i64 0, .int .i64 0, .bool false] := Blk.lies hp2
                        have n0 := NB.c 0 _ rfl; have n1 := NB.c 1 _ rfl; have n2 := NB.c 2 _ rfl; have n3 := NB.c 3 _ rfl; have n4 := NB.c 4 _ rfl; have nl := NB.lt; have nf := NB.f
                        have HNB := Lib.hid (And.intro NB (And.intro hb5 hpr0))
                        clear hb5 hp2 NB hpr0 m0 ml t0 tl c0 d0 l0 l1 c1
                        go_upto_region 42 with fail
                        refine wp_world (fun W6 hW6 => ?_)
                        clear n0 n1 n2 n3 n4 nl nf
                        have H6 : Hid (Below V8.heap.size V8 W6 ∧ Blk W6 pr [.int .i64 wn, .int .i64 mn, .int .i64 now, .int .i64 et, .bool false] ∧ V8.heap.size ≤ pr) := by
                          have hb5 := HNB.out.2.1
                          have hpr0 := HNB.out.2.2
                          refine Lib.hid ⟨by rw [hW6]; (repeat (first | exact Below.refl _ _ | assumption | (refine Below.setCell ?_ (by first | (simp; done) | (simp; omega) | omega) _) | (refine Below.drew ?_) | (refine below_drewN ?_ _) | (refine Below.alloc ?_ (by first | (simp; done) | (simp; omega) | omega) _) | (refine Below.trans ?_ (Below.mono (by assumption) (by first | (simp; done) | (simp; omega) | omega))))), ?_, hpr0⟩
                          rw [hW6, ← hete, ← q1]
                          exact ((((HNB.out.1.set 0 _).set 1 _).set 2 _).set 3 _).set 4 _
                        have HG6 := Lib.hid (HG8.out.past H6.out.1)
                        have hci := (HIN.out.2.2)
                        have c2 := (H6.out.1.cell (p := ⟨bm, om + mn * 2 + 1, none⟩) (cell_lt HC1.out)).trans HC1.out
                        have l2 := cell_lt c2; simp only at l2
                        have m0 := HG6.out.kM.c 0 _ rfl; have ml := HG6.out.kM.lt
                        clear hW6 HNB q1 hci
                        go_upto_block 12 with fail
                        clear c2 l2 m0 ml
                        refine wp_cut (fun a wx => ∃ (l : List Value), a = ⟨l.toArray, []⟩ ∧ AtS (some ⟨bw, ow, none⟩) cw (some ⟨bm, om, none⟩) cm D pm pd go gf gr gb rv2 pt l ∧ l[19]? = some (.int .i64 wn) ∧ l[20]? = some (.int .i64 mn) ∧ l[25]? = some (.pointer (some ⟨pr, 0, none⟩)) ∧ Below V8.heap.size V8 wx ∧ Blk wx pr (runL nr)) ?rest12 ?first12
                        case first12 =>
                          intro J9 K9 hJ9 hK9
                          exact simB12 HW HNE HG8 HIN HNR HNO H6 ⟨rfl, rfl, rfl, rfl, rfl, rfl, rfl, rfl, rfl, rfl, rfl, rfl, rfl⟩ rfl rfl rfl rfl rfl rfl (fun a w h => hK9 a w (hJ9 a w h))
                        case rest12 =>
                          intro a wc hcut
                          obtain ⟨l, rfl, hA, y19, y20, y25, hb7, hr7⟩ := hcut
                          obtain ⟨us, rfl⟩ := hA.out
                          have z19 : us 19 = .int .i64 wn := Option.some.inj y19
                          have z20 : us 20 = .int .i64 mn := Option.some.inj y20
                          have z25 : us 25 = .pointer (some ⟨pr, 0, none⟩) := Option.some.inj y25
                          rw [z19, z20, z25]
                          clear hA y19 y20 y25 z19 z20 z25
                          have H7 := Lib.hid (And.intro (HG8.out.past hb7) hr7)
                          have HPR := Lib.hid (show b1 ≤ pr ∧ some pr ≠ rv2.ownBlock by
                            have h1 := HG8.out.sz
                            have h2 := H6.out.2.2
                            refine ⟨by omega, fun h => ?_⟩
                            have := (HG8.out.kR.lt _ h.symm).2
                            omega)
                          obtain ⟨V9, hV9⟩ : ∃ V9, V9 = wc := ⟨_, rfl⟩
                          rw [← hV9] at H7 ⊢
                          clear hb7 hr7 hV9 H6 HG8 HG6 HIN HC1 HNR
                          have HOW := Lib.hid (own_vecR0 H7.out.1.kR)
                          have hne : gr ≠ gb ∧ gr < b1 ∧ gb < b1 := ⟨by have := HNE.out.1; omega, by have := HNE.out.2.2; omega, by have := HNE.out.2.2; omega⟩
                          obtain ⟨i0, hi0, hz0, hz1, hz2⟩ := info_parts infoRunS
                          have hkb := HB2.out.k
                          have HMS := Lib.hid (show ∀ V rvx, DocG w (some ⟨bm, om, none⟩) cm D pm pd gd go gf gr gb b1 V { T2 with bs := updF T2.bs wn true, rn := updF T2.rn mn (T2.k : Int), k := T2.k + 1, q := updF T2.q T2.k nr } pt rvx → ∃ k, k < gj ∧ ∃ T3 : DocS, DocG w (some ⟨bm, om, none⟩) cm D pm pd gd go gf gr gb b1 V T3 pt rvx ∧ DocR D true T3 ∧ T3.t = T.t ∧ idleN T3 D.nm < k by
                            intro V rvx h
                            have h1 := HGI.out.2.2.2
                            have h2 := idleN_begin (D := D) (w := wn) HID.out hmn
                            refine ⟨idleN (docBegin D T2 wn mn) D.nm + 1, by omega, docBegin D T2 wn mn, ?_, HGV.out, HGI.out.2.2.1, by omega⟩
                            rw [HNQ.out] at h
                            exact h)
                          clear HGV HID HNQ HGI HX HY
                          rcases HOW.out with ⟨h0, hrv⟩ | ⟨gg, cc, hrv, hg1, hg2, hg3, -⟩
                          · subst hrv
                            have HH0 := Lib.hid h0
                            clear h0
                            have q0 := H7.out.1.vB.c wn hwn; have ql := H7.out.1.vB.lt; have qf := H7.out.1.vB.f
                            have r0 := H7.out.1.vR.c mn hmn; have rl := H7.out.1.vR.lt; have rf := H7.out.1.vR.f
                            go_upto_region 49 with fail
                            refine wp_world (fun W9 hW9 => ?_)
                            have hn4 : gb ≠ pr := by have := HPR.out.1; omega
                            have hn5 : gr ≠ pr := by have := HPR.out.1; omega
                            have H9 : Hid (DocG w (some ⟨bm, om, none⟩) cm D pm pd gd go gf gr gb b1 W9 { T2 with bs := updF T2.bs wn true, rn := updF T2.rn mn (T2.k : Int) } pt (.slice none 0 0) ∧ Blk W9 pr (runL nr)) := by
                              refine Lib.hid ?_
                              rw [hW9]
                              first
                                | exact ⟨(H7.out.1.sB HNE.out wn true).sR HNE.out mn (T2.k : Int), (H7.out.2.far ⟨gb, wn, none⟩ (.bool true) hn4).far ⟨gr, mn, none⟩ (.int .i64 (T2.k : Int)) hn5⟩
                                | (rw [show (0 : Int) = (T2.k : Int) by have := HH0.out; omega]; exact ⟨(H7.out.1.sB HNE.out wn true).sR HNE.out mn (T2.k : Int), (H7.out.2.far ⟨gb, wn, none⟩ (.bool true) hn4).far ⟨gr, mn, none⟩ (.int .i64 (T2.k : Int)) hn5⟩)
                            clear hW9 q0 ql qf r0 rl rf H7
                            have x0 := H9.out.2.c 0 _ rfl; have x1 := H9.out.2.c 1 _ rfl; have x2 := H9.out.2.c 2 _ rfl; have x3 := H9.out.2.c 3 _ rfl; have x4 := H9.out.2.c 4 _ rfl; have xl := H9.out.2.lt
                            have hbs := H9.out.1.sz
                            go_wp2_with (first | (at_builtin; refine wpList_append_lies _ rfl _ _ _ rfl b1 36 i0 (.agg #[.int .i64 0, .int .i64 0, .int .i64 0, .int .i64 0, .bool false]) 5 40 Try.underlying24 hi0 hz0 hz1 hz2 rfl (by decide) (.slice none 0 0) T2.k (accL (fun i => runL (T2.q i)) T2.k) rfl (by first | exact H9.out.1.kR | exact own_past H9.out.1.kR (by (repeat (first | exact Below.refl _ _ | assumption | (refine Below.setCell ?_ (by first | (simp; done) | (simp; omega) | omega) _) | (refine Below.drew ?_) | (refine below_drewN ?_ _) | (refine Below.alloc ?_ (by first | (simp; done) | (simp; omega) | omega) _) | (refine Below.trans ?_ (Below.mono (by assumption) (by first | (simp; done) | (simp; omega) | omega))))))) ⟨W9.heap.size, 0, none⟩ 1 1 (runL nr) rfl rfl (by intro j u hj; match j, hj with | 0, hj => (simp [runL] at hj; subst hj; simp [Addr.add]) | 1, hj => (simp [runL] at hj; subst hj; simp [Addr.add]) | 2, hj => (simp [runL] at hj; subst hj; simp [Addr.add]) | 3, hj => (simp [runL] at hj; subst hj; simp [Addr.add]) | 4, hj => (simp [runL] at hj; subst hj; simp [Addr.add])) (by intro u hu; simp [runL] at hu; rcases hu with rfl | rfl | rfl | rfl | rfl <;> rfl) (by decide) (by unfold maxLen; omega) (by omega) (by simp; omega) _ rfl ?_; intro gn cap W10 hown hgrow hat hlt; have HS10 := Lib.hid (HMS.out W10 _ (DocG.app H9.out.1 HNE.out (by (repeat (first | exact Below.refl _ _ | assumption | (refine Below.setCell ?_ (by first | (simp; done) | (simp; omega) | omega) _) | (refine Below.drew ?_) | (refine below_drewN ?_ _) | (refine Below.alloc ?_ (by first | (simp; done) | (simp; omega) | omega) _) | (refine Below.trans ?_ (Below.mono (by assumption) (by first | (simp; done) | (simp; omega) | omega)))))) hgrow hown (hat.imp id (fun h => by rw [h]; simp)))); clear hown hgrow hat))
                            obtain ⟨k3, hk3, T3, a1, a2, a3, a4⟩ := HS10.out
                            refine Handed.intro k3 hk3 ?_
                            go_step
                            exact ⟨_, T3, _, rfl, ⟨rfl, rfl, rfl, rfl, rfl, rfl, rfl, rfl, rfl, rfl, rfl, rfl, rfl⟩, a1, a2, a3, a4⟩
                          · subst hrv
                            have HH0 := Lib.hid True.intro
                            have q0 := H7.out.1.vB.c wn hwn; have ql := H7.out.1.vB.lt; have qf := H7.out.1.vB.f
                            have r0 := H7.out.1.vR.c mn hmn; have rl := H7.out.1.vR.lt; have rf := H7.out.1.vR.f
                            go_upto_region 49 with fail
                            refine wp_world (fun W9 hW9 => ?_)
                            have hn4 : gb ≠ pr := by have := HPR.out.1; omega
                            have hn5 : gr ≠ pr := by have := HPR.out.1; omega
                            have H9 : Hid (DocG w (some ⟨bm, om, none⟩) cm D pm pd gd go gf gr gb b1 W9 { T2 with bs := updF T2.bs wn true, rn := updF T2.rn mn (T2.k : Int) } pt (.slice (some ⟨gg, 0, none⟩) T2.k cc) ∧ Blk W9 pr (runL nr)) := by
                              refine Lib.hid ?_
                              rw [hW9]
                              first
                                | exact ⟨(H7.out.1.sB HNE.out wn true).sR HNE.out mn (T2.k : Int), (H7.out.2.far ⟨gb, wn, none⟩ (.bool true) hn4).far ⟨gr, mn, none⟩ (.int .i64 (T2.k : Int)) hn5⟩
                                | (rw [show (0 : Int) = (T2.k : Int) by have := HH0.out; omega]; exact ⟨(H7.out.1.sB HNE.out wn true).sR HNE.out mn (T2.k : Int), (H7.out.2.far ⟨gb, wn, none⟩ (.bool true) hn4).far ⟨gr, mn, none⟩ (.int .i64 (T2.k : Int)) hn5⟩)
                            clear hW9 q0 ql qf r0 rl rf H7
                            have x0 := H9.out.2.c 0 _ rfl; have x1 := H9.out.2.c 1 _ rfl; have x2 := H9.out.2.c 2 _ rfl; have x3 := H9.out.2.c 3 _ rfl; have x4 := H9.out.2.c 4 _ rfl; have xl := H9.out.2.lt
                            have hbs := H9.out.1.sz
                            go_wp2_with (first | (at_builtin; refine wpList_append_lies _ rfl _ _ _ rfl b1 36 i0 (.agg #[.int .i64 0, .int .i64 0, .int .i64 0, .int .i64 0, .bool false]) 5 40 Try.underlying24 hi0 hz0 hz1 hz2 rfl (by decide) (.slice (some ⟨gg, 0, none⟩) T2.k cc) T2.k (accL (fun i => runL (T2.q i)) T2.k) rfl (by first | exact H9.out.1.kR | exact own_past H9.out.1.kR (by (repeat (first | exact Below.refl _ _ | assumption | (refine Below.setCell ?_ (by first | (simp; done) | (simp; omega) | omega) _) | (refine Below.drew ?_) | (refine below_drewN ?_ _) | (refine Below.alloc ?_ (by first | (simp; done) | (simp; omega) | omega) _) | (refine Below.trans ?_ (Below.mono (by assumption) (by first | (simp; done) | (simp; omega) | omega))))))) ⟨W9.heap.size, 0, none⟩ 1 1 (runL nr) rfl rfl (by intro j u hj; match j, hj with | 0, hj => (simp [runL] at hj; subst hj; simp [Addr.add]) | 1, hj => (simp [runL] at hj; subst hj; simp [Addr.add]) | 2, hj => (simp [runL] at hj; subst hj; simp [Addr.add]) | 3, hj => (simp [runL] at hj; subst hj; simp [Addr.add]) | 4, hj => (simp [runL] at hj; subst hj; simp [Addr.add])) (by intro u hu; simp [runL] at hu; rcases hu with rfl | rfl | rfl | rfl | rfl <;> rfl) (by decide) (by unfold maxLen; omega) (by omega) (by simp; omega) _ rfl ?_; intro gn cap W10 hown hgrow hat hlt; have HS10 := Lib.hid (HMS.out W10 _ (DocG.app H9.out.1 HNE.out (by (repeat (first | exact Below.refl _ _ | assumption | (refine Below.setCell ?_ (by first | (simp; done) | (simp; omega) | omega) _) | (refine Below.drew ?_) | (refine below_drewN ?_ _) | (refine Below.alloc ?_ (by first | (simp; done) | (simp; omega) | omega) _) | (refine Below.trans ?_ (Below.mono (by assumption) (by first | (simp; done) | (simp; omega) | omega)))))) hgrow hown (hat.imp id (fun h => by rw [h]; simp)))); clear hown hgrow hat))
                            obtain ⟨k3, hk3, T3, a1, a2, a3, a4⟩ := HS10.out
                            refine Handed.intro k3 hk3 ?_
                            go_step
                            exact ⟨_, T3, _, rfl, ⟨rfl, rfl, rfl, rfl, rfl, rfl, rfl, rfl, rfl, rfl, rfl, rfl, rfl⟩, a1, a2, a3, a4⟩
            case rest =>
              intro a wc hcut
              obtain ⟨l, T2, rv2, rfl, hA, g1, g2, g3, g4⟩ := hcut
              obtain ⟨us, rfl⟩ := hA.out
              have H2 := Lib.hid (And.intro g1 (And.intro g2 (And.intro g3 g4)))
              have HB2 := Lib.hid (g2.bd HW.out.2.2)
              clear g1 g2 g3 g4 HG1 HE1 hA
              obtain ⟨V, hV⟩ : ∃ V, V = wc := ⟨_, rfl⟩
              rw [← hV] at H2 ⊢
              clear hV
              go_upto_block 14 with fail
              refine wp_world (fun V2 hV2 => ?_)
              have BV : Below V.heap.size V V2 := by rw [hV2]; (repeat (first | exact Below.refl _ _ | assumption | (refine Below.setCell ?_ (by first | (simp; done) | (simp; omega) | omega) _) | (refine Below.drew ?_) | (refine below_drewN ?_ _) | (refine Below.alloc ?_ (by first | (simp; done) | (simp; omega) | omega) _) | (refine Below.trans ?_ (Below.mono (by assumption) (by first | (simp; done) | (simp; omega) | omega)))))
              have PV : Blk V2 V.heap.size [.int .i64 (-1)] := by rw [hV2]; exact Blk.new _ _ _ _ rfl
              obtain ⟨pn, hpn⟩ : ∃ pn, pn = V.heap.size := ⟨_, rfl⟩
              rw [← hpn] at PV ⊢
              have HV2 := Lib.hid (And.intro BV (And.intro PV hpn))
              clear hV2 BV PV hpn
              refine wp_cut (fun a wx => ∃ (l : List Value), a = ⟨l.toArray, []⟩ ∧ AtS aw cw am cm D pm pd go gf gr gb rv2 pt l ∧ l[28]? = some (.pointer (some ⟨pn, 0, none⟩)) ∧ l[29]? = some (.func (.func 32) #[] #[.pointer (some ⟨pt, 0, none⟩), .pointer (some ⟨pn, 0, none⟩)]) ∧ Below V.heap.size V wx ∧ ∃ v : Int, Blk wx pn [.int .i64 v] ∧ LeastOf (endP T2 D.nm) T2.t v) ?rest14 ?first14
              case first14 =>
                intro J9 K9 hJ9 hK9
                exact simB14 HW HNE H2.out.1 HB2 HV2 ⟨rfl, rfl, rfl, rfl, rfl, rfl, rfl, rfl, rfl, rfl, rfl, rfl, rfl⟩ rfl rfl rfl rfl rfl (fun a w h => hK9 a w (hJ9 a w h))
              case rest14 =>
                intro a wc hcut
                obtain ⟨l, rfl, hA, y28, y29, b3, v3, k3, l3⟩ := hcut
                obtain ⟨us, rfl⟩ := hA.out
                have z28 : us 28 = .pointer (some ⟨pn, 0, none⟩) := Option.some.inj y28
                have z29 : us 29 = .func (.func 32) #[] #[.pointer (some ⟨pt, 0, none⟩), .pointer (some ⟨pn, 0, none⟩)] := Option.some.inj y29
                rw [z28, z29]
                clear hA y28 y29 z28 z29
                have H3 := Lib.hid (And.intro b3 (And.intro k3 l3))
                clear b3 k3 l3
                obtain ⟨V3, hV3⟩ : ∃ V3, V3 = wc := ⟨_, rfl⟩
                rw [← hV3] at H3 ⊢
                clear hV3
                have m0 := (H2.out.1.past H3.out.1).kM.c 0 _ rfl; have ml := (H2.out.1.past H3.out.1).kM.lt
                go_upto_block 16 with fail
                clear m0 ml
                refine wp_cut (fun a wx => ∃ (l : List Value), a = ⟨l.toArray, []⟩ ∧ AtS aw cw am cm D pm pd go gf gr gb rv2 pt l ∧ l[28]? = some (.pointer (some ⟨pn, 0, none⟩)) ∧ Below V.heap.size V wx ∧ ∃ v : Int, Blk wx pn [.int .i64 v] ∧ LeastOf (fun c => endP T2 D.nm c ∨ downP D D.nm c) T2.t v) ?rest16 ?first16
                case first16 =>
                  intro J9 K9 hJ9 hK9
                  exact simB16 HW HNE H2.out.1 HB2 HV2 H3 ⟨rfl, rfl, rfl, rfl, rfl, rfl, rfl, rfl, rfl, rfl, rfl, rfl, rfl⟩ rfl rfl rfl rfl rfl (fun a w h => hK9 a w (hJ9 a w h))
                case rest16 =>
                  intro a wc hcut
                  obtain ⟨l, rfl, hA, y28, b4, v4, k4, l4⟩ := hcut
                  obtain ⟨us, rfl⟩ := hA.out
                  have z28 : us 28 = .pointer (some ⟨pn, 0, none⟩) := Option.some.inj y28
                  rw [z28]
                  clear hA y28 z28
                  have HV4 := Lib.hid (H2.out.1.past b4)
                  have HL := Lib.hid l4
                  have HS := Lib.hid (l4.sign HB2.out.t.1)
                  have n0 := k4.c 0 _ rfl; have nl := k4.lt
                  have t0 := HV4.out.kT.c 0 _ rfl; have tl := HV4.out.kT.lt; have tf := HV4.out.kT.f
                  have hpp : pn ≠ pt := by have := H2.out.1.kT.lt; have := HV2.out.2.2; omega
                  clear b4 k4 l4 H3
                  obtain ⟨V4, hV4⟩ : ∃ V4, V4 = wc := ⟨_, rfl⟩
                  rw [← hV4] at HV4 n0 nl t0 tl tf ⊢
                  clear hV4
                  go_upto_region 69 with fail
                  refine wp_world (fun V5 hV5 => ?_)
                  have H5 := Lib.hid (show DocG w am cm D pm pd gd go gf gr gb b1 V5 { T2 with t := v4 } pt rv2 by rw [hV5]; exact HV4.out.setN HNE.out v4)
                  clear hV5 HV4 n0 nl t0 tl tf
                  have t0 := H5.out.kT.c 0 _ rfl; have tl := H5.out.kT.lt
                  simp only at t0
                  have HX : Hid (∃ k, k < gk ∧ DocTop D k { T2 with t := v4 }) := by
                    refine Lib.hid ?_
                    have h1 := HR.out.2
                    have h2 := H2.out.2.2.1
                    have h3 := HB2.out.t
                    rcases HS.out with e | ⟨e1, e2⟩
                    · subst e
                      exact ⟨0, by omega, .inr ⟨rfl, T2, H2.out.2.1, H2.out.2.2.2, HL.out, rfl, rfl⟩⟩
                    · have h4 := (H2.out.2.1.more HW.out.2.2 H2.out.2.2.2 HL.out e1)
                      have h5 := (h4.2.tle HW.out.2.2).2
                      simp only at h5
                      exact ⟨(23001000001 - v4).toNat + 1, by omega, .inl ⟨h4.2, by show (23001000001 - v4).toNat < _; omega⟩⟩
                  go_wp2_with fail
                  obtain ⟨k', hk', htop⟩ := HX.out
                  refine Handed.intro k' hk' ?_
                  go_step
                  exact ⟨_, { T2 with t := v4 }, V5.heap.size, rv2, rfl, ⟨rfl, rfl, rfl, rfl, rfl, rfl, rfl, rfl, rfl, rfl, rfl, rfl, rfl⟩, H5.out.newT _, htop⟩
        · refine ?_
          obtain ⟨T0, f1, f2, f3, f4, f5⟩ := hfin
          have HF := Lib.hid (f1.last HW.out.2.2 f2 f3)
          have hb0 := f1.bd HW.out.2.2
          have hpr : ∀ j, j < T.k → PrR (T.q j) := fun j hj => by rw [← f5]; exact hb0.q j (by rw [f4]; exact hj)
          have HPR := Lib.hid hpr
          have hkl : T.k ≤ 22064 := by rw [← f4]; exact hb0.k
          have HKQ := Lib.hid (And.intro f4 f5)
          have HO := Lib.hid (own_vecR0 hG.kR)
          have HBL := Lib.hid (And.intro hG.bel hG.sz)
          have hb1w : w.heap.size ≤ b1 := by have h1 := HNE.out.2.1.1; have h2 := HNE.out.2.2.1; omega
          rw [ht] at t0
          clear hG ht f1 f2 f3 f4 f5 hb0 hpr HG HGG
          rcases HO.out with ⟨h0, rfl⟩ | ⟨gg, c, rfl, hg1, hg2, hg3, hv⟩
          · go_wp2_with (go_at_call 22; refine (Sort_nil _ _).mono ?_; rintro e w' ⟨rfl, rfl⟩)
            go_ret
            obtain ⟨S, s1, s2, s3, s4, s5⟩ := HF.out
            exact ⟨⟨_, rfl, S, S.q, s1, s2, s3, fun _ => rfl, fun i j _ _ hj => (by have := HKQ.out.1; omega), .inl ⟨by have := HKQ.out.1; omega, rfl⟩⟩, HBL.out.1⟩
          · have HV := Lib.hid (And.intro hv (And.intro hg1 (And.intro hg2 hg3)))
            clear hv
            go_wp2_with (go_at_call 22; refine (sortstableR_any PrR cmD keyR _ gg T.k c _ T.q _ (by omega) (Lib.hid (cmD_scp rfl)) ⟨HV.out.1, Below.refl _ _, HPR.out⟩).mono ?_; rintro e w' ⟨rfl, q2, k1, k2, k3⟩; have HK := Lib.hid (And.intro k1 (And.intro k2 k3)); clear k1 k2 k3)
            go_ret
            obtain ⟨S, s1, s2, s3, s4, s5⟩ := HF.out
            have e1 : T.k = S.k := by have := HKQ.out.1; omega
            refine ⟨⟨_, rfl, S, q2, s1, s2, s3, fun P => ?_, ?_, .inr ⟨gg, c, ?_, ?_, ?_, hg3, ?_⟩⟩, ?_⟩
            · have h1 := HK.out.2.1.cn P
              rw [Nat.sub_zero] at h1
              rw [← e1, h1, e1, ← s5 P, HKQ.out.2, s4]
            · rw [← e1]; exact HK.out.2.2
            · rw [← e1]; rfl
            · omega
            · rw [← e1]; exact hg2
            · rw [← e1]; exact HK.out.1.v
            · exact HBL.out.1.trans (HK.out.1.b.mono (by omega))
end
end Go.Proofs.Ytkadinjhfldokaa
