/- Work on machines, the farm's: the whole, where what is given is right. Conditions: what each theorem names. -/
import Derived.Test.YtkadinjhfldokaaSiI
namespace Go.Proofs.Ytkadinjhfldokaa
open Go Go.RowKit
theorem Insert_nil (f : Value) (w : World) : Calls Try.prog 45 #[.slice none 0 0, .int .i64 0, .int .i64 0, f] w fun e w' => e = .returned (.tuple #[]) ∧ w' = w := by
  go_enter Try.func45, Try.ntmps45
  go_wp2_with fail
  refine wp_loop_rounds 1 ?_
  go_wp2_with (simp only [rounds_succ])
  go_end0
  exact ⟨rfl, rfl⟩
theorem Stable_nil (f : Value) (w : World) : Calls Try.prog 38 #[.slice none 0 0, .int .i64 0, f] w fun e w' => e = .returned (.tuple #[]) ∧ w' = w := by
  go_enter Try.func38, Try.ntmps38
  go_wp2_with fail
  refine wp_loop_rounds 1 ?_
  go_wp2_with (first | (go_at_call 45; refine (Insert_nil _ _).mono ?_; rintro e w' ⟨rfl, rfl⟩) | (simp only [rounds_succ]))
  refine wp_loop_rounds 1 ?_
  go_wp2_with (simp only [rounds_succ])
  go_end0
  exact ⟨rfl, rfl⟩
theorem Sort_nil (f : Value) (w : World) : Calls Try.prog 22 #[.slice none 0 0, f] w fun e w' => e = .returned (.tuple #[]) ∧ w' = w := by
  go_enter Try.func22, Try.ntmps22
  go_wp2_with (first | (go_at_call 38; refine (Stable_nil _ _).mono ?_; rintro e w' ⟨rfl, rfl⟩))
  go_end0
  exact ⟨rfl, rfl⟩
theorem cmF_scp : ∀ {kc : Nat}, kc = 23 → (∀ args w, (callFunc kc args).run Try.prog w = .ok (.enter kc args) w) ∧ (∀ x y, PrR x → PrR y → (cmF x y < 0 ↔ keyR x < keyR y)) ∧ ∀ (x y : RunV) (wr : World), PrR x → PrR y → Calls Try.prog kc #[.agg #[.int .i64 x.wk, .int .i64 x.mc, .int .i64 x.fr, .int .i64 x.to, .bool x.fl], .agg #[.int .i64 y.wk, .int .i64 y.mc, .int .i64 y.fr, .int .i64 y.to, .bool y.fl]] wr fun e w' => e = .returned (.int .i64 (cmF x y)) ∧ Below wr.heap.size wr w' := by
  rintro kc rfl
  exact ⟨fun _ _ => by kernel_rfl, fun x y hx hy => keyR_cmF hx hy, fun x y wr _ _ => cmF_any x y wr⟩
theorem VecV.made' {w : World} {z : Value} {n : Nat} {t : TypeId} {b : Nat} (hb : b = w.heap.size) : VecV (w.alloc (.cells (madeCells #[z] n) t)) b n (fun _ => z) := hb ▸ VecV.made w z n t
theorem VecV.alloc {w : World} {b n : Nat} {f : Nat → Value} (k : VecV w b n f) (o : Obj) : VecV (w.alloc o) b n f := k.past ((Below.refl _ _).alloc (Nat.le_refl _) _)
/-- How many machines are free. -/
def freeN (S : SimS) : Nat → Nat
  | 0 => 0
  | n + 1 => freeN S n + if (S.bz n).isNone then 1 else 0
theorem freeN_le (S : SimS) (n : Nat) : freeN S n ≤ n := by
  induction n with
  | zero => exact Nat.le_refl _
  | succ n ih => unfold freeN; split <;> omega
theorem freeN_begin {D : SimD} {S : SimS} {w m : Nat} (hb : S.bz m = none) {n : Nat} (hm : m < n) : freeN (beginS D S w m) n + 1 = freeN S n := by
  have e : ∀ j, j ≠ m → (beginS D S w m).bz j = S.bz j := fun j hj => updF_ne _ _ hj
  have e0 : (beginS D S w m).bz m = some (newRun D S.now w m) := updF_at _ _ _
  have keep : ∀ k, k ≤ m → freeN (beginS D S w m) k = freeN S k := fun k hk => by
    induction k with
    | zero => rfl
    | succ k ih => unfold freeN; rw [ih (by omega), e k (by omega)]
  induction n with
  | zero => omega
  | succ n ih =>
    unfold freeN
    rcases Nat.lt_or_ge m n with h | h
    · rw [e n (by omega)]; have := ih h; omega
    · obtain rfl : m = n := by omega
      rw [keep m (Nat.le_refl _), e0, hb]; rfl
/-- A call's end: the runs, in order, and no error. -/
def SimRet (D : SimD) (lo : Nat) (e : Ending) (w : World) : Prop := ∃ rv, e = .returned (.tuple #[rv, .int .i64 0]) ∧ SimOut D lo w rv
section
variable {aw : Option Addr} {cw : Nat} {am : Option Addr} {cm : Nat} {D : SimD}
set_option maxRecDepth 100000 in
set_option maxHeartbeats 12800000 in
theorem Simulate_yes (w : World) (hW : IsWorks w aw D.nw cw D.W) (hM : IsMachines w am D.nm cm D.M) (g : GoodD D) :
    Calls Try.prog 5 #[.slice aw D.nw cw, .slice am D.nm cm, .int .i64 D.tr] w fun e w' => SimRet D w.heap.size e w' ∧ Below w.heap.size w w' := by
  have HC := Lib.hid (CheckWork_any aw D.nw cw D.W w hW)
  have HD := Lib.hid (fun w1 (hb : Below w.heap.size w w1) => CheckMachines_any am D.nm cm D.M w1 (hM.below hb))
  rw [g.w] at HC
  rw [g.m] at HD
  have HW := Lib.hid (And.intro hW (And.intro hM g))
  have q1 : ¬ D.tr < 1 := by have := g.t; omega
  have q2 : ¬ 10 < D.tr := by have := g.t; omega
  have hn1 : D.nw ≤ 2000 := g.work.1
  have hn2 : D.nm ≤ 64 := g.mach.1.2
  have hmk : ∀ w : World, (Instr.makeSlice 46 (.int .i64 D.nw) (.int .i64 D.nw)).run Try.prog w = .ok (.slice (some ⟨w.heap.size, 0, none⟩) D.nw D.nw) (w.alloc (.cells (madeCells #[.int .i64 0] D.nw) 3)) := fun w =>
    run_make_row' (P := Try.prog) 46 3 (.int .i64 0) 8 Try.underlying46 (by kernel_rfl) rfl .i64 .i64 D.nw (by omega) (by omega) w
  have hmk2 : ∀ w : World, (Instr.makeSlice 50 (.int .i64 D.nm) (.int .i64 D.nm)).run Try.prog w = .ok (.slice (some ⟨w.heap.size, 0, none⟩) D.nm D.nm) (w.alloc (.cells (madeCells #[.pointer none] D.nm) 72)) := fun w =>
    run_make_row' (P := Try.prog) 50 72 (.pointer none) 8 Try.underlying50 (by kernel_rfl) rfl .i64 .i64 D.nm (by omega) (by omega) w
  clear hW hM g
  go_enter Try.func5, Try.ntmps5
  go_wp2_with fail
  refine (HC.out).mono ?_
  rintro e w1 ⟨rfl, hB⟩
  have HB := Lib.hid hB
  clear hB
  go_wp2_with fail
  refine (HD.out w1 HB.out).mono ?_
  rintro e w2 ⟨rfl, hB⟩
  have HB2 := Lib.hid (HB.out.trans (hB.mono HB.out.size))
  clear hB
  go_upto_region 9 with fail
  go_cut [10] (fun s10 wx => ∃ ps gs gf gb b1, s10 = .pointer (some ⟨ps, 0, none⟩) ∧ SimG w aw cw am cm D ps gs gf gb b1 wx startS (fun _ => 0) (.slice none 0 0) ∧ NeS w ps gs gf gb b1)
  case first =>
    have hz2 := HB2.out.size
    go_region
    all_goals (go_wp2_with fail; go_meet)
    all_goals
      refine ⟨_, _, _, _, w2.heap.size + 4, rfl, ⟨(Blk.new _ _ _ _ (by simp)).past (Below.drew (Below.refl _ _)), ?_, ?_, ?_, fun m r _ h => (by cases h), World.ownsRow_nil _ _ _ _, ?_, ?_⟩, ⟨⟨by omega, by omega, by omega, by omega, by omega, by omega⟩, ⟨by omega, by omega, by omega, by omega⟩, by omega, by omega, by omega, by omega⟩⟩
      · first | (refine ((((VecV.made' ?_).alloc _).alloc _).alloc _).past (Below.drew (Below.refl _ _)); simp; done) | (refine (((VecV.made' ?_).alloc _).alloc _).past (Below.drew (Below.refl _ _)); simp; done) | (refine ((VecV.made' ?_).alloc _).past (Below.drew (Below.refl _ _)); simp; done)
      · first | (refine ((((VecV.made' ?_).alloc _).alloc _).alloc _).past (Below.drew (Below.refl _ _)); simp; done) | (refine (((VecV.made' ?_).alloc _).alloc _).past (Below.drew (Below.refl _ _)); simp; done) | (refine ((VecV.made' ?_).alloc _).past (Below.drew (Below.refl _ _)); simp; done)
      · first | (refine ((((VecV.made' ?_).alloc _).alloc _).alloc _).past (Below.drew (Below.refl _ _)); simp; done) | (refine (((VecV.made' ?_).alloc _).alloc _).past (Below.drew (Below.refl _ _)); simp; done) | (refine ((VecV.made' ?_).alloc _).past (Below.drew (Below.refl _ _)); simp; done)
      · exact HB2.out.trans (Below.mono (by (repeat (first | exact Below.refl _ _ | assumption | (refine Below.setCell ?_ (by first | (simp; done) | (simp; omega) | omega) _) | (refine Below.drew ?_) | (refine below_drewN ?_ _) | (refine Below.alloc ?_ (by first | (simp; done) | (simp; omega) | omega) _) | (refine Below.trans ?_ (Below.mono (by assumption) (by first | (simp; done) | (simp; omega) | omega)))))) hz2)
      · simp
  case rest =>
    obtain ⟨ps, gs, gf, gb, b1, rfl, hS, hne⟩ := hcut
    have HS := Lib.hid hS; have HNE := Lib.hid hne
    clear hS hne hmk hmk2 HC HD HB HB2
    go_wp2_with fail
    go_loopg [11] 23001000003 (fun gk s11 wr => ∃ (S : SimS) (pb : Nat → Nat) (rv : Value), SimG w aw cw am cm D ps gs gf gb b1 wr S pb rv ∧ ((s11 = .bool true ∧ SimR D false S ∧ (23001000001 - S.now).toNat < gk) ∨ (s11 = .bool false ∧ ∃ S0, SimR D true S0 ∧ (bestW D S0.st D.nw < 0 ∨ bestM D S0 D.nm < 0) ∧ nextT D S0 = none ∧ S0.k = S.k ∧ S0.q = S.q)))
    case atStart => exact ⟨startS, _, _, HS.out, .inl ⟨rfl, SimR.start, by show (23001000001 - (0 : Int)).toNat < _; omega⟩⟩
    case round =>
      obtain ⟨S, pb, rv, hG, hrel⟩ := hrel
      have HG := Lib.hid hG
      rcases hrel with ⟨rfl, hR, hgk⟩ | ⟨rfl, S0, hR, hst, hnx, hk, hq⟩
      · have HR := Lib.hid (And.intro hR hgk)
        clear hR hgk hG HS
        have hinv := HR.out.1.inv HW.out.2.2
        have hkl := hinv.kle HW.out.2.2
        go_wp2_with (go_at_call 17; refine (end_any _ HG.out HNE.out HW.out.2.2 (fun m r hm hr => by obtain ⟨-, ⟨n, n1, n2, -⟩, -⟩ := hinv.busy m r hm hr; exact ⟨n, n1, n2⟩) (by omega) (fun i hi => by have h1 := (hinv.st i hi).2.1; have h2 := HW.out.2.2.t; omega)).mono ?_; rintro e w1 ⟨rfl, rv1, h1⟩; have H1 := Lib.hid h1; clear h1)
        have HGK := Lib.hid HR.out.2
        have HE := Lib.hid (And.intro (SimR.ended HR.out.1) (endS_inv D.tr S D.nm).1)
        obtain ⟨now0, hn0⟩ : ∃ now0, now0 = S.now := ⟨_, rfl⟩
        rw [← hn0] at HGK HE
        obtain ⟨S1, hS1⟩ : ∃ S1, S1 = endS D.tr S D.nm := ⟨_, rfl⟩
        rw [← hS1] at HE H1
        clear hinv hkl HR hn0 hS1 HG
        go_loopg [] (D.nm + 1) (fun gk wr => ∃ (S : SimS) (pb : Nat → Nat) (rv : Value), SimG w aw cw am cm D ps gs gf gb b1 wr S pb rv ∧ SimR D true S ∧ S.now = now0 ∧ freeN S D.nm < gk)
        case atStart => exact ⟨S1, _, _, H1.out, HE.out.1, HE.out.2, by have := freeN_le S1 D.nm; omega⟩
        case round =>
          obtain ⟨S, pb, rv, g1, g2, g3, g4⟩ := hrel
          have HGI := Lib.hid (And.intro g1 (And.intro g2 (And.intro g3 g4)))
          have hinv := g2.inv HW.out.2.2
          have hnl := hinv.nowle HW.out.2.2
          have HRD := Lib.hid (fun (wy : World) (hy : Below wr.heap.size wr wy) => ready_any wy (g1.past hy) HW.out.1 HW.out.2.2)
          have HFD := Lib.hid (fun (wy : World) (hy : Below wr.heap.size wr wy) => free_any wy (g1.past hy) HW.out.2.1 HW.out.2.2)
          rcases bestW_in D S.st D.nw with e0 | ⟨wn, e1, e2, e3⟩
          · rw [e0] at HRD
            have hst : bestW D S.st D.nw < 0 ∨ bestM D S D.nm < 0 := .inl (by omega)
            clear e0 g1 g2 g3 g4 hinv hnl HFD
            have HST := Lib.hid (show bestW D S.st D.nw < 0 ∨ bestM D S D.nm < 0 from hst)
            have HNX := Lib.hid (fun (wy : World) (hy : Below wr.heap.size wr wy) => next_any wy (HGI.out.1.past hy) HW.out.1 HW.out.2.1 HW.out.2.2)
            cases hnt : nextT D S with
            | none =>
              rw [hnt] at HNX
              have HNT := Lib.hid hnt
              clear hnt
              go_wp2_with (first | (go_at_call 18; refine (HRD.out _ (by (repeat (first | exact Below.refl _ _ | assumption | (refine Below.setCell ?_ (by first | (simp; done) | (simp; omega) | omega) _) | (refine Below.drew ?_) | (refine below_drewN ?_ _) | (refine Below.alloc ?_ (by first | (simp; done) | (simp; omega) | omega) _) | (refine Below.trans ?_ (Below.mono (by assumption) (by first | (simp; done) | (simp; omega) | omega))))))).mono ?_; rintro e w5 ⟨rfl, hb5⟩; have HB5 := Lib.hid hb5; clear hb5) | (go_at_call 21; refine (HNX.out _ HB5.out).mono ?_; rintro e w7 ⟨rfl, hb7⟩; have HB7 := Lib.hid (HB5.out.trans (hb7.mono HB5.out.size)); clear hb7; have s3 := (HGI.out.1.past HB7.out).kS.c 3 _ rfl; have sl := (HGI.out.1.past HB7.out).kS.lt; have sf := (HGI.out.1.past HB7.out).kS.f))
              go_roundg 0
              case rel => exact ⟨{ S with now := 0 }, pb, rv, (HGI.out.1.past HB7.out).setN HNE.out 0, .inr ⟨rfl, S, HGI.out.2.1, HST.out, HNT.out, rfl, rfl⟩⟩
              case measure => have := HGK.out; omega
            | some t =>
              rw [hnt] at HNX
              have HNT := Lib.hid hnt
              have HTT := Lib.hid (InvS.next HW.out.2.2 (HGI.out.2.1.inv HW.out.2.2) hnt)
              clear hnt
              go_wp2_with (first | (go_at_call 18; refine (HRD.out _ (by (repeat (first | exact Below.refl _ _ | assumption | (refine Below.setCell ?_ (by first | (simp; done) | (simp; omega) | omega) _) | (refine Below.drew ?_) | (refine below_drewN ?_ _) | (refine Below.alloc ?_ (by first | (simp; done) | (simp; omega) | omega) _) | (refine Below.trans ?_ (Below.mono (by assumption) (by first | (simp; done) | (simp; omega) | omega))))))).mono ?_; rintro e w5 ⟨rfl, hb5⟩; have HB5 := Lib.hid hb5; clear hb5) | (go_at_call 21; refine (HNX.out _ HB5.out).mono ?_; rintro e w7 ⟨rfl, hb7⟩; have HB7 := Lib.hid (HB5.out.trans (hb7.mono HB5.out.size)); clear hb7; have s3 := (HGI.out.1.past HB7.out).kS.c 3 _ rfl; have sl := (HGI.out.1.past HB7.out).kS.lt; have sf := (HGI.out.1.past HB7.out).kS.f))
              go_roundg ((23001000001 - t).toNat + 1)
              case rel => exact ⟨{ S with now := t }, pb, rv, (HGI.out.1.past HB7.out).setN HNE.out t, .inl ⟨rfl, SimR.next HGI.out.2.1 HST.out HNT.out, by show (23001000001 - t).toNat < _; omega⟩⟩
              case measure =>
                have h1 := HGK.out
                have h2 := HGI.out.2.2.1
                have h3 := HTT.out.1
                have h4 := (HTT.out.2.nowle HW.out.2.2).2
                have h5 : t ≤ 23001000000 := h4
                omega
          · rw [e1] at HRD
            have hwn : ¬ (wn : Int) < 0 := by omega
            rcases bestM_in D S D.nm with f0 | ⟨mn, f1, f2, f3⟩
            · rw [f0] at HFD
              have hst : bestW D S.st D.nw < 0 ∨ bestM D S D.nm < 0 := .inr (by omega)
              clear e1 e3 f0 g1 g2 g3 g4 hinv hnl
              have HST := Lib.hid (show bestW D S.st D.nw < 0 ∨ bestM D S D.nm < 0 from hst)
              have HNX := Lib.hid (fun (wy : World) (hy : Below wr.heap.size wr wy) => next_any wy (HGI.out.1.past hy) HW.out.1 HW.out.2.1 HW.out.2.2)
              cases hnt : nextT D S with
              | none =>
                rw [hnt] at HNX
                have HNT := Lib.hid hnt
                clear hnt
                go_wp2_with (first | (go_at_call 18; refine (HRD.out _ (by (repeat (first | exact Below.refl _ _ | assumption | (refine Below.setCell ?_ (by first | (simp; done) | (simp; omega) | omega) _) | (refine Below.drew ?_) | (refine below_drewN ?_ _) | (refine Below.alloc ?_ (by first | (simp; done) | (simp; omega) | omega) _) | (refine Below.trans ?_ (Below.mono (by assumption) (by first | (simp; done) | (simp; omega) | omega))))))).mono ?_; rintro e w5 ⟨rfl, hb5⟩; have HB5 := Lib.hid hb5; clear hb5) | (go_at_call 19; refine (HFD.out _ HB5.out).mono ?_; rintro e w6 ⟨rfl, hb6⟩; have HB6 := Lib.hid (HB5.out.trans (hb6.mono HB5.out.size)); clear hb6) | (go_at_call 21; refine (HNX.out _ HB6.out).mono ?_; rintro e w7 ⟨rfl, hb7⟩; have HB7 := Lib.hid (HB6.out.trans (hb7.mono HB6.out.size)); clear hb7; have s3 := (HGI.out.1.past HB7.out).kS.c 3 _ rfl; have sl := (HGI.out.1.past HB7.out).kS.lt; have sf := (HGI.out.1.past HB7.out).kS.f))
                go_roundg 0
                case rel => exact ⟨{ S with now := 0 }, pb, rv, (HGI.out.1.past HB7.out).setN HNE.out 0, .inr ⟨rfl, S, HGI.out.2.1, HST.out, HNT.out, rfl, rfl⟩⟩
                case measure => have := HGK.out; omega
              | some t =>
                rw [hnt] at HNX
                have HNT := Lib.hid hnt
                have HTT := Lib.hid (InvS.next HW.out.2.2 (HGI.out.2.1.inv HW.out.2.2) hnt)
                clear hnt
                go_wp2_with (first | (go_at_call 18; refine (HRD.out _ (by (repeat (first | exact Below.refl _ _ | assumption | (refine Below.setCell ?_ (by first | (simp; done) | (simp; omega) | omega) _) | (refine Below.drew ?_) | (refine below_drewN ?_ _) | (refine Below.alloc ?_ (by first | (simp; done) | (simp; omega) | omega) _) | (refine Below.trans ?_ (Below.mono (by assumption) (by first | (simp; done) | (simp; omega) | omega))))))).mono ?_; rintro e w5 ⟨rfl, hb5⟩; have HB5 := Lib.hid hb5; clear hb5) | (go_at_call 19; refine (HFD.out _ HB5.out).mono ?_; rintro e w6 ⟨rfl, hb6⟩; have HB6 := Lib.hid (HB5.out.trans (hb6.mono HB5.out.size)); clear hb6) | (go_at_call 21; refine (HNX.out _ HB6.out).mono ?_; rintro e w7 ⟨rfl, hb7⟩; have HB7 := Lib.hid (HB6.out.trans (hb7.mono HB6.out.size)); clear hb7; have s3 := (HGI.out.1.past HB7.out).kS.c 3 _ rfl; have sl := (HGI.out.1.past HB7.out).kS.lt; have sf := (HGI.out.1.past HB7.out).kS.f))
                go_roundg ((23001000001 - t).toNat + 1)
                case rel => exact ⟨{ S with now := t }, pb, rv, (HGI.out.1.past HB7.out).setN HNE.out t, .inl ⟨rfl, SimR.next HGI.out.2.1 HST.out HNT.out, by show (23001000001 - t).toNat < _; omega⟩⟩
                case measure =>
                  have h1 := HGK.out
                  have h2 := HGI.out.2.2.1
                  have h3 := HTT.out.1
                  have h4 := (HTT.out.2.nowle HW.out.2.2).2
                  have h5 : t ≤ 23001000000 := h4
                  omega
            · rw [f1] at HFD
              have hmn : ¬ (mn : Int) < 0 := by omega
              have HFR := Lib.hid (And.intro e1 (And.intro f1 (freeB_is f3).1))
              have HBG := Lib.hid (fun (wy : World) (hy : Below wr.heap.size wr wy) => begin_any wn mn wy (g1.past hy) HNE.out HW.out.1 HW.out.2.1 HW.out.2.2 e2 f2 ⟨hnl.1, by omega⟩)
              clear e1 e3 f1 f3 g1 g2 g3 g4 hinv hnl
              go_wp2_with (first | (go_at_call 18; refine (HRD.out _ (by (repeat (first | exact Below.refl _ _ | assumption | (refine Below.setCell ?_ (by first | (simp; done) | (simp; omega) | omega) _) | (refine Below.drew ?_) | (refine below_drewN ?_ _) | (refine Below.alloc ?_ (by first | (simp; done) | (simp; omega) | omega) _) | (refine Below.trans ?_ (Below.mono (by assumption) (by first | (simp; done) | (simp; omega) | omega))))))).mono ?_; rintro e w5 ⟨rfl, hb5⟩; have HB5 := Lib.hid hb5; clear hb5) | (go_at_call 19; refine (HFD.out _ HB5.out).mono ?_; rintro e w6 ⟨rfl, hb6⟩; have HB6 := Lib.hid (HB5.out.trans (hb6.mono HB5.out.size)); clear hb6) | (go_at_call 20; refine (HBG.out _ HB6.out).mono ?_; rintro e w7 ⟨rfl, pr, hb7⟩; have HB7 := Lib.hid hb7; clear hb7))
              go_roundg (freeN (beginS D S wn mn) D.nm + 1)
              case rel => exact ⟨beginS D S wn mn, updF pb mn pr, rv, HB7.out, SimR.given HGI.out.2.1 HFR.out.1 HFR.out.2.1, HGI.out.2.2.1, by omega⟩
              case measure =>
                have h1 := HGI.out.2.2.2
                have h2 := freeN_begin (D := D) (w := wn) HFR.out.2.2 f2
                omega
      · have HR := Lib.hid (And.intro hR (And.intro hst (And.intro hnx (And.intro hk hq))))
        have s7 := hG.kS.c 7 _ rfl; have sl := hG.kS.lt
        have hinv := hR.inv HW.out.2.2
        have hpr : ∀ j, j < S.k → PrR (S.q j) := fun j hj => by
          rw [← hk] at hj
          rw [← hq]
          obtain ⟨⟨n, a1, a2⟩, -, a3, a4, a5⟩ := hinv.done j hj
          have hnl := hinv.nowle HW.out.2.2
          exact ⟨⟨by omega, by omega⟩, ⟨by omega, by omega⟩, by omega, by omega⟩
        have HPR := Lib.hid hpr
        have hkl : S.k ≤ 22000 := by have := hinv.kle HW.out.2.2; omega
        have HO := Lib.hid (own_vecR0 hG.kR)
        have HBL := Lib.hid (And.intro hG.bel (HNE.out.2.2.1))
        clear hR hst hnx hk hq hinv hpr hG HS
        rcases HO.out with ⟨h0, rfl⟩ | ⟨gg, c, rfl, hg1, hg2, hg3, hv⟩
        · go_wp2_with (go_at_call 22; refine (Sort_nil _ _).mono ?_; rintro e w' ⟨rfl, rfl⟩)
          go_ret2
          refine ⟨⟨_, rfl, S0, S0.q, HR.out.1, HR.out.2.1, HR.out.2.2.1, PmR.refl _ _ _, fun i j _ _ hj => ?_, .inl ⟨by have := HR.out.2.2.2.1; omega, rfl⟩⟩, HBL.out.1⟩
          have := HR.out.2.2.2.1
          omega
        · have HV := Lib.hid (And.intro hv (And.intro hg1 (And.intro hg2 hg3)))
          clear hv
          go_wp2_with (go_at_call 22; refine (sortstableR_any PrR cmF keyR _ gg S.k c _ S.q _ (by omega) (Lib.hid (cmF_scp rfl)) ⟨HV.out.1, Below.refl _ _, HPR.out⟩).mono ?_; rintro e w' ⟨rfl, q2, k1, k2, k3⟩; have HK := Lib.hid (And.intro k1 (And.intro k2 k3)); have s7' := (HG.out.kS.below k1.b (by have := HBL.out.2; omega)).c 7 _ rfl; have sl' := (HG.out.kS.below k1.b (by have := HBL.out.2; omega)).lt; clear k1 k2 k3 s7 sl)
          go_ret2
          refine ⟨⟨_, rfl, S0, q2, HR.out.1, HR.out.2.1, HR.out.2.2.1, ?_, ?_, .inr ⟨gg, c, ?_, ?_, ?_, hg3, ?_⟩⟩, ?_⟩
          · rw [HR.out.2.2.2.1, HR.out.2.2.2.2]; exact HK.out.2.1
          · rw [HR.out.2.2.2.1]; exact HK.out.2.2
          · rw [HR.out.2.2.2.1]; rfl
          · have := HNE.out.2.1; have := HNE.out.2.2.1; omega
          · rw [HR.out.2.2.2.1]; exact hg2
          · rw [HR.out.2.2.2.1]; exact HK.out.1.v
          · exact HBL.out.1.trans (HK.out.1.b.mono (by have := HNE.out.2.1; have := HNE.out.2.2.1; omega))
end
end Go.Proofs.Ytkadinjhfldokaa
