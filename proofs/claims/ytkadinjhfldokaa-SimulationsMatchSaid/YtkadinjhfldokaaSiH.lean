/- Work on machines, the farm's: the next time at which something happens. Conditions: what each theorem names. -/
import Derived.Test.YtkadinjhfldokaaSiD
namespace Go.Proofs.Ytkadinjhfldokaa
open Go Go.RowKit
/-- The least time so far. -/
def leastT (b : Bool) (a n : Int) : Int := if b = true ∧ ¬ n < a then a else n
set_option maxRecDepth 100000 in
theorem take_any (n a : Int) (b : Bool) (pi pa : Nat) (w : World) (h : pi ≠ pa) (hi : Blk w pi [.bool b]) (ha : Blk w pa [.int .i64 a]) :
    Calls Try.prog 37 #[.int .i64 n, .pointer (some ⟨pi, 0, none⟩), .pointer (some ⟨pa, 0, none⟩)] w fun e w' => e = .returned (.tuple #[]) ∧ Blk w' pi [.bool true] ∧ Blk w' pa [.int .i64 (leastT b a n)] ∧ w.heap.size ≤ w'.heap.size ∧ ∀ N, N ≤ pi → N ≤ pa → N ≤ w.heap.size → Below N w w' := by
  have HI := Lib.hid hi; have HA := Lib.hid ha
  have i0 := hi.c 0 _ rfl; have il := hi.lt; have if' := hi.f; have a0 := ha.c 0 _ rfl; have al := ha.lt; have af := ha.f
  have h' := Ne.symm h
  have HL := Lib.hid (show leastT b a n = if b = true ∧ ¬ n < a then a else n from rfl)
  clear hi ha
  cases b with
  | false =>
    have HE := Lib.hid (show leastT false a n = n by rw [HL.out, if_neg (fun h => by cases h.1)])
    go_enter Try.func37, Try.ntmps37
    go_wp2_with fail
    go_end0
    refine ⟨rfl, (HI.out.far _ _ (by simp; omega)).set 0 _, ?_, by simp [World.setCell], fun N h1 h2 h3 => (((Below.refl _ _).setCell (by simpa using h2) _).setCell (by simpa using h1) _)⟩
    rw [HE.out]
    exact (HA.out.set 0 _).far _ _ (by simp; omega)
  | true =>
    by_cases hna : n < a
    · have hd : decide (n < a) = true := decide_eq_true hna
      have HE := Lib.hid (show leastT true a n = n by rw [HL.out, if_neg (fun h => h.2 hna)])
      go_enter Try.func37, Try.ntmps37
      go_wp2_with fail
      go_end0
      refine ⟨rfl, (HI.out.far _ _ (by simp; omega)).set 0 _, ?_, by simp [World.setCell], fun N h1 h2 h3 => (((Below.refl _ _).setCell (by simpa using h2) _).setCell (by simpa using h1) _)⟩
      rw [HE.out]
      exact (HA.out.set 0 _).far _ _ (by simp; omega)
    · have hd : decide (n < a) = false := decide_eq_false hna
      have HE := Lib.hid (show leastT true a n = a by rw [HL.out, if_pos ⟨rfl, hna⟩])
      go_enter Try.func37, Try.ntmps37
      go_wp2_with fail
      go_end0
      exact ⟨rfl, HI.out, by rw [HE.out]; exact HA.out, Nat.le_refl _, fun N _ _ _ => Below.refl _ _⟩
theorem minO_take {b : Bool} {v n : Int} {x : Option Int} (h : x = if b = true then some v else none) : minO x (some n) = some (leastT b v n) := by
  subst h
  cases b with
  | false => rfl
  | true =>
    unfold leastT
    by_cases hn : n < v
    · simp [minO, hn]
    · simp [minO, hn]
theorem minO_none (x : Option Int) : minO x none = x := by cases x <;> rfl
section
variable {w0 : World} {aw : Option Addr} {cw : Nat} {am : Option Addr} {cm : Nat} {D : SimD} {ps gs gf gb b1 : Nat} {S : SimS} {pb : Nat → Nat} {rv : Value}
set_option maxRecDepth 100000 in
set_option maxHeartbeats 6400000 in
theorem next_any (w : World) (h : SimG w0 aw cw am cm D ps gs gf gb b1 w S pb rv) (hW : IsWorks w0 aw D.nw cw D.W) (hM : IsMachines w0 am D.nm cm D.M) (hg : GoodD D) :
    Calls Try.prog 21 #[.pointer (some ⟨ps, 0, none⟩)] w fun e w' => e = .returned (.tuple #[.int .i64 ((nextT D S).getD 0), .bool (nextT D S).isSome]) ∧ Below w.heap.size w w' := by
  have HH := Lib.hid (And.intro h (And.intro hW (And.intro hM hg)))
  have hn2 : D.nm ≤ 64 := hg.mach.1.2
  have HD := Lib.hid (show someB D S = decide (0 ≤ bestW D S.st D.nw) from rfl)
  have HT := Lib.hid (show nextT D S = nextM D S (someB D S) D.nm from rfl)
  obtain ⟨sm, hsm⟩ : ∃ sm, sm = someB D S := ⟨_, rfl⟩
  rw [← hsm] at HD HT
  clear h hW hM hg hsm
  go_enter Try.func21, Try.ntmps21
  go_upto_region 3 with fail
  refine wp_world (fun W hW => ?_)
  have B : Below w.heap.size w W := by rw [hW]; (repeat (first | exact Below.refl _ _ | assumption | (refine Below.setCell ?_ (by first | (simp; done) | (simp; omega) | omega) _) | (refine Below.drew ?_) | (refine below_drewN ?_ _) | (refine Below.alloc ?_ (by first | (simp; done) | (simp; omega) | omega) _) | (refine Below.trans ?_ (Below.mono (by assumption) (by first | (simp; done) | (simp; omega) | omega)))))
  have A0 : Blk W w.heap.size [.int .i64 0] := by rw [hW]; first | exact Blk.new _ _ _ _ rfl | exact (Blk.new _ _ _ _ rfl).alloc _
  have I0 : Blk W (w.heap.size + 1) [.bool false] := by rw [hW]; exact Blk.new _ _ _ _ (by simp)
  have H1 := Lib.hid (And.intro (HH.out.1.past B) (And.intro A0 (And.intro I0 B)))
  clear hW B A0 I0
  have hds := HD.out.symm
  go_upto_region 4 with (first | (go_at_call 18; refine (ready_any _ H1.out.1 HH.out.2.1 HH.out.2.2.2).mono ?_; rintro e w2 ⟨rfl, hb⟩; have H2 := Lib.hid (And.intro (H1.out.1.past hb) (And.intro (H1.out.2.1.past hb) (And.intro (H1.out.2.2.1.past hb) (H1.out.2.2.2.trans (hb.mono H1.out.2.2.2.size))))); clear hb H1))
  have s6 := H2.out.1.kS.c 6 _ rfl; have sl := H2.out.1.kS.lt
  go_wp2_with fail
  clear s6 sl hds
  go_loopw [19] (fun s19 wr => ∃ m : Nat, m ≤ D.nm ∧ s19 = .int .i64 m ∧ ∃ (b : Bool) (v : Int), Blk wr w.heap.size [.int .i64 v] ∧ Blk wr (w.heap.size + 1) [.bool b] ∧ Below w.heap.size w wr ∧ nextM D S sm m = (if b = true then some v else none) ∧ (b = false → v = 0)) (fun s19 _ => D.nm - (intOf s19).toNat)
  case atStart => exact ⟨0, Nat.zero_le _, rfl, false, 0, H2.out.2.1, H2.out.2.2.1, H2.out.2.2.2, rfl, fun _ => rfl⟩
  case round =>
    obtain ⟨m, hm, rfl, b, v, hA, hI, hB, hN, hv⟩ := hrel
    have HR := Lib.hid (And.intro hA (And.intro hI (And.intro hB (And.intro hN hv))))
    have HS := Lib.hid (show nextM D S sm (m + 1) = minO (nextM D S sm m) (nextC D S sm m) from rfl)
    have HC := Lib.hid (show nextC D S sm m = match S.bz m with | some r => some r.to | none => if sm = true ∧ S.now < upAt (D.M m) S.now then some (upAt (D.M m) S.now) else none from rfl)
    have hG := HH.out.1.past hB
    have HG := Lib.hid hG
    clear hA hI hN hv
    by_cases hin : m < D.nm
    · have hini : (m : Int) < (D.nm : Int) := by omega
      have HUA := Lib.hid (fun (wy : World) (hy : Below wr.heap.size wr wy) => upAt_any m wy (HG.out.past hy) HH.out.2.2.1 hin)
      obtain ⟨up, hup⟩ : ∃ up, up = upAt (D.M m) S.now := ⟨_, rfl⟩
      rw [← hup] at HUA HC
      have b0 := hG.kB.c m hin; have bl := hG.kB.lt; have s3 := hG.kS.c 3 _ rfl; have sl := hG.kS.lt
      cases hb : S.bz m with
      | some r =>
        have t1 : bzV S pb m = .pointer (some ⟨pb m, 0, none⟩) := by unfold bzV; rw [hb]
        rw [t1] at b0
        have r3 := (hG.kP m r hin hb).1.c 3 _ rfl; have rl := (hG.kP m r hin hb).1.lt
        have HE := Lib.hid (show nextM D S sm (m + 1) = some (leastT b v r.to) by rw [HS.out, HC.out, hb]; exact minO_take HR.out.2.2.2.1)
        clear hB hG t1 hup HS HC HUA hb
        go_wp2_with (go_at_call 37; refine (take_any _ _ _ _ _ _ (by omega) HR.out.2.1 HR.out.1).mono ?_; rintro e w3 ⟨rfl, hi, ha, hsz, hbb⟩; have HX := Lib.hid (And.intro ha (And.intro hi (HR.out.2.2.1.trans (hbb w.heap.size (by omega) (by omega) HR.out.2.2.1.size)))); clear hi ha hsz hbb b0 bl s3 sl r3 rl)
        go_roundw
        case rel => exact ⟨m + 1, by omega, by go_num, true, leastT b v r.to, HX.out.1, HX.out.2.1, HX.out.2.2, by rw [HE.out]; rfl, fun h => by cases h⟩
        case measure => simp [intOf]; omega
      | none =>
        have t1 : bzV S pb m = .pointer none := by unfold bzV; rw [hb]
        rw [t1] at b0
        have HC2 := Lib.hid (show nextC D S sm m = if sm = true ∧ S.now < up then some up else none by rw [HC.out, hb])
        have UA := Lib.hid (fun (wy : World) (hy : Below wr.heap.size wr wy) => HUA.out wy hy)
        generalize S.now = now at *
        clear hB hG t1 hup HC HUA hb
        cases sm with
        | false =>
          have HE := Lib.hid (show nextM D S false (m + 1) = nextM D S false m by rw [HS.out, HC2.out, if_neg (fun h => by cases h.1), minO_none])
          clear HS HC2
          go_upto_region 9 with fail
          refine wp_region_loose 11 (fun _ _ u => u = .int .i64 up) (by kernel_rfl) (by kernel_rfl) ?_
          simp only [List.take_succ_cons, List.take_zero, List.drop_succ_cons, List.drop_zero]
          iterate 2 (refine loose_wanted rfl (fun K hK => ?_); go_simp; refine hK _ ?_; clear hK K)
          iterate 8 (with_reducible refine loose_skip ?_ ?_; kernel_rfl)
          (refine loose_wanted rfl (fun K hK => ?_); go_simp; refine hK _ ?_; clear hK K)
          refine loose_nil (fun w5 hb5 => ?_)
          have HX := Lib.hid (And.intro (HR.out.1.past hb5) (And.intro (HR.out.2.1.past hb5) (HR.out.2.2.1.trans (hb5.mono HR.out.2.2.1.size))))
          clear hb5 b0 bl s3 sl
          go_wp2_with fail
          go_roundw
          case rel => exact ⟨m + 1, by omega, by go_num, b, v, HX.out.1, HX.out.2.1, HX.out.2.2, by rw [HE.out]; exact HR.out.2.2.2.1, HR.out.2.2.2.2⟩
          case measure => simp [intOf]; omega
        | true =>
          by_cases hnu : now < up
          · have HE := Lib.hid (show nextM D S true (m + 1) = some (leastT b v up) by rw [HS.out, HC2.out, if_pos ⟨rfl, hnu⟩]; exact minO_take HR.out.2.2.2.1)
            clear HS HC2
            go_upto_region 9 with fail
            refine wp_region_loose 11 (fun _ _ u => u = .int .i64 up) (by kernel_rfl) (by kernel_rfl) ?_
            simp only [List.take_succ_cons, List.take_zero, List.drop_succ_cons, List.drop_zero]
            iterate 2 (refine loose_wanted rfl (fun K hK => ?_); go_simp; refine hK _ ?_; clear hK K)
            iterate 2 (with_reducible refine loose_wanted ?_ (fun K hK => ?_); kernel_rfl; go_simp; (with_reducible refine hK _ ?_); clear hK K)
            with_reducible refine loose_wanted ?_ (fun K1 hK => ?_)
            kernel_rfl
            go_simp
            refine ⟨fun p => (UA.out p.w p.h).mono ?_, hK _ ?_⟩
            · rintro e w' ⟨rfl, hb⟩
              exact ⟨_, rfl, by first | rfl | (simp; done), p.h.trans (hb.mono p.h.size)⟩
            clear hK K1
            iterate 5 (with_reducible refine loose_wanted ?_ (fun K hK => ?_); kernel_rfl; go_simp; (with_reducible refine hK _ ?_); clear hK K)
            (refine loose_wanted rfl (fun K hK => ?_); go_simp; refine hK _ ?_; clear hK K)
            refine loose_nil (fun w5 hb5 => ?_)
            have HX := Lib.hid (And.intro (HR.out.1.past hb5) (And.intro (HR.out.2.1.past hb5) (And.intro (HR.out.2.2.1.trans (hb5.mono HR.out.2.2.1.size)) hb5)))
            clear hb5 b0 bl s3 sl
            go_wp2_with (first | (go_at_call 36; refine (UA.out _ HX.out.2.2.2).mono ?_; rintro e w6 ⟨rfl, hb⟩; have HY := Lib.hid (And.intro (HX.out.1.past hb) (And.intro (HX.out.2.1.past hb) (HX.out.2.2.1.trans (hb.mono HX.out.2.2.1.size)))); clear hb) | (go_at_call 37; refine (take_any _ _ _ _ _ _ (by omega) HY.out.2.1 HY.out.1).mono ?_; rintro e w3 ⟨rfl, hi, ha, hsz, hbb⟩; have HZ := Lib.hid (And.intro ha (And.intro hi (HY.out.2.2.trans (hbb w.heap.size (by omega) (by omega) HY.out.2.2.size)))); clear hi ha hsz hbb))
            go_roundw
            case rel => exact ⟨m + 1, by omega, by go_num, true, leastT b v up, HZ.out.1, HZ.out.2.1, HZ.out.2.2, by rw [HE.out]; rfl, fun h => by cases h⟩
            case measure => simp [intOf]; omega
          · have HE := Lib.hid (show nextM D S true (m + 1) = nextM D S true m by rw [HS.out, HC2.out, if_neg (fun h => hnu h.2), minO_none])
            clear HS HC2
            go_upto_region 9 with fail
            refine wp_region_loose 11 (fun _ _ u => u = .int .i64 up) (by kernel_rfl) (by kernel_rfl) ?_
            simp only [List.take_succ_cons, List.take_zero, List.drop_succ_cons, List.drop_zero]
            iterate 2 (refine loose_wanted rfl (fun K hK => ?_); go_simp; refine hK _ ?_; clear hK K)
            iterate 2 (with_reducible refine loose_wanted ?_ (fun K hK => ?_); kernel_rfl; go_simp; (with_reducible refine hK _ ?_); clear hK K)
            with_reducible refine loose_wanted ?_ (fun K1 hK => ?_)
            kernel_rfl
            go_simp
            refine ⟨fun p => (UA.out p.w p.h).mono ?_, hK _ ?_⟩
            · rintro e w' ⟨rfl, hb⟩
              exact ⟨_, rfl, by first | rfl | (simp; done), p.h.trans (hb.mono p.h.size)⟩
            clear hK K1
            iterate 5 (with_reducible refine loose_wanted ?_ (fun K hK => ?_); kernel_rfl; go_simp; (with_reducible refine hK _ ?_); clear hK K)
            (refine loose_wanted rfl (fun K hK => ?_); go_simp; refine hK _ ?_; clear hK K)
            refine loose_nil (fun w5 hb5 => ?_)
            have HX := Lib.hid (And.intro (HR.out.1.past hb5) (And.intro (HR.out.2.1.past hb5) (HR.out.2.2.1.trans (hb5.mono HR.out.2.2.1.size))))
            clear hb5 b0 bl s3 sl
            go_wp2_with fail
            go_roundw
            case rel => exact ⟨m + 1, by omega, by go_num, b, v, HX.out.1, HX.out.2.1, HX.out.2.2, by rw [HE.out]; exact HR.out.2.2.2.1, HR.out.2.2.2.2⟩
            case measure => simp [intOf]; omega
    · have hini : ¬ (m : Int) < (D.nm : Int) := by omega
      have hie : m = D.nm := by omega
      have hE : nextT D S = if b = true then some v else none := by rw [HT.out, ← hie]; exact HR.out.2.2.2.1
      have HE := Lib.hid (show (nextT D S).getD 0 = v ∧ (nextT D S).isSome = b by
        cases b with
        | false => rw [hE]; exact ⟨(HR.out.2.2.2.2 rfl).symm, rfl⟩
        | true => rw [hE]; exact ⟨rfl, rfl⟩)
      clear hE
      have a0 := HR.out.1.c 0 _ rfl; have al := HR.out.1.lt; have i0 := HR.out.2.1.c 0 _ rfl; have il := HR.out.2.1.lt
      clear hG hie hB
      go_upto_region 12 with fail
      go_quiet (fail)
      go_wp2_with fail
      go_ret2
      exact ⟨by rw [HE.out.1, HE.out.2]; rfl, below_drewN HR.out.2.2.1 _⟩
end
end Go.Proofs.Ytkadinjhfldokaa
