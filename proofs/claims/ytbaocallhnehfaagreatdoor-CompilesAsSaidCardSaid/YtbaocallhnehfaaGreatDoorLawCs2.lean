/- dyelaw2.CompilesAsSaid: walked. Conditions: the program can be read; what nodes() needs. -/
import Derived.Test.YtbaocallhnehfaaGreatDoorPsD
import Derived.Test.YtbaocallhnehfaaGreatDoorPsE
import Derived.Test.YtbaocallhnehfaaGreatDoorPrF
import Derived.Test.YtbaocallhnehfaaGreatDoorQE
set_option linter.unusedSimpArgs false
set_option linter.unusedVariables false
namespace Go.Proofs.YtbaocallhnehfaaGreatDoor
open Go Go.RowKit
theorem NodesM.form {X : Nat → Prop} {w : World} {u : Value} {G : List PN} (h : NodesM w X u G) : ∃ a c, u = .slice a G.length c := by obtain ⟨ns, -, ⟨-, a, c, e, -⟩, -⟩ := h; exact ⟨a, c, e⟩
set_option maxRecDepth 100000 in
set_option maxHeartbeats 6400000 in
theorem co_no (a : Option Addr) (c m : Nat) (S : Nat → StepD) (out : ByteArray) (w : World) (hL : LibN w) (h : StepsAt w a c m S) (hout : out.size ≤ maxLen) (hE : pgE m S out.data.toList ≠ 0) :
    Calls Tryz.prog 3 #[.agg #[.slice a m c, .string out]] w fun e w' => e = .returned (.bool true) ∧ Below w.heap.size w w' := by
  have HCO : Hid (∀ w', Below w.heap.size w w' → Calls Tryz.prog 4 #[.agg #[.slice a m c, .string out]] w' fun e w'' => e = .returned (.tuple #[.agg #[.slice none 0 0, .int .i64 0], .int .i64 (pgE m S out.data.toList)]) ∧ Below w'.heap.size w' w'') := Lib.hid (fun w' hb => Compile_no a c m S out w' hout (h.past hb) hE)
  have HPE : Hid (∀ w', Below w.heap.size w w' → Calls Tryz.prog 5 #[.agg #[.slice a m c, .string out]] w' fun e w'' => e = .returned (.int .i64 (pgE m S out.data.toList)) ∧ Below w'.heap.size w' w'') := Lib.hid (fun w' hb => programError_any a c m S out w' hout (h.past hb) (hL.l.past hb))
  have HND : Hid (∀ w', Below w.heap.size w w' → Calls Tryz.prog 6 #[] w' fun e w'' => e = .returned (.bool true) ∧ Below w'.heap.size w' w'') := Lib.hid (fun w' hb => nodes_any w' (hL.past hb))
  obtain ⟨E, hEE⟩ : ∃ E, E = pgE m S out.data.toList := ⟨_, rfl⟩
  rw [← hEE] at HCO HPE hE
  have hE2 : (E != 0) = true := bne_iff_ne.2 hE
  have hE3 : (E == E) = true := by simp
  clear h hL hout hEE
  go_enter Tryz.func3, Tryz.ntmps3
  go_upto_region 1 with fail
  refine wp_world (fun W1 hW1 => ?_)
  obtain ⟨N, hN⟩ : ∃ N, N = w.heap.size := ⟨_, rfl⟩
  have H1 : Hid (Blk W1 N [.slice a m c, .string out] ∧ Below w.heap.size w W1) := Lib.hid (by rw [hW1, hN]; exact ⟨Blk.new _ _ _ _ rfl, by (repeat (first | exact Below.refl _ _ | assumption | (refine Below.setCell ?_ (by first | (simp; done) | (simp; omega) | omega) _) | (refine Below.drew ?_) | (refine below_drewN ?_ _) | (refine Below.alloc ?_ (by first | (simp; done) | (simp; omega) | omega) _) | (refine Below.trans ?_ (Below.mono (by assumption) (by first | (simp; done) | (simp; omega) | omega)))))⟩)
  rw [← hN]
  clear hW1 hN
  have p0 := H1.out.1.c 0 _ rfl; have p1 := H1.out.1.c 1 _ rfl; have pl := H1.out.1.lt
  go_upto_region 2 with (go_at_call 4; refine (HCO.out _ H1.out.2).mono ?_; rintro e w1 ⟨rfl, hb⟩)
  refine wp_world (fun W2 hW2 => ?_)
  obtain ⟨q, hq⟩ : ∃ q, q = w1.heap.size := ⟨_, rfl⟩
  have HZ : Hid (Blk W2 N [.slice a m c, .string out] ∧ Blk W2 q [.slice none 0 0, .int .i64 0] ∧ Below w.heap.size w W2 ∧ NodesM W2 (fun _ => False) (.slice none 0 0) []) := Lib.hid (by
    have hb2 : Below w1.heap.size w1 W2 := by rw [hW2]; (repeat (first | exact Below.refl _ _ | assumption | (refine Below.setCell ?_ (by first | (simp; done) | (simp; omega) | omega) _) | (refine Below.drew ?_) | (refine below_drewN ?_ _) | (refine Below.alloc ?_ (by first | (simp; done) | (simp; omega) | omega) _) | (refine Below.trans ?_ (Below.mono (by assumption) (by first | (simp; done) | (simp; omega) | omega)))))
    refine ⟨(H1.out.1.past hb).past hb2, ?_, (H1.out.2.trans (hb.mono H1.out.2.size)).trans (hb2.mono (Nat.le_trans H1.out.2.size hb.size)), NodesM.nil _ _⟩
    rw [hW2, hq]; exact Blk.new _ _ _ _ rfl)
  rw [← hq]
  clear hW2 hq hb H1 p0 p1 pl
  have p0 := HZ.out.1.c 0 _ rfl
  have p1 := HZ.out.1.c 1 _ rfl
  have pl := HZ.out.1.lt
  have q0 := HZ.out.2.1.c 0 _ rfl
  have q1 := HZ.out.2.1.c 1 _ rfl
  have ql := HZ.out.2.1.lt
  go_wp2_with (first | (go_at_call 5; refine (HPE.out _ HZ.out.2.2.1).mono ?_; rintro e w1 ⟨rfl, hb⟩; have HZ := Lib.hid (And.intro (HZ.out.1.past hb) (And.intro (HZ.out.2.1.past hb) (And.intro (HZ.out.2.2.1.trans (hb.mono HZ.out.2.2.1.size)) (HZ.out.2.2.2.past hb)))); clear hb; clear p0 p1 pl q0 q1 ql; have p0 := HZ.out.1.c 0 _ rfl; have p1 := HZ.out.1.c 1 _ rfl; have pl := HZ.out.1.lt; have q0 := HZ.out.2.1.c 0 _ rfl; have q1 := HZ.out.2.1.c 1 _ rfl; have ql := HZ.out.2.1.lt) | (go_at_call 6; refine (HND.out _ HZ.out.2.2.1).mono ?_; rintro e w1 ⟨rfl, hb⟩; have HZ := Lib.hid (And.intro (HZ.out.1.past hb) (And.intro (HZ.out.2.1.past hb) (And.intro (HZ.out.2.2.1.trans (hb.mono HZ.out.2.2.1.size)) (HZ.out.2.2.2.past hb)))); clear hb; clear p0 p1 pl q0 q1 ql; have p0 := HZ.out.1.c 0 _ rfl; have p1 := HZ.out.1.c 1 _ rfl; have pl := HZ.out.1.lt; have q0 := HZ.out.2.1.c 0 _ rfl; have q1 := HZ.out.2.1.c 1 _ rfl; have ql := HZ.out.2.1.lt))
  go_ret
  exact ⟨rfl, HZ.out.2.2.1⟩
set_option maxRecDepth 100000 in
set_option maxHeartbeats 6400000 in
theorem co_yes (a : Option Addr) (c m jo : Nat) (S : Nat → StepD) (out : ByteArray) (w : World) (hL : LibN w) (h : StepsAt w a c m S) (hout : out.size ≤ maxLen) (hE : pgE m S out.data.toList = 0) (hjo : posS S m out.data.toList = some jo) :
    Calls Tryz.prog 3 #[.agg #[.slice a m c, .string out]] w fun e w' => e = .returned (.bool true) ∧ Below w.heap.size w w' := by
  have hn := pgE_ok hE
  have hok := needP_ok (S := S) (n := m) ⟨hn.2.1, hn.2.2.1, fun j hj => (h.s j hj).kb⟩ m jo ps0 (posS_lt hjo) (posS_lt hjo) ⟨(fun j r h => by cases h), (fun p hp => by unfold ps0 at hp; simp at hp), Nat.zero_le _⟩
  have HPN := Lib.hid hok.ok.g
  have HCO := Lib.hid (fun w' (hb : Below w.heap.size w w') => Compile_yes a c m jo S out w' hout (h.past hb) hE hjo (hL.l.past hb))
  have HCD := Lib.hid (fun w' (hb : Below w.heap.size w w') => compiled_any a c m jo S out w' (h.past hb) hE hjo)
  have HPE : Hid (∀ w', Below w.heap.size w w' → Calls Tryz.prog 5 #[.agg #[.slice a m c, .string out]] w' fun e w'' => e = .returned (.int .i64 0) ∧ Below w'.heap.size w' w'') := Lib.hid (fun w' hb => by rw [← hE]; exact programError_any a c m S out w' hout (h.past hb) (hL.l.past hb))
  have HND : Hid (∀ w', Below w.heap.size w w' → Calls Tryz.prog 6 #[] w' fun e w'' => e = .returned (.bool true) ∧ Below w'.heap.size w' w'') := Lib.hid (fun w' hb => nodes_any w' (hL.past hb))
  obtain ⟨G, hG⟩ : ∃ G, G = (needP S m m ps0 jo).1.G := ⟨_, rfl⟩
  obtain ⟨r, hr⟩ : ∃ r, r = (needP S m m ps0 jo).2 := ⟨_, rfl⟩
  rw [← hG] at HPN
  simp only [← hG, ← hr] at HCO HCD
  have hrr : ((r : Int) == (r : Int)) = true := by simp
  clear h hL hout hE hjo hn hok hG hr
  go_enter Tryz.func3, Tryz.ntmps3
  go_upto_region 1 with fail
  refine wp_world (fun W1 hW1 => ?_)
  obtain ⟨N, hN⟩ : ∃ N, N = w.heap.size := ⟨_, rfl⟩
  have H1 : Hid (Blk W1 N [.slice a m c, .string out] ∧ Below w.heap.size w W1) := Lib.hid (by rw [hW1, hN]; exact ⟨Blk.new _ _ _ _ rfl, by (repeat (first | exact Below.refl _ _ | assumption | (refine Below.setCell ?_ (by first | (simp; done) | (simp; omega) | omega) _) | (refine Below.drew ?_) | (refine below_drewN ?_ _) | (refine Below.alloc ?_ (by first | (simp; done) | (simp; omega) | omega) _) | (refine Below.trans ?_ (Below.mono (by assumption) (by first | (simp; done) | (simp; omega) | omega)))))⟩)
  rw [← hN]
  clear hW1 hN
  have p0 := H1.out.1.c 0 _ rfl; have p1 := H1.out.1.c 1 _ rfl; have pl := H1.out.1.lt
  go_upto_region 2 with (go_at_call 4; refine (HCO.out _ H1.out.2).mono ?_; rintro e w1 ⟨⟨u1, rfl, hgn⟩, hb⟩; obtain ⟨ao, cp, rfl⟩ := hgn.form)
  refine wp_world (fun W2 hW2 => ?_)
  obtain ⟨q, hq⟩ : ∃ q, q = w1.heap.size := ⟨_, rfl⟩
  have HZ : Hid (Blk W2 N [.slice a m c, .string out] ∧ Blk W2 q [.slice ao G.length cp, .int .i64 (r : Int)] ∧ Below w.heap.size w W2 ∧ NodesM W2 (fun _ => False) (.slice ao G.length cp) G) := Lib.hid (by
    have hb2 : Below w1.heap.size w1 W2 := by rw [hW2]; (repeat (first | exact Below.refl _ _ | assumption | (refine Below.setCell ?_ (by first | (simp; done) | (simp; omega) | omega) _) | (refine Below.drew ?_) | (refine below_drewN ?_ _) | (refine Below.alloc ?_ (by first | (simp; done) | (simp; omega) | omega) _) | (refine Below.trans ?_ (Below.mono (by assumption) (by first | (simp; done) | (simp; omega) | omega)))))
    refine ⟨(H1.out.1.past hb).past hb2, ?_, (H1.out.2.trans (hb.mono H1.out.2.size)).trans (hb2.mono (Nat.le_trans H1.out.2.size hb.size)), hgn.past hb2⟩
    rw [hW2, hq]; exact Blk.new _ _ _ _ rfl)
  rw [← hq]
  clear hW2 hq hb H1 p0 p1 pl hgn
  have p0 := HZ.out.1.c 0 _ rfl
  have p1 := HZ.out.1.c 1 _ rfl
  have pl := HZ.out.1.lt
  have q0 := HZ.out.2.1.c 0 _ rfl
  have q1 := HZ.out.2.1.c 1 _ rfl
  have ql := HZ.out.2.1.lt
  go_upto_region 6 with (first | (go_at_call 5; refine (HPE.out _ HZ.out.2.2.1).mono ?_; rintro e w1 ⟨rfl, hb⟩; have HZ := Lib.hid (And.intro (HZ.out.1.past hb) (And.intro (HZ.out.2.1.past hb) (And.intro (HZ.out.2.2.1.trans (hb.mono HZ.out.2.2.1.size)) (HZ.out.2.2.2.past hb)))); clear hb; clear p0 p1 pl q0 q1 ql; have p0 := HZ.out.1.c 0 _ rfl; have p1 := HZ.out.1.c 1 _ rfl; have pl := HZ.out.1.lt; have q0 := HZ.out.2.1.c 0 _ rfl; have q1 := HZ.out.2.1.c 1 _ rfl; have ql := HZ.out.2.1.lt) | (go_at_call 6; refine (HND.out _ HZ.out.2.2.1).mono ?_; rintro e w1 ⟨rfl, hb⟩; have HZ := Lib.hid (And.intro (HZ.out.1.past hb) (And.intro (HZ.out.2.1.past hb) (And.intro (HZ.out.2.2.1.trans (hb.mono HZ.out.2.2.1.size)) (HZ.out.2.2.2.past hb)))); clear hb; clear p0 p1 pl q0 q1 ql; have p0 := HZ.out.1.c 0 _ rfl; have p1 := HZ.out.1.c 1 _ rfl; have pl := HZ.out.1.lt; have q0 := HZ.out.2.1.c 0 _ rfl; have q1 := HZ.out.2.1.c 1 _ rfl; have ql := HZ.out.2.1.lt) | (go_at_call 7; refine (HCD.out _ HZ.out.2.2.1).mono ?_; rintro e w1 ⟨⟨u2, rfl, hgn2⟩, hb⟩; obtain ⟨ao2, cp2, rfl⟩ := hgn2.form; have HZ := Lib.hid (And.intro (HZ.out.1.past hb) (And.intro (HZ.out.2.1.past hb) (And.intro (HZ.out.2.2.1.trans (hb.mono HZ.out.2.2.1.size)) (HZ.out.2.2.2.past hb)))); clear hb; clear p0 p1 pl q0 q1 ql; have p0 := HZ.out.1.c 0 _ rfl; have p1 := HZ.out.1.c 1 _ rfl; have pl := HZ.out.1.lt; have q0 := HZ.out.2.1.c 0 _ rfl; have q1 := HZ.out.2.1.c 1 _ rfl; have ql := HZ.out.2.1.lt))
  refine wp_world (fun W6 hW6 => ?_)
  obtain ⟨q2, hq2⟩ : ∃ q, q = w1.heap.size := ⟨_, rfl⟩
  have H6 : Hid (Blk W6 q [.slice ao G.length cp, .int .i64 (r : Int)] ∧ Blk W6 q2 [.slice ao2 G.length cp2, .int .i64 (r : Int)] ∧ Below w.heap.size w W6 ∧ NodesM W6 (fun _ => False) (.slice ao G.length cp) G ∧ NodesM W6 (fun _ => False) (.slice ao2 G.length cp2) G) := Lib.hid (by
    have hb2 : Below w1.heap.size w1 W6 := by rw [hW6]; (repeat (first | exact Below.refl _ _ | assumption | (refine Below.setCell ?_ (by first | (simp; done) | (simp; omega) | omega) _) | (refine Below.drew ?_) | (refine below_drewN ?_ _) | (refine Below.alloc ?_ (by first | (simp; done) | (simp; omega) | omega) _) | (refine Below.trans ?_ (Below.mono (by assumption) (by first | (simp; done) | (simp; omega) | omega)))))
    refine ⟨HZ.out.2.1.past hb2, ?_, HZ.out.2.2.1.trans (hb2.mono HZ.out.2.2.1.size), HZ.out.2.2.2.past hb2, hgn2.past hb2⟩
    rw [hW6, hq2]; exact Blk.new _ _ _ _ rfl)
  rw [← hq2]
  clear hW6 hq2 hgn2 p0 p1 pl q0 q1 ql HZ
  have q0 := H6.out.1.c 0 _ rfl; have q1 := H6.out.1.c 1 _ rfl; have ql := H6.out.1.lt
  have z0 := H6.out.2.1.c 0 _ rfl; have z1 := H6.out.2.1.c 1 _ rfl; have zl := H6.out.2.1.lt
  go_wp2_with (go_at_call 8; refine (EqNodes G HPN.out _ _ W6 H6.out.2.2.2.1 H6.out.2.2.2.2).mono ?_; rintro e w7 ⟨rfl, hb7⟩)
  go_ret
  exact ⟨rfl, H6.out.2.2.1.trans (hb7.mono H6.out.2.2.1.size)⟩
theorem co_walk (a : Option Addr) (c m : Nat) (S : Nat → StepD) (out : ByteArray) (w : World) (hL : LibN w) (h : StepsAt w a c m S) (hout : out.size ≤ maxLen) :
    Calls Tryz.prog 3 #[.agg #[.slice a m c, .string out]] w fun e w' => e = .returned (.bool true) ∧ Below w.heap.size w w' := by
  by_cases hE : pgE m S out.data.toList = 0
  · obtain ⟨-, -, -, jo, hjo⟩ := pgE_ok hE
    exact co_yes a c m jo S out w hL h hout hE hjo
  · exact co_no a c m S out w hL h hout hE
end Go.Proofs.YtbaocallhnehfaaGreatDoor
