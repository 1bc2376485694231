/- FramesOfLevels: the walk of the statement. No condition. -/
import Derived.Test.YthphcnchbogheaaLawTl
import Derived.Test.YthphcnchbogheaaDfE
namespace Go.Proofs.Ythphcnchbogheaa
open Go Go.RowKit
theorem fl_few (x y v h : Int) (a : Option Addr) (n cap : Nat) (w : World) : Calls Try.prog 11 #[.agg #[.int .i64 x, .int .i64 y, .int .i64 v, .int .i64 h, .slice a n cap]] w fun e w' => e = .returned (.bool (decide ((n : Int) ≤ 400))) ∧ Below w.heap.size w w' := by
  go_enter Try.func11, Try.ntmps11
  go_wp2
  go_ret
  refine ⟨rfl, ?_⟩
  (repeat (first | exact Below.refl _ _ | assumption | (refine Below.setCell ?_ (by first | (simp; done) | (simp; omega) | omega) _) | (refine Below.drew ?_) | (refine below_drewN ?_ _) | (refine Below.alloc ?_ (by first | (simp; done) | (simp; omega) | omega) _) | (refine Below.trans ?_ (Below.mono (by assumption) (by first | (simp; done) | (simp; omega) | omega)))))
theorem fl_zero {a b : Int} (h : firstE a b = 0) : a = 0 ∧ b = 0 := by
  unfold firstE at h
  split at h
  · rename_i h0; exact ⟨h0, h⟩
  · rename_i h0; exact absurd h h0
/-- The error of spreading. -/
def dfE (d F : Int) : Int := firstE F (whenE (!inB d 1 16) 3)
theorem Diffuse_no (x y v h d : Int) (a : Option Addr) (n cap : Nat) (w : World) (hE : dfE d (fraErr x y v h n) ≠ 0) :
    Calls Try.prog 5 #[.agg #[.int .i64 x, .int .i64 y, .int .i64 v, .int .i64 h, .slice a n cap], .int .i64 d] w fun e w' => e = .returned (.tuple #[.slice none 0 0, .int .i64 (dfE d (fraErr x y v h n))]) ∧ Below w.heap.size w w' := by
  obtain ⟨F, hF⟩ : ∃ F, F = fraErr x y v h n := ⟨_, rfl⟩
  rw [← hF] at hE ⊢
  have HF := Lib.hid hF
  clear hF
  by_cases h1 : F = 0
  · subst h1
    have e0 : dfE d 0 = whenE (!inB d 1 16) 3 := rfl
    rw [e0] at hE ⊢
    have hd : inB d 1 16 = false := by
      cases h : inB d 1 16
      · rfl
      · rw [h] at hE; exact absurd rfl hE
    rw [hd]
    clear hE e0
    go_enter Try.func5, Try.ntmps5
    go_wp2_with (first | (go_at_call 16; refine (FCheck_any _ _ _ _ _ _ _ _).mono ?_; rintro e w2 ⟨rfl, hb2⟩; rw [← HF.out]; have hs2 := hb2.size) | (go_at_call 17; refine (deep_any _ _).mono ?_; rintro e w' ⟨rfl, rfl⟩))
    refine bodyPost_ret (v := .tuple #[.slice none 0 0, .int .i64 3]) (by simp [results, Try.results5, go_sem]) rfl ⟨rfl, ?_⟩
    (repeat (first | exact Below.refl _ _ | assumption | (refine Below.setCell ?_ (by first | (simp; done) | (simp; omega) | omega) _) | (refine Below.drew ?_) | (refine below_drewN ?_ _) | (refine Below.alloc ?_ (by first | (simp; done) | (simp; omega) | omega) _) | (refine Below.trans ?_ (Below.mono (by assumption) (by first | (simp; done) | (simp; omega) | omega)))))
  · have hb : (F != 0) = true := by simpa using h1
    have e0 : dfE d F = F := firstE_of _ h1
    rw [e0]
    clear hE e0 h1
    go_enter Try.func5, Try.ntmps5
    go_wp2_with (first | (go_at_call 16; refine (FCheck_any _ _ _ _ _ _ _ _).mono ?_; rintro e w2 ⟨rfl, hb2⟩; rw [← HF.out]; have hs2 := hb2.size) | (go_at_call 17; refine (deep_any _ _).mono ?_; rintro e w' ⟨rfl, rfl⟩))
    refine bodyPost_ret (v := .tuple #[.slice none 0 0, .int .i64 F]) (by simp [results, Try.results5, go_sem]) rfl ⟨rfl, ?_⟩
    (repeat (first | exact Below.refl _ _ | assumption | (refine Below.setCell ?_ (by first | (simp; done) | (simp; omega) | omega) _) | (refine Below.drew ?_) | (refine below_drewN ?_ _) | (refine Below.alloc ?_ (by first | (simp; done) | (simp; omega) | omega) _) | (refine Below.trans ?_ (Below.mono (by assumption) (by first | (simp; done) | (simp; omega) | omega)))))
/-- The statement's variable that holds the frame. -/
theorem fl_err (x y v h how s d : Int) (a : Option Addr) (n cap : Nat) (w : World) (hx : -9223372036854775808 ≤ x ∧ x ≤ 9223372036854775807) (hy : -9223372036854775808 ≤ y ∧ y ≤ 9223372036854775807) (hE : dfE d (fraErr x y v h n) ≠ 0) :
    Calls Try.prog 3 #[.agg #[.int .i64 x, .int .i64 y, .int .i64 v, .int .i64 h, .slice a n cap], .int .i64 how, .int .u32 s, .int .i64 d] w fun e w' => e = .returned (.bool true) ∧ Below w.heap.size w w' := by
  have hE2 : levE how d (fraErr x y v h n) ≠ 0 := by
    intro h0
    unfold levE at h0
    obtain ⟨e1, e2⟩ := fl_zero h0
    obtain ⟨e3, e4⟩ := fl_zero e2
    apply hE
    unfold dfE
    rw [e1, e4]
    rfl
  have hL := Lib.hid (fun w' => Levels_no x y v h how s d a n cap w' hE2 : ∀ w', _)
  have hD := Lib.hid (fun w' => Diffuse_no x y v h d a n cap w' hE : ∀ w', _)
  obtain ⟨F, hF⟩ : ∃ F, F = fraErr x y v h n := ⟨_, rfl⟩
  rw [← hF] at hE hE2 hL hD
  obtain ⟨E1, hE1⟩ : ∃ E1, E1 = dfE d F := ⟨_, rfl⟩
  obtain ⟨E2, hE2'⟩ : ∃ E2, E2 = levE how d F := ⟨_, rfl⟩
  rw [← hE1] at hE hD
  rw [← hE2'] at hE2 hL
  have hb1 : (E1 != 0) = true := by simpa using hE
  have hb2 : (E2 != 0) = true := by simpa using hE2
  have HX := Lib.hid (And.intro hx hy); have HF := Lib.hid hF; have HE1 := Lib.hid hE1; have HE2 := Lib.hid hE2'
  clear hE hE2 hF hE1 hE2' hx hy
  go_enter Try.func3, Try.ntmps3
  go_upto_region 1 with fail
  refine wp_world (fun W hW => ?_)
  have A0 : Blk W w.heap.size [.int .i64 x, .int .i64 y, .int .i64 v, .int .i64 h, .slice a n cap] := by rw [hW]; exact Blk.new _ _ _ _ rfl
  have BW : Below w.heap.size w W := by rw [hW]; (repeat (first | exact Below.refl _ _ | assumption | (refine Below.setCell ?_ (by first | (simp; done) | (simp; omega) | omega) _) | (refine Below.drew ?_) | (refine below_drewN ?_ _) | (refine Below.alloc ?_ (by first | (simp; done) | (simp; omega) | omega) _) | (refine Below.trans ?_ (Below.mono (by assumption) (by first | (simp; done) | (simp; omega) | omega)))))
  have H0 := Lib.hid (And.intro A0 BW)
  have a0 := A0.c 0 _ rfl; have a1 := A0.c 1 _ rfl; have a2 := A0.c 2 _ rfl; have a3 := A0.c 3 _ rfl; have a4 := A0.c 4 _ rfl; have al := A0.lt
  clear hW A0 BW
  go_wp2_with fail
  refine (hL.out _).mono ?_
  rintro e w2 ⟨rfl, hb⟩
  have H1 := Lib.hid (And.intro (H0.out.1.past hb) (H0.out.2.trans (hb.mono H0.out.2.size)))
  clear hb a0 a1 a2 a3 a4 al H0
  have a0 := H1.out.1.c 0 _ rfl; have a1 := H1.out.1.c 1 _ rfl; have a2 := H1.out.1.c 2 _ rfl; have a3 := H1.out.1.c 3 _ rfl; have a4 := H1.out.1.c 4 _ rfl; have al := H1.out.1.lt
  go_wp2_with fail
  refine (hD.out _).mono ?_
  rintro e w3 ⟨rfl, hb⟩
  have H2 := Lib.hid (And.intro (H1.out.1.past hb) (H1.out.2.trans (hb.mono H1.out.2.size)))
  clear hb a0 a1 a2 a3 a4 al H1
  have a0 := H2.out.1.c 0 _ rfl; have a1 := H2.out.1.c 1 _ rfl; have a2 := H2.out.1.c 2 _ rfl; have a3 := H2.out.1.c 3 _ rfl; have a4 := H2.out.1.c 4 _ rfl; have al := H2.out.1.lt
  go_upto_region 5 with (first | (go_at_call 7; refine (In_any _ _ _ _).mono ?_; rintro e w' ⟨rfl, rfl⟩) | (go_at_call 6; refine (When_any _ _ _).mono ?_; rintro e w' ⟨rfl, rfl⟩) | (go_at_call 8; refine (FrameError_any _ _ _ _ _ _ _ _ HX.out.1 HX.out.2).mono ?_; rintro e w4 ⟨rfl, hb⟩; rw [← HF.out]; have B4 := Lib.hid (H2.out.2.trans (hb.mono H2.out.2.size)); clear hb a0 a1 a2 a3 a4 al H2))
  go_upto_region 6 with (first | (go_at_call 9; refine (First2_new _ _ _ _ _ (heap_new _ _ _ (by simp))).mono ?_; rintro e w' ⟨rfl, rfl⟩; rw [show firstE F (whenE (!inB d 1 16) 3) = E1 from HE1.out.symm]))
  refine wp_world (fun W5 hW5 => ?_)
  have B5 := Lib.hid (B4.out.trans (show Below w.heap.size w4 W5 by rw [hW5]; have := B4.out.size; (repeat (first | exact Below.refl _ _ | assumption | (refine Below.setCell ?_ (by first | (simp; done) | (simp; omega) | omega) _) | (refine Below.drew ?_) | (refine below_drewN ?_ _) | (refine Below.alloc ?_ (by first | (simp; done) | (simp; omega) | omega) _) | (refine Below.trans ?_ (Below.mono (by assumption) (by first | (simp; done) | (simp; omega) | omega)))))))
  clear hW5 B4
  go_wp2_with (first | (go_at_call 7; refine (In_any _ _ _ _).mono ?_; rintro e w' ⟨rfl, rfl⟩) | (go_at_call 6; refine (When_any _ _ _).mono ?_; rintro e w' ⟨rfl, rfl⟩) | (go_at_call 10; refine (finishes_any _).mono ?_; rintro e w' ⟨n, rfl, rfl⟩) | (go_at_call 9; refine (First3_new _ _ _ _ _ _ (heap_new _ _ _ (by simp))).mono ?_; rintro e w' ⟨rfl, rfl⟩; rw [show firstE F (firstE (whenE (!inB how 0 2) 1) (whenE (!inB d 1 16) 3)) = E2 from HE2.out.symm]))
  go_ret
  have hb5 := B5.out
  have hs5 := hb5.size
  refine ⟨by simp, ?_⟩
  (repeat (first | exact Below.refl _ _ | assumption | (refine Below.setCell ?_ (by first | (simp; done) | (simp; omega) | omega) _) | (refine Below.drew ?_) | (refine below_drewN ?_ _) | (refine Below.alloc ?_ (by first | (simp; done) | (simp; omega) | omega) _) | (refine Below.trans ?_ (Below.mono (by assumption) (by first | (simp; done) | (simp; omega) | omega)))))
/-- A slice of numbers as it is handed on: empty, or n cells that hold Z. -/
structure SlI (W : World) (ua : Option Addr) (un uc n : Nat) (E : Int) (Z : Nat → Int) : Prop where
  no : E ≠ 0 → un = 0
  yes : E = 0 → n = un ∧ ∃ g, ua = some ⟨g, 0, none⟩ ∧ g < W.heap.size ∧ ∀ i, i < n → W.cell? ⟨g, i, none⟩ = some (.int .i64 (Z i))
theorem SlI.past {W V : World} {ua : Option Addr} {un uc n : Nat} {E : Int} {Z : Nat → Int} (k : SlI W ua un uc n E Z) (h : Below W.heap.size W V) : SlI V ua un uc n E Z :=
  ⟨k.no, fun e => by obtain ⟨h1, g, h2, h3, h4⟩ := k.yes e; exact ⟨h1, g, h2, Nat.lt_of_lt_of_le h3 h.size, fun i hi => (h.cell (p := ⟨g, i, none⟩) h3).trans (h4 i hi)⟩⟩
/-- What stands of the statement's variables. -/
structure FlR (w W : World) (La : List Value) (ua : Option Addr) (un uc n : Nat) (E : Int) (Z : Nat → Int) : Prop where
  a : Blk W w.heap.size La
  s : SlI W ua un uc n E Z
  w : Below w.heap.size w W
theorem FlR.past {w W V : World} {La : List Value} {ua : Option Addr} {un uc n : Nat} {E : Int} {Z : Nat → Int} (k : FlR w W La ua un uc n E Z) (h : Below W.heap.size W V) : FlR w V La ua un uc n E Z :=
  ⟨k.a.past h, k.s.past h, k.w.trans (h.mono k.w.size)⟩
theorem lo_cells {w wr : World} {La : List Value} {u : Value} {f : Nat → Int} {n : Nat} (h : LoR w wr La u f n) (h0 : 0 < n) : ∃ (g : Nat) (c : Nat), u = .slice (some ⟨g, 0, none⟩) n c ∧ ∀ i, i < n → wr.cell? ⟨g, 0 + i, none⟩ = some (.int .i64 (f i)) := by
  obtain ⟨g, c, rfl, -, -, -, -⟩ := own_form h.own h0
  have hc := h.own.cells (g := g) rfl
  refine ⟨g, c, rfl, fun i hi => ?_⟩
  have := hc i (.int .i64 (f i)) (by simp [valsI, hi])
  rw [Go.WideShapes.add_plain] at this
  exact this
set_option maxRecDepth 100000 in
set_option maxHeartbeats 6400000 in
theorem fl_yes (x y how s d : Int) (V H b off n cap : Nat) (fs : Nat → Nat) (w : World) (hx : -9223372036854775808 ≤ x ∧ x ≤ 9223372036854775807) (hy : -9223372036854775808 ≤ y ∧ y ≤ 9223372036854775807) (he : fraErr x y (V : Int) (H : Int) n = 0) (hd : 1 ≤ d ∧ d ≤ 16) (hc : Row w b off n fs) :
    Calls Try.prog 3 #[.agg #[.int .i64 x, .int .i64 y, .int .i64 V, .int .i64 H, .slice (some ⟨b, off, none⟩) n cap], .int .i64 how, .int .u32 s, .int .i64 d] w fun e w' => e = .returned (.bool true) ∧ Below w.heap.size w w' := by
  obtain ⟨hr, hl⟩ := fraErr_ok he
  have hn0 : 0 < n := by
    obtain ⟨r1, r2, r3, r4, r5, r6, -⟩ := regErr_ok hr
    have hlt1 : 4 ≤ 4 * (V : Int) * H := by rw [Int.mul_assoc]; omega
    omega
  have hbw : b < w.heap.size := hc.lt hn0
  obtain ⟨h, hh⟩ : ∃ h : Int, h = H := ⟨_, rfl⟩
  obtain ⟨Z, hZ⟩ : ∃ Z : Nat → Int, Z = lvZ how s x y V fs d := ⟨_, rfl⟩
  obtain ⟨E, hE⟩ : ∃ E, E = whenE (!inB how 0 2) 1 := ⟨_, rfl⟩
  have hlev : levE how d 0 = E := by
    show firstE 0 (firstE (whenE (!inB how 0 2) 1) (whenE (!inB d 1 16) 3)) = E
    rw [inB_t hd, hE]
    cases inB how 0 2 <;> rfl
  have hhow : E = 0 → 0 ≤ how ∧ how ≤ 2 := by
    intro h0
    cases hi : inB how 0 2
    · rw [hE, hi] at h0; cases h0
    · exact inB_iff.1 hi
  have hzz : E = 0 → ∀ i, 0 ≤ Z i ∧ Z i ≤ 2 ^ d.toNat - 1 := fun _ i => by rw [hZ]; exact lvZ_in how s x y V fs hd i
  have HLY : Hid (∀ w', Below w.heap.size w w' → Calls Try.prog 4 #[.agg #[.int .i64 x, .int .i64 y, .int .i64 V, .int .i64 H, .slice (some ⟨b, off, none⟩) n cap], .int .i64 how, .int .u32 s, .int .i64 d] w' fun e w'' =>
      ∃ (ua : Option Addr) (un uc : Nat), e = .returned (.tuple #[.slice ua un uc, .int .i64 E]) ∧ SlI w'' ua un uc n E Z ∧ Below w'.heap.size w' w'') := fun w' hb => by
    by_cases h0 : E = 0
    · refine (Levels_yes x y H how s d V b off n cap fs w' he (hhow h0) hd (hc.below hb hbw)).mono ?_
      rintro e w'' ⟨g, rfl, -, hg, hbb⟩
      exact ⟨_, _, _, by rw [h0], ⟨fun h => absurd h0 h, fun _ => ⟨rfl, g, rfl, cell_lt (hg 0 hn0), by rw [hZ]; exact hg⟩⟩, hbb⟩
    · refine (Levels_no x y V H how s d (some ⟨b, off, none⟩) n cap w' (by rw [he, hlev]; exact h0)).mono ?_
      rintro e w'' ⟨rfl, hbb⟩
      exact ⟨_, _, _, by rw [he, hlev], ⟨fun _ => rfl, fun h => absurd h h0⟩, hbb⟩
  have HDY : Hid (∀ w', Below w.heap.size w w' → Calls Try.prog 5 #[.agg #[.int .i64 x, .int .i64 y, .int .i64 V, .int .i64 H, .slice (some ⟨b, off, none⟩) n cap], .int .i64 d] w' fun e w'' =>
      ∃ g, e = .returned (.tuple #[.slice (some ⟨g, 0, none⟩) n n, .int .i64 0]) ∧ w'.heap.size ≤ g ∧ (∀ i, i < n → w''.cell? ⟨g, i, none⟩ = some (.int .i64 (dfZ V H d fs i))) ∧ Below w'.heap.size w' w'') := fun w' hb => Diffuse_yes x y d V H b off n cap fs w' he hd (hc.below hb hbw)
  have HDO : Hid (∀ w', Below w.heap.size w w' → Calls Try.prog 13 #[.agg #[.int .i64 x, .int .i64 y, .int .i64 V, .int .i64 H, .slice (some ⟨b, off, none⟩) n cap], .int .i64 d] w' fun e w'' =>
      ∃ g, e = .returned (.slice (some ⟨g, 0, none⟩) n n) ∧ w'.heap.size ≤ g ∧ (∀ i, i < n → w''.cell? ⟨g, i, none⟩ = some (.int .i64 (dfZ V H d fs i))) ∧ Below w'.heap.size w' w'') := fun w' hb => DiffusedOf_yes x y d V H b off n cap fs w' he hd (hc.below hb hbw)
  have HLO : Hid (∀ w', Below w.heap.size w w' → Calls Try.prog 15 #[.agg #[.int .i64 x, .int .i64 y, .int .i64 V, .int .i64 H, .slice (some ⟨b, off, none⟩) n cap], .int .i64 how, .int .u32 s, .int .i64 d] w' fun e w'' =>
      ∃ (g : Nat) (gc : Nat), e = .returned (.slice (some ⟨g, 0, none⟩) n gc) ∧ (∀ i, i < n → w''.cell? ⟨g, 0 + i, none⟩ = some (.int .i64 (Z i))) ∧ Below w'.heap.size w' w'') := fun w' hb => by
    refine (LevelsOf_yes x y H how s d V b off n cap fs w' he hd (hc.below hb hbw)).mono ?_
    rintro e w'' ⟨u, rfl, hU⟩
    obtain ⟨g, c, rfl, h2⟩ := lo_cells hU hn0
    exact ⟨g, c, rfl, by rw [hZ]; exact h2, hU.bel⟩
  obtain ⟨Zd, hZd⟩ : ∃ Zd : Nat → Int, Zd = dfZ V H d fs := ⟨_, rfl⟩
  rw [← hZd] at HDY HDO
  have hin := inB_t hd
  have hfst : firstE 0 (firstE (whenE (!inB how 0 2) 1) 0) = E := by rw [hE]; cases inB how 0 2 <;> rfl
  have HFS := Lib.hid hfst
  clear hfst
  rw [← hh] at HLY HDY HDO HLO hl hr he ⊢
  have HX := Lib.hid (And.intro hx hy); have HD := Lib.hid hd; have HZ := Lib.hid hZ; have HZZ := Lib.hid hzz; have HFE := Lib.hid (And.intro he (And.intro hr hl)); have HE := Lib.hid hE
  clear hZ hzz he hr hl hc hbw hE hlev hhow hx hy hd hZd hh
  go_enter Try.func3, Try.ntmps3
  go_upto_region 1 with fail
  refine wp_world (fun W hW => ?_)
  have A0 : Blk W w.heap.size [.int .i64 x, .int .i64 y, .int .i64 V, .int .i64 h, .slice (some ⟨b, off, none⟩) n cap] := by rw [hW]; exact Blk.new _ _ _ _ rfl
  have BW : Below w.heap.size w W := by rw [hW]; (repeat (first | exact Below.refl _ _ | assumption | (refine Below.setCell ?_ (by first | (simp; done) | (simp; omega) | omega) _) | (refine Below.drew ?_) | (refine below_drewN ?_ _) | (refine Below.alloc ?_ (by first | (simp; done) | (simp; omega) | omega) _) | (refine Below.trans ?_ (Below.mono (by assumption) (by first | (simp; done) | (simp; omega) | omega)))))
  have H0 := Lib.hid (And.intro A0 BW)
  have f0 := A0.c 0 _ rfl; have f1 := A0.c 1 _ rfl; have f2 := A0.c 2 _ rfl; have f3 := A0.c 3 _ rfl; have f4 := A0.c 4 _ rfl; have fl := A0.lt
  clear hW A0 BW
  go_wp2_with fail
  refine (HLY.out _ H0.out.2).mono ?_
  rintro e w1 ⟨ua, un, uc, rfl, hS, hb⟩
  have H1 := Lib.hid (FlR.mk (H0.out.1.past hb) hS (H0.out.2.trans (hb.mono H0.out.2.size)))
  clear hb hS f0 f1 f2 f3 f4 fl H0 HLY
  have f0 := H1.out.a.c 0 _ rfl; have f1 := H1.out.a.c 1 _ rfl; have f2 := H1.out.a.c 2 _ rfl; have f3 := H1.out.a.c 3 _ rfl; have f4 := H1.out.a.c 4 _ rfl; have fl := H1.out.a.lt
  go_wp2_with fail
  refine (HDY.out _ H1.out.w).mono ?_
  rintro e w2 ⟨gd, rfl, hgd, hcd, hb⟩
  have H2 := Lib.hid (H1.out.past hb)
  have HCD := Lib.hid (And.intro (cell_lt (hcd 0 hn0) : gd < w2.heap.size) hcd)
  clear hb hgd hcd f0 f1 f2 f3 f4 fl H1 HDY
  have f0 := H2.out.a.c 0 _ rfl; have f1 := H2.out.a.c 1 _ rfl; have f2 := H2.out.a.c 2 _ rfl; have f3 := H2.out.a.c 3 _ rfl; have f4 := H2.out.a.c 4 _ rfl; have fl := H2.out.a.lt
  go_upto_region 5 with (first | (go_at_call 7; refine (In_any _ _ _ _).mono ?_; rintro e w' ⟨rfl, rfl⟩) | (go_at_call 6; refine (When_any _ _ _).mono ?_; rintro e w' ⟨rfl, rfl⟩) | (go_at_call 8; refine (FrameError_any _ _ _ _ _ _ _ _ HX.out.1 HX.out.2).mono ?_; rintro e w4 ⟨rfl, hb⟩; rw [HFE.out.1]; have H4 := Lib.hid (H2.out.past hb); have HCD4 := Lib.hid (And.intro (Nat.lt_of_lt_of_le HCD.out.1 hb.size) (fun i hi => (hb.cell (p := ⟨gd, i, none⟩) HCD.out.1).trans (HCD.out.2 i hi) : ∀ i, i < n → w4.cell? ⟨gd, i, none⟩ = some (.int .i64 (Zd i)))); clear hb f0 f1 f2 f3 f4 fl H2 HCD))
  go_upto_region 6 with (first | (go_at_call 9; refine (First2_new _ _ _ _ _ (heap_new _ _ _ (by simp))).mono ?_; rintro e w' ⟨rfl, rfl⟩))
  refine wp_world (fun W5 hW5 => ?_)
  have B5 : Below w4.heap.size w4 W5 := by rw [hW5]; (repeat (first | exact Below.refl _ _ | assumption | (refine Below.setCell ?_ (by first | (simp; done) | (simp; omega) | omega) _) | (refine Below.drew ?_) | (refine below_drewN ?_ _) | (refine Below.alloc ?_ (by first | (simp; done) | (simp; omega) | omega) _) | (refine Below.trans ?_ (Below.mono (by assumption) (by first | (simp; done) | (simp; omega) | omega)))))
  have H5 := Lib.hid (H4.out.past B5)
  have HCD5 := Lib.hid (And.intro (Nat.lt_of_lt_of_le HCD4.out.1 B5.size) (fun i hi => (B5.cell (p := ⟨gd, i, none⟩) HCD4.out.1).trans (HCD4.out.2 i hi) : ∀ i, i < n → W5.cell? ⟨gd, i, none⟩ = some (.int .i64 (Zd i))))
  clear hW5 B5 H4 HCD4
  go_upto_region 9 with (first | (go_at_call 10; refine (finishes_any _).mono ?_; rintro e w6 ⟨m, rfl, hw6⟩; have B6 : Below W5.heap.size W5 w6 := (by rw [hw6]; exact below_drewN (Below.refl _ _) m); have H6 := Lib.hid (H5.out.past B6); have HCD6 := Lib.hid (And.intro (Nat.lt_of_lt_of_le HCD5.out.1 B6.size) (fun i hi => (B6.cell (p := ⟨gd, i, none⟩) HCD5.out.1).trans (HCD5.out.2 i hi) : ∀ i, i < n → w6.cell? ⟨gd, i, none⟩ = some (.int .i64 (Zd i)))); clear hw6 B6 H5 HCD5))
  have f0 := H6.out.a.c 0 _ rfl; have f1 := H6.out.a.c 1 _ rfl; have f2 := H6.out.a.c 2 _ rfl; have f3 := H6.out.a.c 3 _ rfl; have f4 := H6.out.a.c 4 _ rfl; have fl := H6.out.a.lt
  by_cases h4 : (n : Int) ≤ 400
  · go_wp2_with (first | (go_at_call 11; refine (fl_few _ _ _ _ _ _ _ _).mono ?_; rintro e w7 ⟨rfl, hb⟩; rw [decide_eq_true (show (n : Int) ≤ 400 by omega)]; have H7 := Lib.hid (H6.out.past hb); have HCD7 := Lib.hid (And.intro (Nat.lt_of_lt_of_le HCD6.out.1 hb.size) (fun i hi => (hb.cell (p := ⟨gd, i, none⟩) HCD6.out.1).trans (HCD6.out.2 i hi) : ∀ i, i < n → w7.cell? ⟨gd, i, none⟩ = some (.int .i64 (Zd i)))); clear hb f0 f1 f2 f3 f4 fl H6 HCD6; have f0 := H7.out.a.c 0 _ rfl; have f1 := H7.out.a.c 1 _ rfl; have f2 := H7.out.a.c 2 _ rfl; have f3 := H7.out.a.c 3 _ rfl; have f4 := H7.out.a.c 4 _ rfl; have fl := H7.out.a.lt))
    refine (HDO.out _ H7.out.w).mono ?_
    rintro e w8 ⟨g3, rfl, -, hc3, hb⟩
    have H8 := Lib.hid (H7.out.past hb)
    have HCD8 := Lib.hid (And.intro (Nat.lt_of_lt_of_le HCD7.out.1 hb.size) (fun i hi => (hb.cell (p := ⟨gd, i, none⟩) HCD7.out.1).trans (HCD7.out.2 i hi) : ∀ i, i < n → w8.cell? ⟨gd, i, none⟩ = some (.int .i64 (Zd i))))
    have HEQ := Lib.hid (EqI_yes gd 0 g3 0 n n n (some ⟨gd, 0, none⟩) (some ⟨g3, 0, none⟩) Zd w8 (fun _ => rfl) (fun i hi => by rw [Nat.zero_add]; exact HCD8.out.2 i hi) (fun _ => rfl) (fun i hi => by rw [Nat.zero_add]; exact hc3 i hi) (by omega))
    clear hb hc3 f0 f1 f2 f3 f4 fl H7 HCD7
    go_wp2_with fail
    refine (HEQ.out).mono ?_
    rintro e w9 ⟨rfl, hb⟩
    have H9 := Lib.hid (H8.out.past hb)
    clear hb HEQ H8 HCD8
    go_upto_region 12 with (first | (go_at_call 7; refine (In_any _ _ _ _).mono ?_; rintro e w' ⟨rfl, rfl⟩) | (go_at_call 6; refine (When_any _ _ _).mono ?_; rintro e w' ⟨rfl, rfl⟩) | (go_at_call 9; refine (First3_new _ _ _ _ _ _ (heap_new _ _ _ (by simp))).mono ?_; rintro e w' ⟨rfl, rfl⟩; rw [HFS.out]))
    refine wp_world (fun WA hWA => ?_)
    have HA := Lib.hid (H9.out.past (show Below w9.heap.size w9 WA by rw [hWA]; (repeat (first | exact Below.refl _ _ | assumption | (refine Below.setCell ?_ (by first | (simp; done) | (simp; omega) | omega) _) | (refine Below.drew ?_) | (refine below_drewN ?_ _) | (refine Below.alloc ?_ (by first | (simp; done) | (simp; omega) | omega) _) | (refine Below.trans ?_ (Below.mono (by assumption) (by first | (simp; done) | (simp; omega) | omega)))))))
    clear hWA H9
    by_cases hE0 : E = 0
    · subst hE0
      obtain ⟨e1, g1, e2, hg1, hc1⟩ := HA.out.s.yes rfl
      subst e1; subst e2
      have HZ0 : Hid (∀ i, 0 ≤ Z i ∧ Z i ≤ 2 ^ d.toNat - 1) := fun i => HZZ.out (by simp) i
      have HC1 := Lib.hid (And.intro hg1 hc1)
      clear hg1 hc1
      have f0 := HA.out.a.c 0 _ rfl; have f1 := HA.out.a.c 1 _ rfl; have f2 := HA.out.a.c 2 _ rfl; have f3 := HA.out.a.c 3 _ rfl; have f4 := HA.out.a.c 4 _ rfl; have fl := HA.out.a.lt
      go_upto_region 16 with (first | (go_at_call 11; refine (fl_few _ _ _ _ _ _ _ _).mono ?_; rintro e wb ⟨rfl, hb⟩; rw [decide_eq_true (show (n : Int) ≤ 400 by omega)]; have HB := Lib.hid (HA.out.past hb); have HC2 := Lib.hid (fun i hi => (hb.cell (p := ⟨g1, i, none⟩) HC1.out.1).trans (HC1.out.2 i hi) : ∀ i, i < n → wb.cell? ⟨g1, i, none⟩ = some (.int .i64 (Z i))); clear hb f0 f1 f2 f3 f4 fl HA HC1))
      have hgd : ∀ i, i < n → ((List.range n).map Z).getD i 0 = Z i := fun i hi => by simp [hi]
      have HFR := Lib.hid (Frame_upto x y (V : Int) h d g1 0 n uc n ((List.range n).map Z) wb HFE.out.2.1 HD.out HFE.out.2.2 (Nat.le_refl _) (fun h => absurd h (Nat.lt_irrefl _)) (fun i hi => by rw [hgd i hi, Nat.zero_add]; exact HC2.out i hi) (fun i hi => by rw [hgd i hi]; exact HZ0.out i))
      have f0 := HB.out.a.c 0 _ rfl; have f1 := HB.out.a.c 1 _ rfl; have f2 := HB.out.a.c 2 _ rfl; have f3 := HB.out.a.c 3 _ rfl; have f4 := HB.out.a.c 4 _ rfl; have fl := HB.out.a.lt
      go_wp2_with fail
      refine (HFR.out).mono ?_
      rintro e wc (⟨-, g2, rfl, hg2, hcells, hb⟩ | ⟨hlt, -⟩)
      rotate_left
      · exact absurd hlt (Nat.lt_irrefl _)
      have HG2 := Lib.hid (show ∀ i, i < n → wc.cell? ⟨g2, i, none⟩ = some (.float .f32 (valueF (Z i) d)) from fun i hi => by rw [hcells i hi, hgd i hi])
      have HCC := Lib.hid (HB.out.past hb)
      clear hg2 hcells hb hgd HFR HB HC2 f0 f1 f2 f3 f4 fl
      go_upto_region 17 with fail
      refine wp_world (fun WD hWD => ?_)
      have BD : Below wc.heap.size wc WD := by rw [hWD]; (repeat (first | exact Below.refl _ _ | assumption | (refine Below.setCell ?_ (by first | (simp; done) | (simp; omega) | omega) _) | (refine Below.drew ?_) | (refine below_drewN ?_ _) | (refine Below.alloc ?_ (by first | (simp; done) | (simp; omega) | omega) _) | (refine Below.trans ?_ (Below.mono (by assumption) (by first | (simp; done) | (simp; omega) | omega)))))
      have FD : Blk WD wc.heap.size [.int .i64 x, .int .i64 y, .int .i64 V, .int .i64 h, .slice (some ⟨g2, 0, none⟩) n n] := by rw [hWD]; exact Blk.new _ _ _ _ rfl
      have HDD := Lib.hid (HCC.out.past BD)
      have HL2 := Lib.hid (Levels_yes x y h 0 s d V g2 0 n n (fun i => valueF (Z i) d) WD HFE.out.1 (by decide) HD.out (fun i hi => by rw [Nat.zero_add]; exact (BD.cell (p := ⟨g2, i, none⟩) (cell_lt (HG2.out i hi))).trans (HG2.out i hi)))
      have f0 := FD.c 0 _ rfl; have f1 := FD.c 1 _ rfl; have f2 := FD.c 2 _ rfl; have f3 := FD.c 3 _ rfl; have f4 := FD.c 4 _ rfl; have fl := FD.lt
      clear hWD BD FD HCC HG2
      go_wp2_with fail
      refine (HL2.out).mono ?_
      rintro e we ⟨g3, rfl, -, hg3c, hb⟩
      have HEE := Lib.hid (HDD.out.past hb)
      have HG3 := Lib.hid (And.intro (cell_lt (hg3c 0 hn0)) (fun i hi => (by rw [hg3c i hi, tl_back s x y V Z HD.out HZ0.out i]) : ∀ i, i < n → we.cell? ⟨g3, i, none⟩ = some (.int .i64 (Z i))))
      clear hg3c hb f0 f1 f2 f3 f4 fl HL2 HDD
      have f0 := HEE.out.a.c 0 _ rfl; have f1 := HEE.out.a.c 1 _ rfl; have f2 := HEE.out.a.c 2 _ rfl; have f3 := HEE.out.a.c 3 _ rfl; have f4 := HEE.out.a.c 4 _ rfl; have fl := HEE.out.a.lt
      go_wp2_with (first | (go_at_call 15; refine (HLO.out _ HEE.out.w).mono ?_; rintro e wf ⟨g4, gc4, rfl, hg4, hb⟩; have HFF := Lib.hid (HEE.out.past hb); have HG4 := Lib.hid hg4; have HG5 := Lib.hid (And.intro (Nat.lt_of_lt_of_le HG3.out.1 hb.size) (fun i hi => (hb.cell (p := ⟨g3, i, none⟩) HG3.out.1).trans (HG3.out.2 i hi) : ∀ i, i < n → wf.cell? ⟨g3, i, none⟩ = some (.int .i64 (Z i)))); clear hb hg4 f0 f1 f2 f3 f4 fl HEE HG3))
      have HQ1 := Lib.hid (HFF.out.s.yes rfl)
      obtain ⟨-, gq, eq1, hq1, hq2⟩ := HFF.out.s.yes rfl
      obtain rfl : g1 = gq := by cases eq1; rfl
      clear eq1 HQ1
      have HEQ := Lib.hid (EqI_yes g1 0 g4 0 n uc gc4 (some ⟨g1, 0, none⟩) (some ⟨g4, 0, none⟩) Z wf (fun _ => rfl) (fun i hi => by rw [Nat.zero_add]; exact hq2 i hi) (fun _ => rfl) HG4.out (by omega))
      have HQ2 := Lib.hid (And.intro hq1 hq2)
      clear hq1 hq2
      refine (HEQ.out).mono ?_
      rintro e wg ⟨rfl, hb⟩
      have HEQ2 := Lib.hid (EqI_yes g1 0 g3 0 n uc n (some ⟨g1, 0, none⟩) (some ⟨g3, 0, none⟩) Z wg (fun _ => rfl) (fun i hi => by rw [Nat.zero_add]; exact (hb.cell (p := ⟨g1, i, none⟩) HQ2.out.1).trans (HQ2.out.2 i hi)) (fun _ => rfl) (fun i hi => by rw [Nat.zero_add]; exact (hb.cell (p := ⟨g3, i, none⟩) HG5.out.1).trans (HG5.out.2 i hi)) (by omega))
      have HW := Lib.hid (HFF.out.w.trans (hb.mono HFF.out.w.size))
      clear hb HEQ HQ2 HG5 HG4 HFF
      go_wp2_with fail
      refine (HEQ2.out).mono ?_
      rintro e wh ⟨rfl, hb⟩
      have HW2 := Lib.hid (HW.out.trans (hb.mono HW.out.size))
      clear hb HEQ2 HW
      go_wp2_with fail
      go_ret
      exact ⟨by simp, HW2.out⟩
    · obtain rfl := HA.out.s.no hE0
      have hEb : (E != 0) = true := by simpa using hE0
      go_wp2_with fail
      go_ret
      exact ⟨by simp, HA.out.w⟩
  · go_upto_region 11 with (first | (go_at_call 11; refine (fl_few _ _ _ _ _ _ _ _).mono ?_; rintro e w7 ⟨rfl, hb⟩; rw [decide_eq_false (show ¬ (n : Int) ≤ 400 by omega)]; have H9 := Lib.hid (H6.out.past hb); clear hb f0 f1 f2 f3 f4 fl H6 HCD6))
    go_upto_region 12 with (first | (go_at_call 7; refine (In_any _ _ _ _).mono ?_; rintro e w' ⟨rfl, rfl⟩) | (go_at_call 6; refine (When_any _ _ _).mono ?_; rintro e w' ⟨rfl, rfl⟩) | (go_at_call 9; refine (First3_new _ _ _ _ _ _ (heap_new _ _ _ (by simp))).mono ?_; rintro e w' ⟨rfl, rfl⟩; rw [HFS.out]))
    refine wp_world (fun WA hWA => ?_)
    have HA := Lib.hid (H9.out.past (show Below w7.heap.size w7 WA by rw [hWA]; (repeat (first | exact Below.refl _ _ | assumption | (refine Below.setCell ?_ (by first | (simp; done) | (simp; omega) | omega) _) | (refine Below.drew ?_) | (refine below_drewN ?_ _) | (refine Below.alloc ?_ (by first | (simp; done) | (simp; omega) | omega) _) | (refine Below.trans ?_ (Below.mono (by assumption) (by first | (simp; done) | (simp; omega) | omega)))))))
    clear hWA H9
    by_cases hE0 : E = 0
    · subst hE0
      obtain ⟨e1, g1, e2, hg1, hc1⟩ := HA.out.s.yes rfl
      subst e1; subst e2
      have HZ0 : Hid (∀ i, 0 ≤ Z i ∧ Z i ≤ 2 ^ d.toNat - 1) := fun i => HZZ.out (by simp) i
      have HC1 := Lib.hid (And.intro hg1 hc1)
      clear hg1 hc1
      have f0 := HA.out.a.c 0 _ rfl; have f1 := HA.out.a.c 1 _ rfl; have f2 := HA.out.a.c 2 _ rfl; have f3 := HA.out.a.c 3 _ rfl; have f4 := HA.out.a.c 4 _ rfl; have fl := HA.out.a.lt
      go_wp2_with (first | (go_at_call 11; refine (fl_few _ _ _ _ _ _ _ _).mono ?_; rintro e wb ⟨rfl, hb⟩; rw [decide_eq_false (show ¬ (n : Int) ≤ 400 by omega)]; have HB := Lib.hid (HA.out.past hb); clear hb f0 f1 f2 f3 f4 fl HA HC1))
      go_ret
      exact ⟨by simp, HB.out.w⟩
    · obtain rfl := HA.out.s.no hE0
      have hEb : (E != 0) = true := by simpa using hE0
      go_wp2_with fail
      go_ret
      exact ⟨by simp, HA.out.w⟩
theorem fl_walk (x y v h : Int) (a : Option Addr) (n cap : Nat) (fs : Nat → Nat) (how s d : Int) (w : World)
    (hx : IntKind.i64.min ≤ x ∧ x ≤ IntKind.i64.max) (hy : IntKind.i64.min ≤ y ∧ y ≤ IntKind.i64.max) (_ : IntKind.i64.min ≤ v ∧ v ≤ IntKind.i64.max) (_ : IntKind.i64.min ≤ h ∧ h ≤ IntKind.i64.max) (hf : IsFloats w a n cap fs)
    (_ : IntKind.i64.min ≤ how ∧ how ≤ IntKind.i64.max) (_ : IntKind.u32.min ≤ s ∧ s ≤ IntKind.u32.max) (_ : IntKind.i64.min ≤ d ∧ d ≤ IntKind.i64.max) :
    Calls Try.prog 3 #[.agg #[.int .i64 x, .int .i64 y, .int .i64 v, .int .i64 h, .slice a n cap], .int .i64 how, .int .u32 s, .int .i64 d] w fun e w' => e = .returned (.bool true) ∧ Below w.heap.size w w' := by
  by_cases hE : dfE d (fraErr x y v h n) = 0
  · unfold dfE at hE
    obtain ⟨e1, e4⟩ := fl_zero hE
    have hd : 1 ≤ d ∧ d ≤ 16 := by
      cases hi : inB d 1 16
      · rw [hi] at e4; cases e4
      · exact inB_iff.1 hi
    obtain ⟨hr, hl⟩ := fraErr_ok e1
    obtain ⟨r1, r2, r3, r4, r5, r6, -⟩ := regErr_ok hr
    have hlt1 : 4 ≤ 4 * v * h := by rw [Int.mul_assoc]; omega
    obtain ⟨V, rfl⟩ : ∃ V : Nat, v = V := ⟨v.toNat, by omega⟩
    obtain ⟨H, rfl⟩ : ∃ H : Nat, h = H := ⟨h.toNat, by omega⟩
    rcases hf with ⟨hz, -⟩ | ⟨b, off, rfl, -, hcap, hm, hcell⟩
    · omega
    · exact fl_yes x y how s d V H b off n cap fs w hx hy e1 hd (fun i hi => (hcell i (by omega)).1)
  · exact fl_err x y v h how s d a n cap w hx hy hE
end Go.Proofs.Ythphcnchbogheaa
