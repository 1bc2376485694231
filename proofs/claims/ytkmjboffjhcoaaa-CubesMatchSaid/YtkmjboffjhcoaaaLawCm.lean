/- CubesMatch: the walk of the statement, whole. No condition. -/
import Derived.Test.YtkmjboffjhcoaaaCmA
import Derived.Test.YtkmjboffjhcoaaaCuQ
namespace Go.Proofs.Ytkmjboffjhcoaaa
open Go.RowKit
/-- What the callees answer. -/
def CmPsi (t l : Nat → Nat) (x : Value) (f : FuncId) (_ : Array Value) (u : Value) : Prop :=
  u = if f = 95 then .agg #[.float .f32 (t 0), .float .f32 (t 1), .float .f32 (t 2), .float .f32 (t 3)] else if f = 96 then .agg #[.float .f32 (l 0), .float .f32 (l 1), .float .f32 (l 2), .float .f32 (l 3)] else if f = 40 then x else .bool true
theorem cm_psiT {t l : Nat → Nat} {x u : Value} {args : Array Value} : CmPsi t l x 95 args u ↔ u = .agg #[.float .f32 (t 0), .float .f32 (t 1), .float .f32 (t 2), .float .f32 (t 3)] := by unfold CmPsi; rw [if_pos rfl]
theorem cm_psiL {t l : Nat → Nat} {x u : Value} {args : Array Value} : CmPsi t l x 96 args u ↔ u = .agg #[.float .f32 (l 0), .float .f32 (l 1), .float .f32 (l 2), .float .f32 (l 3)] := by unfold CmPsi; rw [if_neg (by decide), if_pos rfl]
theorem cm_psiE {t l : Nat → Nat} {x u : Value} {args : Array Value} : CmPsi t l x 40 args u ↔ u = x := by unfold CmPsi; rw [if_neg (by decide), if_neg (by decide), if_pos rfl]
theorem cm_psiS {t l : Nat → Nat} {x u : Value} {args : Array Value} : CmPsi t l x 25 args u ↔ u = .bool true := by unfold CmPsi; rw [if_neg (by decide), if_neg (by decide), if_neg (by decide)]
theorem cm_psiP {t l : Nat → Nat} {x u : Value} {args : Array Value} : CmPsi t l x 45 args u ↔ u = .bool true := by unfold CmPsi; rw [if_neg (by decide), if_neg (by decide), if_neg (by decide)]
theorem cm_psi3 {t l : Nat → Nat} {x u : Value} {args : Array Value} : CmPsi t l x 61 args u ↔ u = .bool true := by unfold CmPsi; rw [if_neg (by decide), if_neg (by decide), if_neg (by decide)]
set_option maxRecDepth 100000 in
set_option maxHeartbeats 8000000 in
theorem cm_yes (S : Nat) (lo hi b off n cap : Nat) (fs : Nat → Nat) (i j k : Int) (p : Nat → Nat) (w : World) (he : cubErr S lo hi n = 0) (hcap : n ≤ cap) (hc : Row w b off n fs) :
    Calls Try.prog 14 #[.agg #[.int .i64 S, .float .f32 lo, .float .f32 hi, .slice (some ⟨b, off, none⟩) n cap], .int .i64 i, .int .i64 j, .int .i64 k, .agg #[.float .f32 (p 0), .float .f32 (p 1), .float .f32 (p 2), .float .f32 (p 3)]] w fun e w' => e = .returned (.bool true) ∧ Below w.heap.size w w' := by
  obtain ⟨hS, hS0, hn, hpos, hnb⟩ := cub_ok_nat he
  have hbw : b < w.heap.size := hc.lt (by omega)
  have HE := Lib.hid he
  have HS := Lib.hid (show 2 ≤ S ∧ S ≤ 17 from ⟨hS0, hS⟩)
  have u : IntKind.i64.wrap ((S : Int) - 1) = (S : Int) - 1 := by rw [IntKind.wrap_i64]; omega
  have HTE : Hid (∀ w', Below w.heap.size w w' → Calls Try.prog 88 #[.agg #[.int .i64 S, .float .f32 lo, .float .f32 hi, .slice (some ⟨b, off, none⟩) n cap], .agg #[.float .f32 (p 0), .float .f32 (p 1), .float .f32 (p 2), .float .f32 (p 3)]] w' fun e w'' => e = .returned (.tuple #[.agg #[.float .f32 (tetF S lo hi fs p 0), .float .f32 (tetF S lo hi fs p 1), .float .f32 (tetF S lo hi fs p 2), .float .f32 (tetF S lo hi fs p 3)], .int .i64 0]) ∧ Below w'.heap.size w' w'') := fun w' hb => Tetra_yes S lo hi b off n cap fs p w' he hcap (hc.below hb hbw)
  have HLI : Hid (∀ w', Below w.heap.size w w' → Calls Try.prog 89 #[.agg #[.int .i64 S, .float .f32 lo, .float .f32 hi, .slice (some ⟨b, off, none⟩) n cap], .agg #[.float .f32 (p 0), .float .f32 (p 1), .float .f32 (p 2), .float .f32 (p 3)]] w' fun e w'' => e = .returned (.tuple #[.agg #[.float .f32 (linF S lo hi fs p 0), .float .f32 (linF S lo hi fs p 1), .float .f32 (linF S lo hi fs p 2), .float .f32 (linF S lo hi fs p 3)], .int .i64 0]) ∧ Below w'.heap.size w' w'') := fun w' hb => Linear_yes S lo hi b off n cap fs p w' he hcap (hc.below hb hbw)
  have HTO : Hid (∀ w', Below w.heap.size w w' → Calls Try.prog 95 #[.agg #[.int .i64 S, .float .f32 lo, .float .f32 hi, .slice (some ⟨b, off, none⟩) n cap], .agg #[.float .f32 (p 0), .float .f32 (p 1), .float .f32 (p 2), .float .f32 (p 3)]] w' fun e w'' => e = .returned (.agg #[.float .f32 (tetF S lo hi fs p 0), .float .f32 (tetF S lo hi fs p 1), .float .f32 (tetF S lo hi fs p 2), .float .f32 (tetF S lo hi fs p 3)]) ∧ Below w'.heap.size w' w'') := fun w' hb => TetraOf_any S lo hi b off n cap fs p w' ⟨hS0, hS⟩ hn (hc.below hb hbw)
  have HLO : Hid (∀ w', Below w.heap.size w w' → Calls Try.prog 96 #[.agg #[.int .i64 S, .float .f32 lo, .float .f32 hi, .slice (some ⟨b, off, none⟩) n cap], .agg #[.float .f32 (p 0), .float .f32 (p 1), .float .f32 (p 2), .float .f32 (p 3)]] w' fun e w'' => e = .returned (.agg #[.float .f32 (linF S lo hi fs p 0), .float .f32 (linF S lo hi fs p 1), .float .f32 (linF S lo hi fs p 2), .float .f32 (linF S lo hi fs p 3)]) ∧ Below w'.heap.size w' w'') := fun w' hb => LinearOf_any S lo hi b off n cap fs p w' ⟨hS0, hS⟩ hn (hc.below hb hbw)
  obtain ⟨x0, x1, x2, er, hen, hxr⟩ : ∃ (x0 x1 x2 : Nat) (er : Int), (∀ w', Below w.heap.size w w' → Calls Try.prog 91 #[.agg #[.int .i64 S, .float .f32 lo, .float .f32 hi, .slice (some ⟨b, off, none⟩) n cap], .int .i64 i, .int .i64 j, .int .i64 k] w' fun e w'' => e = .returned (.tuple #[.agg #[.float .f32 x0, .float .f32 x1, .float .f32 x2], .int .i64 er]) ∧ Below w'.heap.size w' w'') ∧
      ((er = 0 ∧ (inB i 0 ((S : Int) - 1) = true ∧ inB j 0 ((S : Int) - 1) = true ∧ inB k 0 ((S : Int) - 1) = true) ∧ ∀ w', Below w.heap.size w w' → Calls Try.prog 40 #[.agg #[.int .i64 S, .float .f32 lo, .float .f32 hi, .slice (some ⟨b, off, none⟩) n cap], .int .i64 i, .int .i64 j, .int .i64 k] w' fun e w'' => e = .returned (.agg #[.float .f32 x0, .float .f32 x1, .float .f32 x2]) ∧ Below w'.heap.size w' w'') ∨
       (er = 5 ∧ (inB i 0 ((S : Int) - 1) = false ∨ inB j 0 ((S : Int) - 1) = false ∨ inB k 0 ((S : Int) - 1) = false) ∧ x0 = 0 ∧ x1 = 0 ∧ x2 = 0)) := by
    by_cases hx : (0 ≤ i ∧ i < S) ∧ (0 ≤ j ∧ j < S) ∧ (0 ≤ k ∧ k < S)
    · obtain ⟨I, rfl⟩ : ∃ I : Nat, i = I := ⟨i.toNat, by omega⟩
      obtain ⟨J, rfl⟩ : ∃ I : Nat, j = I := ⟨j.toNat, by omega⟩
      obtain ⟨K, rfl⟩ : ∃ I : Nat, k = I := ⟨k.toNat, by omega⟩
      exact ⟨_, _, _, _, fun w' hb => Entry_yes S I J K lo hi b off n cap fs w' he (by omega) (by omega) (by omega) hcap (hc.below hb hbw), .inl ⟨rfl, ⟨inB_t (by omega), inB_t (by omega), inB_t (by omega)⟩, fun w' hb => EntryOf_any S I J K lo hi b off n cap fs w' hS (by omega) (by omega) (by omega) hn (hc.below hb hbw)⟩⟩
    · refine ⟨_, _, _, _, fun w' hb => Entry_out S lo hi _ n cap i j k w' he hx, .inr ⟨rfl, ?_, rfl, rfl, rfl⟩⟩
      by_cases h1 : 0 ≤ i ∧ i < S
      · by_cases h2 : 0 ≤ j ∧ j < S
        · exact .inr (.inr (inB_f (by omega)))
        · exact .inr (.inl (inB_f (by omega)))
      · exact .inl (inB_f (by omega))
  have HEN := Lib.hid hen
  have HXR := Lib.hid hxr
  clear he hcap hc hS hS0 hn hpos hnb hbw hen hxr
  go_enter Try.func14, Try.ntmps14
  go_upto_region 1 with fail
  refine wp_world (fun W hW => ?_)
  have CB : Blk W w.heap.size [.int .i64 S, .float .f32 lo, .float .f32 hi, .slice (some ⟨b, off, none⟩) n cap] := by rw [hW]; exact (Blk.new _ _ _ _ rfl).alloc _
  have PB : VecF W (w.heap.size + 1) 4 p := by rw [hW]; exact VecF.of4 (Blk.new _ _ _ _ (by simp))
  have BW : Below w.heap.size w W := by rw [hW]; (repeat (first | exact Below.refl _ _ | assumption | (refine Below.setCell ?_ (by first | (simp; done) | (simp; omega) | omega) _) | (refine Below.drew ?_) | (refine below_drewN ?_ _) | (refine Below.alloc ?_ (by first | (simp; done) | (simp; omega) | omega) _) | (refine Below.trans ?_ (Below.mono (by assumption) (by first | (simp; done) | (simp; omega) | omega)))))
  have HR : Hid (CmR w W [.int .i64 S, .float .f32 lo, .float .f32 hi, .slice (some ⟨b, off, none⟩) n cap] p) := ⟨CB, PB, BW⟩
  clear hW CB PB BW
  have c0 := HR.out.c.c 0 _ rfl; have c1 := HR.out.c.c 1 _ rfl; have c2 := HR.out.c.c 2 _ rfl; have c3 := HR.out.c.c 3 _ rfl; have cl := HR.out.c.lt
  have p0 := HR.out.p.c 0 (by omega); have p1 := HR.out.p.c 1 (by omega); have p2 := HR.out.p.c 2 (by omega); have p3 := HR.out.p.c 3 (by omega); have pl := HR.out.p.lt
  go_wp2_with fail
  refine (CubeError_any _ _ _ _ _ _ _).mono ?_
  rintro e w1 ⟨rfl, hb1⟩
  rw [HE.out]
  have HR1 := Lib.hid (HR.out.past hb1)
  clear hb1 HR c0 c1 c2 c3 cl p0 p1 p2 p3 pl
  have c0 := HR1.out.c.c 0 _ rfl; have c1 := HR1.out.c.c 1 _ rfl; have c2 := HR1.out.c.c 2 _ rfl; have c3 := HR1.out.c.c 3 _ rfl; have cl := HR1.out.c.lt
  have p0 := HR1.out.p.c 0 (by omega); have p1 := HR1.out.p.c 1 (by omega); have p2 := HR1.out.p.c 2 (by omega); have p3 := HR1.out.p.c 3 (by omega); have pl := HR1.out.p.lt
  go_wp2_with fail
  refine (HEN.out _ HR1.out.b).mono ?_
  rintro e w2 ⟨rfl, hb2⟩
  have HR2 := Lib.hid (HR1.out.past hb2)
  clear hb2 HR1 c0 c1 c2 c3 cl p0 p1 p2 p3 pl
  go_upto_region 3 with fail
  refine wp_world (fun W3 hW3 => ?_)
  have XB : Blk W3 w2.heap.size [.float .f32 x0, .float .f32 x1, .float .f32 x2] := by rw [hW3]; exact Blk.new _ _ _ _ rfl
  have B3 : Below w2.heap.size w2 W3 := by rw [hW3]; (repeat (first | exact Below.refl _ _ | assumption | (refine Below.setCell ?_ (by first | (simp; done) | (simp; omega) | omega) _) | (refine Below.drew ?_) | (refine below_drewN ?_ _) | (refine Below.alloc ?_ (by first | (simp; done) | (simp; omega) | omega) _) | (refine Below.trans ?_ (Below.mono (by assumption) (by first | (simp; done) | (simp; omega) | omega)))))
  have HR3 := Lib.hid (HR2.out.past B3); have HX3 := Lib.hid XB
  clear hW3 XB B3 HR2
  generalize w2.heap.size = nx at *
  have c0 := HR3.out.c.c 0 _ rfl; have c1 := HR3.out.c.c 1 _ rfl; have c2 := HR3.out.c.c 2 _ rfl; have c3 := HR3.out.c.c 3 _ rfl; have cl := HR3.out.c.lt
  have p0 := HR3.out.p.c 0 (by omega); have p1 := HR3.out.p.c 1 (by omega); have p2 := HR3.out.p.c 2 (by omega); have p3 := HR3.out.p.c 3 (by omega); have pl := HR3.out.p.lt
  go_wp2_with fail
  refine (HTE.out _ HR3.out.b).mono ?_
  rintro e w4 ⟨rfl, hb4⟩
  have HR4 := Lib.hid (HR3.out.past hb4); have HX4 := Lib.hid (HX3.out.past hb4)
  clear hb4 HR3 HX3 c0 c1 c2 c3 cl p0 p1 p2 p3 pl
  go_upto_region 4 with fail
  refine wp_world (fun W5 hW5 => ?_)
  have TB : Blk W5 w4.heap.size [.float .f32 (tetF S lo hi fs p 0), .float .f32 (tetF S lo hi fs p 1), .float .f32 (tetF S lo hi fs p 2), .float .f32 (tetF S lo hi fs p 3)] := by rw [hW5]; exact Blk.new _ _ _ _ rfl
  have B5 : Below w4.heap.size w4 W5 := by rw [hW5]; (repeat (first | exact Below.refl _ _ | assumption | (refine Below.setCell ?_ (by first | (simp; done) | (simp; omega) | omega) _) | (refine Below.drew ?_) | (refine below_drewN ?_ _) | (refine Below.alloc ?_ (by first | (simp; done) | (simp; omega) | omega) _) | (refine Below.trans ?_ (Below.mono (by assumption) (by first | (simp; done) | (simp; omega) | omega)))))
  have HR5 := Lib.hid (HR4.out.past B5); have HX5 := Lib.hid (HX4.out.past B5); have HT5 := Lib.hid TB
  clear hW5 TB B5 HR4 HX4
  generalize w4.heap.size = nt at *
  have c0 := HR5.out.c.c 0 _ rfl; have c1 := HR5.out.c.c 1 _ rfl; have c2 := HR5.out.c.c 2 _ rfl; have c3 := HR5.out.c.c 3 _ rfl; have cl := HR5.out.c.lt
  have p0 := HR5.out.p.c 0 (by omega); have p1 := HR5.out.p.c 1 (by omega); have p2 := HR5.out.p.c 2 (by omega); have p3 := HR5.out.p.c 3 (by omega); have pl := HR5.out.p.lt
  go_wp2_with fail
  refine (HLI.out _ HR5.out.b).mono ?_
  rintro e w6 ⟨rfl, hb6⟩
  have HR6 := Lib.hid (HR5.out.past hb6); have HX6 := Lib.hid (HX5.out.past hb6); have HT6 := Lib.hid (HT5.out.past hb6)
  clear hb6 HR5 HX5 HT5 c0 c1 c2 c3 cl p0 p1 p2 p3 pl
  go_upto_region 5 with fail
  refine wp_world (fun W7 hW7 => ?_)
  have LB : Blk W7 w6.heap.size [.float .f32 (linF S lo hi fs p 0), .float .f32 (linF S lo hi fs p 1), .float .f32 (linF S lo hi fs p 2), .float .f32 (linF S lo hi fs p 3)] := by rw [hW7]; exact Blk.new _ _ _ _ rfl
  have B7 : Below w6.heap.size w6 W7 := by rw [hW7]; (repeat (first | exact Below.refl _ _ | assumption | (refine Below.setCell ?_ (by first | (simp; done) | (simp; omega) | omega) _) | (refine Below.drew ?_) | (refine below_drewN ?_ _) | (refine Below.alloc ?_ (by first | (simp; done) | (simp; omega) | omega) _) | (refine Below.trans ?_ (Below.mono (by assumption) (by first | (simp; done) | (simp; omega) | omega)))))
  have HR7 := Lib.hid (HR6.out.past B7); have HX7 := Lib.hid (HX6.out.past B7); have HT7 := Lib.hid (HT6.out.past B7); have HL7 := Lib.hid LB
  clear hW7 LB B7 HR6 HX6 HT6
  generalize w6.heap.size = nl at *
  have c0 := HR7.out.c.c 0 _ rfl; have c1 := HR7.out.c.c 1 _ rfl; have c2 := HR7.out.c.c 2 _ rfl; have c3 := HR7.out.c.c 3 _ rfl; have cl := HR7.out.c.lt
  have p0 := HR7.out.p.c 0 (by omega); have p1 := HR7.out.p.c 1 (by omega); have p2 := HR7.out.p.c 2 (by omega); have p3 := HR7.out.p.c 3 (by omega); have pl := HR7.out.p.lt
  go_wp2_with fail
  refine (Place_yes _ _ _ _ _ _ _ _ HE.out).mono ?_
  rintro e w8 ⟨rfl, hb8⟩
  have HR8 := Lib.hid (HR7.out.past hb8); have HX8 := Lib.hid (HX7.out.past hb8); have HT8 := Lib.hid (HT7.out.past hb8); have HL8 := Lib.hid (HL7.out.past hb8)
  clear hb8 HR7 HX7 HT7 HL7 c0 c1 c2 c3 cl p0 p1 p2 p3 pl
  have HT9 := HT8; have HL9 := HL8; have HX9 := HX8
  go_wp2_with fail
  refine (cubes_any _).mono ?_
  rintro e w9 ⟨rfl, hb9⟩
  have HRa := Lib.hid (HR8.out.past hb9); have HXa := Lib.hid (HX8.out.past hb9); have HTa := Lib.hid (HT8.out.past hb9); have HLa := Lib.hid (HL8.out.past hb9)
  clear hb9 HR8 HX8 HT8 HL8 HX9 HT9 HL9
  have c0 := HRa.out.c.c 0 _ rfl; have c1 := HRa.out.c.c 1 _ rfl; have c2 := HRa.out.c.c 2 _ rfl; have c3 := HRa.out.c.c 3 _ rfl; have cl := HRa.out.c.lt
  have p0 := HRa.out.p.c 0 (by omega); have p1 := HRa.out.p.c 1 (by omega); have p2 := HRa.out.p.c 2 (by omega); have p3 := HRa.out.p.c 3 (by omega); have pl := HRa.out.p.lt
  go_wp2_with fail
  refine (CuCheck_any _ _ _ _ _ _ _).mono ?_
  rintro e wb ⟨rfl, hbb⟩
  rw [HE.out]
  have HRb := Lib.hid (HRa.out.past hbb); have HXb := Lib.hid (HXa.out.past hbb); have HTb := Lib.hid (HTa.out.past hbb); have HLb := Lib.hid (HLa.out.past hbb)
  clear hbb HRa HXa HTa HLa c0 c1 c2 c3 cl p0 p1 p2 p3 pl
  obtain ⟨ok, hok⟩ : ∃ ok, ok = (inB i 0 ((S : Int) - 1) && inB j 0 ((S : Int) - 1) && inB k 0 ((S : Int) - 1)) := ⟨_, rfl⟩
  have HOK := Lib.hid hok
  clear hok
  have c0 := HRb.out.c.c 0 _ rfl; have cl := HRb.out.c.lt
  go_upto_region 8 with fail
  go_cut [129] (fun s129 wx => s129 = .bool (!ok) ∧ Below wb.heap.size wb wx)
  case first =>
    cases a1 : inB i 0 ((S : Int) - 1)
    case false =>
      go_wp2_with (first | (go_at_call 22; refine (In_any _ _ _ _).mono ?_; rintro e w' ⟨rfl, rfl⟩))
      go_meet
      exact ⟨by rw [HOK.out, a1]; rfl, by (repeat (first | exact Below.refl _ _ | assumption | (refine Below.setCell ?_ (by first | (simp; done) | (simp; omega) | omega) _) | (refine Below.drew ?_) | (refine below_drewN ?_ _) | (refine Below.alloc ?_ (by first | (simp; done) | (simp; omega) | omega) _) | (refine Below.trans ?_ (Below.mono (by assumption) (by first | (simp; done) | (simp; omega) | omega)))))⟩
    case true =>
      cases a2 : inB j 0 ((S : Int) - 1)
      case false =>
        go_wp2_with (first | (go_at_call 22; refine (In_any _ _ _ _).mono ?_; rintro e w' ⟨rfl, rfl⟩))
        go_meet
        exact ⟨by rw [HOK.out, a1, a2]; rfl, by (repeat (first | exact Below.refl _ _ | assumption | (refine Below.setCell ?_ (by first | (simp; done) | (simp; omega) | omega) _) | (refine Below.drew ?_) | (refine below_drewN ?_ _) | (refine Below.alloc ?_ (by first | (simp; done) | (simp; omega) | omega) _) | (refine Below.trans ?_ (Below.mono (by assumption) (by first | (simp; done) | (simp; omega) | omega)))))⟩
      case true =>
        cases a3 : inB k 0 ((S : Int) - 1)
        all_goals
          go_wp2_with (first | (go_at_call 22; refine (In_any _ _ _ _).mono ?_; rintro e w' ⟨rfl, rfl⟩))
          go_meet
          exact ⟨by rw [HOK.out, a1, a2, a3]; rfl, by (repeat (first | exact Below.refl _ _ | assumption | (refine Below.setCell ?_ (by first | (simp; done) | (simp; omega) | omega) _) | (refine Below.drew ?_) | (refine below_drewN ?_ _) | (refine Below.alloc ?_ (by first | (simp; done) | (simp; omega) | omega) _) | (refine Below.trans ?_ (Below.mono (by assumption) (by first | (simp; done) | (simp; omega) | omega)))))⟩
  case rest =>
    obtain ⟨rfl, hB⟩ := hcut
    clear c0 cl
    have HRv := Lib.hid (HRb.out.past hB); have HTv := Lib.hid (HTb.out.past hB); have HLv := Lib.hid (HLb.out.past hB); have HXv := Lib.hid (HXb.out.past hB)
    clear hB HRb HXb HTb HLb
    have c0 := HRv.out.c.c 0 _ rfl; have cl := HRv.out.c.lt
    have y0 := HXv.out.c 0 _ rfl; have y1 := HXv.out.c 1 _ rfl; have y2 := HXv.out.c 2 _ rfl; have yl := HXv.out.lt
    rcases HXR.out with ⟨rfl, ⟨i1, i2, i3⟩, hEN⟩ | ⟨rfl, hi', rfl, rfl, rfl⟩
    · have hok : ok = true := by rw [HOK.out, i1, i2, i3]; rfl
      subst hok
      have c1 := HRv.out.c.c 1 _ rfl; have c2 := HRv.out.c.c 2 _ rfl; have c3 := HRv.out.c.c 3 _ rfl
      have HEO := Lib.hid hEN
      clear hEN i1 i2 i3
      go_wp2_with fail
      refine wp_region_loose 11 (CmPsi (tetF S lo hi fs p) (linF S lo hi fs p) (.agg #[.float .f32 x0, .float .f32 x1, .float .f32 x2])) (by kernel_rfl) (by kernel_rfl) ?_
      simp only [List.take_succ_cons, List.take_zero, List.drop_succ_cons, List.drop_zero]
      iterate 8 (refine loose_wanted rfl (fun K hK => ?_); go_simp; refine hK _ ?_; clear hK K)
      refine loose_wanted rfl (fun K1 hK => ?_)
      go_simp
      refine ⟨fun p => (HEO.out _ (HRv.out.b.trans (p.h.mono HRv.out.b.size))).mono ?_, ?_⟩
      · rintro e w' ⟨rfl, hb⟩
        exact ⟨_, rfl, cm_psiE.2 rfl, p.h.trans (hb.mono p.h.size)⟩
      intro z hz
      obtain rfl := cm_psiE.1 hz
      refine hK _ ?_
      clear hK K1 hz
      refine loose_wanted rfl (fun K1 hK => ?_)
      go_simp
      refine ⟨fun p => (sameThree_any _ _ _ _ _ _ p.w).mono ?_, ?_⟩
      · rintro e w' ⟨rfl, hb⟩
        exact ⟨_, rfl, cm_psi3.2 (by simp), p.h.trans (hb.mono p.h.size)⟩
      intro z hz
      obtain rfl := cm_psi3.1 hz
      refine hK _ ?_
      clear hK K1 hz
      iterate 1 (refine loose_wanted rfl (fun K hK => ?_); go_simp; refine hK _ ?_; clear hK K)
      refine loose_nil (fun wq hbq => ?_)
      have HRc := Lib.hid (HRv.out.past hbq); have HTc := Lib.hid (HTv.out.past hbq); have HLc := Lib.hid (HLv.out.past hbq)
      clear hbq HRv HTv HLv HXv c0 c1 c2 c3 cl y0 y1 y2 yl
      have c0 := HRc.out.c.c 0 _ rfl; have c1 := HRc.out.c.c 1 _ rfl; have c2 := HRc.out.c.c 2 _ rfl; have c3 := HRc.out.c.c 3 _ rfl; have cl := HRc.out.c.lt
      have p0 := HRc.out.p.c 0 (by omega); have p1 := HRc.out.p.c 1 (by omega); have p2 := HRc.out.p.c 2 (by omega); have p3 := HRc.out.p.c 3 (by omega); have pl := HRc.out.p.lt
      go_wp2_with fail
      refine (OnAxis_any S lo hi _ _ n cap _ HS.out).mono ?_
      rintro e wd ⟨rfl, hbd⟩
      have HRd := Lib.hid (HRc.out.past hbd); have HTd := Lib.hid (HTc.out.past hbd); have HLd := Lib.hid (HLc.out.past hbd)
      clear hbd HRc HTc HLc c0 c1 c2 c3 cl p0 p1 p2 p3 pl
      have c0 := HRd.out.c.c 0 _ rfl; have c1 := HRd.out.c.c 1 _ rfl; have c2 := HRd.out.c.c 2 _ rfl; have c3 := HRd.out.c.c 3 _ rfl; have cl := HRd.out.c.lt
      have p0 := HRd.out.p.c 0 (by omega); have p1 := HRd.out.p.c 1 (by omega); have p2 := HRd.out.p.c 2 (by omega); have p3 := HRd.out.p.c 3 (by omega); have pl := HRd.out.p.lt
      have t0 := HTd.out.c 0 _ rfl; have t1 := HTd.out.c 1 _ rfl; have t2 := HTd.out.c 2 _ rfl; have t3 := HTd.out.c 3 _ rfl; have tl := HTd.out.lt
      have l0 := HLd.out.c 0 _ rfl; have l1 := HLd.out.c 1 _ rfl; have l2 := HLd.out.c 2 _ rfl; have l3 := HLd.out.c 3 _ rfl; have ll := HLd.out.lt
      go_wp2_with fail
      refine wp_region_loose 30 (CmPsi (tetF S lo hi fs p) (linF S lo hi fs p) (.bool true)) (by kernel_rfl) (by kernel_rfl) ?_
      simp only [List.take_succ_cons, List.take_zero, List.drop_succ_cons, List.drop_zero]
      iterate 6 (refine loose_wanted rfl (fun K hK => ?_); go_simp; refine hK _ ?_; clear hK K)
      refine loose_wanted rfl (fun K1 hK => ?_)
      go_simp
      refine ⟨fun p => (same_any _ _ p.w).mono ?_, ?_⟩
      · rintro e w' ⟨rfl, rfl⟩
        exact ⟨_, rfl, cm_psiS.2 (by simp), p.h⟩
      intro z hz
      obtain rfl := cm_psiS.1 hz
      refine hK _ ?_
      clear hK K1 hz
      iterate 9 (refine loose_wanted rfl (fun K hK => ?_); go_simp; refine hK _ ?_; clear hK K)
      refine loose_wanted rfl (fun K1 hK => ?_)
      go_simp
      refine ⟨fun p => (HTO.out _ (HRd.out.b.trans (p.h.mono HRd.out.b.size))).mono ?_, ?_⟩
      · rintro e w' ⟨rfl, hb⟩
        exact ⟨_, rfl, cm_psiT.2 rfl, p.h.trans (hb.mono p.h.size)⟩
      intro z hz
      obtain rfl := cm_psiT.1 hz
      refine hK _ ?_
      clear hK K1 hz
      refine loose_wanted rfl (fun K1 hK => ?_)
      go_simp
      refine ⟨fun p => (samePixel_any _ _ _ _ _ _ _ _ p.w).mono ?_, ?_⟩
      · rintro e w' ⟨rfl, hb⟩
        exact ⟨_, rfl, cm_psiP.2 (by simp), p.h.trans (hb.mono p.h.size)⟩
      intro z hz
      obtain rfl := cm_psiP.1 hz
      refine hK _ ?_
      clear hK K1 hz
      iterate 9 (refine loose_wanted rfl (fun K hK => ?_); go_simp; refine hK _ ?_; clear hK K)
      refine loose_wanted rfl (fun K1 hK => ?_)
      go_simp
      refine ⟨fun p => (HLO.out _ (HRd.out.b.trans (p.h.mono HRd.out.b.size))).mono ?_, ?_⟩
      · rintro e w' ⟨rfl, hb⟩
        exact ⟨_, rfl, cm_psiL.2 rfl, p.h.trans (hb.mono p.h.size)⟩
      intro z hz
      obtain rfl := cm_psiL.1 hz
      refine hK _ ?_
      clear hK K1 hz
      refine loose_wanted rfl (fun K1 hK => ?_)
      go_simp
      refine ⟨fun p => (samePixel_any _ _ _ _ _ _ _ _ p.w).mono ?_, ?_⟩
      · rintro e w' ⟨rfl, hb⟩
        exact ⟨_, rfl, cm_psiP.2 (by simp), p.h.trans (hb.mono p.h.size)⟩
      intro z hz
      obtain rfl := cm_psiP.1 hz
      refine hK _ ?_
      clear hK K1 hz
      iterate 1 (refine loose_wanted rfl (fun K hK => ?_); go_simp; refine hK _ ?_; clear hK K)
      refine loose_nil (fun w5 hb5 => ?_)
      have B5 := HRd.out.b.trans (hb5.mono HRd.out.b.size)
      go_wp2_with fail
      go_ret
      exact ⟨ret_b (by simp), B5⟩
    · have hok : ok = false := by
        rw [HOK.out]
        rcases hi' with h | h | h <;> rw [h] <;> simp
      subst hok
      have ez3 : ∀ w, Sem.run Try.prog (Op.equalIn 10000 58 (.agg #[.float .f32 0, .float .f32 0, .float .f32 0]) (.agg #[.float .f32 0, .float .f32 0, .float .f32 0])) w = .ok true w := fun w => by kernel_rfl
      have HRc := HRv; have HTc := HTv; have HLc := HLv
      clear hi'
      go_upto_region 13 with fail
      clear HRv HTv HLv HXv c0 cl y0 y1 y2 yl ez3
      have c0 := HRc.out.c.c 0 _ rfl; have c1 := HRc.out.c.c 1 _ rfl; have c2 := HRc.out.c.c 2 _ rfl; have c3 := HRc.out.c.c 3 _ rfl; have cl := HRc.out.c.lt
      have p0 := HRc.out.p.c 0 (by omega); have p1 := HRc.out.p.c 1 (by omega); have p2 := HRc.out.p.c 2 (by omega); have p3 := HRc.out.p.c 3 (by omega); have pl := HRc.out.p.lt
      go_wp2_with fail
      refine (OnAxis_any S lo hi _ _ n cap _ HS.out).mono ?_
      rintro e wd ⟨rfl, hbd⟩
      have HRd := Lib.hid (HRc.out.past hbd); have HTd := Lib.hid (HTc.out.past hbd); have HLd := Lib.hid (HLc.out.past hbd)
      clear hbd HRc HTc HLc c0 c1 c2 c3 cl p0 p1 p2 p3 pl
      have c0 := HRd.out.c.c 0 _ rfl; have c1 := HRd.out.c.c 1 _ rfl; have c2 := HRd.out.c.c 2 _ rfl; have c3 := HRd.out.c.c 3 _ rfl; have cl := HRd.out.c.lt
      have p0 := HRd.out.p.c 0 (by omega); have p1 := HRd.out.p.c 1 (by omega); have p2 := HRd.out.p.c 2 (by omega); have p3 := HRd.out.p.c 3 (by omega); have pl := HRd.out.p.lt
      have t0 := HTd.out.c 0 _ rfl; have t1 := HTd.out.c 1 _ rfl; have t2 := HTd.out.c 2 _ rfl; have t3 := HTd.out.c 3 _ rfl; have tl := HTd.out.lt
      have l0 := HLd.out.c 0 _ rfl; have l1 := HLd.out.c 1 _ rfl; have l2 := HLd.out.c 2 _ rfl; have l3 := HLd.out.c 3 _ rfl; have ll := HLd.out.lt
      go_wp2_with fail
      refine wp_region_loose 30 (CmPsi (tetF S lo hi fs p) (linF S lo hi fs p) (.bool true)) (by kernel_rfl) (by kernel_rfl) ?_
      simp only [List.take_succ_cons, List.take_zero, List.drop_succ_cons, List.drop_zero]
      iterate 6 (refine loose_wanted rfl (fun K hK => ?_); go_simp; refine hK _ ?_; clear hK K)
      refine loose_wanted rfl (fun K1 hK => ?_)
      go_simp
      refine ⟨fun p => (same_any _ _ p.w).mono ?_, ?_⟩
      · rintro e w' ⟨rfl, rfl⟩
        exact ⟨_, rfl, cm_psiS.2 (by simp), p.h⟩
      intro z hz
      obtain rfl := cm_psiS.1 hz
      refine hK _ ?_
      clear hK K1 hz
      iterate 9 (refine loose_wanted rfl (fun K hK => ?_); go_simp; refine hK _ ?_; clear hK K)
      refine loose_wanted rfl (fun K1 hK => ?_)
      go_simp
      refine ⟨fun p => (HTO.out _ (HRd.out.b.trans (p.h.mono HRd.out.b.size))).mono ?_, ?_⟩
      · rintro e w' ⟨rfl, hb⟩
        exact ⟨_, rfl, cm_psiT.2 rfl, p.h.trans (hb.mono p.h.size)⟩
      intro z hz
      obtain rfl := cm_psiT.1 hz
      refine hK _ ?_
      clear hK K1 hz
      refine loose_wanted rfl (fun K1 hK => ?_)
      go_simp
      refine ⟨fun p => (samePixel_any _ _ _ _ _ _ _ _ p.w).mono ?_, ?_⟩
      · rintro e w' ⟨rfl, hb⟩
        exact ⟨_, rfl, cm_psiP.2 (by simp), p.h.trans (hb.mono p.h.size)⟩
      intro z hz
      obtain rfl := cm_psiP.1 hz
      refine hK _ ?_
      clear hK K1 hz
      iterate 9 (refine loose_wanted rfl (fun K hK => ?_); go_simp; refine hK _ ?_; clear hK K)
      refine loose_wanted rfl (fun K1 hK => ?_)
      go_simp
      refine ⟨fun p => (HLO.out _ (HRd.out.b.trans (p.h.mono HRd.out.b.size))).mono ?_, ?_⟩
      · rintro e w' ⟨rfl, hb⟩
        exact ⟨_, rfl, cm_psiL.2 rfl, p.h.trans (hb.mono p.h.size)⟩
      intro z hz
      obtain rfl := cm_psiL.1 hz
      refine hK _ ?_
      clear hK K1 hz
      refine loose_wanted rfl (fun K1 hK => ?_)
      go_simp
      refine ⟨fun p => (samePixel_any _ _ _ _ _ _ _ _ p.w).mono ?_, ?_⟩
      · rintro e w' ⟨rfl, hb⟩
        exact ⟨_, rfl, cm_psiP.2 (by simp), p.h.trans (hb.mono p.h.size)⟩
      intro z hz
      obtain rfl := cm_psiP.1 hz
      refine hK _ ?_
      clear hK K1 hz
      iterate 1 (refine loose_wanted rfl (fun K hK => ?_); go_simp; refine hK _ ?_; clear hK K)
      refine loose_nil (fun w5 hb5 => ?_)
      have B5 := HRd.out.b.trans (hb5.mono HRd.out.b.size)
      go_wp2_with fail
      go_ret
      exact ⟨ret_b (by simp), B5⟩
/-- Four numbers by their place. -/
def fourP (p0 p1 p2 p3 : Nat) : Nat → Nat := fun a => if a = 0 then p0 else if a = 1 then p1 else if a = 2 then p2 else p3
theorem cm_walk (size : Int) (lo hi : Nat) (a : Option Addr) (n cap : Nat) (fs : Nat → Nat) (i j k : Int) (p0 p1 p2 p3 : Nat) (w : World)
    (_ : IntKind.i64.min ≤ size ∧ size ≤ IntKind.i64.max) (_ : lo < 2 ^ FloatKind.f32.format.width) (_ : hi < 2 ^ FloatKind.f32.format.width) (hf : IsFloats w a n cap fs)
    (_ : IntKind.i64.min ≤ i ∧ i ≤ IntKind.i64.max) (_ : IntKind.i64.min ≤ j ∧ j ≤ IntKind.i64.max) (_ : IntKind.i64.min ≤ k ∧ k ≤ IntKind.i64.max) (_ : p0 < 2 ^ FloatKind.f32.format.width) (_ : p1 < 2 ^ FloatKind.f32.format.width) (_ : p2 < 2 ^ FloatKind.f32.format.width) (_ : p3 < 2 ^ FloatKind.f32.format.width) :
    Calls Try.prog 14 #[.agg #[.int .i64 size, .float .f32 lo, .float .f32 hi, .slice a n cap], .int .i64 i, .int .i64 j, .int .i64 k, .agg #[.float .f32 p0, .float .f32 p1, .float .f32 p2, .float .f32 p3]] w fun e w' => e = .returned (.bool true) ∧ Below w.heap.size w w' := by
  by_cases he : cubErr size lo hi n = 0
  · obtain ⟨⟨s1, s2⟩, -⟩ := cubErr_ok he
    obtain ⟨S, rfl⟩ : ∃ S : Nat, size = S := ⟨size.toNat, by omega⟩
    obtain ⟨-, -, hn, hpos, -⟩ := cub_ok_nat he
    rcases hf with ⟨hz, -⟩ | ⟨b, off, rfl, -, hcap, hm, hcell⟩
    · omega
    · exact cm_yes S lo hi b off n cap fs i j k (fourP p0 p1 p2 p3) w he hcap (fun i hi => (hcell i (by omega)).1)
  · exact cm_no size lo hi a n cap i j k (fourP p0 p1 p2 p3) w he
end Go.Proofs.Ytkmjboffjhcoaaa
