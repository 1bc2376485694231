/- A place where a cube gives a colour: cube.Back. Conditions: what each theorem names. -/
import Derived.Test.YtkmjboffjhcoaaaCsB
namespace Go.Proofs.Ytkmjboffjhcoaaa
open Go Go.RowKit
theorem limF_cn (r lo hi : Nat) : limF (cn .f32 r) lo hi = limF r lo hi := by
  unfold limF
  cases h : isN .f32 r
  · have : cn .f32 r = r := by unfold cn; rw [h]; rfl
    simp only [this]
  · rw [ord_nan_l _ (by rw [isN_cn]; exact h), ord_nan_l _ (by rw [isN_cn]; exact h), ord_nan_l _ h, ord_nan_l _ h, cn_cn]
theorem limF_of {r s : Nat} (lo hi : Nat) (h : cn .f32 r = cn .f32 s) : limF r lo hi = limF s lo hi := by rw [← limF_cn, h, limF_cn]
theorem limF_can (r lo hi : Nat) : cn .f32 (limF r lo hi) = limF r lo hi := by
  unfold limF
  repeat (first | exact cn_cn _ _ | split)
/-- One step towards the place. -/
def stepX (S lo hi : Nat) (fc p x : Nat → Nat) (a : Nat) : Nat := limF (fop .add .f32 (x a) (fop .mul .f32 (fop .sub .f32 (p a) (tetF S lo hi fc (p4 (x 0) (x 1) (x 2) 0) a)) 1056964608)) lo hi
/-- The place behind so many steps. -/
def backX (S lo hi : Nat) (fc p : Nat → Nat) (m : Nat) : Nat → Nat → Nat
  | 0 => fun a => spotF lo hi (partF (best3 S (some (m, 0)) a) S)
  | t + 1 => stepX S lo hi fc p (backX S lo hi fc p m t)
theorem backX_cn (S lo hi : Nat) (fc p : Nat → Nat) (m t a : Nat) : cn .f32 (backX S lo hi fc p m t a) = backX S lo hi fc p m t a := by
  cases t with
  | zero => exact spotF_cn _ _ _
  | succ t => exact limF_can _ _ _
theorem stepX_of (S lo hi : Nat) (fc p : Nat → Nat) {x y : Nat → Nat} (h : ∀ a, a < 3 → cn .f32 (x a) = cn .f32 (y a)) {a : Nat} (ha : a < 3) : stepX S lo hi fc p x a = stepX S lo hi fc p y a := by
  unfold stepX
  rw [tet_congr S lo hi fc (p4_congr (d := 0) (d' := 0) (h 0 (by omega)) (h 1 (by omega)) (h 2 (by omega)) rfl) ha, ← fop_cn_left .add .f32 (x a), h a ha, fop_cn_left]
/-- What stands of Back's variables. -/
structure BkR (w wr : World) (La : List Value) (p : Nat → Nat) (nx : Nat) (X : Nat → Nat) : Prop where
  a : Blk wr w.heap.size La
  p : VecF wr (w.heap.size + 1) 3 p
  z : Blk wr (w.heap.size + 2) [.float .f32 0, .float .f32 0, .float .f32 0]
  x : VecF wr nx 3 X
  n : w.heap.size + 2 < nx
  w : Below w.heap.size w wr
theorem BkR.past {w wr wy : World} {La : List Value} {p : Nat → Nat} {nx : Nat} {X : Nat → Nat} (k : BkR w wr La p nx X) (h : Below wr.heap.size wr wy) : BkR w wy La p nx X :=
  ⟨k.a.past h, k.p.past h, k.z.past h, k.x.past h, k.n, k.w.trans (h.mono k.w.size)⟩
set_option maxRecDepth 100000 in
set_option maxHeartbeats 6400000 in
theorem Back_yes (S lo hi b off n cap : Nat) (fc p : Nat → Nat) (T m l : Nat) (w : World) (he : cubErr S lo hi n = 0) (hcap : n ≤ cap) (hc : Row w b off n fc) (hp : allNum [p 0, p 1, p 2] = true) (hT : T ≤ 64) (hs : nearS fc p (S * S * S) = some (m, l)) :
    Calls Try.prog 98 #[.agg #[.int .i64 S, .float .f32 lo, .float .f32 hi, .slice (some ⟨b, off, none⟩) n cap], .agg #[.float .f32 (p 0), .float .f32 (p 1), .float .f32 (p 2)], .int .i64 T] w fun e w' =>
      e = .returned (.tuple #[.agg #[.float .f32 (backX S lo hi fc p m T 0), .float .f32 (backX S lo hi fc p m T 1), .float .f32 (backX S lo hi fc p m T 2)], .int .i64 0]) ∧ Below w.heap.size w w' := by
  obtain ⟨hS, hS0, hn, hpos, hnb⟩ := cub_ok_nat he
  have hbw : b < w.heap.size := hc.lt (by omega)
  have HT := Lib.hid (fun q w' hb => tetra_any S lo hi b off n cap fc q w' ⟨hS0, hS⟩ hn hcap (hc.below hb hbw) : ∀ q w', Below w.heap.size w w' → _)
  have HN := Lib.hid (fun w' hb => by have h := Nearest_yes S lo hi b off n cap fc p w' he (hc.below hb hbw); rw [hs] at h; exact h : ∀ w', Below w.heap.size w w' → Calls Try.prog 97 #[.agg #[.int .i64 S, .float .f32 lo, .float .f32 hi, .slice (some ⟨b, off, none⟩) n cap], .agg #[.float .f32 (p 0), .float .f32 (p 1), .float .f32 (p 2)]] w' fun e w'' => e = .returned (.tuple #[.int .i64 (m % S : Nat), .int .i64 (m / S % S : Nat), .int .i64 (m / S / S : Nat), .int .i64 0]) ∧ Below w'.heap.size w' w'')
  have HE := Lib.hid he; have HP := Lib.hid hp; have HTT := Lib.hid hS
  obtain ⟨i0, hi0⟩ : ∃ q, q = m % S := ⟨_, rfl⟩
  obtain ⟨i1, hi1⟩ : ∃ q, q = m / S % S := ⟨_, rfl⟩
  obtain ⟨i2, hi2⟩ : ∃ q, q = m / S / S := ⟨_, rfl⟩
  have HB0 := Lib.hid (show backX S lo hi fc p m 0 0 = spotF lo hi (partF i0 S) by rw [hi0]; rfl)
  have HB1 := Lib.hid (show backX S lo hi fc p m 0 1 = spotF lo hi (partF i1 S) by rw [hi1]; rfl)
  have HB2 := Lib.hid (show backX S lo hi fc p m 0 2 = spotF lo hi (partF i2 S) by rw [hi2]; rfl)
  rw [← hi0, ← hi1, ← hi2] at HN
  have hT' : (T : Int) ≤ 64 := by omega
  clear he hcap hc hp hs hS hS0 hn hpos hnb hbw hi0 hi1 hi2
  go_enter Try.func98, Try.ntmps98
  go_upto_region 1 with fail
  refine wp_world (fun W hW => ?_)
  have A0 : Blk W w.heap.size [.int .i64 S, .float .f32 lo, .float .f32 hi, .slice (some ⟨b, off, none⟩) n cap] := by rw [hW]; exact ((Blk.new _ _ _ _ rfl).alloc _).alloc _
  have P0 : Blk W (w.heap.size + 1) [.float .f32 (p 0), .float .f32 (p 1), .float .f32 (p 2)] := by rw [hW]; exact (Blk.new _ _ _ _ (by simp)).alloc _
  have Z0 : Blk W (w.heap.size + 2) [.float .f32 0, .float .f32 0, .float .f32 0] := by rw [hW]; exact Blk.new _ _ _ _ (by simp)
  have BW : Below w.heap.size w W := by rw [hW]; (repeat (first | exact Below.refl _ _ | assumption | (refine Below.setCell ?_ (by first | (simp; done) | (simp; omega) | omega) _) | (refine Below.drew ?_) | (refine below_drewN ?_ _) | (refine Below.alloc ?_ (by first | (simp; done) | (simp; omega) | omega) _) | (refine Below.trans ?_ (Below.mono (by assumption) (by first | (simp; done) | (simp; omega) | omega)))))
  have a0 := A0.c 0 _ rfl; have a1 := A0.c 1 _ rfl; have a2 := A0.c 2 _ rfl; have a3 := A0.c 3 _ rfl; have al := A0.lt
  have H0 := Lib.hid (And.intro A0 (And.intro P0 (And.intro Z0 BW)))
  clear hW A0 P0 Z0 BW
  go_wp2_with fail
  refine (CuCheck_any _ _ _ _ _ _ _).mono ?_
  rintro e w2 ⟨rfl, hb2⟩
  rw [HE.out]
  have H2 := Lib.hid (And.intro (H0.out.1.past hb2) (And.intro (H0.out.2.1.past hb2) (And.intro (H0.out.2.2.1.past hb2) (H0.out.2.2.2.trans (hb2.mono H0.out.2.2.2.size)))))
  clear hb2 a0 a1 a2 a3 al H0
  have q0 := H2.out.2.1.c 0 _ rfl; have q1 := H2.out.2.1.c 1 _ rfl; have q2 := H2.out.2.1.c 2 _ rfl; have ql := H2.out.2.1.lt
  have a0 := H2.out.1.c 0 _ rfl; have a1 := H2.out.1.c 1 _ rfl; have a2 := H2.out.1.c 2 _ rfl; have a3 := H2.out.1.c 3 _ rfl; have al := H2.out.1.lt
  go_upto_region 9 with (first | (go_at_call 133; refine (All3_any _ _ _ (p 0) (p 1) (p 2) _ q0 q1 q2).mono ?_; rintro e w' ⟨rfl, rfl⟩; rw [HP.out]) | (go_at_call 97; refine (HN.out _ H2.out.2.2.2).mono ?_; rintro e w3 ⟨rfl, hb3⟩))
  have H3 := Lib.hid (And.intro (H2.out.1.past hb3) (And.intro (H2.out.2.1.past hb3) (And.intro (H2.out.2.2.1.past hb3) (H2.out.2.2.2.trans (hb3.mono H2.out.2.2.2.size)))))
  clear hb3 q0 q1 q2 ql a0 a1 a2 a3 al H2
  have a0 := H3.out.1.c 0 _ rfl; have a1 := H3.out.1.c 1 _ rfl; have a2 := H3.out.1.c 2 _ rfl; have a3 := H3.out.1.c 3 _ rfl; have al := H3.out.1.lt
  go_upto_region 11 with fail
  refine wp_region_looseM 20 (RzPsi lo hi S (fun _ => 0)) [(19, 13, .cells #[.float .f32 0, .float .f32 0, .float .f32 0] 58)] (by kernel_rfl) (by kernel_rfl) (by kernel_rfl) (by intro m hm; cases hm with | head => exact ⟨_, rfl, ⟨rfl, rfl, fun ev w => by kernel_rfl⟩⟩ | tail _ h => cases h) (by intro m hm; cases hm with | head => exact of_decide_eq_true (by kernel_rfl) | tail _ h => cases h) ?_
  simp only [List.take_succ_cons, List.take_zero, List.drop_succ_cons, List.drop_zero]
  iterate 4 (refine looseM_wanted rfl (fun K hK => ?_); go_simp; refine hK _ ?_; clear hK K)
  refine looseM_wanted rfl (fun K1 hK => ?_)
  go_simp
  refine ⟨fun p => (part_any _ _ p.w HTT.out).mono ?_, ?_⟩
  · rintro e w' ⟨⟨r, rfl, hr⟩, m, rfl⟩
    exact ⟨_, rfl, rz_part.2 ⟨r, rfl, hr⟩, below_drewN (Below.refl _ _) m⟩
  intro u hu
  obtain ⟨r0, rfl, hr0⟩ := rz_part.1 hu
  refine hK _ ?_
  clear hK K1 hu
  refine looseM_wanted rfl (fun K1 hK => ?_)
  go_simp
  refine ⟨fun p => (spot_any _ _ _ _ _ p.w).mono ?_, ?_⟩
  · rintro e w' ⟨⟨r, rfl, hr⟩, hb⟩
    exact ⟨_, rfl, rz_spot.2 ⟨r, rfl, hr⟩, hb⟩
  intro u hu
  obtain ⟨s0, rfl, hs0⟩ := rz_spot.1 hu
  refine hK _ ?_
  clear hK K1 hu
  rw [spotF_of _ _ (hr0.eq.trans (cn_fop _ _ _ _).symm)] at hs0
  clear hr0
  iterate 4 (refine looseM_wanted rfl (fun K hK => ?_); go_simp; refine hK _ ?_; clear hK K)
  refine looseM_wanted rfl (fun K1 hK => ?_)
  go_simp
  refine ⟨fun p => (part_any _ _ p.w HTT.out).mono ?_, ?_⟩
  · rintro e w' ⟨⟨r, rfl, hr⟩, m, rfl⟩
    exact ⟨_, rfl, rz_part.2 ⟨r, rfl, hr⟩, below_drewN (Below.refl _ _) m⟩
  intro u hu
  obtain ⟨r1, rfl, hr1⟩ := rz_part.1 hu
  refine hK _ ?_
  clear hK K1 hu
  refine looseM_wanted rfl (fun K1 hK => ?_)
  go_simp
  refine ⟨fun p => (spot_any _ _ _ _ _ p.w).mono ?_, ?_⟩
  · rintro e w' ⟨⟨r, rfl, hr⟩, hb⟩
    exact ⟨_, rfl, rz_spot.2 ⟨r, rfl, hr⟩, hb⟩
  intro u hu
  obtain ⟨s1, rfl, hs1⟩ := rz_spot.1 hu
  refine hK _ ?_
  clear hK K1 hu
  rw [spotF_of _ _ (hr1.eq.trans (cn_fop _ _ _ _).symm)] at hs1
  clear hr1
  iterate 4 (refine looseM_wanted rfl (fun K hK => ?_); go_simp; refine hK _ ?_; clear hK K)
  refine looseM_wanted rfl (fun K1 hK => ?_)
  go_simp
  refine ⟨fun p => (part_any _ _ p.w HTT.out).mono ?_, ?_⟩
  · rintro e w' ⟨⟨r, rfl, hr⟩, m, rfl⟩
    exact ⟨_, rfl, rz_part.2 ⟨r, rfl, hr⟩, below_drewN (Below.refl _ _) m⟩
  intro u hu
  obtain ⟨r2, rfl, hr2⟩ := rz_part.1 hu
  refine hK _ ?_
  clear hK K1 hu
  refine looseM_wanted rfl (fun K1 hK => ?_)
  go_simp
  refine ⟨fun p => (spot_any _ _ _ _ _ p.w).mono ?_, ?_⟩
  · rintro e w' ⟨⟨r, rfl, hr⟩, hb⟩
    exact ⟨_, rfl, rz_spot.2 ⟨r, rfl, hr⟩, hb⟩
  intro u hu
  obtain ⟨s2, rfl, hs2⟩ := rz_spot.1 hu
  refine hK _ ?_
  clear hK K1 hu
  rw [spotF_of _ _ (hr2.eq.trans (cn_fop _ _ _ _).symm)] at hs2
  clear hr2
  iterate 1 (refine looseM_wanted rfl (fun K hK => ?_); go_simp; refine hK _ ?_; clear hK K)
  refine looseM_lays (d := 13) (blk := .cells #[.float .f32 0, .float .f32 0, .float .f32 0] 58) ⟨rfl, rfl, fun ev w => by kernel_rfl⟩ (fun nx hnx => ?_)
  refine looseM_nil (fun w5 hb5 hg5 _ => ?_)
  obtain ⟨nx', hx1, hx2⟩ := hg5 _ (List.Mem.head _)
  obtain rfl : nx = nx' := by cases hx1; rfl
  clear hx1 hg5
  have NB : Blk w5 nx [.float .f32 0, .float .f32 0, .float .f32 0] := ⟨(Array.getElem?_eq_some_iff.1 hx2).1, fun i v hv => by simp [World.cell?, hx2, hv], fun o => by simp [World.frozen?, hx2]⟩
  have n0 := NB.c 0 _ rfl; have n1 := NB.c 1 _ rfl; have n2 := NB.c 2 _ rfl; have nf := NB.f; have nl := NB.lt
  obtain ⟨X0, hX0⟩ : ∃ X0 : Nat → Nat, X0 = p4 s0 s1 s2 0 := ⟨_, rfl⟩
  have HX0 := Lib.hid (show ∀ a, a < 3 → cn .f32 (X0 a) = backX S lo hi fc p m 0 a from fun a ha => by
    rw [hX0]
    rcases (show a = 0 ∨ a = 1 ∨ a = 2 by omega) with rfl | rfl | rfl
    · rw [HB0.out]; exact hs0
    · rw [HB1.out]; exact hs1
    · rw [HB2.out]; exact hs2)
  have y0 : s0 = X0 0 := by rw [hX0]; rfl
  have y1 : s1 = X0 1 := by rw [hX0]; rfl
  have y2 : s2 = X0 2 := by rw [hX0]; rfl
  rw [y0, y1, y2]
  have hwn : w.heap.size + 2 < nx := by have := H3.out.2.2.1.lt; omega
  have H5 := Lib.hid (And.intro (H3.out.1.past hb5) (And.intro (H3.out.2.1.past hb5) (And.intro (H3.out.2.2.1.past hb5) (And.intro (H3.out.2.2.2.trans (hb5.mono H3.out.2.2.2.size)) NB))))
  clear hs0 hs1 hs2 hX0 y0 y1 y2 hx2 hnx NB hb5 a0 a1 a2 a3 al H3 HB0 HB1 HB2
  go_upto_region 12 with fail
  refine wp_world (fun W6 hW6 => ?_)
  have R6 : BkR w W6 [.int .i64 S, .float .f32 lo, .float .f32 hi, .slice (some ⟨b, off, none⟩) n cap] p nx X0 := by
    rw [hW6]
    refine ⟨((H5.out.1.far _ _ (by simp; omega)).far _ _ (by simp; omega)).far _ _ (by simp; omega), VecF.of3 (((H5.out.2.1.far _ _ (by simp; omega)).far _ _ (by simp; omega)).far _ _ (by simp; omega)), ((H5.out.2.2.1.far _ _ (by simp; omega)).far _ _ (by simp; omega)).far _ _ (by simp; omega), VecF.of3 (((H5.out.2.2.2.2.set 0 _).set 1 _).set 2 _), hwn, ?_⟩
    have B3 := H5.out.2.2.2.1
    exact ((B3.setCell (by simp; omega) _).setCell (by simp; omega) _).setCell (by simp; omega) _
  have HR6 := Lib.hid R6
  clear hW6 R6 n0 n1 n2 nf nl H5
  go_wp2_with fail
  go_loopw [65] (fun s65 wr => ∃ t : Nat, t ≤ T ∧ s65 = .int .i64 t ∧ ∃ X : Nat → Nat, (∀ a, a < 3 → cn .f32 (X a) = backX S lo hi fc p m t a) ∧ BkR w wr [.int .i64 S, .float .f32 lo, .float .f32 hi, .slice (some ⟨b, off, none⟩) n cap] p nx X) (fun s65 _ => T - (intOf s65).toNat)
  case atStart => exact ⟨0, by omega, rfl, _, HX0.out, HR6.out⟩
  case round =>
    obtain ⟨t, ht, rfl, X, hX, hR⟩ := hrel
    have HX := Lib.hid hX; have HR := Lib.hid hR
    clear hX hR HX0 HR6
    by_cases htT : t < T
    · have htT' : (t : Int) < (T : Int) := by omega
      have a0 := HR.out.a.c 0 _ rfl; have a1 := HR.out.a.c 1 _ rfl; have a2 := HR.out.a.c 2 _ rfl; have a3 := HR.out.a.c 3 _ rfl; have al := HR.out.a.lt
      have x0 := HR.out.x.c 0 (by omega); have x1 := HR.out.x.c 1 (by omega); have x2 := HR.out.x.c 2 (by omega); have xl := HR.out.x.lt
      go_wp2_with fail
      refine (HT.out (p4 (X 0) (X 1) (X 2) 0) _ HR.out.w).mono ?_
      rintro e w7 ⟨rfl, hb7⟩
      have HR7 := Lib.hid (HR.out.past hb7)
      clear a0 a1 a2 a3 al x0 x1 x2 xl hb7 HR
      obtain ⟨q, hq⟩ : ∃ q : Nat → Nat, q = tetF S lo hi fc (p4 (X 0) (X 1) (X 2) 0) := ⟨_, rfl⟩
      rw [← hq]
      have HQ := Lib.hid hq
      clear hq
      go_upto_region 15 with fail
      refine wp_world (fun W8 hW8 => ?_)
      have Q8 : VecF W8 w7.heap.size 4 q := by rw [hW8]; exact VecF.of4 (Blk.new _ _ _ _ rfl)
      have B8 : Below w7.heap.size w7 W8 := by rw [hW8]; (repeat (first | exact Below.refl _ _ | assumption | (refine Below.setCell ?_ (by first | (simp; done) | (simp; omega) | omega) _) | (refine Below.drew ?_) | (refine below_drewN ?_ _) | (refine Below.alloc ?_ (by first | (simp; done) | (simp; omega) | omega) _) | (refine Below.trans ?_ (Below.mono (by assumption) (by first | (simp; done) | (simp; omega) | omega)))))
      have HR8 := Lib.hid (HR7.out.past B8); have HQ8 := Lib.hid (And.intro Q8 (show nx < w7.heap.size from HR7.out.x.lt))
      clear hW8 Q8 B8 HR7
      generalize w7.heap.size = nq at *
      go_wp2_with fail
      go_loopw [76] (fun s76 wr => ∃ c : Nat, c ≤ 3 ∧ s76 = .int .i64 c ∧ BkR w wr [.int .i64 S, .float .f32 lo, .float .f32 hi, .slice (some ⟨b, off, none⟩) n cap] p nx (fun a => if a < c then stepX S lo hi fc p X a else X a) ∧ VecF wr nq 4 q) (fun s76 _ => 3 - (intOf s76).toNat)
      case atStart => exact ⟨0, by omega, rfl, by simpa using HR8.out, HQ8.out.1⟩
      case round =>
        obtain ⟨c, hc, rfl, hR, hQ⟩ := hrel
        have HR := Lib.hid hR; have HQ9 := Lib.hid hQ
        clear hR hQ HR8
        by_cases hc3 : c < 3
        · have hci : (c : Int) < 3 := by omega
          have hci4 : (c : Int) < 4 := by omega
          have xc := HR.out.x.c c hc3
          simp only [show ¬ c < c by omega, if_false] at xc
          have pc := HR.out.p.c c hc3
          have qc := HQ9.out.c c (by omega)
          obtain ⟨xv, hxv⟩ : ∃ z, z = X c := ⟨_, rfl⟩
          obtain ⟨pv, hpv⟩ : ∃ z, z = p c := ⟨_, rfl⟩
          obtain ⟨qv, hqv⟩ : ∃ z, z = q c := ⟨_, rfl⟩
          rw [← hxv] at xc; rw [← hpv] at pc; rw [← hqv] at qc
          have HV := Lib.hid (And.intro hxv (And.intro hpv hqv))
          have a1 := HR.out.a.c 1 _ rfl; have a2 := HR.out.a.c 2 _ rfl; have al := HR.out.a.lt
          have xl := HR.out.x.lt; have pl := HR.out.p.lt; have ql := HQ9.out.lt
          clear hxv hpv hqv
          go_upto_region 18 with fail
          refine wp_region_loose 19 (fun _ args u => u = .float .f32 (limF (argF args 0) (argF args 1) (argF args 2))) (by kernel_rfl) (by kernel_rfl) ?_
          simp only [List.take_succ_cons, List.take_zero, List.drop_succ_cons, List.drop_zero]
          iterate 10 (refine loose_wanted rfl (fun K hK => ?_); go_simp; refine hK _ ?_; clear hK K)
          (first | ((with_reducible apply loose_farith); rfl; rfl; rfl; rfl; intro _ _) | ((with_reducible apply loose_up); rfl; rfl; exact Try.underlying38; exact Try.underlying172; intro _ _))
          (first | ((with_reducible apply loose_farith); rfl; rfl; rfl; rfl; intro _ _) | ((with_reducible apply loose_up); rfl; rfl; exact Try.underlying38; exact Try.underlying172; intro _ _))
          (first | ((with_reducible apply loose_farith); rfl; rfl; rfl; rfl; intro _ _) | ((with_reducible apply loose_up); rfl; rfl; exact Try.underlying38; exact Try.underlying172; intro _ _))
          rename_i r1 g1 r2 g2 r3 g3
          iterate 4 (refine loose_wanted rfl (fun K hK => ?_); go_simp; refine hK _ ?_; clear hK K)
          refine loose_wanted rfl (fun K1 hK => ?_)
          go_simp
          refine ⟨fun p => (Limit_any _ _ _ p.w).mono ?_, ?_⟩
          · rintro e w' ⟨rfl, rfl⟩
            exact ⟨_, rfl, by first | rfl | simp, p.h⟩
          refine hK _ ?_
          clear hK K1
          iterate 1 (refine loose_wanted rfl (fun K hK => ?_); go_simp; refine hK _ ?_; clear hK K)
          refine loose_nil (fun w5 hb5 => ?_)
          have HSV := Lib.hid (show limF r3 lo hi = stepX S lo hi fc p X c by
            unfold stepX
            refine limF_of lo hi ?_
            rw [g3.eq, g2.eq, g1.eq, HV.out.1, HV.out.2.1, HV.out.2.2, HQ.out]
            simp only [fop_cn_left, fop_cn_right, cn_fop])
          have R5 := HR.out.past hb5
          have HR5 := Lib.hid R5; have HQ5 := Lib.hid (HQ9.out.past hb5)
          have xf := R5.x.f; have xl' := R5.x.lt; have xc' := R5.x.c c hc3
          clear hb5 g1 g2 g3 xc pc qc a1 a2 al xl pl ql R5 HR HQ9
          go_wp2_with fail
          go_roundw
          case rel =>
            have K := HR5.out
            have hnx := K.n
            refine ⟨c + 1, by omega, by go_num, ⟨K.a.far _ _ (by simp; omega), K.p.far _ _ (by simp; omega), K.z.far _ _ (by simp; omega), ?_, hnx, K.w.setCell (by simp; omega) _⟩, HQ5.out.far _ _ (by have := HQ8.out.2; simp; omega)⟩
            have hv := K.x.set c (limF r3 lo hi) hc3
            refine ⟨hv.lt, fun j hj => ?_, hv.f⟩
            rw [hv.c j hj]
            by_cases e : j = c
            · subst e; rw [if_pos rfl, if_pos (by omega), HSV.out]
            · rw [if_neg e]
              by_cases e2 : j < c
              · rw [if_pos e2, if_pos (by omega)]
              · rw [if_neg e2, if_neg (by omega)]
          case measure => simp [intOf]; omega
        · obtain rfl : c = 3 := by omega
          go_wp2_with fail
          go_roundw
          case rel =>
            refine ⟨t + 1, by omega, by go_num, _, fun a ha => ?_, HR.out⟩
            simp only [ha, if_true]
            show cn .f32 (stepX S lo hi fc p X a) = stepX S lo hi fc p (backX S lo hi fc p m t) a
            rw [stepX_of S lo hi fc p (fun a' ha' => (HX.out a' ha').trans (backX_cn _ _ _ _ _ _ _ _).symm) ha]
            exact limF_can _ _ _
          case measure => simp [intOf]; omega
    · obtain rfl : t = T := by omega
      have x0 := HR.out.x.c 0 (by omega); have x1 := HR.out.x.c 1 (by omega); have x2 := HR.out.x.c 2 (by omega); have xl := HR.out.x.lt
      go_wp2_with fail
      refine (cleaned_any _ _ _ _).mono ?_
      rintro e w7 ⟨rfl, hb7⟩
      rw [HX.out 0 (by omega), HX.out 1 (by omega), HX.out 2 (by omega)]
      have R7 := HR.out.past hb7
      have z0 := R7.z.c 0 _ rfl; have z1 := R7.z.c 1 _ rfl; have z2 := R7.z.c 2 _ rfl; have zf := R7.z.f; have zl := R7.z.lt
      have HBW := Lib.hid R7.w
      clear x0 x1 x2 xl hb7 R7 HR
      go_wp2_with fail
      refine bodyPost_ret (v := .tuple #[.agg #[.float .f32 (backX S lo hi fc p m t 0), .float .f32 (backX S lo hi fc p m t 1), .float .f32 (backX S lo hi fc p m t 2)], .int .i64 0]) (by simp [results, Try.results98, go_sem, z0, z1, z2]) rfl ⟨rfl, ?_⟩
      have B3 := HBW.out
      exact ((B3.setCell (by first | (simp; done) | (simp; omega) | omega) _).setCell (by first | (simp; done) | (simp; omega) | omega) _).setCell (by first | (simp; done) | (simp; omega) | omega) _
end Go.Proofs.Ytkmjboffjhcoaaa
