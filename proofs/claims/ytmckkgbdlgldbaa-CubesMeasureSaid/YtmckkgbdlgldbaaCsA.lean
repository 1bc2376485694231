/- The entry that is nearest to a colour: cube.Nearest. Conditions: what each theorem names. -/
import Derived.Test.YtmckkgbdlgldbaaCpF
namespace Go.Proofs.Ytmckkgbdlgldbaa
open Go Go.RowKit
/-- How far an entry lies from a colour. -/
def distF (fc p : Nat → Nat) (E : Nat) : Nat :=
  fop .add .f32 (fop .add .f32 (fop .mul .f32 (fop .sub .f32 (fc (3 * E)) (p 0)) (fop .sub .f32 (fc (3 * E)) (p 0))) (fop .mul .f32 (fop .sub .f32 (fc (3 * E + 1)) (p 1)) (fop .sub .f32 (fc (3 * E + 1)) (p 1)))) (fop .mul .f32 (fop .sub .f32 (fc (3 * E + 2)) (p 2)) (fop .sub .f32 (fc (3 * E + 2)) (p 2)))
/-- Whether an entry is the nearest so far. -/
def takesB (d : Nat) (s : Option (Nat × Nat)) : Bool := (FloatKind.f32.format.order d d == some .eq) && (match s with | none => true | some (_, l) => (FloatKind.f32.format.order d l == some .lt))
/-- The nearest of the first entries, and how far. -/
def nearS (fc p : Nat → Nat) : Nat → Option (Nat × Nat)
  | 0 => none
  | N + 1 => if takesB (distF fc p N) (nearS fc p N) then some (N, distF fc p N) else nearS fc p N
def bestI (s : Option (Nat × Nat)) : Int := match s with | none => -1 | some (n, _) => n
def leastF (s : Option (Nat × Nat)) : Nat := match s with | none => 0 | some (_, l) => l
def nearV (S : Nat) (s : Option (Nat × Nat)) : Value := match s with | none => .tuple #[.int .i64 0, .int .i64 0, .int .i64 0, .int .i64 11] | some (m, _) => .tuple #[.int .i64 (m % S : Nat), .int .i64 (m / S % S : Nat), .int .i64 (m / S / S : Nat), .int .i64 0]
theorem dist_cn (fc p : Nat → Nat) (E : Nat) : cn .f32 (distF fc p E) = distF fc p E := cn_fop _ _ _ _
theorem dist_exact {fc p : Nat → Nat} {E r : Nat} (h : cn .f32 r = distF fc p E) (hn : isN .f32 (distF fc p E) = false) : r = distF fc p E := by
  have h2 : isN .f32 r = false := by rw [← isN_cn, h]; exact hn
  rw [← h]
  unfold cn
  rw [h2]; rfl
theorem takes_neg {d : Nat} {s : Option (Nat × Nat)} (h : bestI s < 0) : takesB d s = (FloatKind.f32.format.order d d == some .eq) := by
  cases s with
  | none => simp [takesB]
  | some x => simp [bestI] at h; omega
theorem takes_pos {d : Nat} {s : Option (Nat × Nat)} (h : ¬ bestI s < 0) : takesB d s = ((FloatKind.f32.format.order d d == some .eq) && (FloatKind.f32.format.order d (leastF s) == some .lt)) := by
  cases s with
  | none => simp [bestI] at h
  | some x => rfl
theorem near_take {fc p : Nat → Nat} {k : Nat} (h : takesB (distF fc p k) (nearS fc p k) = true) : nearS fc p (k + 1) = some (k, distF fc p k) := by rw [nearS, if_pos h]
theorem near_skip {fc p : Nat → Nat} {k : Nat} (h : takesB (distF fc p k) (nearS fc p k) = false) : nearS fc p (k + 1) = nearS fc p k := by rw [nearS, if_neg (by rw [h]; decide)]
theorem nearS_lt {fc p : Nat → Nat} : ∀ {N m l : Nat}, nearS fc p N = some (m, l) → m < N := by
  intro N
  induction N with
  | zero => intro m l h; cases h
  | succ N ih =>
    intro m l h
    rw [nearS] at h
    split at h
    · cases h; omega
    · have := ih h; omega
theorem dist_FR {fc p : Nat → Nat} {E r1 r2 r3 m1 m2 a1 m3 a2 : Nat} (h1 : FR .f32 r1 (fop .sub .f32 (cn .f32 (fc (3 * E))) (cn .f32 (p 0)))) (h2 : FR .f32 r2 (fop .sub .f32 (cn .f32 (fc (3 * E + 1))) (cn .f32 (p 1)))) (h3 : FR .f32 r3 (fop .sub .f32 (cn .f32 (fc (3 * E + 2))) (cn .f32 (p 2))))
    (k1 : FR .f32 m1 (fop .mul .f32 (cn .f32 r1) (cn .f32 r1))) (k2 : FR .f32 m2 (fop .mul .f32 (cn .f32 r2) (cn .f32 r2))) (k3 : FR .f32 a1 (fop .add .f32 (cn .f32 m1) (cn .f32 m2))) (k4 : FR .f32 m3 (fop .mul .f32 (cn .f32 r3) (cn .f32 r3))) (k5 : FR .f32 a2 (fop .add .f32 (cn .f32 a1) (cn .f32 m3))) : cn .f32 a2 = distF fc p E := by
  unfold distF
  rw [k5.eq, k4.eq, k3.eq, k2.eq, k1.eq, h3.eq, h2.eq, h1.eq]
  simp only [fop_cn_left, fop_cn_right]
set_option maxRecDepth 100000 in
set_option maxHeartbeats 3200000 in
theorem Nearest_yes (S lo hi b off n cap : Nat) (fc p : Nat → Nat) (w : World) (he : cubErr S lo hi n = 0) (hc : Row w b off n fc) :
    Calls Try.prog 99 #[.agg #[.int .i64 S, .float .f32 lo, .float .f32 hi, .slice (some ⟨b, off, none⟩) n cap], .agg #[.float .f32 (p 0), .float .f32 (p 1), .float .f32 (p 2)]] w fun e w' =>
      e = .returned (nearV S (nearS fc p (S * S * S))) ∧ Below w.heap.size w w' := by
  obtain ⟨hS, hS0, hn, hpos, hnb⟩ := cub_ok_nat he
  have hbw : b < w.heap.size := hc.lt (by omega)
  have HC := Lib.hid hc; have HE := Lib.hid he
  obtain ⟨M, hM⟩ : ∃ M, M = S * S * S := ⟨_, rfl⟩
  rw [← hM] at hn hpos ⊢
  have hd : (n : Int).tdiv 3 = (M : Int) := by rw [Int.tdiv_eq_ediv_of_nonneg (by omega)]; omega
  have hM6 : M ≤ 4913 := by omega
  have HM := Lib.hid hM
  have HK3 := Lib.hid (fun k hk => by omega : ∀ k, k < M → 3 * k + 2 < n)
  clear hc he hM hn
  go_enter Try.func99, Try.ntmps99
  go_upto_region 1 with fail
  refine wp_world (fun W hW => ?_)
  have A0 : Blk W w.heap.size [.int .i64 S, .float .f32 lo, .float .f32 hi, .slice (some ⟨b, off, none⟩) n cap] := by rw [hW]; exact (Blk.new _ _ _ _ rfl).alloc _
  have P0 : Blk W (w.heap.size + 1) [.float .f32 (p 0), .float .f32 (p 1), .float .f32 (p 2)] := by rw [hW]; exact Blk.new _ _ _ _ (by simp)
  have BW : Below w.heap.size w W := by rw [hW]; (repeat (first | exact Below.refl _ _ | assumption | (refine Below.setCell ?_ (by first | (simp; done) | (simp; omega) | omega) _) | (refine Below.drew ?_) | (refine below_drewN ?_ _) | (refine Below.alloc ?_ (by first | (simp; done) | (simp; omega) | omega) _) | (refine Below.trans ?_ (Below.mono (by assumption) (by first | (simp; done) | (simp; omega) | omega)))))
  have a0 := A0.c 0 _ rfl; have a1 := A0.c 1 _ rfl; have a2 := A0.c 2 _ rfl; have a3 := A0.c 3 _ rfl; have al := A0.lt
  have H0 := Lib.hid (And.intro A0 (And.intro P0 BW))
  clear hW A0 P0 BW
  go_wp2_with fail
  refine (CuCheck_any _ _ _ _ _ _ _).mono ?_
  rintro e w2 ⟨rfl, hb2⟩
  rw [HE.out]
  have H2 := Lib.hid (And.intro (H0.out.1.past hb2) (And.intro (H0.out.2.1.past hb2) (H0.out.2.2.trans (hb2.mono H0.out.2.2.size))))
  clear hb2 a0 a1 a2 a3 al H0
  go_wp2_with fail
  go_loopw [9, 10, 11] (fun s9 s10 s11 wr => ∃ k : Nat, k ≤ M ∧ s11 = .int .i64 k ∧ s9 = .int .i64 (bestI (nearS fc p k)) ∧ s10 = .float .f32 (leastF (nearS fc p k)) ∧ Below w2.heap.size w2 wr) (fun _ _ s11 _ => M - (intOf s11).toNat)
  case atStart => exact ⟨0, Nat.zero_le _, rfl, rfl, rfl, Below.refl _ _⟩
  case round =>
    obtain ⟨k, hk, rfl, rfl, rfl, hB⟩ := hrel
    have HB := Lib.hid hB
    have A1 := H2.out.1.past hB; have P1 := H2.out.2.1.past hB
    have BW := H2.out.2.2.trans (hB.mono H2.out.2.2.size)
    obtain ⟨bi, hbi⟩ : ∃ bi, bi = bestI (nearS fc p k) := ⟨_, rfl⟩
    obtain ⟨lf, hlf⟩ : ∃ lf, lf = leastF (nearS fc p k) := ⟨_, rfl⟩
    rw [← hbi, ← hlf]
    have HS := Lib.hid (And.intro hbi hlf)
    clear hbi hlf hB
    have a3 := A1.c 3 _ rfl; have al := A1.lt
    by_cases hkM : k < M
    · have h3 := HK3.out k hkM
      have C0 : wr.cell? ⟨b, off + 3 * k, none⟩ = some (.float .f32 (fc (3 * k))) := (HC.out.below BW hbw) (3 * k) (by omega)
      have C1 : wr.cell? ⟨b, off + (3 * k + 1), none⟩ = some (.float .f32 (fc (3 * k + 1))) := (HC.out.below BW hbw) (3 * k + 1) (by omega)
      have C2 : wr.cell? ⟨b, off + (3 * k + 2), none⟩ = some (.float .f32 (fc (3 * k + 2))) := (HC.out.below BW hbw) (3 * k + 2) (by omega)
      obtain ⟨v0, hv0⟩ : ∃ z, z = fc (3 * k) := ⟨_, rfl⟩
      obtain ⟨v1, hv1⟩ : ∃ z, z = fc (3 * k + 1) := ⟨_, rfl⟩
      obtain ⟨v2, hv2⟩ : ∃ z, z = fc (3 * k + 2) := ⟨_, rfl⟩
      rw [← hv0] at C0; rw [← hv1] at C1; rw [← hv2] at C2
      have HV := Lib.hid (And.intro hv0 (And.intro hv1 hv2))
      have p0 := P1.c 0 _ rfl; have p1 := P1.c 1 _ rfl; have p2 := P1.c 2 _ rfl; have pl := P1.lt
      have bl := cell_lt C0; simp only at bl
      obtain ⟨E, hE⟩ : ∃ E, E = 3 * k := ⟨_, rfl⟩
      have e3 : 3 * (k : Int) = (E : Int) := by omega
      have hE6 : E ≤ 14739 := by omega
      rw [← hE] at C0 C1 C2
      have j0 : (E : Int) < (n : Int) := by omega
      have uE : IntKind.i64.wrap (E : Int) = (E : Int) := by rw [IntKind.wrap_i64]; omega
      have uE1 : IntKind.i64.wrap ((E : Int) + 1) = (E : Int) + 1 := by rw [IntKind.wrap_i64]; omega
      have uE2 : IntKind.i64.wrap ((E : Int) + 2) = (E : Int) + 2 := by rw [IntKind.wrap_i64]; omega
      have i0 : (0 : Int) ≤ (E : Int) + 1 := by omega
      have i1 : (E : Int) + 1 < (n : Int) := by omega
      have i2 : ((E : Int) + 1).toNat = E + 1 := by omega
      have l0 : (0 : Int) ≤ (E : Int) + 2 := by omega
      have l1 : (E : Int) + 2 < (n : Int) := by omega
      have l2 : ((E : Int) + 2).toNat = E + 2 := by omega
      have hkM' : (k : Int) < (M : Int) := by omega
      have HEE := Lib.hid hE
      clear hv0 hv1 hv2 hE A1 P1 h3
      go_upto_region 9 with fail
      refine wp_region_loose 31 (fun _ _ _ => True) (by kernel_rfl) (by kernel_rfl) ?_
      simp only [List.take_succ_cons, List.take_zero, List.drop_succ_cons, List.drop_zero]
      iterate 8 (refine loose_wanted rfl (fun K hK => ?_); go_simp; refine hK _ ?_; clear hK K)
      (first | ((with_reducible apply loose_farith); rfl; rfl; rfl; rfl; intro _ _) | ((with_reducible apply loose_up); rfl; rfl; exact Try.underlying38; exact Try.underlying113; intro _ _))
      iterate 9 (refine loose_wanted rfl (fun K hK => ?_); go_simp; refine hK _ ?_; clear hK K)
      (first | ((with_reducible apply loose_farith); rfl; rfl; rfl; rfl; intro _ _) | ((with_reducible apply loose_up); rfl; rfl; exact Try.underlying38; exact Try.underlying113; intro _ _))
      iterate 9 (refine loose_wanted rfl (fun K hK => ?_); go_simp; refine hK _ ?_; clear hK K)
      (first | ((with_reducible apply loose_farith); rfl; rfl; rfl; rfl; intro _ _) | ((with_reducible apply loose_up); rfl; rfl; exact Try.underlying38; exact Try.underlying113; intro _ _))
      rename_i r1 g1 r2 g2 r3 g3
      have HR1 := Lib.hid (And.intro g1 (And.intro g2 g3))
      clear g1 g2 g3
      iterate 2 (refine loose_wanted rfl (fun K hK => ?_); go_simp; refine hK _ ?_; clear hK K)
      refine loose_nil (fun w5 hb5 => ?_)
      have HB5 := Lib.hid (HB.out.trans (hb5.mono HB.out.size))
      clear hb5 C0 C1 C2 p0 p1 p2 a3 HB
      go_upto_region 11 with (first | ((with_reducible apply wpList_farith); rfl; rfl; rfl; intro _ _ _) | ((with_reducible apply wpList_up); rfl; exact Try.underlying38; exact Try.underlying113; intro _ _ _))
      rename_i ma na1 ka mb nb1 kb aa na2 kaa mc nc1 kc ab na3 kab _ _
      obtain ⟨x1, x2, x3⟩ := HV.out
      obtain ⟨g1, g2, g3⟩ := HR1.out
      rw [x1] at g1; rw [x2] at g2; rw [x3] at g3
      have hD := dist_FR g1 g2 g3 ka kb kaa kc kab
      clear x1 x2 x3 g1 g2 g3 ka kb kaa kc kab HR1 HV
      obtain ⟨D, hDD⟩ : ∃ D, D = distF fc p k := ⟨_, rfl⟩
      have HDD := Lib.hid hDD
      cases hN : isN .f32 ab
      · have hab : ab = D := by rw [hDD]; exact dist_exact hD (by rw [← hD, isN_cn]; exact hN)
        subst hab
        have t1 : (FloatKind.f32.format.order ab ab == some .eq) = true := by rw [ord_self_eq, hN]; rfl
        clear hD hDD hN
        by_cases hb : bi < 0
        · have HT := Lib.hid (near_take (fc := fc) (p := p) (k := k) (by rw [← HDD.out, takes_neg (by rw [← HS.out.1]; exact hb)]; exact t1))
          go_wp2_with fail
          go_roundw
          case rel => exact ⟨k + 1, by omega, by go_num, by rw [HT.out]; rfl, by rw [HT.out, ← HDD.out]; rfl, HB5.out.trans (Below.mono (by (repeat (first | exact Below.refl _ _ | assumption | (refine Below.setCell ?_ (by first | (simp; done) | (simp; omega) | omega) _) | (refine Below.drew ?_) | (refine below_drewN ?_ _) | (refine Below.alloc ?_ (by first | (simp; done) | (simp; omega) | omega) _) | (refine Below.trans ?_ (Below.mono (by assumption) (by first | (simp; done) | (simp; omega) | omega)))))) HB5.out.size)⟩
          case measure => simp [intOf]; omega
        · cases hl : (FloatKind.f32.format.order ab lf == some .lt)
          · have HT := Lib.hid (near_skip (fc := fc) (p := p) (k := k) (by rw [← HDD.out, takes_pos (by rw [← HS.out.1]; exact hb), t1, ← HS.out.2, hl]; rfl))
            go_wp2_with fail
            go_roundw
            case rel => exact ⟨k + 1, by omega, by go_num, by rw [HT.out, HS.out.1], by rw [HT.out, HS.out.2], HB5.out.trans (Below.mono (by (repeat (first | exact Below.refl _ _ | assumption | (refine Below.setCell ?_ (by first | (simp; done) | (simp; omega) | omega) _) | (refine Below.drew ?_) | (refine below_drewN ?_ _) | (refine Below.alloc ?_ (by first | (simp; done) | (simp; omega) | omega) _) | (refine Below.trans ?_ (Below.mono (by assumption) (by first | (simp; done) | (simp; omega) | omega)))))) HB5.out.size)⟩
            case measure => simp [intOf]; omega
          · have HT := Lib.hid (near_take (fc := fc) (p := p) (k := k) (by rw [← HDD.out, takes_pos (by rw [← HS.out.1]; exact hb), t1, ← HS.out.2, hl]; rfl))
            go_wp2_with fail
            go_roundw
            case rel => exact ⟨k + 1, by omega, by go_num, by rw [HT.out]; rfl, by rw [HT.out, ← HDD.out]; rfl, HB5.out.trans (Below.mono (by (repeat (first | exact Below.refl _ _ | assumption | (refine Below.setCell ?_ (by first | (simp; done) | (simp; omega) | omega) _) | (refine Below.drew ?_) | (refine below_drewN ?_ _) | (refine Below.alloc ?_ (by first | (simp; done) | (simp; omega) | omega) _) | (refine Below.trans ?_ (Below.mono (by assumption) (by first | (simp; done) | (simp; omega) | omega)))))) HB5.out.size)⟩
            case measure => simp [intOf]; omega
      · have t1 : (FloatKind.f32.format.order ab ab == some .eq) = false := by rw [ord_self_eq, hN]; rfl
        have t2 : (FloatKind.f32.format.order D D == some .eq) = false := by rw [ord_self_eq, hDD, ← hD, isN_cn, hN]; rfl
        have HT := Lib.hid (near_skip (fc := fc) (p := p) (k := k) (by
          rw [← HDD.out]
          by_cases hb : bestI (nearS fc p k) < 0
          · rw [takes_neg hb]; exact t2
          · rw [takes_pos hb, t2]; rfl))
        clear t2 hD hDD hN
        go_wp2_with fail
        go_roundw
        case rel => exact ⟨k + 1, by omega, by go_num, by rw [HT.out, HS.out.1], by rw [HT.out, HS.out.2], HB5.out.trans (Below.mono (by (repeat (first | exact Below.refl _ _ | assumption | (refine Below.setCell ?_ (by first | (simp; done) | (simp; omega) | omega) _) | (refine Below.drew ?_) | (refine below_drewN ?_ _) | (refine Below.alloc ?_ (by first | (simp; done) | (simp; omega) | omega) _) | (refine Below.trans ?_ (Below.mono (by assumption) (by first | (simp; done) | (simp; omega) | omega)))))) HB5.out.size)⟩
        case measure => simp [intOf]; omega
    · obtain rfl : k = M := by omega
      have hkk : ¬ (k : Int) < (k : Int) := by omega
      cases hs : nearS fc p k with
      | none =>
        have hb : bi = -1 := by rw [HS.out.1, hs]; rfl
        have HBW := Lib.hid BW
        clear A1 P1 BW HS
        subst hb
        rw [HM.out] at hs
        go_wp2_with fail
        rw [← HM.out] at hs
        have HSS := Lib.hid hs
        clear hs
        refine bodyPost_ret (v := .tuple #[.int .i64 0, .int .i64 0, .int .i64 0, .int .i64 11]) (by simp [results, Try.results99, go_sem]) rfl ⟨by rw [HSS.out]; rfl, HBW.out⟩
      | some x =>
        obtain ⟨m, l⟩ := x
        have hb : bi = (m : Int) := by rw [HS.out.1, hs]; rfl
        have hm := nearS_lt hs
        have HBW := Lib.hid BW
        have HSS := Lib.hid hs
        have a0 := A1.c 0 _ rfl
        clear A1 P1 BW HS hs
        subst hb
        obtain ⟨q1, hq1⟩ : ∃ q, q = m / S := ⟨_, rfl⟩
        have d1 : (m : Int).tdiv (S : Int) = (q1 : Int) := by rw [Int.tdiv_eq_ediv_of_nonneg (by omega), hq1]; exact (Int.natCast_ediv _ _).symm
        have d2 : (m : Int).tmod (S : Int) = ((m % S : Nat) : Int) := by rw [Int.tmod_eq_emod_of_nonneg (by omega)]; exact (Int.natCast_emod _ _).symm
        have d3 : (q1 : Int).tdiv (S : Int) = ((q1 / S : Nat) : Int) := by rw [Int.tdiv_eq_ediv_of_nonneg (by omega)]; exact (Int.natCast_ediv _ _).symm
        have d4 : (q1 : Int).tmod (S : Int) = ((q1 % S : Nat) : Int) := by rw [Int.tmod_eq_emod_of_nonneg (by omega)]; exact (Int.natCast_emod _ _).symm
        have b1 : q1 ≤ 4913 := by have := Nat.div_le_self m S; omega
        have u5 : wrap64 ((q1 : Int) / (S : Int)) = (q1 : Int) / (S : Int) := Go.IntWalk.wrap64_in _ (by have hz := Nat.div_le_self q1 S; rw [← Int.natCast_ediv]; generalize q1 / S = z at hz ⊢; omega)
        have HU := Lib.hid u5
        clear u5
        have hS1 : ¬ (S : Int) = 0 := by omega
        have hm0 : ¬ (m : Int) < 0 := by omega
        have HQ := Lib.hid hq1
        clear hq1
        go_wp2_with fail
        go_quiet (fail)
        go_wp2_with fail
        refine bodyPost_ret (v := .tuple #[.int .i64 (m % S : Nat), .int .i64 (q1 % S : Nat), .int .i64 (q1 / S : Nat), .int .i64 0]) (by simp [results, Try.results99, go_sem, HU.out]) rfl ⟨by rw [HSS.out, HQ.out]; rfl, ?_⟩
        have B3 := HBW.out
        (repeat (first | exact Below.refl _ _ | assumption | (refine Below.setCell ?_ (by first | (simp; done) | (simp; omega) | omega) _) | (refine Below.drew ?_) | (refine below_drewN ?_ _) | (refine Below.alloc ?_ (by first | (simp; done) | (simp; omega) | omega) _) | (refine Below.trans ?_ (Below.mono (by assumption) (by first | (simp; done) | (simp; omega) | omega)))))
end Go.Proofs.Ytmckkgbdlgldbaa
