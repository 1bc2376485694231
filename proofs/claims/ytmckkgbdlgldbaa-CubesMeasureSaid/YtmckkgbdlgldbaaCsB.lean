/- The entry that is nearest to a colour, in the document: dyeref2.NearestOf; wrong cubes: cube.Nearest. Conditions: what each theorem names. -/
import Derived.Test.YtmckkgbdlgldbaaCsA
namespace Go.Proofs.Ytmckkgbdlgldbaa
open Go Go.RowKit
def best3 (S : Nat) (s : Option (Nat × Nat)) (m : Nat) : Nat := match s with | none => 0 | some (x, _) => if m = 0 then x % S else if m = 1 then x / S % S else x / S / S
/-- What stands of the search's variables. -/
structure NrR (w wr : World) (La : List Value) (p : Nat → Nat) (S : Nat) (s : Option (Nat × Nat)) : Prop where
  a : Blk wr w.heap.size La
  p : Blk wr (w.heap.size + 1) [.float .f32 (p 0), .float .f32 (p 1), .float .f32 (p 2)]
  z : Blk wr (w.heap.size + 2) [.int .i64 0, .int .i64 0, .int .i64 0]
  b : Blk wr (w.heap.size + 3) [.int .i64 (best3 S s 0), .int .i64 (best3 S s 1), .int .i64 (best3 S s 2)]
  l : Blk wr (w.heap.size + 4) [.float .f32 (leastF s)]
  i : Blk wr (w.heap.size + 5) [.bool s.isSome]
  w : Below w.heap.size w wr
theorem NrR.past {w wr wy : World} {La : List Value} {p : Nat → Nat} {S : Nat} {s : Option (Nat × Nat)} (k : NrR w wr La p S s) (h : Below wr.heap.size wr wy) : NrR w wy La p S s :=
  ⟨k.a.past h, k.p.past h, k.z.past h, k.b.past h, k.l.past h, k.i.past h, k.w.trans (h.mono k.w.size)⟩
theorem takes_is {d : Nat} {s : Option (Nat × Nat)} (h : s.isSome = false) : takesB d s = (FloatKind.f32.format.order d d == some .eq) := by
  cases s with
  | none => simp [takesB]
  | some x => cases h
theorem takes_some {d : Nat} {s : Option (Nat × Nat)} (h : s.isSome = true) : takesB d s = ((FloatKind.f32.format.order d d == some .eq) && (FloatKind.f32.format.order d (leastF s) == some .lt)) := by
  cases s with
  | none => cases h
  | some x => rfl
set_option maxRecDepth 100000 in
set_option maxHeartbeats 3200000 in
theorem NearestOf_c (S i j k lo hi b off n cap : Nat) (fc p : Nat → Nat) (x : Value) (w v : World) (hS : S ≤ 17) (h1 : i < S) (h2 : j < S) (h3 : k < S) (hn : n = 3 * (S * S * S)) (hc : Row w b off n fc)
    (R : NrR w v [.int .i64 S, .float .f32 lo, .float .f32 hi, .slice (some ⟨b, off, none⟩) n cap] p S (nearS fc p (enI S i j k))) :
    Calls Try.prog 181 #[x, .int .i64 i, .int .i64 j, .int .i64 k, .pointer (some ⟨w.heap.size, 0, none⟩), .pointer (some ⟨w.heap.size + 1, 0, none⟩), .pointer (some ⟨w.heap.size + 5, 0, none⟩), .pointer (some ⟨w.heap.size + 4, 0, none⟩), .pointer (some ⟨w.heap.size + 3, 0, none⟩)] v fun e w' =>
      e = .returned (.tuple #[]) ∧ NrR w w' [.int .i64 S, .float .f32 lo, .float .f32 hi, .slice (some ⟨b, off, none⟩) n cap] p S (nearS fc p (enI S i j k + 1)) := by
  have hn0 : 0 < n := by have := enI_lt h1 h2 h3; omega
  have hbw := hc.lt hn0
  have HE := Lib.hid (fun w' hb => EntryOf_any S i j k lo hi b off n cap fc w' hS h1 h2 h3 hn (hc.below hb hbw) : ∀ w', Below w.heap.size w w' → _)
  have HID := Lib.hid (enI_dec (k := k) h1 h2)
  obtain ⟨E, hE⟩ : ∃ E, E = enI S i j k := ⟨_, rfl⟩
  rw [← hE] at R HE HID ⊢
  have HR := Lib.hid R
  have a0 := R.a.c 0 _ rfl; have a1 := R.a.c 1 _ rfl; have a2 := R.a.c 2 _ rfl; have a3 := R.a.c 3 _ rfl; have al := R.a.lt
  clear hc hn hn0 hbw hS h1 h2 h3 hE R
  go_enter Try.func181, Try.ntmps181
  go_wp2_with fail
  refine (HE.out _ HR.out.w).mono ?_
  rintro e w1 ⟨rfl, hb1⟩
  have HR1 := Lib.hid (HR.out.past hb1)
  clear a0 a1 a2 a3 al hb1 HR
  go_upto_region 1 with fail
  refine wp_world (fun W2 hW2 => ?_)
  have B2 : Below w1.heap.size w1 W2 := by rw [hW2]; (repeat (first | exact Below.refl _ _ | assumption | (refine Below.setCell ?_ (by first | (simp; done) | (simp; omega) | omega) _) | (refine Below.drew ?_) | (refine below_drewN ?_ _) | (refine Below.alloc ?_ (by first | (simp; done) | (simp; omega) | omega) _) | (refine Below.trans ?_ (Below.mono (by assumption) (by first | (simp; done) | (simp; omega) | omega)))))
  have EB : Blk W2 w1.heap.size [.float .f32 (cn .f32 (fc (3 * E))), .float .f32 (cn .f32 (fc (3 * E + 1))), .float .f32 (cn .f32 (fc (3 * E + 2)))] := by rw [hW2]; exact Blk.new _ _ _ _ rfl
  have R2 := HR1.out.past B2
  have HR2 := Lib.hid R2
  clear hW2 B2 HR1
  generalize w1.heap.size = ne at *
  obtain ⟨v0, hv0⟩ : ∃ z, z = cn .f32 (fc (3 * E)) := ⟨_, rfl⟩
  obtain ⟨v1, hv1⟩ : ∃ z, z = cn .f32 (fc (3 * E + 1)) := ⟨_, rfl⟩
  obtain ⟨v2, hv2⟩ : ∃ z, z = cn .f32 (fc (3 * E + 2)) := ⟨_, rfl⟩
  rw [← hv0, ← hv1, ← hv2] at EB
  have HV := Lib.hid (And.intro hv0 (And.intro hv1 hv2))
  have e0 := EB.c 0 _ rfl; have e1 := EB.c 1 _ rfl; have e2 := EB.c 2 _ rfl; have el := EB.lt
  have p0 := R2.p.c 0 _ rfl; have p1 := R2.p.c 1 _ rfl; have p2 := R2.p.c 2 _ rfl; have pl := R2.p.lt
  clear hv0 hv1 hv2 EB R2
  refine wp_region_loose 17 (fun _ _ _ => True) (by kernel_rfl) (by kernel_rfl) ?_
  simp only [List.take_succ_cons, List.take_zero, List.drop_succ_cons, List.drop_zero]
  iterate 4 (refine loose_wanted rfl (fun K hK => ?_); go_simp; refine hK _ ?_; clear hK K)
  (first | ((with_reducible apply loose_farith); rfl; rfl; rfl; rfl; intro _ _) | ((with_reducible apply loose_up); rfl; rfl; exact Try.underlying38; exact Try.underlying113; intro _ _))
  iterate 4 (refine loose_wanted rfl (fun K hK => ?_); go_simp; refine hK _ ?_; clear hK K)
  (first | ((with_reducible apply loose_farith); rfl; rfl; rfl; rfl; intro _ _) | ((with_reducible apply loose_up); rfl; rfl; exact Try.underlying38; exact Try.underlying113; intro _ _))
  iterate 4 (refine loose_wanted rfl (fun K hK => ?_); go_simp; refine hK _ ?_; clear hK K)
  (first | ((with_reducible apply loose_farith); rfl; rfl; rfl; rfl; intro _ _) | ((with_reducible apply loose_up); rfl; rfl; exact Try.underlying38; exact Try.underlying113; intro _ _))
  rename_i r1 g1 r2 g2 r3 g3
  have HG := Lib.hid (And.intro g1 (And.intro g2 g3))
  clear g1 g2 g3
  iterate 2 (refine loose_wanted rfl (fun K hK => ?_); go_simp; refine hK _ ?_; clear hK K)
  refine loose_nil (fun w5 hb5 => ?_)
  have R5 := HR2.out.past hb5
  have HR5 := Lib.hid R5
  have l0 := R5.l.c 0 _ rfl; have ll := R5.l.lt; have i0 := R5.i.c 0 _ rfl; have il := R5.i.lt
  clear hb5 e0 e1 e2 el p0 p1 p2 pl HR2 R5
  obtain ⟨s, hs⟩ : ∃ s, s = nearS fc p E := ⟨_, rfl⟩
  rw [← hs] at l0 i0 HR5
  have HS := Lib.hid hs
  clear hs
  go_upto_region 3 with (first | ((with_reducible apply wpList_farith); rfl; rfl; rfl; intro _ _ _) | ((with_reducible apply wpList_up); rfl; exact Try.underlying38; exact Try.underlying113; intro _ _ _))
  rename_i ma na1 ka mb nb1 kb aa na2 kaa mc nc1 kc ab na3 kab _ _
  obtain ⟨x1, x2, x3⟩ := HV.out
  obtain ⟨g1, g2, g3⟩ := HG.out
  rw [x1, cn_cn] at g1; rw [x2, cn_cn] at g2; rw [x3, cn_cn] at g3
  have hD := dist_FR g1 g2 g3 ka kb kaa kc kab
  clear x1 x2 x3 g1 g2 g3 ka kb kaa kc kab HG HV
  refine wp_world (fun W6 hW6 => ?_)
  have B6 : Below w5.heap.size w5 W6 := by rw [hW6]; (repeat (first | exact Below.refl _ _ | assumption | (refine Below.setCell ?_ (by first | (simp; done) | (simp; omega) | omega) _) | (refine Below.drew ?_) | (refine below_drewN ?_ _) | (refine Below.alloc ?_ (by first | (simp; done) | (simp; omega) | omega) _) | (refine Below.trans ?_ (Below.mono (by assumption) (by first | (simp; done) | (simp; omega) | omega)))))
  have R6 := HR5.out.past B6
  have HR6 := Lib.hid R6
  clear hW6 B6 l0 ll i0 il HR5
  have l0 := R6.l.c 0 _ rfl; have ll := R6.l.lt; have i0 := R6.i.c 0 _ rfl; have il := R6.i.lt
  obtain ⟨D, hDD⟩ : ∃ D, D = distF fc p E := ⟨_, rfl⟩
  have HDD := Lib.hid hDD
  cases hN : isN .f32 ab
  · have hab : ab = D := by rw [hDD]; exact dist_exact hD (by rw [← hD, isN_cn]; exact hN)
    subst hab
    have t1 : (FloatKind.f32.format.order ab ab == some .eq) = true := by rw [ord_self_eq, hN]; rfl
    clear hD hDD hN
    cases hsm : s.isSome
    · have HT := Lib.hid (near_take (fc := fc) (p := p) (k := E) (by rw [← HDD.out, ← HS.out, takes_is hsm]; exact t1))
      rw [hsm] at i0
      have b0 := R6.b.c 0 _ rfl; have b1 := R6.b.c 1 _ rfl; have b2 := R6.b.c 2 _ rfl; have bf := R6.b.f; have bl := R6.b.lt
      have lf := R6.l.f; have if' := R6.i.f
      go_wp2_with fail
      go_end0
      refine ⟨rfl, ?_⟩
      rw [HT.out, ← HDD.out]
      obtain ⟨d1, d2, d3⟩ := HID.out
      have hb0 : best3 S (some (E, ab)) 0 = i := d1
      have hb1 : best3 S (some (E, ab)) 1 = j := d2
      have hb2 : best3 S (some (E, ab)) 2 = k := d3
      have K := HR6.out
      refine ⟨?_, ?_, ?_, ?_, ?_, ?_, ?_⟩
      · exact ((((K.a.far _ _ (by simp)).far _ _ (by simp)).far _ _ (by simp)).far _ _ (by simp)).far _ _ (by simp)
      · exact ((((K.p.far _ _ (by simp)).far _ _ (by simp)).far _ _ (by simp)).far _ _ (by simp)).far _ _ (by simp)
      · exact ((((K.z.far _ _ (by simp)).far _ _ (by simp)).far _ _ (by simp)).far _ _ (by simp)).far _ _ (by simp)
      · rw [hb0, hb1, hb2]
        exact ((((K.b.set 0 _).set 1 _).set 2 _).far _ _ (by simp)).far _ _ (by simp)
      · exact ((((K.l.far _ _ (by simp)).far _ _ (by simp)).far _ _ (by simp)).set 0 _).far _ _ (by simp)
      · exact ((((K.i.far _ _ (by simp)).far _ _ (by simp)).far _ _ (by simp)).far _ _ (by simp)).set 0 _
      · exact ((((K.w.setCell (by first | (simp; done) | (simp; omega) | omega) _).setCell (by first | (simp; done) | (simp; omega) | omega) _).setCell (by first | (simp; done) | (simp; omega) | omega) _).setCell (by first | (simp; done) | (simp; omega) | omega) _).setCell (by first | (simp; done) | (simp; omega) | omega) _
    · cases hl : (FloatKind.f32.format.order ab (leastF s) == some .lt)
      · have HT := Lib.hid (near_skip (fc := fc) (p := p) (k := E) (by rw [← HDD.out, ← HS.out, takes_some hsm, t1, hl]; rfl))
        rw [hsm] at i0
        go_wp2_with fail
        go_end0
        exact ⟨rfl, by rw [HT.out, ← HS.out]; exact HR6.out⟩
      · have HT := Lib.hid (near_take (fc := fc) (p := p) (k := E) (by rw [← HDD.out, ← HS.out, takes_some hsm, t1, hl]; rfl))
        rw [hsm] at i0
        have b0 := R6.b.c 0 _ rfl; have b1 := R6.b.c 1 _ rfl; have b2 := R6.b.c 2 _ rfl; have bf := R6.b.f; have bl := R6.b.lt
        have lf := R6.l.f; have if' := R6.i.f
        go_wp2_with fail
        go_end0
        refine ⟨rfl, ?_⟩
        rw [HT.out, ← HDD.out]
        obtain ⟨d1, d2, d3⟩ := HID.out
        have hb0 : best3 S (some (E, ab)) 0 = i := d1
        have hb1 : best3 S (some (E, ab)) 1 = j := d2
        have hb2 : best3 S (some (E, ab)) 2 = k := d3
        have K := HR6.out
        refine ⟨?_, ?_, ?_, ?_, ?_, ?_, ?_⟩
        · exact ((((K.a.far _ _ (by simp)).far _ _ (by simp)).far _ _ (by simp)).far _ _ (by simp)).far _ _ (by simp)
        · exact ((((K.p.far _ _ (by simp)).far _ _ (by simp)).far _ _ (by simp)).far _ _ (by simp)).far _ _ (by simp)
        · exact ((((K.z.far _ _ (by simp)).far _ _ (by simp)).far _ _ (by simp)).far _ _ (by simp)).far _ _ (by simp)
        · rw [hb0, hb1, hb2]
          exact ((((K.b.set 0 _).set 1 _).set 2 _).far _ _ (by simp)).far _ _ (by simp)
        · exact ((((K.l.far _ _ (by simp)).far _ _ (by simp)).far _ _ (by simp)).set 0 _).far _ _ (by simp)
        · exact ((((K.i.far _ _ (by simp)).far _ _ (by simp)).far _ _ (by simp)).far _ _ (by simp)).set 0 _
        · exact ((((K.w.setCell (by first | (simp; done) | (simp; omega) | omega) _).setCell (by first | (simp; done) | (simp; omega) | omega) _).setCell (by first | (simp; done) | (simp; omega) | omega) _).setCell (by first | (simp; done) | (simp; omega) | omega) _).setCell (by first | (simp; done) | (simp; omega) | omega) _
  · have t1 : (FloatKind.f32.format.order ab ab == some .eq) = false := by rw [ord_self_eq, hN]; rfl
    have t2 : (FloatKind.f32.format.order D D == some .eq) = false := by rw [ord_self_eq, hDD, ← hD, isN_cn, hN]; rfl
    have HT := Lib.hid (near_skip (fc := fc) (p := p) (k := E) (by
      rw [← HDD.out, ← HS.out]
      cases hsm : s.isSome
      · rw [takes_is hsm]; exact t2
      · rw [takes_some hsm, t2]; rfl))
    clear t2 hD hDD hN
    go_wp2_with fail
    go_end0
    exact ⟨rfl, by rw [HT.out, ← HS.out]; exact HR6.out⟩
set_option maxRecDepth 100000 in
set_option maxHeartbeats 3200000 in
theorem NearestOf_yes (S lo hi b off n cap : Nat) (fc p : Nat → Nat) (w : World) (he : cubErr S lo hi n = 0) (hc : Row w b off n fc) :
    Calls Try.prog 101 #[.agg #[.int .i64 S, .float .f32 lo, .float .f32 hi, .slice (some ⟨b, off, none⟩) n cap], .agg #[.float .f32 (p 0), .float .f32 (p 1), .float .f32 (p 2)]] w fun e w' =>
      e = .returned (.tuple #[.agg #[.int .i64 (best3 S (nearS fc p (S * S * S)) 0), .int .i64 (best3 S (nearS fc p (S * S * S)) 1), .int .i64 (best3 S (nearS fc p (S * S * S)) 2)], .bool (nearS fc p (S * S * S)).isSome]) ∧ Below w.heap.size w w' := by
  obtain ⟨hS, hS0, hn, hpos, hnb⟩ := cub_ok_nat he
  have hbw : b < w.heap.size := hc.lt (by omega)
  have HS := Lib.hid (And.intro hS hS0)
  have HK : Hid (∀ m v, m < S * S * S → NrR w v [.int .i64 S, .float .f32 lo, .float .f32 hi, .slice (some ⟨b, off, none⟩) n cap] p S (nearS fc p m) → Calls Try.prog 181 (#[.int .i64 m, .int .i64 (m % S : Nat), .int .i64 (m / S % S : Nat), .int .i64 (m / S / S : Nat)] ++ #[.pointer (some ⟨w.heap.size, 0, none⟩), .pointer (some ⟨w.heap.size + 1, 0, none⟩), .pointer (some ⟨w.heap.size + 5, 0, none⟩), .pointer (some ⟨w.heap.size + 4, 0, none⟩), .pointer (some ⟨w.heap.size + 3, 0, none⟩)]) v fun e w' =>
      e = .returned (.tuple #[]) ∧ NrR w w' [.int .i64 S, .float .f32 lo, .float .f32 hi, .slice (some ⟨b, off, none⟩) n cap] p S (nearS fc p (m + 1))) := fun m v hm hR => by
    obtain ⟨e1, e2, e3, e4⟩ := enI_of (by omega) hm
    have h := NearestOf_c S (m % S) (m / S % S) (m / S / S) lo hi b off n cap fc p (.int .i64 m) w v hS e1 e2 e3 hn hc (by rw [e4]; exact hR)
    rw [e4] at h
    exact h
  clear he hc hS hS0 hn hpos hnb hbw
  go_enter Try.func101, Try.ntmps101
  go_upto_region 4 with fail
  refine wp_world (fun W hW => ?_)
  have R0 : NrR w W [.int .i64 S, .float .f32 lo, .float .f32 hi, .slice (some ⟨b, off, none⟩) n cap] p S (nearS fc p 0) := by
    rw [hW]
    exact ⟨(((((Blk.new _ _ _ _ rfl).alloc _).alloc _).alloc _).alloc _).alloc _, ((((Blk.new _ _ _ _ (by simp)).alloc _).alloc _).alloc _).alloc _, (((Blk.new _ _ _ _ (by simp)).alloc _).alloc _).alloc _, ((Blk.new _ _ _ _ (by simp)).alloc _).alloc _, (Blk.new _ _ _ _ (by simp)).alloc _, Blk.new _ _ _ _ (by simp), by (repeat (first | exact Below.refl _ _ | assumption | (refine Below.setCell ?_ (by first | (simp; done) | (simp; omega) | omega) _) | (refine Below.drew ?_) | (refine below_drewN ?_ _) | (refine Below.alloc ?_ (by first | (simp; done) | (simp; omega) | omega) _) | (refine Below.trans ?_ (Below.mono (by assumption) (by first | (simp; done) | (simp; omega) | omega)))))⟩
  have HR0 := Lib.hid R0
  have a0 := R0.a.c 0 _ rfl; have al := R0.a.lt
  clear hW R0
  go_wp2_with fail
  refine (Places_any 181 _ S (fun m wr => NrR w wr [.int .i64 S, .float .f32 lo, .float .f32 hi, .slice (some ⟨b, off, none⟩) n cap] p S (nearS fc p m)) W HS.out.1 (by have := HS.out.2; omega) (body_enters Try.func181 (by kernel_rfl) rfl) HR0.out (fun m a b h hb => h.past hb) (fun m v hm hR => HK.out m v hm hR)).mono ?_
  rintro e w3 ⟨rfl, M⟩
  have HM := Lib.hid M
  obtain ⟨s, hs⟩ : ∃ s, s = nearS fc p (S * S * S) := ⟨_, rfl⟩
  rw [← hs] at M HM
  have HSS := Lib.hid hs
  have b0 := M.b.c 0 _ rfl; have b1 := M.b.c 1 _ rfl; have b2 := M.b.c 2 _ rfl; have bl := M.b.lt
  have i0 := M.i.c 0 _ rfl; have il := M.i.lt
  have z0 := M.z.c 0 _ rfl; have z1 := M.z.c 1 _ rfl; have z2 := M.z.c 2 _ rfl; have zf := M.z.f; have zl := M.z.lt
  have BW := M.w
  obtain ⟨c0, hc0⟩ : ∃ c, c = best3 S s 0 := ⟨_, rfl⟩
  obtain ⟨c1, hc1⟩ : ∃ c, c = best3 S s 1 := ⟨_, rfl⟩
  obtain ⟨c2, hc2⟩ : ∃ c, c = best3 S s 2 := ⟨_, rfl⟩
  rw [← hc0] at b0; rw [← hc1] at b1; rw [← hc2] at b2
  have HCC := Lib.hid (And.intro hc0 (And.intro hc1 hc2))
  have HBW := Lib.hid BW
  clear M a0 al HR0 hs hc0 hc1 hc2 BW HM
  go_upto_region 5 with fail
  go_region
  all_goals
    go_wp2_with fail
    refine bodyPost_ret (v := .tuple #[.agg #[.int .i64 c0, .int .i64 c1, .int .i64 c2], .bool s.isSome]) (by simp [results, Try.results101, go_sem, z0, z1, z2]) rfl ⟨by rw [HCC.out.1, HCC.out.2.1, HCC.out.2.2, HSS.out], ?_⟩
    have B3 := HBW.out
    (repeat (first | (with_reducible exact B3) | (refine Below.setCell ?_ (by first | (simp; done) | (simp; omega) | omega) _) | (refine Below.drew ?_)))
set_option maxHeartbeats 800000 in
theorem Nearest_no (sa : Int) (la ha : Nat) (aa : Option Addr) (na ca : Nat) (p : Nat → Nat) (w : World) (hE : cubErr sa la ha na ≠ 0) :
    Calls Try.prog 99 #[.agg #[.int .i64 sa, .float .f32 la, .float .f32 ha, .slice aa na ca], .agg #[.float .f32 (p 0), .float .f32 (p 1), .float .f32 (p 2)]] w fun e w' => e = .returned (.tuple #[.int .i64 0, .int .i64 0, .int .i64 0, .int .i64 (cubErr sa la ha na)]) ∧ Below w.heap.size w w' := by
  obtain ⟨EA, hEA⟩ : ∃ E, E = cubErr sa la ha na := ⟨_, rfl⟩
  rw [← hEA] at hE ⊢
  have hc : (EA != 0) = true := by simpa using hE
  have HEA := Lib.hid hEA
  clear hEA hE
  go_enter Try.func99, Try.ntmps99
  go_wp2_with (first | (go_at_call 95; refine (CuCheck_any _ _ _ _ _ _ _).mono ?_; rintro e w2 ⟨rfl, hb2⟩; rw [← HEA.out]; have hs2 := hb2.size))
  refine bodyPost_ret (v := .tuple #[.int .i64 0, .int .i64 0, .int .i64 0, .int .i64 EA]) (by simp [results, Try.results99, go_sem]) rfl ⟨rfl, ?_⟩
  (repeat (first | exact Below.refl _ _ | assumption | (refine Below.setCell ?_ (by first | (simp; done) | (simp; omega) | omega) _) | (refine Below.drew ?_) | (refine below_drewN ?_ _) | (refine Below.alloc ?_ (by first | (simp; done) | (simp; omega) | omega) _) | (refine Below.trans ?_ (Below.mono (by assumption) (by first | (simp; done) | (simp; omega) | omega)))))
end Go.Proofs.Ytmckkgbdlgldbaa
