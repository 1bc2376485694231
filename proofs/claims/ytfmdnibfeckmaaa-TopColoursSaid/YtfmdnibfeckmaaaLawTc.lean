/- TopColours: the walk of the statement, whole. No condition. -/
import Derived.Test.YtfmdnibfeckmaaaTcO
import Derived.Test.YtfmdnibfeckmaaaTcP
namespace Go.Proofs.Ytfmdnibfeckmaaa
open Go Go.RowKit
theorem nm_cell {w : World} {n : Nat} (h : Blk w n [.string (nmK 0), .string (nmK 1), .string (nmK 2), .string (nmK 3), .string (nmK 4), .string (nmK 5)]) (k : Nat) (hk : k < 6) : w.cell? ⟨n, k, none⟩ = some (.string (nmK k)) := by
  rcases (show k = 0 ∨ k = 1 ∨ k = 2 ∨ k = 3 ∨ k = 4 ∨ k = 5 by omega) with rfl | rfl | rfl | rfl | rfl | rfl
  · exact h.c 0 _ rfl
  · exact h.c 1 _ rfl
  · exact h.c 2 _ rfl
  · exact h.c 3 _ rfl
  · exact h.c 4 _ rfl
  · exact h.c 5 _ rfl
theorem Names_any (w : World) : Calls Try.prog 12 #[] w fun e w' => e = .returned (.slice (some ⟨w.heap.size, 0, none⟩) 6 6) ∧ Below w.heap.size w w' ∧ Blk w' w.heap.size [.string (nmK 0), .string (nmK 1), .string (nmK 2), .string (nmK 3), .string (nmK 4), .string (nmK 5)] := by
  go_enter Try.func12, Try.ntmps12
  go_wp2
  go_ret
  exact ⟨rfl, by (repeat (first | exact Below.refl _ _ | assumption | (refine Below.setCell ?_ (by first | (simp; done) | (simp; omega) | omega) _) | (refine Below.drew ?_) | (refine below_drewN ?_ _) | (refine Below.alloc ?_ (by first | (simp; done) | (simp; omega) | omega) _) | (refine Below.trans ?_ (Below.mono (by assumption) (by first | (simp; done) | (simp; omega) | omega))))), Blk.new _ _ _ _ rfl⟩
abbrev nmL : List Value := [.string (nmK 0), .string (nmK 1), .string (nmK 2), .string (nmK 3), .string (nmK 4), .string (nmK 5)]
abbrev spaceL (n : ByteArray) (p : Nat → Nat) (i : Int) (a b c : Nat) : List Value := [.string n, .float .f32 (p 0), .float .f32 (p 1), .float .f32 (p 2), .float .f32 (p 3), .float .f32 (p 4), .float .f32 (p 5), .float .f32 (p 6), .float .f32 (p 7), .int .i64 i, .float .f32 a, .float .f32 b, .float .f32 c]
/-- What stands: the pixel, the names. -/
structure TcR (w wr : World) (p : Nat → Nat) (nn : Nat) : Prop where
  p : VecF wr w.heap.size 4 p
  n : Blk wr nn nmL
  b : Below w.heap.size w wr
theorem TcR.past {w wr wy : World} {p : Nat → Nat} {nn : Nat} (k : TcR w wr p nn) (h : Below wr.heap.size wr wy) : TcR w wy p nn := ⟨k.p.past h, k.n.past h, k.b.trans (h.mono k.b.size)⟩
set_option maxRecDepth 100000 in
set_option maxHeartbeats 12800000 in
theorem tc_core (p : Nat → Nat) (a b : Int) (w : World) : Calls Try.prog 4 #[.agg #[.float .f32 (p 0), .float .f32 (p 1), .float .f32 (p 2), .float .f32 (p 3)], .int .i64 a, .int .i64 b] w fun e w' => e = .returned (.bool true) ∧ Below w.heap.size w w' := by
  go_enter Try.func4, Try.ntmps4
  go_upto_region 1 with fail
  refine wp_world (fun W hW => ?_)
  have HP0 : Hid (VecF W w.heap.size 4 p ∧ Below w.heap.size w W) := Lib.hid (by rw [hW]; exact ⟨VecF.of4 (Blk.new _ _ _ _ rfl), by (repeat (first | exact Below.refl _ _ | assumption | (refine Below.setCell ?_ (by first | (simp; done) | (simp; omega) | omega) _) | (refine Below.drew ?_) | (refine below_drewN ?_ _) | (refine Below.alloc ?_ (by first | (simp; done) | (simp; omega) | omega) _) | (refine Below.trans ?_ (Below.mono (by assumption) (by first | (simp; done) | (simp; omega) | omega)))))⟩)
  clear hW
  go_upto_region 6 with (first | (go_at_call 11; refine (tclanded_any _).mono ?_; rintro e w2 ⟨rfl, rfl⟩) | (go_at_call 12; refine (Names_any _).mono ?_; rintro e w1 ⟨rfl, hb1, hn1⟩))
  have H1 : Hid (TcR w w1 p W.heap.size) := Lib.hid ⟨HP0.out.1.past hb1, hn1, HP0.out.2.trans (hb1.mono HP0.out.2.size)⟩
  clear hb1 hn1 HP0
  generalize W.heap.size = nn at *
  obtain ⟨ka, hka⟩ : ∃ k : Nat, k = (IntKind.u64.wrap a % 6).toNat := ⟨_, rfl⟩
  obtain ⟨kb, hkb⟩ : ∃ k : Nat, k = (IntKind.u64.wrap b % 6).toNat := ⟨_, rfl⟩
  have ua : 0 ≤ IntKind.u64.wrap a ∧ IntKind.u64.wrap a < 18446744073709551616 := by rw [IntKind.wrap_u64]; omega
  have ub : 0 ≤ IntKind.u64.wrap b ∧ IntKind.u64.wrap b < 18446744073709551616 := by rw [IntKind.wrap_u64]; omega
  have la : ka < 6 := by omega
  have lb : kb < 6 := by omega
  have ea : (IntKind.u64.wrap a).tmod 6 = (ka : Int) := by rw [Int.tmod_eq_emod_of_nonneg ua.1]; omega
  have eb : (IntKind.u64.wrap b).tmod 6 = (kb : Int) := by rw [Int.tmod_eq_emod_of_nonneg ub.1]; omega
  have ea2 : IntKind.u64.wrap a % 6 = (ka : Int) := by omega
  have eb2 : IntKind.u64.wrap b % 6 = (kb : Int) := by omega
  obtain ⟨df, T, hcv⟩ := cv_K ka kb la lb
  have ca := nm_cell H1.out.n ka la
  have cb := nm_cell H1.out.n kb lb
  have HKA := Lib.hid (fun w' => Known_k ka la w' : ∀ w', _)
  have HKB := Lib.hid (fun w' => Known_k kb lb w' : ∀ w', _)
  obtain ⟨na, hna⟩ : ∃ x, x = nmK ka := ⟨_, rfl⟩
  obtain ⟨nb, hnb⟩ : ∃ x, x = nmK kb := ⟨_, rfl⟩
  obtain ⟨pa, hpa⟩ : ∃ x, x = prK ka := ⟨_, rfl⟩
  obtain ⟨pb, hpb⟩ : ∃ x, x = prK kb := ⟨_, rfl⟩
  rw [← hna] at ca HKA
  rw [← hnb] at cb HKB
  rw [← hpa] at hcv HKA
  rw [← hpb] at hcv HKB
  have HCV := Lib.hid hcv
  generalize kiK ka = xa1 at *
  generalize taK ka = xa2 at *
  generalize tbK ka = xa3 at *
  generalize tcK ka = xa4 at *
  generalize kiK kb = xb1 at *
  generalize taK kb = xb2 at *
  generalize tbK kb = xb3 at *
  generalize tcK kb = xb4 at *
  have HCB := Lib.hid (fun (w' : World) (h : Blk w' nn nmL) => (by rw [hnb]; exact nm_cell h kb lb : w'.cell? ⟨nn, kb, none⟩ = some (.string nb)))
  have nl := H1.out.n.lt
  have i0 : (0 : Int) ≤ (ka : Int) := by omega
  have i1 : (ka : Int) < 6 := by omega
  have j0 : (0 : Int) ≤ (kb : Int) := by omega
  have j1 : (kb : Int) < 6 := by omega
  clear hka hkb ua ub ea2 eb2 hna hnb hpa hpb hcv cb
  go_upto_region 7 with (go_at_call 13; refine (HKA.out _).mono ?_; rintro e w2 ⟨rfl, hb2⟩)
  refine wp_world (fun U hU => ?_)
  have hbz : ∀ o, Below w1.heap.size w1 (w2.alloc o) := fun o => hb2.alloc hb2.size o
  have H2 : Hid (TcR w U p nn ∧ Blk U w2.heap.size (spaceL na pa xa1 xa2 xa3 xa4)) := Lib.hid (by rw [hU]; exact ⟨H1.out.past (hbz _), Blk.new _ _ _ _ rfl⟩)
  clear hU hbz hb2 ca nl H1
  generalize w2.heap.size = ns at *
  have cb := HCB.out _ H2.out.1.n
  have nl := H2.out.1.n.lt
  go_upto_region 8 with (go_at_call 13; refine (HKB.out _).mono ?_; rintro e w3 ⟨rfl, hb3⟩)
  refine wp_world (fun V hV => ?_)
  have hbz : ∀ o, Below U.heap.size U (w3.alloc o) := fun o => hb3.alloc hb3.size o
  have H3 : Hid (TcR w V p nn ∧ Blk V ns (spaceL na pa xa1 xa2 xa3 xa4) ∧ Blk V w3.heap.size (spaceL nb pb xb1 xb2 xb3 xb4)) := Lib.hid (by rw [hV]; exact ⟨H2.out.1.past (hbz _), H2.out.2.past (hbz _), Blk.new _ _ _ _ rfl⟩)
  clear hV hbz hb3 cb nl H2 HCB HKA HKB
  generalize w3.heap.size = nt at *
  have S1 := H3.out.2.1; have S2 := H3.out.2.2
  have c1 := S1.c 1 _ rfl; have c2 := S1.c 2 _ rfl; have c3 := S1.c 3 _ rfl; have c4 := S1.c 4 _ rfl; have c5 := S1.c 5 _ rfl; have c6 := S1.c 6 _ rfl; have c7 := S1.c 7 _ rfl; have c8 := S1.c 8 _ rfl; have cl := S1.lt
  have d1 := S2.c 1 _ rfl; have d2 := S2.c 2 _ rfl; have d3 := S2.c 3 _ rfl; have d4 := S2.c 4 _ rfl; have d5 := S2.c 5 _ rfl; have d6 := S2.c 6 _ rfl; have d7 := S2.c 7 _ rfl; have d8 := S2.c 8 _ rfl; have dl := S2.lt
  clear S1 S2
  go_upto_region 13 with (first | (go_at_call 14; refine (Between_ok df pa pb _ HCV.out.be).mono ?_; rintro e w4 ⟨⟨m, rfl, hm⟩, hb4⟩) | ((with_reducible apply wpList_st9 (r := m) (VecD.of9 (f := fun _ => 0) (Blk.new _ _ _ _ rfl))); rfl; rfl; rfl; rfl; intro w9 hk9 hs9 hh9 hb9))
  have hbz := hb9 _ _ (hb4.alloc hb4.size _) hb4.size
  have H4 : Hid (TcR w w9 p nn ∧ VecD w9 w4.heap.size 9 m ∧ ∀ i, i < 9 → cn .f64 (m i) = beF df pa pb i) := Lib.hid ⟨H3.out.1.past hbz, hk9, hm (by first | rfl | trivial)⟩
  clear hbz hk9 hs9 hh9 hb9 hb4 hm c1 c2 c3 c4 c5 c6 c7 c8 cl d1 d2 d3 d4 d5 d6 d7 d8 dl H3
  generalize w4.heap.size = nm at *
  have HAP := Lib.hid (fun w' => Apply_one m (beF df pa pb) T w' H4.out.2.2 HCV.out.t : ∀ w', _)
  have hn := HCV.out.n
  obtain ⟨g, hg⟩ : ∃ g : Nat → Nat, g = fun i => if i = 3 then 1065353216 else fcv .f64 .f32 (T i) := ⟨_, rfl⟩
  have g0 : fcv .f64 .f32 (T 0) = g 0 := by rw [hg]; rfl
  have g1 : fcv .f64 .f32 (T 1) = g 1 := by rw [hg]; rfl
  have g2 : fcv .f64 .f32 (T 2) = g 2 := by rw [hg]; rfl
  have HN : Hid (∀ i, i < 3 → isN .f32 (g i) = false ∧ isN .f64 (fop .sub .f64 (fcv .f32 .f64 (g i)) 4607182418800017408) = false ∧ nearOne (g i) = true) := Lib.hid (fun i hi => by
    rcases (show i = 0 ∨ i = 1 ∨ i = 2 by omega) with rfl | rfl | rfl
    · rw [← g0]; exact hn 0 (by omega)
    · rw [← g1]; exact hn 1 (by omega)
    · rw [← g2]; exact hn 2 (by omega))
  have g3 : 1065353216 = g 3 := by rw [hg]; rfl
  rw [g0, g1, g2] at HAP
  have HG3 := Lib.hid g3
  clear g0 g1 g2 g3 hg hn
  go_upto_region 14 with (first | ((with_reducible apply wpList_ld9 (H4.out.2.1)); rfl; rfl; rfl) | (go_at_call 15; refine (HAP.out _).mono ?_; rintro e w5 ⟨rfl, hb5⟩; rw [HG3.out]))
  refine wp_world (fun U5 hU => ?_)
  have hbz : ∀ o, Below w9.heap.size w9 (w5.alloc o) := fun o => hb5.alloc hb5.size o
  have H5 : Hid (TcR w U5 p nn ∧ VecF U5 w5.heap.size 4 g) := Lib.hid (by rw [hU]; exact ⟨H4.out.1.past (hbz _), VecF.of4 (Blk.new _ _ _ _ rfl)⟩)
  clear hU hbz hb5 H4 HAP
  generalize w5.heap.size = nw at *
  go_wp2_with fail
  go_loopw [74] (fun s74 wr => ∃ k : Nat, k ≤ 3 ∧ s74 = .int .i64 k ∧ TcR w wr p nn ∧ VecF wr nw 4 g) (fun s74 _ => 3 - (intOf s74).toNat)
  case atStart => exact ⟨0, by omega, rfl, H5.out⟩
  case round =>
    obtain ⟨k, hk, rfl, hR⟩ := hrel
    have HR := Lib.hid hR
    clear hR H5
    by_cases hk3 : k < 3
    · have hk3' : (k : Int) < 3 := by omega
      have hk4 : (k : Int) < 4 := by omega
      obtain ⟨n1, n2, n3⟩ := HN.out k hk3
      have c0 := HR.out.2.c k (by omega); have cl := HR.out.2.lt
      generalize g k = x at *
      have n4 : isN .f64 (fcv .f32 .f64 x) = false := by rw [isN_fcv]; exact n1
      have NX := Lib.hid (And.intro n1 (And.intro n4 n2))
      have n3' : (FloatKind.f64.format.order (absF (fop .sub .f64 (fcv .f32 .f64 x) 4607182418800017408)) 4517110426252607488 == some .gt) = false := by
        unfold nearOne at n3; simpa using n3
      clear n1 n2 n3 n4
      go_wp2_with (first | ((with_reducible apply wpList_up); rfl; exact Try.underlying22; exact Try.underlying30; intro r _ hr; rw [cn_of_not NX.out.1] at hr; obtain rfl := FR.exact hr NX.out.2.1; clear hr) | ((with_reducible apply wpList_farith); rfl; rfl; rfl; intro r _ hr; rw [fop_cn_left, fop_cn_right] at hr; obtain rfl := FR.exact hr NX.out.2.2; clear hr) | (go_at_call 9; refine (Abs_any _ _).mono ?_; rintro e w' ⟨rfl, rfl⟩) | (go_at_call 10; refine (ld20 _).mono ?_; rintro e w2 ⟨rfl, m, rfl⟩))
      go_roundw
      case rel =>
        refine ⟨k + 1, by omega, by go_num, HR.out.1.past ?_, HR.out.2.past ?_⟩
        · (repeat (first | exact Below.refl _ _ | assumption | (refine Below.setCell ?_ (by first | (simp; done) | (simp; omega) | omega) _) | (refine Below.drew ?_) | (refine below_drewN ?_ _) | (refine Below.alloc ?_ (by first | (simp; done) | (simp; omega) | omega) _) | (refine Below.trans ?_ (Below.mono (by assumption) (by first | (simp; done) | (simp; omega) | omega)))))
        · (repeat (first | exact Below.refl _ _ | assumption | (refine Below.setCell ?_ (by first | (simp; done) | (simp; omega) | omega) _) | (refine Below.drew ?_) | (refine below_drewN ?_ _) | (refine Below.alloc ?_ (by first | (simp; done) | (simp; omega) | omega) _) | (refine Below.trans ?_ (Below.mono (by assumption) (by first | (simp; done) | (simp; omega) | omega)))))
      case measure => simp [intOf]; omega
    · have hk3' : ¬ (k : Int) < 3 := by omega
      by_cases hall : ∀ i, i < 3 → okL (p i) = true ∧ okH (p i) = true
      · have hok := hall
        obtain ⟨n0, l0, u0⟩ := ok_num (hok 0 (by omega)).1 (hok 0 (by omega)).2
        obtain ⟨n1, l1, u1⟩ := ok_num (hok 1 (by omega)).1 (hok 1 (by omega)).2
        obtain ⟨n2, l2, u2⟩ := ok_num (hok 2 (by omega)).1 (hok 2 (by omega)).2
        have B3 := hue_back n0 n1 n2 l0 l1 l2 u0 u1 u2
        have HN := Lib.hid (And.intro n0 (And.intro n1 n2))
        have HTO := Lib.hid (fun w' => ToHSV_num (p 0) (p 1) (p 2) (p 3) w' (isNum_not_nan n0) (isNum_not_nan n1) (isNum_not_nan n2) : ∀ w', _)
        have hlt := hueF_lt (maxF (p 0) (p 1) (p 2)) (lkF (p 0) (p 1) (p 2) 2) (p 0) (p 1) (p 2)
        clear l0 l1 l2 u0 u1 u2 n0 n1 n2
        have ev : cn .f32 (maxF (p 0) (p 1) (p 2)) = maxF (p 0) (p 1) (p 2) := cn_of_not (isNum_not_nan B3.num)
        rw [ev] at HTO
        clear ev
        generalize hueF (maxF (p 0) (p 1) (p 2)) (lkF (p 0) (p 1) (p 2) 2) (p 0) (p 1) (p 2) = h at *
        generalize satF (maxF (p 0) (p 1) (p 2)) (lkF (p 0) (p 1) (p 2) 2) = s at *
        generalize maxF (p 0) (p 1) (p 2) = V at *
        have epx : pixF h s V = tabF (jF h) (cn .f32 V) (htF h s V) (hpF s V) (hqF h s V) := by unfold pixF; rw [if_pos B3.all]
        have HFH := Lib.hid (fun w' => FromHSV_num h s V (p 3) w' hlt B3.all : ∀ w', _)
        rw [← epx] at HFH
        obtain ⟨q, hq⟩ : ∃ q : Nat → Nat, q = fun i => if i = 0 then (pixF h s V).1 else if i = 1 then (pixF h s V).2.1 else if i = 2 then (pixF h s V).2.2 else cn .f32 (p 3) := ⟨_, rfl⟩
        have q0 : (pixF h s V).1 = q 0 := by rw [hq]; rfl
        have q1 : (pixF h s V).2.1 = q 1 := by rw [hq]; rfl
        have q2 : (pixF h s V).2.2 = q 2 := by rw [hq]; rfl
        have q3 : cn .f32 (p 3) = q 3 := by rw [hq]; rfl
        have HB : Hid (∀ i, i < 3 → isNum .f32 (q i) = true ∧ isNum .f32 (p i) = true ∧ Nr (val .f32 (q i)) (val .f32 (p i)) (val .f32 V * (31 * (1 / 16777216)))) := fun i hi => by
          rcases (show i = 0 ∨ i = 1 ∨ i = 2 by omega) with rfl | rfl | rfl
          · rw [← q0]; exact ⟨B3.n0, HN.out.1, B3.d0⟩
          · rw [← q1]; exact ⟨B3.n1, HN.out.2.1, B3.d1⟩
          · rw [← q2]; exact ⟨B3.n2, HN.out.2.2, B3.d2⟩
        rw [q0, q1, q2, q3] at HFH
        have HQ3 := Lib.hid q3
        have HVV := Lib.hid (And.intro B3.num (And.intro B3.lo B3.hi))
        clear hq q0 q1 q2 q3 epx hlt B3 HN
        have HALL := Lib.hid hall
        clear hall hok
        have c0 := HR.out.1.p.c 0 (by omega); have c1 := HR.out.1.p.c 1 (by omega); have c2 := HR.out.1.p.c 2 (by omega); have c3 := HR.out.1.p.c 3 (by omega); have pl := HR.out.1.p.lt
        go_wp2_with fail
        refine (HTO.out _).mono ?_
        rintro e w2 ⟨rfl, hb2⟩
        have H2 := Lib.hid (HR.out.1.past hb2)
        clear hb2 c0 c1 c2 c3 pl HTO HR
        have c3 := H2.out.p.c 3 (by omega); have pl := H2.out.p.lt
        go_wp2_with fail
        refine (HFH.out _).mono ?_
        rintro e w3 ⟨rfl, hb3⟩
        have H3 := Lib.hid (H2.out.past hb3)
        clear hb3 c3 pl HFH H2
        go_upto_region 22 with fail
        refine wp_world (fun W4 hW4 => ?_)
        have HR4 : Hid (TcR w W4 p nn ∧ VecF W4 w3.heap.size 4 q) := Lib.hid (by rw [hW4]; exact ⟨H3.out.past (by (repeat (first | exact Below.refl _ _ | assumption | (refine Below.setCell ?_ (by first | (simp; done) | (simp; omega) | omega) _) | (refine Below.drew ?_) | (refine below_drewN ?_ _) | (refine Below.alloc ?_ (by first | (simp; done) | (simp; omega) | omega) _) | (refine Below.trans ?_ (Below.mono (by assumption) (by first | (simp; done) | (simp; omega) | omega)))))), VecF.of4 (Blk.new _ _ _ _ rfl)⟩)
        clear hW4 H3
        generalize w3.heap.size = nq at *
        go_wp2_with fail
        go_loopw [98] (fun s98 wr => ∃ k : Nat, k ≤ 3 ∧ s98 = .int .i64 k ∧ TcR w wr p nn ∧ VecF wr nq 4 q) (fun s98 _ => 3 - (intOf s98).toNat)
        case atStart => exact ⟨0, by omega, rfl, HR4.out⟩
        case round =>
          obtain ⟨k, hk, rfl, hR⟩ := hrel
          have HR := Lib.hid hR
          clear hR HR4
          by_cases hk3 : k < 3
          · have hk3' : (k : Int) < 3 := by omega
            have hk4 : (k : Int) < 4 := by omega
            obtain ⟨hL, hH⟩ := HALL.out k hk3
            have c0 := HR.out.1.p.c k (by omega); have pl := HR.out.1.p.lt
            generalize p k = v at *
            have hL' : ((FloatKind.f32.format.order v 897581056 == some .gt) || (FloatKind.f32.format.order v 897581056 == some .eq)) = true := hL
            have hH' : ((FloatKind.f32.format.order v 1233125376 == some .lt) || (FloatKind.f32.format.order v 1233125376 == some .eq)) = true := hH
            clear hL hH
            go_wp2_with fail
            go_roundw
            case rel => exact ⟨k + 1, by omega, by go_num, HR.out⟩
            case measure => simp [intOf]; omega
          · have hk3' : ¬ (k : Int) < 3 := by omega
            go_wp2_with fail
            go_loopw [113] (fun s113 wr => ∃ k : Nat, k ≤ 3 ∧ s113 = .int .i64 k ∧ TcR w wr p nn ∧ VecF wr nq 4 q) (fun s113 _ => 3 - (intOf s113).toNat)
            case atStart => exact ⟨0, by omega, rfl, HR.out⟩
            case round =>
              obtain ⟨k, hk, rfl, hR⟩ := hrel
              have HR' := Lib.hid hR
              clear hR HR
              have HR := HR'
              clear HR'
              by_cases hk3 : k < 3
              · have hk3' : (k : Int) < 3 := by omega
                have hk4 : (k : Int) < 4 := by omega
                obtain ⟨nq1, np1, hd1⟩ := HB.out k hk3
                obtain ⟨nV, v0, v1⟩ := HVV.out
                have p0 := HR.out.1.p.c k (by omega); have pl := HR.out.1.p.lt
                have q0 := HR.out.2.c k (by omega); have ql := HR.out.2.lt
                generalize p k = pk at *
                generalize q k = qk at *
                have NQ := Lib.hid nq1; have NP := Lib.hid np1; have HD := Lib.hid hd1; have NV := Lib.hid nV; have V0 := Lib.hid v0; have V1 := Lib.hid v1
                clear nq1 np1 hd1 nV v0 v1
                go_upto_region 31 with fail
                refine wp_region_loose 13 (HlPsi V) (by kernel_rfl) (by kernel_rfl) ?_
                simp only [List.take_succ_cons, List.take_zero, List.drop_succ_cons, List.drop_zero]
                iterate 3 (refine loose_wanted rfl (fun K hK => ?_); go_simp; refine hK _ ?_; clear hK K)
                ((with_reducible apply loose_up); rfl; rfl; exact Try.underlying22; exact Try.underlying30; intro r1 hr1)
                rw [fcv_cn] at hr1
                obtain rfl := FR.exact hr1 (isNum_not_nan (up_exact NQ.out).1)
                clear hr1
                iterate 3 (refine loose_wanted rfl (fun K hK => ?_); go_simp; refine hK _ ?_; clear hK K)
                ((with_reducible apply loose_up); rfl; rfl; exact Try.underlying22; exact Try.underlying30; intro r2 hr2)
                rw [fcv_cn] at hr2
                obtain rfl := FR.exact hr2 (isNum_not_nan (up_exact NP.out).1)
                clear hr2
                ((with_reducible apply loose_farith); rfl; rfl; rfl; rfl; intro r3 hr3)
                rw [fop_cn_left, fop_cn_right] at hr3
                have n3 : isN .f64 (fop .sub .f64 (fcv .f32 .f64 qk) (fcv .f32 .f64 pk)) = false := back_num NQ.out NP.out HD.out V1.out
                obtain rfl := FR.exact hr3 n3
                clear hr3 n3
                refine loose_wanted rfl (fun K1 hK => ?_)
                go_simp
                refine ⟨fun p => (Abs_any _ _).mono ?_, ?_⟩
                · rintro e w' ⟨rfl, rfl⟩
                  exact ⟨_, rfl, hl_psi1.2 rfl, p.h⟩
                intro u hu
                obtain rfl := hl_psi1.1 hu
                refine hK _ ?_
                clear hK K1 hu
                iterate 1 (refine loose_wanted rfl (fun K hK => ?_); go_simp; refine hK _ ?_; clear hK K)
                ((with_reducible apply loose_up); rfl; rfl; exact Try.underlying22; exact Try.underlying30; intro r4 hr4)
                rw [fcv_cn] at hr4
                obtain rfl := FR.exact hr4 (isNum_not_nan (up_exact NV.out).1)
                clear hr4
                refine loose_wanted rfl (fun K1 hK => ?_)
                go_simp
                refine ⟨fun p => (ld19 NV.out V0.out V1.out p.w).mono ?_, ?_⟩
                · rintro e w' ⟨⟨L, rfl, hL⟩, m, rfl⟩
                  exact ⟨_, rfl, hl_psi2.2 ⟨L, rfl, hL⟩, below_drewN p.h m⟩
                intro u hu
                obtain ⟨L, rfl, hL1, hL2⟩ := hl_psi2.1 hu
                refine hK _ ?_
                clear hK K1 hu
                have ho := back_double NQ.out NP.out HD.out V0.out V1.out hL1 hL2
                clear hL1 hL2
                refine loose_nil (fun w5 hb5 => ?_)
                have HR5 := Lib.hid (And.intro (HR.out.1.past hb5) (HR.out.2.past hb5))
                clear hb5 p0 pl q0 ql HR
                go_wp2_with fail
                go_roundw
                case rel => exact ⟨k + 1, by omega, by go_num, HR5.out⟩
                case measure => simp [intOf]; omega
              · have hk3' : ¬ (k : Int) < 3 := by omega
                go_wp2_with fail
                go_ret
                exact ⟨rfl, HR.out.1.b⟩
      · have HNA := Lib.hid hall
        have HTO := Lib.hid (fun w' => ToHSV_any (p 0) (p 1) (p 2) (p 3) w' : ∀ w', _)
        have HLT := Lib.hid (hsv_lt (p 0) (p 1) (p 2))
        obtain ⟨h, hh⟩ : ∃ x, x = (hsvF (p 0) (p 1) (p 2)).1 := ⟨_, rfl⟩
        rw [← hh] at HTO HLT
        generalize (hsvF (p 0) (p 1) (p 2)).2.1 = s at *
        generalize (hsvF (p 0) (p 1) (p 2)).2.2 = V at *
        clear hall hh
        have c0 := HR.out.1.p.c 0 (by omega); have c1 := HR.out.1.p.c 1 (by omega); have c2 := HR.out.1.p.c 2 (by omega); have c3 := HR.out.1.p.c 3 (by omega); have pl := HR.out.1.p.lt
        go_wp2_with fail
        refine (HTO.out _).mono ?_
        rintro e w2 ⟨rfl, hb2⟩
        have H2 := Lib.hid (HR.out.1.past hb2)
        clear hb2 c0 c1 c2 c3 pl HTO HR
        have c3 := H2.out.p.c 3 (by omega); have pl := H2.out.p.lt
        go_wp2_with fail
        refine (FromHSV_some h s V (p 3) _ HLT.out).mono ?_
        rintro e w3 ⟨⟨q, rfl⟩, hb3⟩
        have H3 := Lib.hid (H2.out.past hb3)
        clear hb3 c3 pl H2
        go_upto_region 22 with fail
        refine wp_world (fun W4 hW4 => ?_)
        have HR4 : Hid (TcR w W4 p nn) := Lib.hid (by rw [hW4]; exact H3.out.past (by (repeat (first | exact Below.refl _ _ | assumption | (refine Below.setCell ?_ (by first | (simp; done) | (simp; omega) | omega) _) | (refine Below.drew ?_) | (refine below_drewN ?_ _) | (refine Below.alloc ?_ (by first | (simp; done) | (simp; omega) | omega) _) | (refine Below.trans ?_ (Below.mono (by assumption) (by first | (simp; done) | (simp; omega) | omega)))))))
        clear hW4 H3
        generalize w3.heap.size = nq at *
        go_wp2_with fail
        go_loopw [98] (fun s98 wr => ∃ k : Nat, k ≤ 3 ∧ s98 = .int .i64 k ∧ TcR w wr p nn ∧ ∀ i, i < k → okL (p i) = true ∧ okH (p i) = true) (fun s98 _ => 3 - (intOf s98).toNat)
        case atStart => exact ⟨0, by omega, rfl, HR4.out, fun i hi => by omega⟩
        case round =>
          obtain ⟨k, hk, rfl, hR, hok⟩ := hrel
          have HR := Lib.hid hR
          have HK := Lib.hid hok
          clear hR HR4 hok
          by_cases hk3 : k < 3
          · have hk3' : (k : Int) < 3 := by omega
            have hk4 : (k : Int) < 4 := by omega
            have c0 := HR.out.p.c k (by omega); have pl := HR.out.p.lt
            obtain ⟨v, hv⟩ : ∃ v, v = p k := ⟨_, rfl⟩
            rw [← hv] at c0
            have HV := Lib.hid hv
            clear hv
            cases hL : okL v
            · have hL' : ((FloatKind.f32.format.order v 897581056 == some .gt) || (FloatKind.f32.format.order v 897581056 == some .eq)) = false := hL
              clear hL
              go_wp2_with fail
              go_ret
              exact ⟨rfl, HR.out.b⟩
            · have hL' : ((FloatKind.f32.format.order v 897581056 == some .gt) || (FloatKind.f32.format.order v 897581056 == some .eq)) = true := hL
              cases hH : okH v
              · have hH' : ((FloatKind.f32.format.order v 1233125376 == some .lt) || (FloatKind.f32.format.order v 1233125376 == some .eq)) = false := hH
                clear hL hH
                go_wp2_with fail
                go_ret
                exact ⟨rfl, HR.out.b⟩
              · have hH' : ((FloatKind.f32.format.order v 1233125376 == some .lt) || (FloatKind.f32.format.order v 1233125376 == some .eq)) = true := hH
                have HO := Lib.hid (And.intro hL hH)
                clear hL hH
                go_wp2_with fail
                go_roundw
                case rel =>
                  refine ⟨k + 1, by omega, by go_num, HR.out, fun i hi => ?_⟩
                  rcases (show i < k ∨ i = k by omega) with h | rfl
                  · exact HK.out i h
                  · rw [← HV.out]; exact HO.out
                case measure => simp [intOf]; omega
          · exact absurd (fun i hi => HK.out i (by omega)) HNA.out
def pp4 (a b c d : Nat) : Nat → Nat := fun x => if x = 0 then a else if x = 1 then b else if x = 2 then c else d
theorem tc_walk (p0 p1 p2 p3 : Nat) (a b : Int) (w : World) (_ : p0 < 2 ^ FloatKind.f32.format.width) (_ : p1 < 2 ^ FloatKind.f32.format.width) (_ : p2 < 2 ^ FloatKind.f32.format.width) (_ : p3 < 2 ^ FloatKind.f32.format.width) (_ : IntKind.i64.min ≤ a ∧ a ≤ IntKind.i64.max) (_ : IntKind.i64.min ≤ b ∧ b ≤ IntKind.i64.max) :
    Calls Try.prog 4 #[.agg #[.float .f32 p0, .float .f32 p1, .float .f32 p2, .float .f32 p3], .int .i64 a, .int .i64 b] w fun e w' => e = .returned (.bool true) ∧ Below w.heap.size w w' := tc_core (pp4 p0 p1 p2 p3) a b w
end Go.Proofs.Ytfmdnibfeckmaaa
