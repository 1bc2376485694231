/- The document's colour between four entries of a cube: dyeref2.broken, dyeref2.TetraOf. Conditions: the cube is right. -/
import Derived.Test.YtmckkgbdlgldbaaCO
namespace Go.Proofs.Ytmckkgbdlgldbaa
open Go.RowKit
/-- The order behind so many steps. -/
def stT (x : Nat → Nat) : Nat → Nat → Nat
  | 0 => idP
  | k + 1 => stepP x (k % 2) (stT x k)
theorem stT_isP (x : Nat → Nat) : ∀ k, IsP (stT x k)
  | 0 => isP_id
  | k + 1 => isP_step (by omega) (stT_isP x k)
theorem stT_next {x : Nat → Nat} {d m : Nat} (h : m < 2) : stT x (2 * d + (m + 1)) = stepP x m (stT x (2 * d + m)) := by
  have : (2 * d + m) % 2 = m := by omega
  show stepP x ((2 * d + m) % 2) (stT x (2 * d + m)) = _
  rw [this]
theorem stT_four {x : Nat → Nat} (hx : ∀ j, j < 3 → isN .f32 (x j) = false) : stT x 4 = ord3 x := ord3_sorted hx
theorem mixT_cn (a b c d s t u : Nat) : mixT (cn .f32 a) (cn .f32 b) (cn .f32 c) (cn .f32 d) s t u = mixT a b c d s t u := by
  unfold mixT
  simp only [cn_cn, fop_cn_left, fop_cn_right]
theorem tetF_cn (S lo hi : Nat) (fs p : Nat → Nat) (m : Nat) : tetF S lo hi (fun t => cn .f32 (fs t)) p m = tetF S lo hi fs p m := by
  unfold tetF
  simp only [mixT_cn]
theorem VecF.of12 {w : World} {b : Nat} {f : Nat → Nat} (k : Blk w b [.float .f32 (f 0), .float .f32 (f 1), .float .f32 (f 2), .float .f32 (f 3), .float .f32 (f 4), .float .f32 (f 5), .float .f32 (f 6), .float .f32 (f 7), .float .f32 (f 8), .float .f32 (f 9), .float .f32 (f 10), .float .f32 (f 11)]) : VecF w b 12 f :=
  ⟨k.lt, fun j hj => k.c j _ (by rcases (show j = 0 ∨ j = 1 ∨ j = 2 ∨ j = 3 ∨ j = 4 ∨ j = 5 ∨ j = 6 ∨ j = 7 ∨ j = 8 ∨ j = 9 ∨ j = 10 ∨ j = 11 by omega) with rfl | rfl | rfl | rfl | rfl | rfl | rfl | rfl | rfl | rfl | rfl | rfl <;> rfl), k.f⟩
theorem corQ_cn {S : Nat} {i o fs : Nat → Nat} {q : Nat → Nat} (h : CorQ S i o (fun t => cn .f32 (fs t)) 4 q) {m : Nat} (hm : m < 3) : cn .f32 (q m) = q m ∧ cn .f32 (q (3 + m)) = q (3 + m) ∧ cn .f32 (q (6 + m)) = q (6 + m) ∧ cn .f32 (q (9 + m)) = q (9 + m) := by
  have e0 := h 0 (by omega) m hm
  have e1 := h 1 (by omega) m hm
  have e2 := h 2 (by omega) m hm
  have e3 := h 3 (by omega) m hm
  rw [show 3 * 0 + m = m by omega] at e0
  rw [show 3 * 1 + m = 3 + m by omega] at e1
  rw [show 3 * 2 + m = 6 + m by omega] at e2
  rw [show 3 * 3 + m = 9 + m by omega] at e3
  rw [e0, e1, e2, e3]
  exact ⟨cn_cn _ _, cn_cn _ _, cn_cn _ _, cn_cn _ _⟩
set_option maxHeartbeats 1600000 in
theorem broken_any (p : Nat → Nat) (w : World) :
    Calls Try.prog 177 #[.agg #[.float .f32 (p 0), .float .f32 (p 1), .float .f32 (p 2), .float .f32 (p 3)]] w fun e w' => e = .returned (.bool (brokB p)) ∧ Below w.heap.size w w' := by
  have n0 := ne_self (p 0)
  have n1 := ne_self (p 1)
  have n2 := ne_self (p 2)
  cases h0 : isN .f32 (p 0) <;> rw [h0] at n0
  · cases h1 : isN .f32 (p 1) <;> rw [h1] at n1
    · cases h2 : isN .f32 (p 2) <;> rw [h2] at n2
      all_goals
        go_enter Try.func177, Try.ntmps177
        go_wp2_with fail
        go_ret
        refine ⟨by simp [brokB, *], ?_⟩
        (repeat (first | exact Below.refl _ _ | assumption | (refine Below.setCell ?_ (by first | (simp; done) | (simp; omega) | omega) _) | (refine Below.drew ?_) | (refine below_drewN ?_ _) | (refine Below.alloc ?_ (by first | (simp; done) | (simp; omega) | omega) _) | (refine Below.trans ?_ (Below.mono (by assumption) (by first | (simp; done) | (simp; omega) | omega)))))
    · go_enter Try.func177, Try.ntmps177
      go_wp2_with fail
      go_ret
      refine ⟨by simp [brokB, *], ?_⟩
      (repeat (first | exact Below.refl _ _ | assumption | (refine Below.setCell ?_ (by first | (simp; done) | (simp; omega) | omega) _) | (refine Below.drew ?_) | (refine below_drewN ?_ _) | (refine Below.alloc ?_ (by first | (simp; done) | (simp; omega) | omega) _) | (refine Below.trans ?_ (Below.mono (by assumption) (by first | (simp; done) | (simp; omega) | omega)))))
  · go_enter Try.func177, Try.ntmps177
    go_wp2_with fail
    go_ret
    refine ⟨by simp [brokB, *], ?_⟩
    (repeat (first | exact Below.refl _ _ | assumption | (refine Below.setCell ?_ (by first | (simp; done) | (simp; omega) | omega) _) | (refine Below.drew ?_) | (refine below_drewN ?_ _) | (refine Below.alloc ?_ (by first | (simp; done) | (simp; omega) | omega) _) | (refine Below.trans ?_ (Below.mono (by assumption) (by first | (simp; done) | (simp; omega) | omega)))))
set_option maxRecDepth 100000 in
set_option maxHeartbeats 16000000 in
theorem TetraOf_any (S lo hi b off n cap : Nat) (fs p : Nat → Nat) (w : World) (hS : 2 ≤ S ∧ S ≤ 17) (hn : n = 3 * (S * S * S)) (hc : Row w b off n fs) :
    Calls Try.prog 97 #[.agg #[.int .i64 S, .float .f32 lo, .float .f32 hi, .slice (some ⟨b, off, none⟩) n cap], .agg #[.float .f32 (p 0), .float .f32 (p 1), .float .f32 (p 2), .float .f32 (p 3)]] w fun e w' =>
      e = .returned (.agg #[.float .f32 (tetF S lo hi fs p 0), .float .f32 (tetF S lo hi fs p 1), .float .f32 (tetF S lo hi fs p 2), .float .f32 (tetF S lo hi fs p 3)]) ∧ Below w.heap.size w w' := by
  have hbw : b < w.heap.size := hc.lt (by have : 0 < S * S * S := Nat.mul_pos (Nat.mul_pos (by omega) (by omega)) (by omega); omega)
  have HE : Hid (∀ x y z w', x < S → y < S → z < S → Below w.heap.size w w' → Calls Try.prog 40 #[.agg #[.int .i64 S, .float .f32 lo, .float .f32 hi, .slice (some ⟨b, off, none⟩) n cap], .int .i64 (x : Nat), .int .i64 (y : Nat), .int .i64 (z : Nat)] w' fun e w'' =>
      e = .returned (.agg #[.float .f32 (cn .f32 (fs (3 * enI S x y z))), .float .f32 (cn .f32 (fs (3 * enI S x y z + 1))), .float .f32 (cn .f32 (fs (3 * enI S x y z + 2)))]) ∧ Below w'.heap.size w' w'') := fun x y z w' hx hy hz hb => EntryOf_any S x y z lo hi b off n cap fs w' hS.2 hx hy hz hn (hc.below hb hbw)
  have HS := Lib.hid hS
  clear hc hn hbw hS
  go_enter Try.func97, Try.ntmps97
  go_upto_region 1 with fail
  refine wp_world (fun W hW => ?_)
  have CB : Blk W w.heap.size [.int .i64 S, .float .f32 lo, .float .f32 hi, .slice (some ⟨b, off, none⟩) n cap] := by rw [hW]; exact ((Blk.new _ _ _ _ rfl).alloc _).alloc _
  have PB : VecF W (w.heap.size + 1) 4 p := by rw [hW]; exact VecF.of4 ((Blk.new _ _ _ _ (by simp)).alloc _)
  have ZB : Blk W (w.heap.size + 2) [.float .f32 0, .float .f32 0, .float .f32 0, .float .f32 0] := by rw [hW]; exact Blk.new _ _ _ _ (by simp)
  have BW : Below w.heap.size w W := by rw [hW]; (repeat (first | exact Below.refl _ _ | assumption | (refine Below.setCell ?_ (by first | (simp; done) | (simp; omega) | omega) _) | (refine Below.drew ?_) | (refine below_drewN ?_ _) | (refine Below.alloc ?_ (by first | (simp; done) | (simp; omega) | omega) _) | (refine Below.trans ?_ (Below.mono (by assumption) (by first | (simp; done) | (simp; omega) | omega)))))
  clear hW
  have p0 := PB.c 0 (by omega); have p1 := PB.c 1 (by omega); have p2 := PB.c 2 (by omega); have p3 := PB.c 3 (by omega)
  have HB := Lib.hid (And.intro CB (And.intro PB (And.intro ZB BW)))
  clear CB PB ZB BW
  go_wp2_with (first | (go_at_call 141; refine (TheNaN_any _).mono ?_; rintro e w' ⟨rfl, rfl⟩))
  refine (broken_any p _).mono ?_
  rintro e w2 ⟨rfl, hb2⟩
  have H2 : Hid (Blk w2 w.heap.size [.int .i64 S, .float .f32 lo, .float .f32 hi, .slice (some ⟨b, off, none⟩) n cap] ∧ VecF w2 (w.heap.size + 1) 4 p ∧ Blk w2 (w.heap.size + 2) [.float .f32 0, .float .f32 0, .float .f32 0, .float .f32 0] ∧ Below w.heap.size w w2) :=
    ⟨HB.out.1.past hb2, HB.out.2.1.past hb2, HB.out.2.2.1.past hb2, HB.out.2.2.2.trans (hb2.mono HB.out.2.2.2.size)⟩
  clear p0 p1 p2 p3 HB hb2
  cases hB : brokB p
  case true =>
    have HBR := Lib.hid hB
    clear hB
    have p3 := H2.out.2.1.c 3 (by omega); have pl := H2.out.2.1.lt; have B3 := H2.out.2.2.2
    have z0 := H2.out.2.2.1.c 0 _ rfl; have z1 := H2.out.2.2.1.c 1 _ rfl; have z2 := H2.out.2.2.1.c 2 _ rfl; have z3 := H2.out.2.2.1.c 3 _ rfl; have zf := H2.out.2.2.1.f; have zl := H2.out.2.2.1.lt
    clear H2
    go_wp2_with (first | (go_at_call 48; refine (Fix_any _ _).mono ?_; rintro e w' ⟨rfl, rfl⟩))
    refine bodyPost_ret (v := .agg #[.float .f32 2143289344, .float .f32 2143289344, .float .f32 2143289344, .float .f32 (cn .f32 (p 3))]) (by simp [results, Try.results97, go_sem, z0, z1, z2, z3]) rfl ⟨by unfold tetF; simp [HBR.out], ?_⟩
    exact (((B3.setCell (by first | (simp; done) | (simp; omega) | omega) _).setCell (by first | (simp; done) | (simp; omega) | omega) _).setCell (by first | (simp; done) | (simp; omega) | omega) _).setCell (by first | (simp; done) | (simp; omega) | omega) _
  case false =>
    have HBR := Lib.hid hB
    clear hB
    go_upto_region 6 with fail
    refine wp_world (fun W3 hW3 => ?_)
    have AB : Blk W3 w2.heap.size [.int .i64 0, .int .i64 0, .int .i64 0] := by rw [hW3]; exact (Blk.new _ _ _ _ rfl).alloc _
    have SB : Blk W3 (w2.heap.size + 1) [.float .f32 0, .float .f32 0, .float .f32 0] := by rw [hW3]; exact Blk.new _ _ _ _ (by simp)
    have B3 : Below w2.heap.size w2 W3 := by rw [hW3]; (repeat (first | exact Below.refl _ _ | assumption | (refine Below.setCell ?_ (by first | (simp; done) | (simp; omega) | omega) _) | (refine Below.drew ?_) | (refine below_drewN ?_ _) | (refine Below.alloc ?_ (by first | (simp; done) | (simp; omega) | omega) _) | (refine Below.trans ?_ (Below.mono (by assumption) (by first | (simp; done) | (simp; omega) | omega)))))
    have HA3 : Hid (AxR w W3 [.int .i64 S, .float .f32 lo, .float .f32 hi, .slice (some ⟨b, off, none⟩) n cap] p w2.heap.size (fun _ => 0) (fun _ => 0)) := ⟨H2.out.1.past B3, H2.out.2.1.past B3, H2.out.2.2.1.past B3, VecI.of3 (f := fun _ => 0) AB, VecF.of3 (f := fun _ => 0) SB, H2.out.2.2.2.trans (B3.mono H2.out.2.2.2.size), H2.out.2.2.1.lt⟩
    clear hW3 AB SB B3 H2
    generalize w2.heap.size = na at *
    go_wp2_with fail
    go_loopw [33] (fun s33 wr => ∃ m : Nat, m ≤ 3 ∧ s33 = .int .i64 m ∧ ∃ f g, AxR w wr [.int .i64 S, .float .f32 lo, .float .f32 hi, .slice (some ⟨b, off, none⟩) n cap] p na f g ∧ ∀ j, j < m → f j = (plF S lo hi (p j)).1 ∧ g j = (plF S lo hi (p j)).2) (fun s33 _ => 3 - (intOf s33).toNat)
    case atStart => exact ⟨0, by omega, rfl, _, _, HA3.out, fun j hj => by omega⟩
    case round =>
      obtain ⟨m, hm, rfl, f, g, hR, he⟩ := hrel
      have HR5 := Lib.hid hR; have HE5 := Lib.hid he
      clear hR he HA3
      by_cases hm3 : m < 3
      · have i3 : (m : Int) < 3 := by omega
        have i4 : (m : Int) < 4 := by omega
        obtain ⟨v, hv⟩ : ∃ v, v = p m := ⟨_, rfl⟩
        have HV := Lib.hid hv
        clear hv
        have p0 := HR5.out.p.c m (by omega)
        rw [← HV.out] at p0
        have pl := HR5.out.p.lt
        have c0 := HR5.out.c.c 0 _ rfl; have c1 := HR5.out.c.c 1 _ rfl; have c2 := HR5.out.c.c 2 _ rfl; have c3 := HR5.out.c.c 3 _ rfl; have cl := HR5.out.c.lt
        obtain ⟨x, hx⟩ : ∃ x, x = plF S lo hi v := ⟨_, rfl⟩
        have HX := Lib.hid hx; clear hx
        go_wp2_with fail
        have BCH : Hid (Below wr.heap.size wr wr) := Below.refl _ _
        have i3' : (m : Int) < 3 := i3
        have ll := HR5.out.l
        have n0 : na ≠ w.heap.size := by omega
        have n1 : na + 1 ≠ w.heap.size := by omega
        have n2 : na ≠ w.heap.size + 1 := by omega
        have n3 : na + 1 ≠ w.heap.size + 1 := by omega
        go_region_held3 (fun W => W.cell? ⟨w.heap.size, 0, none⟩ = some (.int .i64 S) ∧ W.cell? ⟨w.heap.size, 1, none⟩ = some (.float .f32 lo) ∧ W.cell? ⟨w.heap.size, 2, none⟩ = some (.float .f32 hi) ∧ W.cell? ⟨w.heap.size, 3, none⟩ = some (.slice (some ⟨b, off, none⟩) n cap) ∧ W.cell? ⟨w.heap.size + 1, m, none⟩ = some (.float .f32 v))
          (go_keep)
          (first | (go_at_call 96; refine (OnAxis_any S lo hi v _ n cap _ HS.out).mono ?_; rintro e w8 ⟨rfl, hb8⟩; have B8 : Hid (Below wr.heap.size wr w8) := BCH.out.drew.trans (hb8.mono (by simp)); have HR8 := Lib.hid (HR5.out.past B8.out); obtain ⟨k0, k1, k2, k3, k4⟩ := ax_keep HR8.out (Below.refl _ _) hm3 HV.out; have a0 := HR8.out.a.c m hm3; have s0 := HR8.out.s.c m hm3; have af := HR8.out.a.f; have sf := HR8.out.s.f; have al := HR8.out.a.lt; have sl := HR8.out.s.lt; clear hb8; rw [← HX.out]))
        all_goals
          go_wp2_with fail
          go_roundw
          case rel =>
            refine ⟨m + 1, by omega, by first | rfl | go_num, _, _, by first | exact (HR8.out.setA m hm3 _).setB m hm3 _ | exact (HR8.out.setB m hm3 _).setA m hm3 _, fun j hj => ?_⟩
            by_cases h : j = m
            · subst h
              rw [← HV.out]
              exact ⟨by rw [if_pos rfl, HX.out], by rw [if_pos rfl, HX.out]⟩
            · obtain ⟨h2, h3⟩ := HE5.out j (by omega)
              exact ⟨by rw [if_neg h]; exact h2, by rw [if_neg h]; exact h3⟩
          case measure => simp [intOf]; omega
      · obtain rfl : m = 3 := by omega
        clear hm hm3
        obtain ⟨i, hii⟩ : ∃ i : Nat → Nat, i = fun a => (plF S lo hi (p a)).1.toNat := ⟨_, rfl⟩
        obtain ⟨x, hx⟩ : ∃ x : Nat → Nat, x = fun a => (plF S lo hi (p a)).2 := ⟨_, rfl⟩
        have HI : Hid (∀ j, j < 3 → f j = ((i j : Nat) : Int) ∧ i j + 2 ≤ S ∧ g j = x j ∧ isN .f32 (x j) = false) := fun j hj => by
          obtain ⟨h1, h2⟩ := HE5.out j hj
          obtain ⟨⟨N, e, l⟩, hq⟩ := plF_ok (S := S) (lo := lo) (hi := hi) (v := p j) HS.out
          have : i j = N := by rw [hii]; show (plF S lo hi (p j)).1.toNat = N; rw [e]; rfl
          exact ⟨by rw [h1, e, this], by omega, by rw [h2, hx], by rw [hx]; exact hq⟩
        have HIX := Lib.hid (And.intro hii hx)
        clear hii hx HE5
        go_upto_region 12 with fail
        refine wp_world (fun W5 hW5 => ?_)
        have OB : Blk W5 wr.heap.size [.int .i64 0, .int .i64 1, .int .i64 2] := by rw [hW5]; exact Blk.new _ _ _ _ rfl
        have B5 : Below wr.heap.size wr W5 := by rw [hW5]; (repeat (first | exact Below.refl _ _ | assumption | (refine Below.setCell ?_ (by first | (simp; done) | (simp; omega) | omega) _) | (refine Below.drew ?_) | (refine below_drewN ?_ _) | (refine Below.alloc ?_ (by first | (simp; done) | (simp; omega) | omega) _) | (refine Below.trans ?_ (Below.mono (by assumption) (by first | (simp; done) | (simp; omega) | omega)))))
        have T5 : TeR w W5 [.int .i64 S, .float .f32 lo, .float .f32 hi, .slice (some ⟨b, off, none⟩) n cap] p na (na + 1) wr.heap.size x i idP :=
          ⟨HR5.out.c.past B5, HR5.out.p.past B5, HR5.out.z.past B5, (HR5.out.a.congr (fun j hj => (HI.out j hj).1)).past B5, (HR5.out.s.congr (fun j hj => (HI.out j hj).2.2.1)).past B5, VecI.of3 (f := fun j => ((idP j : Nat) : Int)) OB, HR5.out.b.trans (B5.mono HR5.out.b.size), HR5.out.l, by omega, HR5.out.s.lt⟩
        have HT5 := Lib.hid T5
        clear hW5 OB B5 T5 HR5
        generalize wr.heap.size = no at *
        go_wp2_with fail
        go_loopw [50] (fun s50 wr => ∃ d : Nat, d ≤ 2 ∧ s50 = .int .i64 d ∧ TeR w wr [.int .i64 S, .float .f32 lo, .float .f32 hi, .slice (some ⟨b, off, none⟩) n cap] p na (na + 1) no x i (stT x (2 * d))) (fun s50 _ => 2 - (intOf s50).toNat)
        case atStart => exact ⟨0, by omega, rfl, HT5.out⟩
        case round =>
          obtain ⟨d, hd, rfl, hR⟩ := hrel
          have HR := Lib.hid hR
          clear hR HT5
          by_cases hd2 : d < 2
          · have id2 : (d : Int) < 2 := by omega
            go_wp2_with fail
            go_loopw [52] (fun s52 wr => ∃ e : Nat, e ≤ 2 ∧ s52 = .int .i64 e ∧ TeR w wr [.int .i64 S, .float .f32 lo, .float .f32 hi, .slice (some ⟨b, off, none⟩) n cap] p na (na + 1) no x i (stT x (2 * d + e))) (fun s52 _ => 2 - (intOf s52).toNat)
            case atStart => exact ⟨0, by omega, rfl, HR.out⟩
            case round =>
              obtain ⟨e, he, rfl, hR⟩ := hrel
              have HR2 := Lib.hid hR
              clear hR HR
              by_cases he2 : e < 2
              · rcases (show e = 0 ∨ e = 1 by omega) with rfl | rfl
                ·
                  as_aux_lemma =>
                    rw [show ((0 : Nat) : Int) = 0 from rfl]
                    obtain ⟨o, ho⟩ : ∃ o, o = stT x (2 * d + 0) := ⟨_, rfl⟩
                    have IO : IsP o := ho ▸ stT_isP x (2 * d + 0)
                    rw [← ho] at HR2
                    have HO := Lib.hid ho
                    clear ho he he2
                    obtain ⟨y0, e0⟩ : ∃ y, y = o 0 := ⟨_, rfl⟩
                    obtain ⟨y1, e1⟩ : ∃ y, y = o (0 + 1) := ⟨_, rfl⟩
                    have b0 : y0 < 3 := e0 ▸ isP_lt IO (by omega)
                    have b1 : y1 < 3 := e1 ▸ isP_lt IO (by omega)
                    have q0 := HR2.out.o.c 0 (by omega)
                    have q1 := HR2.out.o.c (0 + 1) (by omega)
                    rw [← e0] at q0
                    rw [← e1] at q1
                    have v0 := HR2.out.s.c y0 b0
                    have v1 := HR2.out.s.c y1 b1
                    have bi0 : (y0 : Int) < 3 := by omega
                    have bi1 : (y1 : Int) < 3 := by omega
                    have sl := HR2.out.s.lt
                    have ol := HR2.out.o.lt
                    have of := HR2.out.o.f
                    obtain ⟨x0, f0⟩ : ∃ z, z = x y0 := ⟨_, rfl⟩
                    obtain ⟨x1, f1⟩ : ∃ z, z = x y1 := ⟨_, rfl⟩
                    rw [← f0] at v0
                    rw [← f1] at v1
                    have HV := Lib.hid (And.intro e0 (And.intro e1 (And.intro f0 f1)))
                    clear e0 e1 f0 f1 IO
                    go_wp2_with fail
                    go_quiet (fail)
                    cases hG : (FloatKind.f32.format.order x1 x0 == some .gt)
                    case false =>
                      have HG := Lib.hid hG
                      go_wp2_with fail
                      go_roundw
                      case rel =>
                        refine ⟨0 + 1, by omega, by first | rfl | go_num, ?_⟩
                        obtain ⟨rfl, rfl, rfl, rfl⟩ := HV.out
                        obtain rfl := HO.out
                        rw [stT_next (d := d) (m := 0) (by omega)]
                        rw [step_no HG.out]
                        exact HR2.out.past (by (repeat (first | exact Below.refl _ _ | assumption | (refine Below.setCell ?_ (by first | (simp; done) | (simp; omega) | omega) _) | (refine Below.drew ?_) | (refine below_drewN ?_ _) | (refine Below.alloc ?_ (by first | (simp; done) | (simp; omega) | omega) _) | (refine Below.trans ?_ (Below.mono (by assumption) (by first | (simp; done) | (simp; omega) | omega))))))
                      case measure => simp [intOf]
                    case true =>
                      have HG := Lib.hid hG
                      go_wp2_with fail
                      go_region
                      all_goals
                        go_wp2_with fail
                        go_roundw
                        case rel =>
                          refine ⟨0 + 1, by omega, by first | rfl | go_num, ?_⟩
                          obtain ⟨rfl, rfl, rfl, rfl⟩ := HV.out
                          obtain rfl := HO.out
                          rw [stT_next (d := d) (m := 0) (by omega)]
                          rw [step_yes HG.out]
                          first | exact (HR2.out.past (by (repeat (first | exact Below.refl _ _ | assumption | (refine Below.setCell ?_ (by first | (simp; done) | (simp; omega) | omega) _) | (refine Below.drew ?_) | (refine below_drewN ?_ _) | (refine Below.alloc ?_ (by first | (simp; done) | (simp; omega) | omega) _) | (refine Below.trans ?_ (Below.mono (by assumption) (by first | (simp; done) | (simp; omega) | omega))))))).swap 0 (by omega) | exact (HR2.out.past (by (repeat (first | exact Below.refl _ _ | assumption | (refine Below.setCell ?_ (by first | (simp; done) | (simp; omega) | omega) _) | (refine Below.drew ?_) | (refine below_drewN ?_ _) | (refine Below.alloc ?_ (by first | (simp; done) | (simp; omega) | omega) _) | (refine Below.trans ?_ (Below.mono (by assumption) (by first | (simp; done) | (simp; omega) | omega))))))).swap' 0 (by omega)
                        case measure => simp [intOf]
                ·
                  as_aux_lemma =>
                    rw [show ((1 : Nat) : Int) = 1 from rfl]
                    obtain ⟨o, ho⟩ : ∃ o, o = stT x (2 * d + 1) := ⟨_, rfl⟩
                    have IO : IsP o := ho ▸ stT_isP x (2 * d + 1)
                    rw [← ho] at HR2
                    have HO := Lib.hid ho
                    clear ho he he2
                    obtain ⟨y0, e0⟩ : ∃ y, y = o 1 := ⟨_, rfl⟩
                    obtain ⟨y1, e1⟩ : ∃ y, y = o (1 + 1) := ⟨_, rfl⟩
                    have b0 : y0 < 3 := e0 ▸ isP_lt IO (by omega)
                    have b1 : y1 < 3 := e1 ▸ isP_lt IO (by omega)
                    have q0 := HR2.out.o.c 1 (by omega)
                    have q1 := HR2.out.o.c (1 + 1) (by omega)
                    rw [← e0] at q0
                    rw [← e1] at q1
                    have v0 := HR2.out.s.c y0 b0
                    have v1 := HR2.out.s.c y1 b1
                    have bi0 : (y0 : Int) < 3 := by omega
                    have bi1 : (y1 : Int) < 3 := by omega
                    have sl := HR2.out.s.lt
                    have ol := HR2.out.o.lt
                    have of := HR2.out.o.f
                    obtain ⟨x0, f0⟩ : ∃ z, z = x y0 := ⟨_, rfl⟩
                    obtain ⟨x1, f1⟩ : ∃ z, z = x y1 := ⟨_, rfl⟩
                    rw [← f0] at v0
                    rw [← f1] at v1
                    have HV := Lib.hid (And.intro e0 (And.intro e1 (And.intro f0 f1)))
                    clear e0 e1 f0 f1 IO
                    go_wp2_with fail
                    go_quiet (fail)
                    cases hG : (FloatKind.f32.format.order x1 x0 == some .gt)
                    case false =>
                      have HG := Lib.hid hG
                      go_wp2_with fail
                      go_roundw
                      case rel =>
                        refine ⟨1 + 1, by omega, by first | rfl | go_num, ?_⟩
                        obtain ⟨rfl, rfl, rfl, rfl⟩ := HV.out
                        obtain rfl := HO.out
                        rw [stT_next (d := d) (m := 1) (by omega)]
                        rw [step_no HG.out]
                        exact HR2.out.past (by (repeat (first | exact Below.refl _ _ | assumption | (refine Below.setCell ?_ (by first | (simp; done) | (simp; omega) | omega) _) | (refine Below.drew ?_) | (refine below_drewN ?_ _) | (refine Below.alloc ?_ (by first | (simp; done) | (simp; omega) | omega) _) | (refine Below.trans ?_ (Below.mono (by assumption) (by first | (simp; done) | (simp; omega) | omega))))))
                      case measure => simp [intOf]
                    case true =>
                      have HG := Lib.hid hG
                      go_wp2_with fail
                      go_region
                      all_goals
                        go_wp2_with fail
                        go_roundw
                        case rel =>
                          refine ⟨1 + 1, by omega, by first | rfl | go_num, ?_⟩
                          obtain ⟨rfl, rfl, rfl, rfl⟩ := HV.out
                          obtain rfl := HO.out
                          rw [stT_next (d := d) (m := 1) (by omega)]
                          rw [step_yes HG.out]
                          first | exact (HR2.out.past (by (repeat (first | exact Below.refl _ _ | assumption | (refine Below.setCell ?_ (by first | (simp; done) | (simp; omega) | omega) _) | (refine Below.drew ?_) | (refine below_drewN ?_ _) | (refine Below.alloc ?_ (by first | (simp; done) | (simp; omega) | omega) _) | (refine Below.trans ?_ (Below.mono (by assumption) (by first | (simp; done) | (simp; omega) | omega))))))).swap 1 (by omega) | exact (HR2.out.past (by (repeat (first | exact Below.refl _ _ | assumption | (refine Below.setCell ?_ (by first | (simp; done) | (simp; omega) | omega) _) | (refine Below.drew ?_) | (refine below_drewN ?_ _) | (refine Below.alloc ?_ (by first | (simp; done) | (simp; omega) | omega) _) | (refine Below.trans ?_ (Below.mono (by assumption) (by first | (simp; done) | (simp; omega) | omega))))))).swap' 1 (by omega)
                        case measure => simp [intOf]
              · obtain rfl : e = 2 := by omega
                go_wp2_with fail
                go_roundw
                case rel => exact ⟨d + 1, by omega, by first | rfl | go_num, HR2.out⟩
                case measure => simp [intOf]; omega
          · obtain rfl : d = 2 := by omega
            clear hd hd2
            obtain ⟨o, ho⟩ : ∃ o, o = ord3 x := ⟨_, rfl⟩
            have IO := Lib.hid (ho ▸ ord3_isP x : IsP o)
            rw [show stT x (2 * 2) = o from by rw [ho]; exact stT_four (fun j hj => (HI.out j hj).2.2.2)] at HR
            have HO := Lib.hid ho
            clear ho
            have c0 := HR.out.c.c 0 _ rfl; have c1 := HR.out.c.c 1 _ rfl; have c2 := HR.out.c.c 2 _ rfl; have c3 := HR.out.c.c 3 _ rfl; have cl := HR.out.c.lt
            have a0 := HR.out.a.c 0 (by omega); have a1 := HR.out.a.c 1 (by omega); have a2 := HR.out.a.c 2 (by omega); have al := HR.out.a.lt
            go_wp2_with fail
            refine (HE.out _ _ _ _ (by have := (HI.out 0 (by omega)).2.1; omega) (by have := (HI.out 1 (by omega)).2.1; omega) (by have := (HI.out 2 (by omega)).2.1; omega) HR.out.b).mono ?_
            rintro e w7 ⟨rfl, hb7⟩
            have HT7 := Lib.hid (HR.out.past hb7)
            clear hb7 c0 c1 c2 c3 cl a0 a1 a2 al HR
            go_upto_region 22 with fail
            refine wp_world (fun W8 hW8 => ?_)
            have KB : VecF W8 w7.heap.size 12 (fun j => if j = 3 * 0 + 2 then (fun t => cn .f32 (fs t)) (3 * corE S i o 0 + 2) else if j = 3 * 0 + 1 then (fun t => cn .f32 (fs t)) (3 * corE S i o 0 + 1) else if j = 3 * 0 then (fun t => cn .f32 (fs t)) (3 * corE S i o 0) else 0) := by
              rw [hW8]
              exact VecF.of12 (f := fun j => if j = 3 * 0 + 2 then (fun t => cn .f32 (fs t)) (3 * corE S i o 0 + 2) else if j = 3 * 0 + 1 then (fun t => cn .f32 (fs t)) (3 * corE S i o 0 + 1) else if j = 3 * 0 then (fun t => cn .f32 (fs t)) (3 * corE S i o 0) else 0) (Blk.new _ _ _ _ rfl)
            have B8 : Below w7.heap.size w7 W8 := by rw [hW8]; (repeat (first | exact Below.refl _ _ | assumption | (refine Below.setCell ?_ (by first | (simp; done) | (simp; omega) | omega) _) | (refine Below.drew ?_) | (refine below_drewN ?_ _) | (refine Below.alloc ?_ (by first | (simp; done) | (simp; omega) | omega) _) | (refine Below.trans ?_ (Below.mono (by assumption) (by first | (simp; done) | (simp; omega) | omega)))))
            have lk := HT7.out.o.lt
            have HT8 := Lib.hid (HT7.out.past B8); have HK8 := Lib.hid (And.intro KB lk)
            clear hW8 KB B8 HT7 lk
            generalize w7.heap.size = nk at *
            go_wp2_with fail
            go_loopw [98] (fun s98 wr => ∃ r : Nat, r ≤ 3 ∧ s98 = .int .i64 r ∧ TeR w wr [.int .i64 S, .float .f32 lo, .float .f32 hi, .slice (some ⟨b, off, none⟩) n cap] p na (na + 1) no x (atR i o r) o ∧ ∃ q, VecF wr nk 12 q ∧ CorQ S i o (fun t => cn .f32 (fs t)) (r + 1) q) (fun s98 _ => 3 - (intOf s98).toNat)
            case atStart => exact ⟨0, by omega, rfl, HT8.out, _, HK8.out.1, corQ_step (corQ_zero S i o (fun t => cn .f32 (fs t)) (fun _ => 0))⟩
            case round =>
              obtain ⟨r, hr, rfl, hR, q, hK, hQ⟩ := hrel
              have lk := HK8.out.2
              have HR := Lib.hid hR
              have HK := Lib.hid (And.intro hK (And.intro hQ lk))
              clear hR hK hQ lk HT8 HK8
              by_cases hr3 : r < 3
              · rcases (show r = 0 ∨ r = 1 ∨ r = 2 by omega) with rfl | rfl | rfl
                ·
                  as_aux_lemma =>
                    rw [show ((0 : Nat) : Int) = 0 from rfl]
                    obtain ⟨y, hy⟩ : ∃ y, y = o 0 := ⟨_, rfl⟩
                    have hb : y < 3 := hy ▸ isP_lt IO.out (by omega)
                    have q0 := HR.out.o.c 0 (by omega)
                    rw [← hy] at q0
                    have ol := HR.out.o.lt
                    obtain ⟨A, hA⟩ : ∃ A, A = atR i o 0 y := ⟨_, rfl⟩
                    have v0 := HR.out.a.c y hb
                    rw [← hA] at v0
                    have bA : A < 17 := by have := atR_le (S := S) IO.out (fun a ha => (HI.out a ha).2.1) 0 (by omega) y hb; have := HS.out; omega
                    have u : IntKind.i64.wrap ((A : Int) + 1) = ((A + 1 : Nat) : Int) := by rw [IntKind.wrap_i64]; omega
                    have bi : (y : Int) < 3 := by omega
                    have al := HR.out.a.lt
                    have af := HR.out.a.f
                    have HY := Lib.hid (And.intro hy hA)
                    clear hy hA bA hr hr3
                    go_upto_region 26 with fail
                    refine wp_world (fun W7 hW7 => ?_)
                    have T7 : TeR w W7 [.int .i64 S, .float .f32 lo, .float .f32 hi, .slice (some ⟨b, off, none⟩) n cap] p na (na + 1) no x (atR i o (0 + 1)) o := by
                      obtain ⟨rfl, rfl⟩ := HY.out
                      rw [hW7]
                      exact (HR.out.past (Below.refl _ _)).step 0 hb
                    have K7 : VecF W7 nk 12 q := by
                      rw [hW7]
                      exact HK.out.1.far _ _ (by have := HR.out.l; have := HK.out.2.2; simp; omega)
                    have HT7 := Lib.hid T7
                    have HK7 := Lib.hid (And.intro K7 HK.out.2)
                    clear hW7 T7 K7 HR HK v0 u bi al af q0 ol
                    have c0 := HT7.out.c.c 0 _ rfl; have c1 := HT7.out.c.c 1 _ rfl; have c2 := HT7.out.c.c 2 _ rfl; have c3 := HT7.out.c.c 3 _ rfl; have cl := HT7.out.c.lt
                    have a0 := HT7.out.a.c 0 (by omega); have a1 := HT7.out.a.c 1 (by omega); have a2 := HT7.out.a.c 2 (by omega); have al := HT7.out.a.lt
                    have HAT := Lib.hid (fun a ha => atR_le (S := S) IO.out (fun a ha => (HI.out a ha).2.1) (0 + 1) (by omega) a ha : ∀ a, a < 3 → atR i o (0 + 1) a < S)
                    go_wp2_with fail
                    refine (HE.out _ _ _ _ (HAT.out 0 (by omega)) (HAT.out 1 (by omega)) (HAT.out 2 (by omega)) HT7.out.b).mono ?_
                    rintro e w8 ⟨rfl, hb8⟩
                    have HT8 := Lib.hid (HT7.out.past hb8); have HK8 := Lib.hid (And.intro (HK7.out.1.past hb8) HK7.out.2)
                    clear hb8 c0 c1 c2 c3 cl a0 a1 a2 al HT7 HK7
                    have kl := HK8.out.1.lt; have kf := HK8.out.1.f
                    have k0 := HK8.out.1.c (3 * 0 + 3) (by omega); have k1 := HK8.out.1.c (3 * 0 + 4) (by omega); have k2 := HK8.out.1.c (3 * 0 + 5) (by omega)
                    go_wp2_with fail
                    go_roundw
                    case rel =>
                      exact ⟨0 + 1, by omega, by first | rfl | go_num, HT8.out.far3 nk (3 * (0 + 1)) _ _ _ HK8.out.2.2, _, HK8.out.1.set3 (3 * (0 + 1)) _ _ _ (by omega), corQ_step HK8.out.2.1⟩
                    case measure => simp [intOf]
                ·
                  as_aux_lemma =>
                    rw [show ((1 : Nat) : Int) = 1 from rfl]
                    obtain ⟨y, hy⟩ : ∃ y, y = o 1 := ⟨_, rfl⟩
                    have hb : y < 3 := hy ▸ isP_lt IO.out (by omega)
                    have q0 := HR.out.o.c 1 (by omega)
                    rw [← hy] at q0
                    have ol := HR.out.o.lt
                    obtain ⟨A, hA⟩ : ∃ A, A = atR i o 1 y := ⟨_, rfl⟩
                    have v0 := HR.out.a.c y hb
                    rw [← hA] at v0
                    have bA : A < 17 := by have := atR_le (S := S) IO.out (fun a ha => (HI.out a ha).2.1) 1 (by omega) y hb; have := HS.out; omega
                    have u : IntKind.i64.wrap ((A : Int) + 1) = ((A + 1 : Nat) : Int) := by rw [IntKind.wrap_i64]; omega
                    have bi : (y : Int) < 3 := by omega
                    have al := HR.out.a.lt
                    have af := HR.out.a.f
                    have HY := Lib.hid (And.intro hy hA)
                    clear hy hA bA hr hr3
                    go_upto_region 26 with fail
                    refine wp_world (fun W7 hW7 => ?_)
                    have T7 : TeR w W7 [.int .i64 S, .float .f32 lo, .float .f32 hi, .slice (some ⟨b, off, none⟩) n cap] p na (na + 1) no x (atR i o (1 + 1)) o := by
                      obtain ⟨rfl, rfl⟩ := HY.out
                      rw [hW7]
                      exact (HR.out.past (Below.refl _ _)).step 1 hb
                    have K7 : VecF W7 nk 12 q := by
                      rw [hW7]
                      exact HK.out.1.far _ _ (by have := HR.out.l; have := HK.out.2.2; simp; omega)
                    have HT7 := Lib.hid T7
                    have HK7 := Lib.hid (And.intro K7 HK.out.2)
                    clear hW7 T7 K7 HR HK v0 u bi al af q0 ol
                    have c0 := HT7.out.c.c 0 _ rfl; have c1 := HT7.out.c.c 1 _ rfl; have c2 := HT7.out.c.c 2 _ rfl; have c3 := HT7.out.c.c 3 _ rfl; have cl := HT7.out.c.lt
                    have a0 := HT7.out.a.c 0 (by omega); have a1 := HT7.out.a.c 1 (by omega); have a2 := HT7.out.a.c 2 (by omega); have al := HT7.out.a.lt
                    have HAT := Lib.hid (fun a ha => atR_le (S := S) IO.out (fun a ha => (HI.out a ha).2.1) (1 + 1) (by omega) a ha : ∀ a, a < 3 → atR i o (1 + 1) a < S)
                    go_wp2_with fail
                    refine (HE.out _ _ _ _ (HAT.out 0 (by omega)) (HAT.out 1 (by omega)) (HAT.out 2 (by omega)) HT7.out.b).mono ?_
                    rintro e w8 ⟨rfl, hb8⟩
                    have HT8 := Lib.hid (HT7.out.past hb8); have HK8 := Lib.hid (And.intro (HK7.out.1.past hb8) HK7.out.2)
                    clear hb8 c0 c1 c2 c3 cl a0 a1 a2 al HT7 HK7
                    have kl := HK8.out.1.lt; have kf := HK8.out.1.f
                    have k0 := HK8.out.1.c (3 * 1 + 3) (by omega); have k1 := HK8.out.1.c (3 * 1 + 4) (by omega); have k2 := HK8.out.1.c (3 * 1 + 5) (by omega)
                    go_wp2_with fail
                    go_roundw
                    case rel =>
                      exact ⟨1 + 1, by omega, by first | rfl | go_num, HT8.out.far3 nk (3 * (1 + 1)) _ _ _ HK8.out.2.2, _, HK8.out.1.set3 (3 * (1 + 1)) _ _ _ (by omega), corQ_step HK8.out.2.1⟩
                    case measure => simp [intOf]
                ·
                  as_aux_lemma =>
                    rw [show ((2 : Nat) : Int) = 2 from rfl]
                    obtain ⟨y, hy⟩ : ∃ y, y = o 2 := ⟨_, rfl⟩
                    have hb : y < 3 := hy ▸ isP_lt IO.out (by omega)
                    have q0 := HR.out.o.c 2 (by omega)
                    rw [← hy] at q0
                    have ol := HR.out.o.lt
                    obtain ⟨A, hA⟩ : ∃ A, A = atR i o 2 y := ⟨_, rfl⟩
                    have v0 := HR.out.a.c y hb
                    rw [← hA] at v0
                    have bA : A < 17 := by have := atR_le (S := S) IO.out (fun a ha => (HI.out a ha).2.1) 2 (by omega) y hb; have := HS.out; omega
                    have u : IntKind.i64.wrap ((A : Int) + 1) = ((A + 1 : Nat) : Int) := by rw [IntKind.wrap_i64]; omega
                    have bi : (y : Int) < 3 := by omega
                    have al := HR.out.a.lt
                    have af := HR.out.a.f
                    have HY := Lib.hid (And.intro hy hA)
                    clear hy hA bA hr hr3
                    go_upto_region 26 with fail
                    refine wp_world (fun W7 hW7 => ?_)
                    have T7 : TeR w W7 [.int .i64 S, .float .f32 lo, .float .f32 hi, .slice (some ⟨b, off, none⟩) n cap] p na (na + 1) no x (atR i o (2 + 1)) o := by
                      obtain ⟨rfl, rfl⟩ := HY.out
                      rw [hW7]
                      exact (HR.out.past (Below.refl _ _)).step 2 hb
                    have K7 : VecF W7 nk 12 q := by
                      rw [hW7]
                      exact HK.out.1.far _ _ (by have := HR.out.l; have := HK.out.2.2; simp; omega)
                    have HT7 := Lib.hid T7
                    have HK7 := Lib.hid (And.intro K7 HK.out.2)
                    clear hW7 T7 K7 HR HK v0 u bi al af q0 ol
                    have c0 := HT7.out.c.c 0 _ rfl; have c1 := HT7.out.c.c 1 _ rfl; have c2 := HT7.out.c.c 2 _ rfl; have c3 := HT7.out.c.c 3 _ rfl; have cl := HT7.out.c.lt
                    have a0 := HT7.out.a.c 0 (by omega); have a1 := HT7.out.a.c 1 (by omega); have a2 := HT7.out.a.c 2 (by omega); have al := HT7.out.a.lt
                    have HAT := Lib.hid (fun a ha => atR_le (S := S) IO.out (fun a ha => (HI.out a ha).2.1) (2 + 1) (by omega) a ha : ∀ a, a < 3 → atR i o (2 + 1) a < S)
                    go_wp2_with fail
                    refine (HE.out _ _ _ _ (HAT.out 0 (by omega)) (HAT.out 1 (by omega)) (HAT.out 2 (by omega)) HT7.out.b).mono ?_
                    rintro e w8 ⟨rfl, hb8⟩
                    have HT8 := Lib.hid (HT7.out.past hb8); have HK8 := Lib.hid (And.intro (HK7.out.1.past hb8) HK7.out.2)
                    clear hb8 c0 c1 c2 c3 cl a0 a1 a2 al HT7 HK7
                    have kl := HK8.out.1.lt; have kf := HK8.out.1.f
                    have k0 := HK8.out.1.c (3 * 2 + 3) (by omega); have k1 := HK8.out.1.c (3 * 2 + 4) (by omega); have k2 := HK8.out.1.c (3 * 2 + 5) (by omega)
                    go_wp2_with fail
                    go_roundw
                    case rel =>
                      exact ⟨2 + 1, by omega, by first | rfl | go_num, HT8.out.far3 nk (3 * (2 + 1)) _ _ _ HK8.out.2.2, _, HK8.out.1.set3 (3 * (2 + 1)) _ _ _ (by omega), corQ_step HK8.out.2.1⟩
                    case measure => simp [intOf]
              · obtain rfl : r = 3 := by omega
                clear hr hr3 HE HI
                obtain ⟨y0, e0⟩ : ∃ y, y = o 0 := ⟨_, rfl⟩
                obtain ⟨y1, e1⟩ : ∃ y, y = o 1 := ⟨_, rfl⟩
                obtain ⟨y2, e2⟩ : ∃ y, y = o 2 := ⟨_, rfl⟩
                have b0 : y0 < 3 := e0 ▸ isP_lt IO.out (by omega)
                have b1 : y1 < 3 := e1 ▸ isP_lt IO.out (by omega)
                have b2 : y2 < 3 := e2 ▸ isP_lt IO.out (by omega)
                have q0 := HR.out.o.c 0 (by omega); have q1 := HR.out.o.c 1 (by omega); have q2 := HR.out.o.c 2 (by omega)
                rw [← e0] at q0; rw [← e1] at q1; rw [← e2] at q2
                have v0 := HR.out.s.c y0 b0; have v1 := HR.out.s.c y1 b1; have v2 := HR.out.s.c y2 b2
                have bi0 : (y0 : Int) < 3 := by omega
                have bi1 : (y1 : Int) < 3 := by omega
                have bi2 : (y2 : Int) < 3 := by omega
                have sl := HR.out.s.lt; have ol := HR.out.o.lt
                obtain ⟨s, hs⟩ : ∃ z, z = x y0 := ⟨_, rfl⟩
                obtain ⟨t, ht⟩ : ∃ z, z = x y1 := ⟨_, rfl⟩
                obtain ⟨u, hu⟩ : ∃ z, z = x y2 := ⟨_, rfl⟩
                rw [← hs] at v0; rw [← ht] at v1; rw [← hu] at v2
                have HMX : Hid (∀ m, m < 3 → tetF S lo hi fs p m = mixT (q m) (q (3 + m)) (q (6 + m)) (q (9 + m)) s t u) := fun m hm => by
                  rw [hs, ht, hu, e0, e1, e2]
                  rw [← tetF_cn]; exact tetF_mix HBR.out hm HIX.out.1 HIX.out.2 HO.out HK.out.2.1
                have HCN : Hid (∀ m, m < 3 → cn .f32 (q m) = q m ∧ cn .f32 (q (3 + m)) = q (3 + m) ∧ cn .f32 (q (6 + m)) = q (6 + m) ∧ cn .f32 (q (9 + m)) = q (9 + m)) := fun m hm => corQ_cn HK.out.2.1 hm
                clear e0 e1 e2 hs ht hu HO IO HBR HIX
                go_wp2_with fail
                go_quiet (fail)
                go_upto_region 29 with fail
                refine wp_world (fun W9 hW9 => ?_)
                have hb9 : Below wr.heap.size wr W9 := by rw [hW9]; (repeat (first | exact Below.refl _ _ | assumption | (refine Below.setCell ?_ (by first | (simp; done) | (simp; omega) | omega) _) | (refine Below.drew ?_) | (refine below_drewN ?_ _) | (refine Below.alloc ?_ (by first | (simp; done) | (simp; omega) | omega) _) | (refine Below.trans ?_ (Below.mono (by assumption) (by first | (simp; done) | (simp; omega) | omega)))))
                have HR9 := Lib.hid (HR.out.past hb9); have HK9 := Lib.hid (And.intro (HK.out.1.past hb9) HK.out.2.2)
                clear hW9 hb9 q0 q1 q2 v0 v1 v2 b0 b1 b2 bi0 bi1 bi2 sl ol HR HK
                have p3 := HR9.out.p.c 3 (by omega); have pl := HR9.out.p.lt
                go_upto_region 30 with (first | (go_at_call 48; refine (Fix_any _ _).mono ?_; rintro e w' ⟨rfl, rfl⟩))
                refine wp_world (fun W10 hW10 => ?_)
                have lnz : nk < W9.heap.size := HK9.out.1.lt
                have OB : VecF W10 W9.heap.size 4 (fun j => if j = 3 then cn .f32 (p 3) else 0) := by rw [hW10]; exact VecF.of4 (f := fun j => if j = 3 then cn .f32 (p 3) else 0) (Blk.new _ _ _ _ rfl)
                have B10 : Below W9.heap.size W9 W10 := by rw [hW10]; (repeat (first | exact Below.refl _ _ | assumption | (refine Below.setCell ?_ (by first | (simp; done) | (simp; omega) | omega) _) | (refine Below.drew ?_) | (refine below_drewN ?_ _) | (refine Below.alloc ?_ (by first | (simp; done) | (simp; omega) | omega) _) | (refine Below.trans ?_ (Below.mono (by assumption) (by first | (simp; done) | (simp; omega) | omega)))))
                have HR10 := Lib.hid (HR9.out.past B10); have HK10 := Lib.hid (And.intro (HK9.out.1.past B10) HK9.out.2)
                have HO10 := Lib.hid (And.intro OB lnz)
                clear hW10 OB B10 HR9 HK9 lnz p3 pl
                generalize W9.heap.size = nz at *
                go_wp2_with fail
                go_loopw [139] (fun s139 wr => ∃ m : Nat, m ≤ 3 ∧ s139 = .int .i64 m ∧ TeR w wr [.int .i64 S, .float .f32 lo, .float .f32 hi, .slice (some ⟨b, off, none⟩) n cap] p na (na + 1) no x (atR i o 3) o ∧ VecF wr nk 12 q ∧ ∃ h, VecF wr nz 4 h ∧ h 3 = cn .f32 (p 3) ∧ ∀ j, j < m → h j = tetF S lo hi fs p j) (fun s139 _ => 3 - (intOf s139).toNat)
                case atStart => exact ⟨0, by omega, rfl, HR10.out, HK10.out.1, _, HO10.out.1, rfl, fun j hj => by omega⟩
                case round =>
                  obtain ⟨m, hm, rfl, hR, hK, h, hO, h3, he⟩ := hrel
                  have HL := Lib.hid (And.intro HK10.out.2 HO10.out.2)
                  have HR := Lib.hid hR; have HK := Lib.hid hK; have HO := Lib.hid (And.intro hO (And.intro h3 he))
                  clear hR hK hO h3 he HR10 HK10 HO10
                  by_cases hm3 : m < 3
                  · rcases (show m = 0 ∨ m = 1 ∨ m = 2 by omega) with rfl | rfl | rfl
                    ·
                      as_aux_lemma =>
                        rw [show ((0 : Nat) : Int) = 0 from rfl]
                        clear hm hm3
                        obtain ⟨a1, ha⟩ : ∃ z, z = q 0 := ⟨_, rfl⟩
                        obtain ⟨b1, hb⟩ : ∃ z, z = q (3 + 0) := ⟨_, rfl⟩
                        obtain ⟨d1, hd⟩ : ∃ z, z = q (6 + 0) := ⟨_, rfl⟩
                        obtain ⟨f1, hf⟩ : ∃ z, z = q (9 + 0) := ⟨_, rfl⟩
                        have k0 := HK.out.c 0 (by omega); have k1 := HK.out.c (3 + 0) (by omega); have k2 := HK.out.c (6 + 0) (by omega); have k3 := HK.out.c (9 + 0) (by omega)
                        rw [← ha] at k0; rw [← hb] at k1; rw [← hd] at k2; rw [← hf] at k3
                        obtain ⟨ca, cb, cd, cf⟩ := HCN.out 0 (by omega)
                        rw [← ha] at ca; rw [← hb] at cb; rw [← hd] at cd; rw [← hf] at cf
                        have HA := Lib.hid (And.intro ha (And.intro hb (And.intro hd hf)))
                        clear ha hb hd hf
                        have kl := HK.out.lt
                        go_wp2_with fail
                        go_quiet (fail)
                        clear k0 k1 k2 k3
                        have ol := HO.out.1.lt
                        have of := HO.out.1.f
                        have o0 := HO.out.1.c 0 (by omega)
                        cases g0 : (FloatKind.f32.format.order s 0 == some .eq)
                        case true =>
                          go_wp2_with fail
                          go_roundw
                          case rel =>
                            exact ⟨0 + 1, by omega, by first | rfl | go_num, (HR.out.past (by (repeat (first | exact Below.refl _ _ | assumption | (refine Below.setCell ?_ (by first | (simp; done) | (simp; omega) | omega) _) | (refine Below.drew ?_) | (refine below_drewN ?_ _) | (refine Below.alloc ?_ (by first | (simp; done) | (simp; omega) | omega) _) | (refine Below.trans ?_ (Below.mono (by assumption) (by first | (simp; done) | (simp; omega) | omega))))))).far _ _ (by have := HL.out; simp; omega), (HK.out.past (by (repeat (first | exact Below.refl _ _ | assumption | (refine Below.setCell ?_ (by first | (simp; done) | (simp; omega) | omega) _) | (refine Below.drew ?_) | (refine below_drewN ?_ _) | (refine Below.alloc ?_ (by first | (simp; done) | (simp; omega) | omega) _) | (refine Below.trans ?_ (Below.mono (by assumption) (by first | (simp; done) | (simp; omega) | omega))))))).far _ _ (by have := HL.out; simp; omega), _, (HO.out.1.past (by (repeat (first | exact Below.refl _ _ | assumption | (refine Below.setCell ?_ (by first | (simp; done) | (simp; omega) | omega) _) | (refine Below.drew ?_) | (refine below_drewN ?_ _) | (refine Below.alloc ?_ (by first | (simp; done) | (simp; omega) | omega) _) | (refine Below.trans ?_ (Below.mono (by assumption) (by first | (simp; done) | (simp; omega) | omega))))))).set 0 _ (by omega), HO.out.2.1, tet_next HO.out.2.2 (by rw [HMX.out 0 (by omega), ← HA.out.1, ← HA.out.2.1, ← HA.out.2.2.1, ← HA.out.2.2.2]; simp [mixT, *])⟩
                          case measure => simp [intOf]
                        case false =>
                          cases g1 : (FloatKind.f32.format.order s 1065353216 == some .eq)
                          case false =>
                            cases g3 : (FloatKind.f32.format.order t 1065353216 == some .eq)
                            case false =>
                              cases g5 : (FloatKind.f32.format.order u 1065353216 == some .eq)
                              case false =>
                                go_wp2_with (first | ((with_reducible apply wpList_farith); rfl; rfl; rfl; intro _ _ _) | ((with_reducible apply wpList_up); rfl; exact Try.underlying38; exact Try.underlying113; intro _ _ _) | (go_at_call 48; refine (Fix_any _ _).mono ?_; rintro e w' ⟨rfl, rfl⟩))
                                rename_i r1 n1 h1 r2 n2 h2 r3 n3 h3 r4 n4 h4 r5 n5 h5 r6 n6 h6 r7 n7 h7 r8 n8 h8 r9 n9 h9
                                have hv := tet_fr h1 h2 h3 h4 h5 h6 h7 h8 h9
                                clear h1 h2 h3 h4 h5 h6 h7 h8 h9
                                go_roundw
                                case rel =>
                                  exact ⟨0 + 1, by omega, by first | rfl | go_num, (HR.out.past (by (repeat (first | exact Below.refl _ _ | assumption | (refine Below.setCell ?_ (by first | (simp; done) | (simp; omega) | omega) _) | (refine Below.drew ?_) | (refine below_drewN ?_ _) | (refine Below.alloc ?_ (by first | (simp; done) | (simp; omega) | omega) _) | (refine Below.trans ?_ (Below.mono (by assumption) (by first | (simp; done) | (simp; omega) | omega))))))).far _ _ (by have := HL.out; simp; omega), (HK.out.past (by (repeat (first | exact Below.refl _ _ | assumption | (refine Below.setCell ?_ (by first | (simp; done) | (simp; omega) | omega) _) | (refine Below.drew ?_) | (refine below_drewN ?_ _) | (refine Below.alloc ?_ (by first | (simp; done) | (simp; omega) | omega) _) | (refine Below.trans ?_ (Below.mono (by assumption) (by first | (simp; done) | (simp; omega) | omega))))))).far _ _ (by have := HL.out; simp; omega), _, (HO.out.1.past (by (repeat (first | exact Below.refl _ _ | assumption | (refine Below.setCell ?_ (by first | (simp; done) | (simp; omega) | omega) _) | (refine Below.drew ?_) | (refine below_drewN ?_ _) | (refine Below.alloc ?_ (by first | (simp; done) | (simp; omega) | omega) _) | (refine Below.trans ?_ (Below.mono (by assumption) (by first | (simp; done) | (simp; omega) | omega))))))).set 0 _ (by omega), HO.out.2.1, tet_next HO.out.2.2 (by rw [HMX.out 0 (by omega), ← HA.out.1, ← HA.out.2.1, ← HA.out.2.2.1, ← HA.out.2.2.2]; simp [mixT, *])⟩
                                case measure => simp [intOf]
                              case true =>
                                go_wp2_with fail
                                go_roundw
                                case rel =>
                                  exact ⟨0 + 1, by omega, by first | rfl | go_num, (HR.out.past (by (repeat (first | exact Below.refl _ _ | assumption | (refine Below.setCell ?_ (by first | (simp; done) | (simp; omega) | omega) _) | (refine Below.drew ?_) | (refine below_drewN ?_ _) | (refine Below.alloc ?_ (by first | (simp; done) | (simp; omega) | omega) _) | (refine Below.trans ?_ (Below.mono (by assumption) (by first | (simp; done) | (simp; omega) | omega))))))).far _ _ (by have := HL.out; simp; omega), (HK.out.past (by (repeat (first | exact Below.refl _ _ | assumption | (refine Below.setCell ?_ (by first | (simp; done) | (simp; omega) | omega) _) | (refine Below.drew ?_) | (refine below_drewN ?_ _) | (refine Below.alloc ?_ (by first | (simp; done) | (simp; omega) | omega) _) | (refine Below.trans ?_ (Below.mono (by assumption) (by first | (simp; done) | (simp; omega) | omega))))))).far _ _ (by have := HL.out; simp; omega), _, (HO.out.1.past (by (repeat (first | exact Below.refl _ _ | assumption | (refine Below.setCell ?_ (by first | (simp; done) | (simp; omega) | omega) _) | (refine Below.drew ?_) | (refine below_drewN ?_ _) | (refine Below.alloc ?_ (by first | (simp; done) | (simp; omega) | omega) _) | (refine Below.trans ?_ (Below.mono (by assumption) (by first | (simp; done) | (simp; omega) | omega))))))).set 0 _ (by omega), HO.out.2.1, tet_next HO.out.2.2 (by rw [HMX.out 0 (by omega), ← HA.out.1, ← HA.out.2.1, ← HA.out.2.2.1, ← HA.out.2.2.2]; simp [mixT, *])⟩
                                case measure => simp [intOf]
                            case true =>
                              cases g4 : (FloatKind.f32.format.order u 0 == some .eq)
                              case true =>
                                go_wp2_with fail
                                go_roundw
                                case rel =>
                                  exact ⟨0 + 1, by omega, by first | rfl | go_num, (HR.out.past (by (repeat (first | exact Below.refl _ _ | assumption | (refine Below.setCell ?_ (by first | (simp; done) | (simp; omega) | omega) _) | (refine Below.drew ?_) | (refine below_drewN ?_ _) | (refine Below.alloc ?_ (by first | (simp; done) | (simp; omega) | omega) _) | (refine Below.trans ?_ (Below.mono (by assumption) (by first | (simp; done) | (simp; omega) | omega))))))).far _ _ (by have := HL.out; simp; omega), (HK.out.past (by (repeat (first | exact Below.refl _ _ | assumption | (refine Below.setCell ?_ (by first | (simp; done) | (simp; omega) | omega) _) | (refine Below.drew ?_) | (refine below_drewN ?_ _) | (refine Below.alloc ?_ (by first | (simp; done) | (simp; omega) | omega) _) | (refine Below.trans ?_ (Below.mono (by assumption) (by first | (simp; done) | (simp; omega) | omega))))))).far _ _ (by have := HL.out; simp; omega), _, (HO.out.1.past (by (repeat (first | exact Below.refl _ _ | assumption | (refine Below.setCell ?_ (by first | (simp; done) | (simp; omega) | omega) _) | (refine Below.drew ?_) | (refine below_drewN ?_ _) | (refine Below.alloc ?_ (by first | (simp; done) | (simp; omega) | omega) _) | (refine Below.trans ?_ (Below.mono (by assumption) (by first | (simp; done) | (simp; omega) | omega))))))).set 0 _ (by omega), HO.out.2.1, tet_next HO.out.2.2 (by rw [HMX.out 0 (by omega), ← HA.out.1, ← HA.out.2.1, ← HA.out.2.2.1, ← HA.out.2.2.2]; simp [mixT, *])⟩
                                case measure => simp [intOf]
                              case false =>
                                cases g5 : (FloatKind.f32.format.order u 1065353216 == some .eq)
                                case false =>
                                  go_wp2_with (first | ((with_reducible apply wpList_farith); rfl; rfl; rfl; intro _ _ _) | ((with_reducible apply wpList_up); rfl; exact Try.underlying38; exact Try.underlying113; intro _ _ _) | (go_at_call 48; refine (Fix_any _ _).mono ?_; rintro e w' ⟨rfl, rfl⟩))
                                  rename_i r1 n1 h1 r2 n2 h2 r3 n3 h3 r4 n4 h4 r5 n5 h5 r6 n6 h6 r7 n7 h7 r8 n8 h8 r9 n9 h9
                                  have hv := tet_fr h1 h2 h3 h4 h5 h6 h7 h8 h9
                                  clear h1 h2 h3 h4 h5 h6 h7 h8 h9
                                  go_roundw
                                  case rel =>
                                    exact ⟨0 + 1, by omega, by first | rfl | go_num, (HR.out.past (by (repeat (first | exact Below.refl _ _ | assumption | (refine Below.setCell ?_ (by first | (simp; done) | (simp; omega) | omega) _) | (refine Below.drew ?_) | (refine below_drewN ?_ _) | (refine Below.alloc ?_ (by first | (simp; done) | (simp; omega) | omega) _) | (refine Below.trans ?_ (Below.mono (by assumption) (by first | (simp; done) | (simp; omega) | omega))))))).far _ _ (by have := HL.out; simp; omega), (HK.out.past (by (repeat (first | exact Below.refl _ _ | assumption | (refine Below.setCell ?_ (by first | (simp; done) | (simp; omega) | omega) _) | (refine Below.drew ?_) | (refine below_drewN ?_ _) | (refine Below.alloc ?_ (by first | (simp; done) | (simp; omega) | omega) _) | (refine Below.trans ?_ (Below.mono (by assumption) (by first | (simp; done) | (simp; omega) | omega))))))).far _ _ (by have := HL.out; simp; omega), _, (HO.out.1.past (by (repeat (first | exact Below.refl _ _ | assumption | (refine Below.setCell ?_ (by first | (simp; done) | (simp; omega) | omega) _) | (refine Below.drew ?_) | (refine below_drewN ?_ _) | (refine Below.alloc ?_ (by first | (simp; done) | (simp; omega) | omega) _) | (refine Below.trans ?_ (Below.mono (by assumption) (by first | (simp; done) | (simp; omega) | omega))))))).set 0 _ (by omega), HO.out.2.1, tet_next HO.out.2.2 (by rw [HMX.out 0 (by omega), ← HA.out.1, ← HA.out.2.1, ← HA.out.2.2.1, ← HA.out.2.2.2]; simp [mixT, *])⟩
                                  case measure => simp [intOf]
                                case true =>
                                  go_wp2_with fail
                                  go_roundw
                                  case rel =>
                                    exact ⟨0 + 1, by omega, by first | rfl | go_num, (HR.out.past (by (repeat (first | exact Below.refl _ _ | assumption | (refine Below.setCell ?_ (by first | (simp; done) | (simp; omega) | omega) _) | (refine Below.drew ?_) | (refine below_drewN ?_ _) | (refine Below.alloc ?_ (by first | (simp; done) | (simp; omega) | omega) _) | (refine Below.trans ?_ (Below.mono (by assumption) (by first | (simp; done) | (simp; omega) | omega))))))).far _ _ (by have := HL.out; simp; omega), (HK.out.past (by (repeat (first | exact Below.refl _ _ | assumption | (refine Below.setCell ?_ (by first | (simp; done) | (simp; omega) | omega) _) | (refine Below.drew ?_) | (refine below_drewN ?_ _) | (refine Below.alloc ?_ (by first | (simp; done) | (simp; omega) | omega) _) | (refine Below.trans ?_ (Below.mono (by assumption) (by first | (simp; done) | (simp; omega) | omega))))))).far _ _ (by have := HL.out; simp; omega), _, (HO.out.1.past (by (repeat (first | exact Below.refl _ _ | assumption | (refine Below.setCell ?_ (by first | (simp; done) | (simp; omega) | omega) _) | (refine Below.drew ?_) | (refine below_drewN ?_ _) | (refine Below.alloc ?_ (by first | (simp; done) | (simp; omega) | omega) _) | (refine Below.trans ?_ (Below.mono (by assumption) (by first | (simp; done) | (simp; omega) | omega))))))).set 0 _ (by omega), HO.out.2.1, tet_next HO.out.2.2 (by rw [HMX.out 0 (by omega), ← HA.out.1, ← HA.out.2.1, ← HA.out.2.2.1, ← HA.out.2.2.2]; simp [mixT, *])⟩
                                  case measure => simp [intOf]
                          case true =>
                            cases g2 : (FloatKind.f32.format.order t 0 == some .eq)
                            case true =>
                              go_wp2_with fail
                              go_roundw
                              case rel =>
                                exact ⟨0 + 1, by omega, by first | rfl | go_num, (HR.out.past (by (repeat (first | exact Below.refl _ _ | assumption | (refine Below.setCell ?_ (by first | (simp; done) | (simp; omega) | omega) _) | (refine Below.drew ?_) | (refine below_drewN ?_ _) | (refine Below.alloc ?_ (by first | (simp; done) | (simp; omega) | omega) _) | (refine Below.trans ?_ (Below.mono (by assumption) (by first | (simp; done) | (simp; omega) | omega))))))).far _ _ (by have := HL.out; simp; omega), (HK.out.past (by (repeat (first | exact Below.refl _ _ | assumption | (refine Below.setCell ?_ (by first | (simp; done) | (simp; omega) | omega) _) | (refine Below.drew ?_) | (refine below_drewN ?_ _) | (refine Below.alloc ?_ (by first | (simp; done) | (simp; omega) | omega) _) | (refine Below.trans ?_ (Below.mono (by assumption) (by first | (simp; done) | (simp; omega) | omega))))))).far _ _ (by have := HL.out; simp; omega), _, (HO.out.1.past (by (repeat (first | exact Below.refl _ _ | assumption | (refine Below.setCell ?_ (by first | (simp; done) | (simp; omega) | omega) _) | (refine Below.drew ?_) | (refine below_drewN ?_ _) | (refine Below.alloc ?_ (by first | (simp; done) | (simp; omega) | omega) _) | (refine Below.trans ?_ (Below.mono (by assumption) (by first | (simp; done) | (simp; omega) | omega))))))).set 0 _ (by omega), HO.out.2.1, tet_next HO.out.2.2 (by rw [HMX.out 0 (by omega), ← HA.out.1, ← HA.out.2.1, ← HA.out.2.2.1, ← HA.out.2.2.2]; simp [mixT, *])⟩
                              case measure => simp [intOf]
                            case false =>
                              cases g3 : (FloatKind.f32.format.order t 1065353216 == some .eq)
                              case false =>
                                cases g5 : (FloatKind.f32.format.order u 1065353216 == some .eq)
                                case false =>
                                  go_wp2_with (first | ((with_reducible apply wpList_farith); rfl; rfl; rfl; intro _ _ _) | ((with_reducible apply wpList_up); rfl; exact Try.underlying38; exact Try.underlying113; intro _ _ _) | (go_at_call 48; refine (Fix_any _ _).mono ?_; rintro e w' ⟨rfl, rfl⟩))
                                  rename_i r1 n1 h1 r2 n2 h2 r3 n3 h3 r4 n4 h4 r5 n5 h5 r6 n6 h6 r7 n7 h7 r8 n8 h8 r9 n9 h9
                                  have hv := tet_fr h1 h2 h3 h4 h5 h6 h7 h8 h9
                                  clear h1 h2 h3 h4 h5 h6 h7 h8 h9
                                  go_roundw
                                  case rel =>
                                    exact ⟨0 + 1, by omega, by first | rfl | go_num, (HR.out.past (by (repeat (first | exact Below.refl _ _ | assumption | (refine Below.setCell ?_ (by first | (simp; done) | (simp; omega) | omega) _) | (refine Below.drew ?_) | (refine below_drewN ?_ _) | (refine Below.alloc ?_ (by first | (simp; done) | (simp; omega) | omega) _) | (refine Below.trans ?_ (Below.mono (by assumption) (by first | (simp; done) | (simp; omega) | omega))))))).far _ _ (by have := HL.out; simp; omega), (HK.out.past (by (repeat (first | exact Below.refl _ _ | assumption | (refine Below.setCell ?_ (by first | (simp; done) | (simp; omega) | omega) _) | (refine Below.drew ?_) | (refine below_drewN ?_ _) | (refine Below.alloc ?_ (by first | (simp; done) | (simp; omega) | omega) _) | (refine Below.trans ?_ (Below.mono (by assumption) (by first | (simp; done) | (simp; omega) | omega))))))).far _ _ (by have := HL.out; simp; omega), _, (HO.out.1.past (by (repeat (first | exact Below.refl _ _ | assumption | (refine Below.setCell ?_ (by first | (simp; done) | (simp; omega) | omega) _) | (refine Below.drew ?_) | (refine below_drewN ?_ _) | (refine Below.alloc ?_ (by first | (simp; done) | (simp; omega) | omega) _) | (refine Below.trans ?_ (Below.mono (by assumption) (by first | (simp; done) | (simp; omega) | omega))))))).set 0 _ (by omega), HO.out.2.1, tet_next HO.out.2.2 (by rw [HMX.out 0 (by omega), ← HA.out.1, ← HA.out.2.1, ← HA.out.2.2.1, ← HA.out.2.2.2]; simp [mixT, *])⟩
                                  case measure => simp [intOf]
                                case true =>
                                  go_wp2_with fail
                                  go_roundw
                                  case rel =>
                                    exact ⟨0 + 1, by omega, by first | rfl | go_num, (HR.out.past (by (repeat (first | exact Below.refl _ _ | assumption | (refine Below.setCell ?_ (by first | (simp; done) | (simp; omega) | omega) _) | (refine Below.drew ?_) | (refine below_drewN ?_ _) | (refine Below.alloc ?_ (by first | (simp; done) | (simp; omega) | omega) _) | (refine Below.trans ?_ (Below.mono (by assumption) (by first | (simp; done) | (simp; omega) | omega))))))).far _ _ (by have := HL.out; simp; omega), (HK.out.past (by (repeat (first | exact Below.refl _ _ | assumption | (refine Below.setCell ?_ (by first | (simp; done) | (simp; omega) | omega) _) | (refine Below.drew ?_) | (refine below_drewN ?_ _) | (refine Below.alloc ?_ (by first | (simp; done) | (simp; omega) | omega) _) | (refine Below.trans ?_ (Below.mono (by assumption) (by first | (simp; done) | (simp; omega) | omega))))))).far _ _ (by have := HL.out; simp; omega), _, (HO.out.1.past (by (repeat (first | exact Below.refl _ _ | assumption | (refine Below.setCell ?_ (by first | (simp; done) | (simp; omega) | omega) _) | (refine Below.drew ?_) | (refine below_drewN ?_ _) | (refine Below.alloc ?_ (by first | (simp; done) | (simp; omega) | omega) _) | (refine Below.trans ?_ (Below.mono (by assumption) (by first | (simp; done) | (simp; omega) | omega))))))).set 0 _ (by omega), HO.out.2.1, tet_next HO.out.2.2 (by rw [HMX.out 0 (by omega), ← HA.out.1, ← HA.out.2.1, ← HA.out.2.2.1, ← HA.out.2.2.2]; simp [mixT, *])⟩
                                  case measure => simp [intOf]
                              case true =>
                                cases g4 : (FloatKind.f32.format.order u 0 == some .eq)
                                case true =>
                                  go_wp2_with fail
                                  go_roundw
                                  case rel =>
                                    exact ⟨0 + 1, by omega, by first | rfl | go_num, (HR.out.past (by (repeat (first | exact Below.refl _ _ | assumption | (refine Below.setCell ?_ (by first | (simp; done) | (simp; omega) | omega) _) | (refine Below.drew ?_) | (refine below_drewN ?_ _) | (refine Below.alloc ?_ (by first | (simp; done) | (simp; omega) | omega) _) | (refine Below.trans ?_ (Below.mono (by assumption) (by first | (simp; done) | (simp; omega) | omega))))))).far _ _ (by have := HL.out; simp; omega), (HK.out.past (by (repeat (first | exact Below.refl _ _ | assumption | (refine Below.setCell ?_ (by first | (simp; done) | (simp; omega) | omega) _) | (refine Below.drew ?_) | (refine below_drewN ?_ _) | (refine Below.alloc ?_ (by first | (simp; done) | (simp; omega) | omega) _) | (refine Below.trans ?_ (Below.mono (by assumption) (by first | (simp; done) | (simp; omega) | omega))))))).far _ _ (by have := HL.out; simp; omega), _, (HO.out.1.past (by (repeat (first | exact Below.refl _ _ | assumption | (refine Below.setCell ?_ (by first | (simp; done) | (simp; omega) | omega) _) | (refine Below.drew ?_) | (refine below_drewN ?_ _) | (refine Below.alloc ?_ (by first | (simp; done) | (simp; omega) | omega) _) | (refine Below.trans ?_ (Below.mono (by assumption) (by first | (simp; done) | (simp; omega) | omega))))))).set 0 _ (by omega), HO.out.2.1, tet_next HO.out.2.2 (by rw [HMX.out 0 (by omega), ← HA.out.1, ← HA.out.2.1, ← HA.out.2.2.1, ← HA.out.2.2.2]; simp [mixT, *])⟩
                                  case measure => simp [intOf]
                                case false =>
                                  cases g5 : (FloatKind.f32.format.order u 1065353216 == some .eq)
                                  case false =>
                                    go_wp2_with (first | ((with_reducible apply wpList_farith); rfl; rfl; rfl; intro _ _ _) | ((with_reducible apply wpList_up); rfl; exact Try.underlying38; exact Try.underlying113; intro _ _ _) | (go_at_call 48; refine (Fix_any _ _).mono ?_; rintro e w' ⟨rfl, rfl⟩))
                                    rename_i r1 n1 h1 r2 n2 h2 r3 n3 h3 r4 n4 h4 r5 n5 h5 r6 n6 h6 r7 n7 h7 r8 n8 h8 r9 n9 h9
                                    have hv := tet_fr h1 h2 h3 h4 h5 h6 h7 h8 h9
                                    clear h1 h2 h3 h4 h5 h6 h7 h8 h9
                                    go_roundw
                                    case rel =>
                                      exact ⟨0 + 1, by omega, by first | rfl | go_num, (HR.out.past (by (repeat (first | exact Below.refl _ _ | assumption | (refine Below.setCell ?_ (by first | (simp; done) | (simp; omega) | omega) _) | (refine Below.drew ?_) | (refine below_drewN ?_ _) | (refine Below.alloc ?_ (by first | (simp; done) | (simp; omega) | omega) _) | (refine Below.trans ?_ (Below.mono (by assumption) (by first | (simp; done) | (simp; omega) | omega))))))).far _ _ (by have := HL.out; simp; omega), (HK.out.past (by (repeat (first | exact Below.refl _ _ | assumption | (refine Below.setCell ?_ (by first | (simp; done) | (simp; omega) | omega) _) | (refine Below.drew ?_) | (refine below_drewN ?_ _) | (refine Below.alloc ?_ (by first | (simp; done) | (simp; omega) | omega) _) | (refine Below.trans ?_ (Below.mono (by assumption) (by first | (simp; done) | (simp; omega) | omega))))))).far _ _ (by have := HL.out; simp; omega), _, (HO.out.1.past (by (repeat (first | exact Below.refl _ _ | assumption | (refine Below.setCell ?_ (by first | (simp; done) | (simp; omega) | omega) _) | (refine Below.drew ?_) | (refine below_drewN ?_ _) | (refine Below.alloc ?_ (by first | (simp; done) | (simp; omega) | omega) _) | (refine Below.trans ?_ (Below.mono (by assumption) (by first | (simp; done) | (simp; omega) | omega))))))).set 0 _ (by omega), HO.out.2.1, tet_next HO.out.2.2 (by rw [HMX.out 0 (by omega), ← HA.out.1, ← HA.out.2.1, ← HA.out.2.2.1, ← HA.out.2.2.2]; simp [mixT, *])⟩
                                    case measure => simp [intOf]
                                  case true =>
                                    go_wp2_with fail
                                    go_roundw
                                    case rel =>
                                      exact ⟨0 + 1, by omega, by first | rfl | go_num, (HR.out.past (by (repeat (first | exact Below.refl _ _ | assumption | (refine Below.setCell ?_ (by first | (simp; done) | (simp; omega) | omega) _) | (refine Below.drew ?_) | (refine below_drewN ?_ _) | (refine Below.alloc ?_ (by first | (simp; done) | (simp; omega) | omega) _) | (refine Below.trans ?_ (Below.mono (by assumption) (by first | (simp; done) | (simp; omega) | omega))))))).far _ _ (by have := HL.out; simp; omega), (HK.out.past (by (repeat (first | exact Below.refl _ _ | assumption | (refine Below.setCell ?_ (by first | (simp; done) | (simp; omega) | omega) _) | (refine Below.drew ?_) | (refine below_drewN ?_ _) | (refine Below.alloc ?_ (by first | (simp; done) | (simp; omega) | omega) _) | (refine Below.trans ?_ (Below.mono (by assumption) (by first | (simp; done) | (simp; omega) | omega))))))).far _ _ (by have := HL.out; simp; omega), _, (HO.out.1.past (by (repeat (first | exact Below.refl _ _ | assumption | (refine Below.setCell ?_ (by first | (simp; done) | (simp; omega) | omega) _) | (refine Below.drew ?_) | (refine below_drewN ?_ _) | (refine Below.alloc ?_ (by first | (simp; done) | (simp; omega) | omega) _) | (refine Below.trans ?_ (Below.mono (by assumption) (by first | (simp; done) | (simp; omega) | omega))))))).set 0 _ (by omega), HO.out.2.1, tet_next HO.out.2.2 (by rw [HMX.out 0 (by omega), ← HA.out.1, ← HA.out.2.1, ← HA.out.2.2.1, ← HA.out.2.2.2]; simp [mixT, *])⟩
                                    case measure => simp [intOf]
                    ·
                      as_aux_lemma =>
                        rw [show ((1 : Nat) : Int) = 1 from rfl]
                        clear hm hm3
                        obtain ⟨a1, ha⟩ : ∃ z, z = q 1 := ⟨_, rfl⟩
                        obtain ⟨b1, hb⟩ : ∃ z, z = q (3 + 1) := ⟨_, rfl⟩
                        obtain ⟨d1, hd⟩ : ∃ z, z = q (6 + 1) := ⟨_, rfl⟩
                        obtain ⟨f1, hf⟩ : ∃ z, z = q (9 + 1) := ⟨_, rfl⟩
                        have k0 := HK.out.c 1 (by omega); have k1 := HK.out.c (3 + 1) (by omega); have k2 := HK.out.c (6 + 1) (by omega); have k3 := HK.out.c (9 + 1) (by omega)
                        rw [← ha] at k0; rw [← hb] at k1; rw [← hd] at k2; rw [← hf] at k3
                        obtain ⟨ca, cb, cd, cf⟩ := HCN.out 1 (by omega)
                        rw [← ha] at ca; rw [← hb] at cb; rw [← hd] at cd; rw [← hf] at cf
                        have HA := Lib.hid (And.intro ha (And.intro hb (And.intro hd hf)))
                        clear ha hb hd hf
                        have kl := HK.out.lt
                        go_wp2_with fail
                        go_quiet (fail)
                        clear k0 k1 k2 k3
                        have ol := HO.out.1.lt
                        have of := HO.out.1.f
                        have o0 := HO.out.1.c 1 (by omega)
                        cases g0 : (FloatKind.f32.format.order s 0 == some .eq)
                        case true =>
                          go_wp2_with fail
                          go_roundw
                          case rel =>
                            exact ⟨1 + 1, by omega, by first | rfl | go_num, (HR.out.past (by (repeat (first | exact Below.refl _ _ | assumption | (refine Below.setCell ?_ (by first | (simp; done) | (simp; omega) | omega) _) | (refine Below.drew ?_) | (refine below_drewN ?_ _) | (refine Below.alloc ?_ (by first | (simp; done) | (simp; omega) | omega) _) | (refine Below.trans ?_ (Below.mono (by assumption) (by first | (simp; done) | (simp; omega) | omega))))))).far _ _ (by have := HL.out; simp; omega), (HK.out.past (by (repeat (first | exact Below.refl _ _ | assumption | (refine Below.setCell ?_ (by first | (simp; done) | (simp; omega) | omega) _) | (refine Below.drew ?_) | (refine below_drewN ?_ _) | (refine Below.alloc ?_ (by first | (simp; done) | (simp; omega) | omega) _) | (refine Below.trans ?_ (Below.mono (by assumption) (by first | (simp; done) | (simp; omega) | omega))))))).far _ _ (by have := HL.out; simp; omega), _, (HO.out.1.past (by (repeat (first | exact Below.refl _ _ | assumption | (refine Below.setCell ?_ (by first | (simp; done) | (simp; omega) | omega) _) | (refine Below.drew ?_) | (refine below_drewN ?_ _) | (refine Below.alloc ?_ (by first | (simp; done) | (simp; omega) | omega) _) | (refine Below.trans ?_ (Below.mono (by assumption) (by first | (simp; done) | (simp; omega) | omega))))))).set 1 _ (by omega), HO.out.2.1, tet_next HO.out.2.2 (by rw [HMX.out 1 (by omega), ← HA.out.1, ← HA.out.2.1, ← HA.out.2.2.1, ← HA.out.2.2.2]; simp [mixT, *])⟩
                          case measure => simp [intOf]
                        case false =>
                          cases g1 : (FloatKind.f32.format.order s 1065353216 == some .eq)
                          case false =>
                            cases g3 : (FloatKind.f32.format.order t 1065353216 == some .eq)
                            case false =>
                              cases g5 : (FloatKind.f32.format.order u 1065353216 == some .eq)
                              case false =>
                                go_wp2_with (first | ((with_reducible apply wpList_farith); rfl; rfl; rfl; intro _ _ _) | ((with_reducible apply wpList_up); rfl; exact Try.underlying38; exact Try.underlying113; intro _ _ _) | (go_at_call 48; refine (Fix_any _ _).mono ?_; rintro e w' ⟨rfl, rfl⟩))
                                rename_i r1 n1 h1 r2 n2 h2 r3 n3 h3 r4 n4 h4 r5 n5 h5 r6 n6 h6 r7 n7 h7 r8 n8 h8 r9 n9 h9
                                have hv := tet_fr h1 h2 h3 h4 h5 h6 h7 h8 h9
                                clear h1 h2 h3 h4 h5 h6 h7 h8 h9
                                go_roundw
                                case rel =>
                                  exact ⟨1 + 1, by omega, by first | rfl | go_num, (HR.out.past (by (repeat (first | exact Below.refl _ _ | assumption | (refine Below.setCell ?_ (by first | (simp; done) | (simp; omega) | omega) _) | (refine Below.drew ?_) | (refine below_drewN ?_ _) | (refine Below.alloc ?_ (by first | (simp; done) | (simp; omega) | omega) _) | (refine Below.trans ?_ (Below.mono (by assumption) (by first | (simp; done) | (simp; omega) | omega))))))).far _ _ (by have := HL.out; simp; omega), (HK.out.past (by (repeat (first | exact Below.refl _ _ | assumption | (refine Below.setCell ?_ (by first | (simp; done) | (simp; omega) | omega) _) | (refine Below.drew ?_) | (refine below_drewN ?_ _) | (refine Below.alloc ?_ (by first | (simp; done) | (simp; omega) | omega) _) | (refine Below.trans ?_ (Below.mono (by assumption) (by first | (simp; done) | (simp; omega) | omega))))))).far _ _ (by have := HL.out; simp; omega), _, (HO.out.1.past (by (repeat (first | exact Below.refl _ _ | assumption | (refine Below.setCell ?_ (by first | (simp; done) | (simp; omega) | omega) _) | (refine Below.drew ?_) | (refine below_drewN ?_ _) | (refine Below.alloc ?_ (by first | (simp; done) | (simp; omega) | omega) _) | (refine Below.trans ?_ (Below.mono (by assumption) (by first | (simp; done) | (simp; omega) | omega))))))).set 1 _ (by omega), HO.out.2.1, tet_next HO.out.2.2 (by rw [HMX.out 1 (by omega), ← HA.out.1, ← HA.out.2.1, ← HA.out.2.2.1, ← HA.out.2.2.2]; simp [mixT, *])⟩
                                case measure => simp [intOf]
                              case true =>
                                go_wp2_with fail
                                go_roundw
                                case rel =>
                                  exact ⟨1 + 1, by omega, by first | rfl | go_num, (HR.out.past (by (repeat (first | exact Below.refl _ _ | assumption | (refine Below.setCell ?_ (by first | (simp; done) | (simp; omega) | omega) _) | (refine Below.drew ?_) | (refine below_drewN ?_ _) | (refine Below.alloc ?_ (by first | (simp; done) | (simp; omega) | omega) _) | (refine Below.trans ?_ (Below.mono (by assumption) (by first | (simp; done) | (simp; omega) | omega))))))).far _ _ (by have := HL.out; simp; omega), (HK.out.past (by (repeat (first | exact Below.refl _ _ | assumption | (refine Below.setCell ?_ (by first | (simp; done) | (simp; omega) | omega) _) | (refine Below.drew ?_) | (refine below_drewN ?_ _) | (refine Below.alloc ?_ (by first | (simp; done) | (simp; omega) | omega) _) | (refine Below.trans ?_ (Below.mono (by assumption) (by first | (simp; done) | (simp; omega) | omega))))))).far _ _ (by have := HL.out; simp; omega), _, (HO.out.1.past (by (repeat (first | exact Below.refl _ _ | assumption | (refine Below.setCell ?_ (by first | (simp; done) | (simp; omega) | omega) _) | (refine Below.drew ?_) | (refine below_drewN ?_ _) | (refine Below.alloc ?_ (by first | (simp; done) | (simp; omega) | omega) _) | (refine Below.trans ?_ (Below.mono (by assumption) (by first | (simp; done) | (simp; omega) | omega))))))).set 1 _ (by omega), HO.out.2.1, tet_next HO.out.2.2 (by rw [HMX.out 1 (by omega), ← HA.out.1, ← HA.out.2.1, ← HA.out.2.2.1, ← HA.out.2.2.2]; simp [mixT, *])⟩
                                case measure => simp [intOf]
                            case true =>
                              cases g4 : (FloatKind.f32.format.order u 0 == some .eq)
                              case true =>
                                go_wp2_with fail
                                go_roundw
                                case rel =>
                                  exact ⟨1 + 1, by omega, by first | rfl | go_num, (HR.out.past (by (repeat (first | exact Below.refl _ _ | assumption | (refine Below.setCell ?_ (by first | (simp; done) | (simp; omega) | omega) _) | (refine Below.drew ?_) | (refine below_drewN ?_ _) | (refine Below.alloc ?_ (by first | (simp; done) | (simp; omega) | omega) _) | (refine Below.trans ?_ (Below.mono (by assumption) (by first | (simp; done) | (simp; omega) | omega))))))).far _ _ (by have := HL.out; simp; omega), (HK.out.past (by (repeat (first | exact Below.refl _ _ | assumption | (refine Below.setCell ?_ (by first | (simp; done) | (simp; omega) | omega) _) | (refine Below.drew ?_) | (refine below_drewN ?_ _) | (refine Below.alloc ?_ (by first | (simp; done) | (simp; omega) | omega) _) | (refine Below.trans ?_ (Below.mono (by assumption) (by first | (simp; done) | (simp; omega) | omega))))))).far _ _ (by have := HL.out; simp; omega), _, (HO.out.1.past (by (repeat (first | exact Below.refl _ _ | assumption | (refine Below.setCell ?_ (by first | (simp; done) | (simp; omega) | omega) _) | (refine Below.drew ?_) | (refine below_drewN ?_ _) | (refine Below.alloc ?_ (by first | (simp; done) | (simp; omega) | omega) _) | (refine Below.trans ?_ (Below.mono (by assumption) (by first | (simp; done) | (simp; omega) | omega))))))).set 1 _ (by omega), HO.out.2.1, tet_next HO.out.2.2 (by rw [HMX.out 1 (by omega), ← HA.out.1, ← HA.out.2.1, ← HA.out.2.2.1, ← HA.out.2.2.2]; simp [mixT, *])⟩
                                case measure => simp [intOf]
                              case false =>
                                cases g5 : (FloatKind.f32.format.order u 1065353216 == some .eq)
                                case false =>
                                  go_wp2_with (first | ((with_reducible apply wpList_farith); rfl; rfl; rfl; intro _ _ _) | ((with_reducible apply wpList_up); rfl; exact Try.underlying38; exact Try.underlying113; intro _ _ _) | (go_at_call 48; refine (Fix_any _ _).mono ?_; rintro e w' ⟨rfl, rfl⟩))
                                  rename_i r1 n1 h1 r2 n2 h2 r3 n3 h3 r4 n4 h4 r5 n5 h5 r6 n6 h6 r7 n7 h7 r8 n8 h8 r9 n9 h9
                                  have hv := tet_fr h1 h2 h3 h4 h5 h6 h7 h8 h9
                                  clear h1 h2 h3 h4 h5 h6 h7 h8 h9
                                  go_roundw
                                  case rel =>
                                    exact ⟨1 + 1, by omega, by first | rfl | go_num, (HR.out.past (by (repeat (first | exact Below.refl _ _ | assumption | (refine Below.setCell ?_ (by first | (simp; done) | (simp; omega) | omega) _) | (refine Below.drew ?_) | (refine below_drewN ?_ _) | (refine Below.alloc ?_ (by first | (simp; done) | (simp; omega) | omega) _) | (refine Below.trans ?_ (Below.mono (by assumption) (by first | (simp; done) | (simp; omega) | omega))))))).far _ _ (by have := HL.out; simp; omega), (HK.out.past (by (repeat (first | exact Below.refl _ _ | assumption | (refine Below.setCell ?_ (by first | (simp; done) | (simp; omega) | omega) _) | (refine Below.drew ?_) | (refine below_drewN ?_ _) | (refine Below.alloc ?_ (by first | (simp; done) | (simp; omega) | omega) _) | (refine Below.trans ?_ (Below.mono (by assumption) (by first | (simp; done) | (simp; omega) | omega))))))).far _ _ (by have := HL.out; simp; omega), _, (HO.out.1.past (by (repeat (first | exact Below.refl _ _ | assumption | (refine Below.setCell ?_ (by first | (simp; done) | (simp; omega) | omega) _) | (refine Below.drew ?_) | (refine below_drewN ?_ _) | (refine Below.alloc ?_ (by first | (simp; done) | (simp; omega) | omega) _) | (refine Below.trans ?_ (Below.mono (by assumption) (by first | (simp; done) | (simp; omega) | omega))))))).set 1 _ (by omega), HO.out.2.1, tet_next HO.out.2.2 (by rw [HMX.out 1 (by omega), ← HA.out.1, ← HA.out.2.1, ← HA.out.2.2.1, ← HA.out.2.2.2]; simp [mixT, *])⟩
                                  case measure => simp [intOf]
                                case true =>
                                  go_wp2_with fail
                                  go_roundw
                                  case rel =>
                                    exact ⟨1 + 1, by omega, by first | rfl | go_num, (HR.out.past (by (repeat (first | exact Below.refl _ _ | assumption | (refine Below.setCell ?_ (by first | (simp; done) | (simp; omega) | omega) _) | (refine Below.drew ?_) | (refine below_drewN ?_ _) | (refine Below.alloc ?_ (by first | (simp; done) | (simp; omega) | omega) _) | (refine Below.trans ?_ (Below.mono (by assumption) (by first | (simp; done) | (simp; omega) | omega))))))).far _ _ (by have := HL.out; simp; omega), (HK.out.past (by (repeat (first | exact Below.refl _ _ | assumption | (refine Below.setCell ?_ (by first | (simp; done) | (simp; omega) | omega) _) | (refine Below.drew ?_) | (refine below_drewN ?_ _) | (refine Below.alloc ?_ (by first | (simp; done) | (simp; omega) | omega) _) | (refine Below.trans ?_ (Below.mono (by assumption) (by first | (simp; done) | (simp; omega) | omega))))))).far _ _ (by have := HL.out; simp; omega), _, (HO.out.1.past (by (repeat (first | exact Below.refl _ _ | assumption | (refine Below.setCell ?_ (by first | (simp; done) | (simp; omega) | omega) _) | (refine Below.drew ?_) | (refine below_drewN ?_ _) | (refine Below.alloc ?_ (by first | (simp; done) | (simp; omega) | omega) _) | (refine Below.trans ?_ (Below.mono (by assumption) (by first | (simp; done) | (simp; omega) | omega))))))).set 1 _ (by omega), HO.out.2.1, tet_next HO.out.2.2 (by rw [HMX.out 1 (by omega), ← HA.out.1, ← HA.out.2.1, ← HA.out.2.2.1, ← HA.out.2.2.2]; simp [mixT, *])⟩
                                  case measure => simp [intOf]
                          case true =>
                            cases g2 : (FloatKind.f32.format.order t 0 == some .eq)
                            case true =>
                              go_wp2_with fail
                              go_roundw
                              case rel =>
                                exact ⟨1 + 1, by omega, by first | rfl | go_num, (HR.out.past (by (repeat (first | exact Below.refl _ _ | assumption | (refine Below.setCell ?_ (by first | (simp; done) | (simp; omega) | omega) _) | (refine Below.drew ?_) | (refine below_drewN ?_ _) | (refine Below.alloc ?_ (by first | (simp; done) | (simp; omega) | omega) _) | (refine Below.trans ?_ (Below.mono (by assumption) (by first | (simp; done) | (simp; omega) | omega))))))).far _ _ (by have := HL.out; simp; omega), (HK.out.past (by (repeat (first | exact Below.refl _ _ | assumption | (refine Below.setCell ?_ (by first | (simp; done) | (simp; omega) | omega) _) | (refine Below.drew ?_) | (refine below_drewN ?_ _) | (refine Below.alloc ?_ (by first | (simp; done) | (simp; omega) | omega) _) | (refine Below.trans ?_ (Below.mono (by assumption) (by first | (simp; done) | (simp; omega) | omega))))))).far _ _ (by have := HL.out; simp; omega), _, (HO.out.1.past (by (repeat (first | exact Below.refl _ _ | assumption | (refine Below.setCell ?_ (by first | (simp; done) | (simp; omega) | omega) _) | (refine Below.drew ?_) | (refine below_drewN ?_ _) | (refine Below.alloc ?_ (by first | (simp; done) | (simp; omega) | omega) _) | (refine Below.trans ?_ (Below.mono (by assumption) (by first | (simp; done) | (simp; omega) | omega))))))).set 1 _ (by omega), HO.out.2.1, tet_next HO.out.2.2 (by rw [HMX.out 1 (by omega), ← HA.out.1, ← HA.out.2.1, ← HA.out.2.2.1, ← HA.out.2.2.2]; simp [mixT, *])⟩
                              case measure => simp [intOf]
                            case false =>
                              cases g3 : (FloatKind.f32.format.order t 1065353216 == some .eq)
                              case false =>
                                cases g5 : (FloatKind.f32.format.order u 1065353216 == some .eq)
                                case false =>
                                  go_wp2_with (first | ((with_reducible apply wpList_farith); rfl; rfl; rfl; intro _ _ _) | ((with_reducible apply wpList_up); rfl; exact Try.underlying38; exact Try.underlying113; intro _ _ _) | (go_at_call 48; refine (Fix_any _ _).mono ?_; rintro e w' ⟨rfl, rfl⟩))
                                  rename_i r1 n1 h1 r2 n2 h2 r3 n3 h3 r4 n4 h4 r5 n5 h5 r6 n6 h6 r7 n7 h7 r8 n8 h8 r9 n9 h9
                                  have hv := tet_fr h1 h2 h3 h4 h5 h6 h7 h8 h9
                                  clear h1 h2 h3 h4 h5 h6 h7 h8 h9
                                  go_roundw
                                  case rel =>
                                    exact ⟨1 + 1, by omega, by first | rfl | go_num, (HR.out.past (by (repeat (first | exact Below.refl _ _ | assumption | (refine Below.setCell ?_ (by first | (simp; done) | (simp; omega) | omega) _) | (refine Below.drew ?_) | (refine below_drewN ?_ _) | (refine Below.alloc ?_ (by first | (simp; done) | (simp; omega) | omega) _) | (refine Below.trans ?_ (Below.mono (by assumption) (by first | (simp; done) | (simp; omega) | omega))))))).far _ _ (by have := HL.out; simp; omega), (HK.out.past (by (repeat (first | exact Below.refl _ _ | assumption | (refine Below.setCell ?_ (by first | (simp; done) | (simp; omega) | omega) _) | (refine Below.drew ?_) | (refine below_drewN ?_ _) | (refine Below.alloc ?_ (by first | (simp; done) | (simp; omega) | omega) _) | (refine Below.trans ?_ (Below.mono (by assumption) (by first | (simp; done) | (simp; omega) | omega))))))).far _ _ (by have := HL.out; simp; omega), _, (HO.out.1.past (by (repeat (first | exact Below.refl _ _ | assumption | (refine Below.setCell ?_ (by first | (simp; done) | (simp; omega) | omega) _) | (refine Below.drew ?_) | (refine below_drewN ?_ _) | (refine Below.alloc ?_ (by first | (simp; done) | (simp; omega) | omega) _) | (refine Below.trans ?_ (Below.mono (by assumption) (by first | (simp; done) | (simp; omega) | omega))))))).set 1 _ (by omega), HO.out.2.1, tet_next HO.out.2.2 (by rw [HMX.out 1 (by omega), ← HA.out.1, ← HA.out.2.1, ← HA.out.2.2.1, ← HA.out.2.2.2]; simp [mixT, *])⟩
                                  case measure => simp [intOf]
                                case true =>
                                  go_wp2_with fail
                                  go_roundw
                                  case rel =>
                                    exact ⟨1 + 1, by omega, by first | rfl | go_num, (HR.out.past (by (repeat (first | exact Below.refl _ _ | assumption | (refine Below.setCell ?_ (by first | (simp; done) | (simp; omega) | omega) _) | (refine Below.drew ?_) | (refine below_drewN ?_ _) | (refine Below.alloc ?_ (by first | (simp; done) | (simp; omega) | omega) _) | (refine Below.trans ?_ (Below.mono (by assumption) (by first | (simp; done) | (simp; omega) | omega))))))).far _ _ (by have := HL.out; simp; omega), (HK.out.past (by (repeat (first | exact Below.refl _ _ | assumption | (refine Below.setCell ?_ (by first | (simp; done) | (simp; omega) | omega) _) | (refine Below.drew ?_) | (refine below_drewN ?_ _) | (refine Below.alloc ?_ (by first | (simp; done) | (simp; omega) | omega) _) | (refine Below.trans ?_ (Below.mono (by assumption) (by first | (simp; done) | (simp; omega) | omega))))))).far _ _ (by have := HL.out; simp; omega), _, (HO.out.1.past (by (repeat (first | exact Below.refl _ _ | assumption | (refine Below.setCell ?_ (by first | (simp; done) | (simp; omega) | omega) _) | (refine Below.drew ?_) | (refine below_drewN ?_ _) | (refine Below.alloc ?_ (by first | (simp; done) | (simp; omega) | omega) _) | (refine Below.trans ?_ (Below.mono (by assumption) (by first | (simp; done) | (simp; omega) | omega))))))).set 1 _ (by omega), HO.out.2.1, tet_next HO.out.2.2 (by rw [HMX.out 1 (by omega), ← HA.out.1, ← HA.out.2.1, ← HA.out.2.2.1, ← HA.out.2.2.2]; simp [mixT, *])⟩
                                  case measure => simp [intOf]
                              case true =>
                                cases g4 : (FloatKind.f32.format.order u 0 == some .eq)
                                case true =>
                                  go_wp2_with fail
                                  go_roundw
                                  case rel =>
                                    exact ⟨1 + 1, by omega, by first | rfl | go_num, (HR.out.past (by (repeat (first | exact Below.refl _ _ | assumption | (refine Below.setCell ?_ (by first | (simp; done) | (simp; omega) | omega) _) | (refine Below.drew ?_) | (refine below_drewN ?_ _) | (refine Below.alloc ?_ (by first | (simp; done) | (simp; omega) | omega) _) | (refine Below.trans ?_ (Below.mono (by assumption) (by first | (simp; done) | (simp; omega) | omega))))))).far _ _ (by have := HL.out; simp; omega), (HK.out.past (by (repeat (first | exact Below.refl _ _ | assumption | (refine Below.setCell ?_ (by first | (simp; done) | (simp; omega) | omega) _) | (refine Below.drew ?_) | (refine below_drewN ?_ _) | (refine Below.alloc ?_ (by first | (simp; done) | (simp; omega) | omega) _) | (refine Below.trans ?_ (Below.mono (by assumption) (by first | (simp; done) | (simp; omega) | omega))))))).far _ _ (by have := HL.out; simp; omega), _, (HO.out.1.past (by (repeat (first | exact Below.refl _ _ | assumption | (refine Below.setCell ?_ (by first | (simp; done) | (simp; omega) | omega) _) | (refine Below.drew ?_) | (refine below_drewN ?_ _) | (refine Below.alloc ?_ (by first | (simp; done) | (simp; omega) | omega) _) | (refine Below.trans ?_ (Below.mono (by assumption) (by first | (simp; done) | (simp; omega) | omega))))))).set 1 _ (by omega), HO.out.2.1, tet_next HO.out.2.2 (by rw [HMX.out 1 (by omega), ← HA.out.1, ← HA.out.2.1, ← HA.out.2.2.1, ← HA.out.2.2.2]; simp [mixT, *])⟩
                                  case measure => simp [intOf]
                                case false =>
                                  cases g5 : (FloatKind.f32.format.order u 1065353216 == some .eq)
                                  case false =>
                                    go_wp2_with (first | ((with_reducible apply wpList_farith); rfl; rfl; rfl; intro _ _ _) | ((with_reducible apply wpList_up); rfl; exact Try.underlying38; exact Try.underlying113; intro _ _ _) | (go_at_call 48; refine (Fix_any _ _).mono ?_; rintro e w' ⟨rfl, rfl⟩))
                                    rename_i r1 n1 h1 r2 n2 h2 r3 n3 h3 r4 n4 h4 r5 n5 h5 r6 n6 h6 r7 n7 h7 r8 n8 h8 r9 n9 h9
                                    have hv := tet_fr h1 h2 h3 h4 h5 h6 h7 h8 h9
                                    clear h1 h2 h3 h4 h5 h6 h7 h8 h9
                                    go_roundw
                                    case rel =>
                                      exact ⟨1 + 1, by omega, by first | rfl | go_num, (HR.out.past (by (repeat (first | exact Below.refl _ _ | assumption | (refine Below.setCell ?_ (by first | (simp; done) | (simp; omega) | omega) _) | (refine Below.drew ?_) | (refine below_drewN ?_ _) | (refine Below.alloc ?_ (by first | (simp; done) | (simp; omega) | omega) _) | (refine Below.trans ?_ (Below.mono (by assumption) (by first | (simp; done) | (simp; omega) | omega))))))).far _ _ (by have := HL.out; simp; omega), (HK.out.past (by (repeat (first | exact Below.refl _ _ | assumption | (refine Below.setCell ?_ (by first | (simp; done) | (simp; omega) | omega) _) | (refine Below.drew ?_) | (refine below_drewN ?_ _) | (refine Below.alloc ?_ (by first | (simp; done) | (simp; omega) | omega) _) | (refine Below.trans ?_ (Below.mono (by assumption) (by first | (simp; done) | (simp; omega) | omega))))))).far _ _ (by have := HL.out; simp; omega), _, (HO.out.1.past (by (repeat (first | exact Below.refl _ _ | assumption | (refine Below.setCell ?_ (by first | (simp; done) | (simp; omega) | omega) _) | (refine Below.drew ?_) | (refine below_drewN ?_ _) | (refine Below.alloc ?_ (by first | (simp; done) | (simp; omega) | omega) _) | (refine Below.trans ?_ (Below.mono (by assumption) (by first | (simp; done) | (simp; omega) | omega))))))).set 1 _ (by omega), HO.out.2.1, tet_next HO.out.2.2 (by rw [HMX.out 1 (by omega), ← HA.out.1, ← HA.out.2.1, ← HA.out.2.2.1, ← HA.out.2.2.2]; simp [mixT, *])⟩
                                    case measure => simp [intOf]
                                  case true =>
                                    go_wp2_with fail
                                    go_roundw
                                    case rel =>
                                      exact ⟨1 + 1, by omega, by first | rfl | go_num, (HR.out.past (by (repeat (first | exact Below.refl _ _ | assumption | (refine Below.setCell ?_ (by first | (simp; done) | (simp; omega) | omega) _) | (refine Below.drew ?_) | (refine below_drewN ?_ _) | (refine Below.alloc ?_ (by first | (simp; done) | (simp; omega) | omega) _) | (refine Below.trans ?_ (Below.mono (by assumption) (by first | (simp; done) | (simp; omega) | omega))))))).far _ _ (by have := HL.out; simp; omega), (HK.out.past (by (repeat (first | exact Below.refl _ _ | assumption | (refine Below.setCell ?_ (by first | (simp; done) | (simp; omega) | omega) _) | (refine Below.drew ?_) | (refine below_drewN ?_ _) | (refine Below.alloc ?_ (by first | (simp; done) | (simp; omega) | omega) _) | (refine Below.trans ?_ (Below.mono (by assumption) (by first | (simp; done) | (simp; omega) | omega))))))).far _ _ (by have := HL.out; simp; omega), _, (HO.out.1.past (by (repeat (first | exact Below.refl _ _ | assumption | (refine Below.setCell ?_ (by first | (simp; done) | (simp; omega) | omega) _) | (refine Below.drew ?_) | (refine below_drewN ?_ _) | (refine Below.alloc ?_ (by first | (simp; done) | (simp; omega) | omega) _) | (refine Below.trans ?_ (Below.mono (by assumption) (by first | (simp; done) | (simp; omega) | omega))))))).set 1 _ (by omega), HO.out.2.1, tet_next HO.out.2.2 (by rw [HMX.out 1 (by omega), ← HA.out.1, ← HA.out.2.1, ← HA.out.2.2.1, ← HA.out.2.2.2]; simp [mixT, *])⟩
                                    case measure => simp [intOf]
                    ·
                      as_aux_lemma =>
                        rw [show ((2 : Nat) : Int) = 2 from rfl]
                        clear hm hm3
                        obtain ⟨a1, ha⟩ : ∃ z, z = q 2 := ⟨_, rfl⟩
                        obtain ⟨b1, hb⟩ : ∃ z, z = q (3 + 2) := ⟨_, rfl⟩
                        obtain ⟨d1, hd⟩ : ∃ z, z = q (6 + 2) := ⟨_, rfl⟩
                        obtain ⟨f1, hf⟩ : ∃ z, z = q (9 + 2) := ⟨_, rfl⟩
                        have k0 := HK.out.c 2 (by omega); have k1 := HK.out.c (3 + 2) (by omega); have k2 := HK.out.c (6 + 2) (by omega); have k3 := HK.out.c (9 + 2) (by omega)
                        rw [← ha] at k0; rw [← hb] at k1; rw [← hd] at k2; rw [← hf] at k3
                        obtain ⟨ca, cb, cd, cf⟩ := HCN.out 2 (by omega)
                        rw [← ha] at ca; rw [← hb] at cb; rw [← hd] at cd; rw [← hf] at cf
                        have HA := Lib.hid (And.intro ha (And.intro hb (And.intro hd hf)))
                        clear ha hb hd hf
                        have kl := HK.out.lt
                        go_wp2_with fail
                        go_quiet (fail)
                        clear k0 k1 k2 k3
                        have ol := HO.out.1.lt
                        have of := HO.out.1.f
                        have o0 := HO.out.1.c 2 (by omega)
                        cases g0 : (FloatKind.f32.format.order s 0 == some .eq)
                        case true =>
                          go_wp2_with fail
                          go_roundw
                          case rel =>
                            exact ⟨2 + 1, by omega, by first | rfl | go_num, (HR.out.past (by (repeat (first | exact Below.refl _ _ | assumption | (refine Below.setCell ?_ (by first | (simp; done) | (simp; omega) | omega) _) | (refine Below.drew ?_) | (refine below_drewN ?_ _) | (refine Below.alloc ?_ (by first | (simp; done) | (simp; omega) | omega) _) | (refine Below.trans ?_ (Below.mono (by assumption) (by first | (simp; done) | (simp; omega) | omega))))))).far _ _ (by have := HL.out; simp; omega), (HK.out.past (by (repeat (first | exact Below.refl _ _ | assumption | (refine Below.setCell ?_ (by first | (simp; done) | (simp; omega) | omega) _) | (refine Below.drew ?_) | (refine below_drewN ?_ _) | (refine Below.alloc ?_ (by first | (simp; done) | (simp; omega) | omega) _) | (refine Below.trans ?_ (Below.mono (by assumption) (by first | (simp; done) | (simp; omega) | omega))))))).far _ _ (by have := HL.out; simp; omega), _, (HO.out.1.past (by (repeat (first | exact Below.refl _ _ | assumption | (refine Below.setCell ?_ (by first | (simp; done) | (simp; omega) | omega) _) | (refine Below.drew ?_) | (refine below_drewN ?_ _) | (refine Below.alloc ?_ (by first | (simp; done) | (simp; omega) | omega) _) | (refine Below.trans ?_ (Below.mono (by assumption) (by first | (simp; done) | (simp; omega) | omega))))))).set 2 _ (by omega), HO.out.2.1, tet_next HO.out.2.2 (by rw [HMX.out 2 (by omega), ← HA.out.1, ← HA.out.2.1, ← HA.out.2.2.1, ← HA.out.2.2.2]; simp [mixT, *])⟩
                          case measure => simp [intOf]
                        case false =>
                          cases g1 : (FloatKind.f32.format.order s 1065353216 == some .eq)
                          case false =>
                            cases g3 : (FloatKind.f32.format.order t 1065353216 == some .eq)
                            case false =>
                              cases g5 : (FloatKind.f32.format.order u 1065353216 == some .eq)
                              case false =>
                                go_wp2_with (first | ((with_reducible apply wpList_farith); rfl; rfl; rfl; intro _ _ _) | ((with_reducible apply wpList_up); rfl; exact Try.underlying38; exact Try.underlying113; intro _ _ _) | (go_at_call 48; refine (Fix_any _ _).mono ?_; rintro e w' ⟨rfl, rfl⟩))
                                rename_i r1 n1 h1 r2 n2 h2 r3 n3 h3 r4 n4 h4 r5 n5 h5 r6 n6 h6 r7 n7 h7 r8 n8 h8 r9 n9 h9
                                have hv := tet_fr h1 h2 h3 h4 h5 h6 h7 h8 h9
                                clear h1 h2 h3 h4 h5 h6 h7 h8 h9
                                go_roundw
                                case rel =>
                                  exact ⟨2 + 1, by omega, by first | rfl | go_num, (HR.out.past (by (repeat (first | exact Below.refl _ _ | assumption | (refine Below.setCell ?_ (by first | (simp; done) | (simp; omega) | omega) _) | (refine Below.drew ?_) | (refine below_drewN ?_ _) | (refine Below.alloc ?_ (by first | (simp; done) | (simp; omega) | omega) _) | (refine Below.trans ?_ (Below.mono (by assumption) (by first | (simp; done) | (simp; omega) | omega))))))).far _ _ (by have := HL.out; simp; omega), (HK.out.past (by (repeat (first | exact Below.refl _ _ | assumption | (refine Below.setCell ?_ (by first | (simp; done) | (simp; omega) | omega) _) | (refine Below.drew ?_) | (refine below_drewN ?_ _) | (refine Below.alloc ?_ (by first | (simp; done) | (simp; omega) | omega) _) | (refine Below.trans ?_ (Below.mono (by assumption) (by first | (simp; done) | (simp; omega) | omega))))))).far _ _ (by have := HL.out; simp; omega), _, (HO.out.1.past (by (repeat (first | exact Below.refl _ _ | assumption | (refine Below.setCell ?_ (by first | (simp; done) | (simp; omega) | omega) _) | (refine Below.drew ?_) | (refine below_drewN ?_ _) | (refine Below.alloc ?_ (by first | (simp; done) | (simp; omega) | omega) _) | (refine Below.trans ?_ (Below.mono (by assumption) (by first | (simp; done) | (simp; omega) | omega))))))).set 2 _ (by omega), HO.out.2.1, tet_next HO.out.2.2 (by rw [HMX.out 2 (by omega), ← HA.out.1, ← HA.out.2.1, ← HA.out.2.2.1, ← HA.out.2.2.2]; simp [mixT, *])⟩
                                case measure => simp [intOf]
                              case true =>
                                go_wp2_with fail
                                go_roundw
                                case rel =>
                                  exact ⟨2 + 1, by omega, by first | rfl | go_num, (HR.out.past (by (repeat (first | exact Below.refl _ _ | assumption | (refine Below.setCell ?_ (by first | (simp; done) | (simp; omega) | omega) _) | (refine Below.drew ?_) | (refine below_drewN ?_ _) | (refine Below.alloc ?_ (by first | (simp; done) | (simp; omega) | omega) _) | (refine Below.trans ?_ (Below.mono (by assumption) (by first | (simp; done) | (simp; omega) | omega))))))).far _ _ (by have := HL.out; simp; omega), (HK.out.past (by (repeat (first | exact Below.refl _ _ | assumption | (refine Below.setCell ?_ (by first | (simp; done) | (simp; omega) | omega) _) | (refine Below.drew ?_) | (refine below_drewN ?_ _) | (refine Below.alloc ?_ (by first | (simp; done) | (simp; omega) | omega) _) | (refine Below.trans ?_ (Below.mono (by assumption) (by first | (simp; done) | (simp; omega) | omega))))))).far _ _ (by have := HL.out; simp; omega), _, (HO.out.1.past (by (repeat (first | exact Below.refl _ _ | assumption | (refine Below.setCell ?_ (by first | (simp; done) | (simp; omega) | omega) _) | (refine Below.drew ?_) | (refine below_drewN ?_ _) | (refine Below.alloc ?_ (by first | (simp; done) | (simp; omega) | omega) _) | (refine Below.trans ?_ (Below.mono (by assumption) (by first | (simp; done) | (simp; omega) | omega))))))).set 2 _ (by omega), HO.out.2.1, tet_next HO.out.2.2 (by rw [HMX.out 2 (by omega), ← HA.out.1, ← HA.out.2.1, ← HA.out.2.2.1, ← HA.out.2.2.2]; simp [mixT, *])⟩
                                case measure => simp [intOf]
                            case true =>
                              cases g4 : (FloatKind.f32.format.order u 0 == some .eq)
                              case true =>
                                go_wp2_with fail
                                go_roundw
                                case rel =>
                                  exact ⟨2 + 1, by omega, by first | rfl | go_num, (HR.out.past (by (repeat (first | exact Below.refl _ _ | assumption | (refine Below.setCell ?_ (by first | (simp; done) | (simp; omega) | omega) _) | (refine Below.drew ?_) | (refine below_drewN ?_ _) | (refine Below.alloc ?_ (by first | (simp; done) | (simp; omega) | omega) _) | (refine Below.trans ?_ (Below.mono (by assumption) (by first | (simp; done) | (simp; omega) | omega))))))).far _ _ (by have := HL.out; simp; omega), (HK.out.past (by (repeat (first | exact Below.refl _ _ | assumption | (refine Below.setCell ?_ (by first | (simp; done) | (simp; omega) | omega) _) | (refine Below.drew ?_) | (refine below_drewN ?_ _) | (refine Below.alloc ?_ (by first | (simp; done) | (simp; omega) | omega) _) | (refine Below.trans ?_ (Below.mono (by assumption) (by first | (simp; done) | (simp; omega) | omega))))))).far _ _ (by have := HL.out; simp; omega), _, (HO.out.1.past (by (repeat (first | exact Below.refl _ _ | assumption | (refine Below.setCell ?_ (by first | (simp; done) | (simp; omega) | omega) _) | (refine Below.drew ?_) | (refine below_drewN ?_ _) | (refine Below.alloc ?_ (by first | (simp; done) | (simp; omega) | omega) _) | (refine Below.trans ?_ (Below.mono (by assumption) (by first | (simp; done) | (simp; omega) | omega))))))).set 2 _ (by omega), HO.out.2.1, tet_next HO.out.2.2 (by rw [HMX.out 2 (by omega), ← HA.out.1, ← HA.out.2.1, ← HA.out.2.2.1, ← HA.out.2.2.2]; simp [mixT, *])⟩
                                case measure => simp [intOf]
                              case false =>
                                cases g5 : (FloatKind.f32.format.order u 1065353216 == some .eq)
                                case false =>
                                  go_wp2_with (first | ((with_reducible apply wpList_farith); rfl; rfl; rfl; intro _ _ _) | ((with_reducible apply wpList_up); rfl; exact Try.underlying38; exact Try.underlying113; intro _ _ _) | (go_at_call 48; refine (Fix_any _ _).mono ?_; rintro e w' ⟨rfl, rfl⟩))
                                  rename_i r1 n1 h1 r2 n2 h2 r3 n3 h3 r4 n4 h4 r5 n5 h5 r6 n6 h6 r7 n7 h7 r8 n8 h8 r9 n9 h9
                                  have hv := tet_fr h1 h2 h3 h4 h5 h6 h7 h8 h9
                                  clear h1 h2 h3 h4 h5 h6 h7 h8 h9
                                  go_roundw
                                  case rel =>
                                    exact ⟨2 + 1, by omega, by first | rfl | go_num, (HR.out.past (by (repeat (first | exact Below.refl _ _ | assumption | (refine Below.setCell ?_ (by first | (simp; done) | (simp; omega) | omega) _) | (refine Below.drew ?_) | (refine below_drewN ?_ _) | (refine Below.alloc ?_ (by first | (simp; done) | (simp; omega) | omega) _) | (refine Below.trans ?_ (Below.mono (by assumption) (by first | (simp; done) | (simp; omega) | omega))))))).far _ _ (by have := HL.out; simp; omega), (HK.out.past (by (repeat (first | exact Below.refl _ _ | assumption | (refine Below.setCell ?_ (by first | (simp; done) | (simp; omega) | omega) _) | (refine Below.drew ?_) | (refine below_drewN ?_ _) | (refine Below.alloc ?_ (by first | (simp; done) | (simp; omega) | omega) _) | (refine Below.trans ?_ (Below.mono (by assumption) (by first | (simp; done) | (simp; omega) | omega))))))).far _ _ (by have := HL.out; simp; omega), _, (HO.out.1.past (by (repeat (first | exact Below.refl _ _ | assumption | (refine Below.setCell ?_ (by first | (simp; done) | (simp; omega) | omega) _) | (refine Below.drew ?_) | (refine below_drewN ?_ _) | (refine Below.alloc ?_ (by first | (simp; done) | (simp; omega) | omega) _) | (refine Below.trans ?_ (Below.mono (by assumption) (by first | (simp; done) | (simp; omega) | omega))))))).set 2 _ (by omega), HO.out.2.1, tet_next HO.out.2.2 (by rw [HMX.out 2 (by omega), ← HA.out.1, ← HA.out.2.1, ← HA.out.2.2.1, ← HA.out.2.2.2]; simp [mixT, *])⟩
                                  case measure => simp [intOf]
                                case true =>
                                  go_wp2_with fail
                                  go_roundw
                                  case rel =>
                                    exact ⟨2 + 1, by omega, by first | rfl | go_num, (HR.out.past (by (repeat (first | exact Below.refl _ _ | assumption | (refine Below.setCell ?_ (by first | (simp; done) | (simp; omega) | omega) _) | (refine Below.drew ?_) | (refine below_drewN ?_ _) | (refine Below.alloc ?_ (by first | (simp; done) | (simp; omega) | omega) _) | (refine Below.trans ?_ (Below.mono (by assumption) (by first | (simp; done) | (simp; omega) | omega))))))).far _ _ (by have := HL.out; simp; omega), (HK.out.past (by (repeat (first | exact Below.refl _ _ | assumption | (refine Below.setCell ?_ (by first | (simp; done) | (simp; omega) | omega) _) | (refine Below.drew ?_) | (refine below_drewN ?_ _) | (refine Below.alloc ?_ (by first | (simp; done) | (simp; omega) | omega) _) | (refine Below.trans ?_ (Below.mono (by assumption) (by first | (simp; done) | (simp; omega) | omega))))))).far _ _ (by have := HL.out; simp; omega), _, (HO.out.1.past (by (repeat (first | exact Below.refl _ _ | assumption | (refine Below.setCell ?_ (by first | (simp; done) | (simp; omega) | omega) _) | (refine Below.drew ?_) | (refine below_drewN ?_ _) | (refine Below.alloc ?_ (by first | (simp; done) | (simp; omega) | omega) _) | (refine Below.trans ?_ (Below.mono (by assumption) (by first | (simp; done) | (simp; omega) | omega))))))).set 2 _ (by omega), HO.out.2.1, tet_next HO.out.2.2 (by rw [HMX.out 2 (by omega), ← HA.out.1, ← HA.out.2.1, ← HA.out.2.2.1, ← HA.out.2.2.2]; simp [mixT, *])⟩
                                  case measure => simp [intOf]
                          case true =>
                            cases g2 : (FloatKind.f32.format.order t 0 == some .eq)
                            case true =>
                              go_wp2_with fail
                              go_roundw
                              case rel =>
                                exact ⟨2 + 1, by omega, by first | rfl | go_num, (HR.out.past (by (repeat (first | exact Below.refl _ _ | assumption | (refine Below.setCell ?_ (by first | (simp; done) | (simp; omega) | omega) _) | (refine Below.drew ?_) | (refine below_drewN ?_ _) | (refine Below.alloc ?_ (by first | (simp; done) | (simp; omega) | omega) _) | (refine Below.trans ?_ (Below.mono (by assumption) (by first | (simp; done) | (simp; omega) | omega))))))).far _ _ (by have := HL.out; simp; omega), (HK.out.past (by (repeat (first | exact Below.refl _ _ | assumption | (refine Below.setCell ?_ (by first | (simp; done) | (simp; omega) | omega) _) | (refine Below.drew ?_) | (refine below_drewN ?_ _) | (refine Below.alloc ?_ (by first | (simp; done) | (simp; omega) | omega) _) | (refine Below.trans ?_ (Below.mono (by assumption) (by first | (simp; done) | (simp; omega) | omega))))))).far _ _ (by have := HL.out; simp; omega), _, (HO.out.1.past (by (repeat (first | exact Below.refl _ _ | assumption | (refine Below.setCell ?_ (by first | (simp; done) | (simp; omega) | omega) _) | (refine Below.drew ?_) | (refine below_drewN ?_ _) | (refine Below.alloc ?_ (by first | (simp; done) | (simp; omega) | omega) _) | (refine Below.trans ?_ (Below.mono (by assumption) (by first | (simp; done) | (simp; omega) | omega))))))).set 2 _ (by omega), HO.out.2.1, tet_next HO.out.2.2 (by rw [HMX.out 2 (by omega), ← HA.out.1, ← HA.out.2.1, ← HA.out.2.2.1, ← HA.out.2.2.2]; simp [mixT, *])⟩
                              case measure => simp [intOf]
                            case false =>
                              cases g3 : (FloatKind.f32.format.order t 1065353216 == some .eq)
                              case false =>
                                cases g5 : (FloatKind.f32.format.order u 1065353216 == some .eq)
                                case false =>
                                  go_wp2_with (first | ((with_reducible apply wpList_farith); rfl; rfl; rfl; intro _ _ _) | ((with_reducible apply wpList_up); rfl; exact Try.underlying38; exact Try.underlying113; intro _ _ _) | (go_at_call 48; refine (Fix_any _ _).mono ?_; rintro e w' ⟨rfl, rfl⟩))
                                  rename_i r1 n1 h1 r2 n2 h2 r3 n3 h3 r4 n4 h4 r5 n5 h5 r6 n6 h6 r7 n7 h7 r8 n8 h8 r9 n9 h9
                                  have hv := tet_fr h1 h2 h3 h4 h5 h6 h7 h8 h9
                                  clear h1 h2 h3 h4 h5 h6 h7 h8 h9
                                  go_roundw
                                  case rel =>
                                    exact ⟨2 + 1, by omega, by first | rfl | go_num, (HR.out.past (by (repeat (first | exact Below.refl _ _ | assumption | (refine Below.setCell ?_ (by first | (simp; done) | (simp; omega) | omega) _) | (refine Below.drew ?_) | (refine below_drewN ?_ _) | (refine Below.alloc ?_ (by first | (simp; done) | (simp; omega) | omega) _) | (refine Below.trans ?_ (Below.mono (by assumption) (by first | (simp; done) | (simp; omega) | omega))))))).far _ _ (by have := HL.out; simp; omega), (HK.out.past (by (repeat (first | exact Below.refl _ _ | assumption | (refine Below.setCell ?_ (by first | (simp; done) | (simp; omega) | omega) _) | (refine Below.drew ?_) | (refine below_drewN ?_ _) | (refine Below.alloc ?_ (by first | (simp; done) | (simp; omega) | omega) _) | (refine Below.trans ?_ (Below.mono (by assumption) (by first | (simp; done) | (simp; omega) | omega))))))).far _ _ (by have := HL.out; simp; omega), _, (HO.out.1.past (by (repeat (first | exact Below.refl _ _ | assumption | (refine Below.setCell ?_ (by first | (simp; done) | (simp; omega) | omega) _) | (refine Below.drew ?_) | (refine below_drewN ?_ _) | (refine Below.alloc ?_ (by first | (simp; done) | (simp; omega) | omega) _) | (refine Below.trans ?_ (Below.mono (by assumption) (by first | (simp; done) | (simp; omega) | omega))))))).set 2 _ (by omega), HO.out.2.1, tet_next HO.out.2.2 (by rw [HMX.out 2 (by omega), ← HA.out.1, ← HA.out.2.1, ← HA.out.2.2.1, ← HA.out.2.2.2]; simp [mixT, *])⟩
                                  case measure => simp [intOf]
                                case true =>
                                  go_wp2_with fail
                                  go_roundw
                                  case rel =>
                                    exact ⟨2 + 1, by omega, by first | rfl | go_num, (HR.out.past (by (repeat (first | exact Below.refl _ _ | assumption | (refine Below.setCell ?_ (by first | (simp; done) | (simp; omega) | omega) _) | (refine Below.drew ?_) | (refine below_drewN ?_ _) | (refine Below.alloc ?_ (by first | (simp; done) | (simp; omega) | omega) _) | (refine Below.trans ?_ (Below.mono (by assumption) (by first | (simp; done) | (simp; omega) | omega))))))).far _ _ (by have := HL.out; simp; omega), (HK.out.past (by (repeat (first | exact Below.refl _ _ | assumption | (refine Below.setCell ?_ (by first | (simp; done) | (simp; omega) | omega) _) | (refine Below.drew ?_) | (refine below_drewN ?_ _) | (refine Below.alloc ?_ (by first | (simp; done) | (simp; omega) | omega) _) | (refine Below.trans ?_ (Below.mono (by assumption) (by first | (simp; done) | (simp; omega) | omega))))))).far _ _ (by have := HL.out; simp; omega), _, (HO.out.1.past (by (repeat (first | exact Below.refl _ _ | assumption | (refine Below.setCell ?_ (by first | (simp; done) | (simp; omega) | omega) _) | (refine Below.drew ?_) | (refine below_drewN ?_ _) | (refine Below.alloc ?_ (by first | (simp; done) | (simp; omega) | omega) _) | (refine Below.trans ?_ (Below.mono (by assumption) (by first | (simp; done) | (simp; omega) | omega))))))).set 2 _ (by omega), HO.out.2.1, tet_next HO.out.2.2 (by rw [HMX.out 2 (by omega), ← HA.out.1, ← HA.out.2.1, ← HA.out.2.2.1, ← HA.out.2.2.2]; simp [mixT, *])⟩
                                  case measure => simp [intOf]
                              case true =>
                                cases g4 : (FloatKind.f32.format.order u 0 == some .eq)
                                case true =>
                                  go_wp2_with fail
                                  go_roundw
                                  case rel =>
                                    exact ⟨2 + 1, by omega, by first | rfl | go_num, (HR.out.past (by (repeat (first | exact Below.refl _ _ | assumption | (refine Below.setCell ?_ (by first | (simp; done) | (simp; omega) | omega) _) | (refine Below.drew ?_) | (refine below_drewN ?_ _) | (refine Below.alloc ?_ (by first | (simp; done) | (simp; omega) | omega) _) | (refine Below.trans ?_ (Below.mono (by assumption) (by first | (simp; done) | (simp; omega) | omega))))))).far _ _ (by have := HL.out; simp; omega), (HK.out.past (by (repeat (first | exact Below.refl _ _ | assumption | (refine Below.setCell ?_ (by first | (simp; done) | (simp; omega) | omega) _) | (refine Below.drew ?_) | (refine below_drewN ?_ _) | (refine Below.alloc ?_ (by first | (simp; done) | (simp; omega) | omega) _) | (refine Below.trans ?_ (Below.mono (by assumption) (by first | (simp; done) | (simp; omega) | omega))))))).far _ _ (by have := HL.out; simp; omega), _, (HO.out.1.past (by (repeat (first | exact Below.refl _ _ | assumption | (refine Below.setCell ?_ (by first | (simp; done) | (simp; omega) | omega) _) | (refine Below.drew ?_) | (refine below_drewN ?_ _) | (refine Below.alloc ?_ (by first | (simp; done) | (simp; omega) | omega) _) | (refine Below.trans ?_ (Below.mono (by assumption) (by first | (simp; done) | (simp; omega) | omega))))))).set 2 _ (by omega), HO.out.2.1, tet_next HO.out.2.2 (by rw [HMX.out 2 (by omega), ← HA.out.1, ← HA.out.2.1, ← HA.out.2.2.1, ← HA.out.2.2.2]; simp [mixT, *])⟩
                                  case measure => simp [intOf]
                                case false =>
                                  cases g5 : (FloatKind.f32.format.order u 1065353216 == some .eq)
                                  case false =>
                                    go_wp2_with (first | ((with_reducible apply wpList_farith); rfl; rfl; rfl; intro _ _ _) | ((with_reducible apply wpList_up); rfl; exact Try.underlying38; exact Try.underlying113; intro _ _ _) | (go_at_call 48; refine (Fix_any _ _).mono ?_; rintro e w' ⟨rfl, rfl⟩))
                                    rename_i r1 n1 h1 r2 n2 h2 r3 n3 h3 r4 n4 h4 r5 n5 h5 r6 n6 h6 r7 n7 h7 r8 n8 h8 r9 n9 h9
                                    have hv := tet_fr h1 h2 h3 h4 h5 h6 h7 h8 h9
                                    clear h1 h2 h3 h4 h5 h6 h7 h8 h9
                                    go_roundw
                                    case rel =>
                                      exact ⟨2 + 1, by omega, by first | rfl | go_num, (HR.out.past (by (repeat (first | exact Below.refl _ _ | assumption | (refine Below.setCell ?_ (by first | (simp; done) | (simp; omega) | omega) _) | (refine Below.drew ?_) | (refine below_drewN ?_ _) | (refine Below.alloc ?_ (by first | (simp; done) | (simp; omega) | omega) _) | (refine Below.trans ?_ (Below.mono (by assumption) (by first | (simp; done) | (simp; omega) | omega))))))).far _ _ (by have := HL.out; simp; omega), (HK.out.past (by (repeat (first | exact Below.refl _ _ | assumption | (refine Below.setCell ?_ (by first | (simp; done) | (simp; omega) | omega) _) | (refine Below.drew ?_) | (refine below_drewN ?_ _) | (refine Below.alloc ?_ (by first | (simp; done) | (simp; omega) | omega) _) | (refine Below.trans ?_ (Below.mono (by assumption) (by first | (simp; done) | (simp; omega) | omega))))))).far _ _ (by have := HL.out; simp; omega), _, (HO.out.1.past (by (repeat (first | exact Below.refl _ _ | assumption | (refine Below.setCell ?_ (by first | (simp; done) | (simp; omega) | omega) _) | (refine Below.drew ?_) | (refine below_drewN ?_ _) | (refine Below.alloc ?_ (by first | (simp; done) | (simp; omega) | omega) _) | (refine Below.trans ?_ (Below.mono (by assumption) (by first | (simp; done) | (simp; omega) | omega))))))).set 2 _ (by omega), HO.out.2.1, tet_next HO.out.2.2 (by rw [HMX.out 2 (by omega), ← HA.out.1, ← HA.out.2.1, ← HA.out.2.2.1, ← HA.out.2.2.2]; simp [mixT, *])⟩
                                    case measure => simp [intOf]
                                  case true =>
                                    go_wp2_with fail
                                    go_roundw
                                    case rel =>
                                      exact ⟨2 + 1, by omega, by first | rfl | go_num, (HR.out.past (by (repeat (first | exact Below.refl _ _ | assumption | (refine Below.setCell ?_ (by first | (simp; done) | (simp; omega) | omega) _) | (refine Below.drew ?_) | (refine below_drewN ?_ _) | (refine Below.alloc ?_ (by first | (simp; done) | (simp; omega) | omega) _) | (refine Below.trans ?_ (Below.mono (by assumption) (by first | (simp; done) | (simp; omega) | omega))))))).far _ _ (by have := HL.out; simp; omega), (HK.out.past (by (repeat (first | exact Below.refl _ _ | assumption | (refine Below.setCell ?_ (by first | (simp; done) | (simp; omega) | omega) _) | (refine Below.drew ?_) | (refine below_drewN ?_ _) | (refine Below.alloc ?_ (by first | (simp; done) | (simp; omega) | omega) _) | (refine Below.trans ?_ (Below.mono (by assumption) (by first | (simp; done) | (simp; omega) | omega))))))).far _ _ (by have := HL.out; simp; omega), _, (HO.out.1.past (by (repeat (first | exact Below.refl _ _ | assumption | (refine Below.setCell ?_ (by first | (simp; done) | (simp; omega) | omega) _) | (refine Below.drew ?_) | (refine below_drewN ?_ _) | (refine Below.alloc ?_ (by first | (simp; done) | (simp; omega) | omega) _) | (refine Below.trans ?_ (Below.mono (by assumption) (by first | (simp; done) | (simp; omega) | omega))))))).set 2 _ (by omega), HO.out.2.1, tet_next HO.out.2.2 (by rw [HMX.out 2 (by omega), ← HA.out.1, ← HA.out.2.1, ← HA.out.2.2.1, ← HA.out.2.2.2]; simp [mixT, *])⟩
                                    case measure => simp [intOf]
                  · obtain rfl : m = 3 := by omega
                    clear hm hm3 HMX
                    have z0 := HR.out.z.c 0 _ rfl; have z1 := HR.out.z.c 1 _ rfl; have z2 := HR.out.z.c 2 _ rfl; have z3 := HR.out.z.c 3 _ rfl; have zf := HR.out.z.f; have zl := HR.out.z.lt
                    have o0 := HO.out.1.c 0 (by omega); have o1 := HO.out.1.c 1 (by omega); have o2 := HO.out.1.c 2 (by omega); have o3 := HO.out.1.c 3 (by omega)
                    rw [HO.out.2.2 0 (by omega)] at o0; rw [HO.out.2.2 1 (by omega)] at o1; rw [HO.out.2.2 2 (by omega)] at o2
                    rw [HO.out.2.1, show cn .f32 (p 3) = tetF S lo hi fs p 3 from by simp [tetF]] at o3
                    have B5 := HR.out.b
                    clear HR HK HO
                    obtain ⟨g0, hg0⟩ : ∃ z, z = tetF S lo hi fs p 0 := ⟨_, rfl⟩
                    rw [← hg0] at o0
                    obtain ⟨g1, hg1⟩ : ∃ z, z = tetF S lo hi fs p 1 := ⟨_, rfl⟩
                    rw [← hg1] at o1
                    obtain ⟨g2, hg2⟩ : ∃ z, z = tetF S lo hi fs p 2 := ⟨_, rfl⟩
                    rw [← hg2] at o2
                    obtain ⟨g3, hg3⟩ : ∃ z, z = tetF S lo hi fs p 3 := ⟨_, rfl⟩
                    rw [← hg3] at o3
                    have HG := Lib.hid (And.intro hg0 (And.intro hg1 (And.intro hg2 hg3)))
                    clear hg0 hg1 hg2 hg3
                    go_wp2_with fail
                    refine bodyPost_ret (v := .agg #[.float .f32 g0, .float .f32 g1, .float .f32 g2, .float .f32 g3]) (by simp [results, Try.results97, go_sem, z0, z1, z2, z3]) rfl ⟨by rw [HG.out.1, HG.out.2.1, HG.out.2.2.1, HG.out.2.2.2], ?_⟩
                    exact (((B5.setCell (by first | (simp; done) | (simp; omega) | omega) _).setCell (by first | (simp; done) | (simp; omega) | omega) _).setCell (by first | (simp; done) | (simp; omega) | omega) _).setCell (by first | (simp; done) | (simp; omega) | omega) _
end Go.Proofs.Ytmckkgbdlgldbaa
