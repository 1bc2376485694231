/- Frames put together: frame.Join. Conditions: what each theorem names. -/
import Derived.Test.YtnicamndlkdcmaaJnC
namespace Go.Proofs.Ytnicamndlkdcmaa
open Go Go.RowKit
set_option maxRecDepth 100000 in
set_option maxHeartbeats 6400000 in
theorem Join_any (X Y : Int) (W H : Nat) (ap : Option Addr) (P cp : Nat) (ps : Nat → Fr) (w : World) (hr : regErr X Y W H = 0) (hP : P ≤ 9223372036854775807) (h : FrsAt w ap P ps) :
    Calls Try.prog 32 #[.agg #[.int .i64 X, .int .i64 Y, .int .i64 W, .int .i64 H], .slice ap P cp] w fun e w' =>
      ((jnE X Y W H ps P ≠ 0 ∧ e = .returned (.tuple #[.agg #[.int .i64 0, .int .i64 0, .int .i64 0, .int .i64 0, .slice none 0 0], .int .i64 (jnE X Y W H ps P)])) ∨
       (jnE X Y W H ps P = 0 ∧ ∃ g, e = .returned (.tuple #[.agg #[.int .i64 X, .int .i64 Y, .int .i64 W, .int .i64 H, .slice (some ⟨g, 0, none⟩) (4 * (W * H)) (4 * (W * H))], .int .i64 0]) ∧ w.heap.size + 1 < g ∧ g < w'.heap.size ∧ ∀ i, i < 4 * (W * H) → w'.cell? ⟨g, 0 + i, none⟩ = some (.float .f32 (jO X Y W ps P i)))) ∧ Below w.heap.size w w' := by
  obtain ⟨r1, r2, r3, r4, r5, r6, r7, r8, r9, r10⟩ := regErr_ok hr
  have hWH : W * H ≤ 16384 := by
    have : ((W * H : Nat) : Int) ≤ 16384 := by rw [Int.natCast_mul]; exact r5
    exact_mod_cast this
  have hWH1 : 1 ≤ W * H := by
    have : 1 ≤ ((W * H : Nat) : Int) := by rw [Int.natCast_mul]; exact r6
    exact_mod_cast this
  obtain ⟨m, hm⟩ : ∃ m, m = W * H := ⟨_, rfl⟩
  obtain ⟨n, hn⟩ : ∃ n, n = 4 * m := ⟨_, rfl⟩
  rw [← hm, ← hn]
  rw [← hm] at hWH hWH1
  have hmi : ((W : Int) * (H : Int)) = (m : Int) := by rw [hm]; simp
  have hn6 : n ≤ 65536 := by omega
  have wN : IntKind.i64.wrap (4 * (W : Int) * (H : Int)) = (n : Int) := by rw [Int.mul_assoc, hmi, IntKind.wrap_i64]; omega
  have wM : IntKind.i64.wrap ((W : Int) * (H : Int)) = (m : Int) := by rw [hmi, IntKind.wrap_i64]; omega
  have hmk := run_make_row' (P := Try.prog) 41 47 (.float .f32 0) 4 Try.underlying41 (by kernel_rfl) rfl .i64 .i64 n (by omega) (by omega)
  have hmk2 := run_make_row' (P := Try.prog) 97 4 (.bool false) 1 Try.underlying97 (by kernel_rfl) rfl .i64 .i64 m (by omega) (by omega)
  have HP := Lib.hid h; have HR := Lib.hid hr; have HM := Lib.hid (And.intro hm hn)
  have HJ := Lib.hid (fun q hq h0 hne => by
    have e : firstN (jR X Y W H ps) P = jR X Y W H ps q := firstN_of h0 hne hq
    unfold jnE; rw [e, if_pos hne] : ∀ q, q < P → firstN (jR X Y W H ps) q = 0 → jR X Y W H ps q ≠ 0 → jnE X Y W H ps P = jR X Y W H ps q)
  have b1 : -1048576 ≤ X ∧ X ≤ 1048576 := by omega
  have b2 : -1048576 ≤ Y ∧ Y ≤ 1048576 := by omega
  have b3 : 1 ≤ W ∧ W ≤ 256 := by omega
  have b4 : 1 ≤ H ∧ H ≤ 256 := by omega
  clear h hr r1 r2 r3 r4 r5 r6 r7 r8 r9 r10 hm hn hmi
  go_enter Try.func32, Try.ntmps32
  go_upto_region 1 with fail
  refine wp_world (fun W1 hW1 => ?_)
  have B1 : Below w.heap.size w W1 := by rw [hW1]; (repeat (first | exact Below.refl _ _ | assumption | (refine Below.setCell ?_ (by first | (simp; done) | (simp; omega) | omega) _) | (refine Below.drew ?_) | (refine below_drewN ?_ _) | (refine Below.alloc ?_ (by first | (simp; done) | (simp; omega) | omega) _) | (refine Below.trans ?_ (Below.mono (by assumption) (by first | (simp; done) | (simp; omega) | omega)))))
  have A1 : Blk W1 w.heap.size [.int .i64 X, .int .i64 Y, .int .i64 W, .int .i64 H] := by rw [hW1]; exact (Blk.new _ _ _ _ rfl).alloc _
  have Z1 : Blk W1 (w.heap.size + 1) [.int .i64 0, .int .i64 0, .int .i64 0, .int .i64 0, .slice none 0 0] := by rw [hW1]; exact Blk.new _ _ _ _ (by simp)
  have H1 := Lib.hid (And.intro A1 (And.intro Z1 B1))
  have a0 := A1.c 0 _ rfl; have a1 := A1.c 1 _ rfl; have a2 := A1.c 2 _ rfl; have a3 := A1.c 3 _ rfl; have al := A1.lt
  clear hW1 B1 A1 Z1
  go_upto_region 4 with (first | (go_at_call 58; refine (CheckRegion_any _ _ _ _ _).mono ?_; rintro e w2 ⟨rfl, hb⟩; rw [HR.out]; have H2 := Lib.hid (And.intro (H1.out.1.past hb) (And.intro (H1.out.2.1.past hb) (H1.out.2.2.trans (hb.mono H1.out.2.2.size)))); clear hb a0 a1 a2 a3 al H1))
  have a0 := H2.out.1.c 0 _ rfl; have a1 := H2.out.1.c 1 _ rfl; have a2 := H2.out.1.c 2 _ rfl; have a3 := H2.out.1.c 3 _ rfl; have al := H2.out.1.lt
  have zl2 : w.heap.size + 1 < w2.heap.size := H2.out.2.1.lt
  go_cut [7] (fun s7 wx => ∃ nf go : Nat, s7 = .pointer (some ⟨nf, 0, none⟩) ∧ Blk wx nf [.int .i64 X, .int .i64 Y, .int .i64 W, .int .i64 H, .slice (some ⟨go, 0, none⟩) n n] ∧ wx.rowIs go 47 n (fun _ => .float .f32 0) ∧ nf ≠ go ∧ w2.heap.size ≤ nf ∧ w2.heap.size ≤ go ∧ Below w2.heap.size w2 wx)
  case first =>
    go_region
    · go_wp2_with fail
      go_meet
      refine ⟨w2.heap.size + 1, w2.heap.size, rfl, (Blk.new _ _ _ _ (by simp)).drew, ?_, by omega, by omega, by omega, by (repeat (first | exact Below.refl _ _ | assumption | (refine Below.setCell ?_ (by first | (simp; done) | (simp; omega) | omega) _) | (refine Below.drew ?_) | (refine below_drewN ?_ _) | (refine Below.alloc ?_ (by first | (simp; done) | (simp; omega) | omega) _) | (refine Below.trans ?_ (Below.mono (by assumption) (by first | (simp; done) | (simp; omega) | omega)))))⟩
      have hr := World.rowIs_made w2 (.float .f32 0) n 47
      exact (hr.alloc _).drew
    · go_wp2_with fail
      go_meet
      refine ⟨w2.heap.size, w2.heap.size + 1, rfl, ((Blk.new _ _ _ _ rfl).alloc _).drew, ?_, by omega, by omega, by omega, by (repeat (first | exact Below.refl _ _ | assumption | (refine Below.setCell ?_ (by first | (simp; done) | (simp; omega) | omega) _) | (refine Below.drew ?_) | (refine below_drewN ?_ _) | (refine Below.alloc ?_ (by first | (simp; done) | (simp; omega) | omega) _) | (refine Below.trans ?_ (Below.mono (by assumption) (by first | (simp; done) | (simp; omega) | omega)))))⟩
      have hr := World.rowIs_made (w2.alloc (.cells #[.int .i64 X, .int .i64 Y, .int .i64 W, .int .i64 H, .slice (some ⟨w2.heap.size + 1, 0, none⟩) n n] 43)) (.float .f32 0) n 47
      simp only [World.size_alloc] at hr
      exact hr.drew
  case rest =>
    obtain ⟨nf, go, rfl, hN, hO, hne, hnf, hgo, hbx⟩ := hcut
    have H3 := Lib.hid (And.intro (H2.out.1.past hbx) (And.intro (H2.out.2.1.past hbx) (And.intro hN (And.intro hO (H2.out.2.2.trans (hbx.mono H2.out.2.2.size))))))
    have hnl := hN.lt; have hol := hO.lt
    clear hN hO hbx hmk a0 a1 a2 a3 al H2
    have a2 := H3.out.1.c 2 _ rfl; have a3 := H3.out.1.c 3 _ rfl; have al := H3.out.1.lt
    go_upto_region 6 with fail
    refine wp_world (fun W4 hW4 => ?_)
    have B4 : Below wc.heap.size wc W4 := by rw [hW4]; (repeat (first | exact Below.refl _ _ | assumption | (refine Below.setCell ?_ (by first | (simp; done) | (simp; omega) | omega) _) | (refine Below.drew ?_) | (refine below_drewN ?_ _) | (refine Below.alloc ?_ (by first | (simp; done) | (simp; omega) | omega) _) | (refine Below.trans ?_ (Below.mono (by assumption) (by first | (simp; done) | (simp; omega) | omega)))))
    have F4 : W4.rowIs wc.heap.size 4 m (fun j => .bool (jF X Y W ps 0 j)) := by rw [hW4]; exact World.rowIs_made wc (.bool false) m 4
    obtain ⟨gb, hgb⟩ : ∃ gb, gb = wc.heap.size := ⟨_, rfl⟩
    have H4 := Lib.hid (show JnR w W4 [.int .i64 X, .int .i64 Y, .int .i64 W, .int .i64 H] [.int .i64 X, .int .i64 Y, .int .i64 W, .int .i64 H, .slice (some ⟨go, 0, none⟩) n n] nf go n (jO X Y W ps 0) gb m (jF X Y W ps 0) from ⟨H3.out.1.past B4, H3.out.2.1.past B4, H3.out.2.2.1.past B4, H3.out.2.2.2.1.of_block (B4.block go hol), by rw [hgb]; exact F4, H3.out.2.2.2.2.trans (B4.mono H3.out.2.2.2.2.size)⟩)
    rw [← hgb]
    have HG := Lib.hid (show w.heap.size + 1 < nf ∧ w.heap.size + 1 < go ∧ w.heap.size + 1 < gb ∧ nf ≠ go ∧ nf ≠ gb ∧ go ≠ gb by omega)
    clear hW4 B4 F4 H3 hmk2 hgb hne hnf hgo hnl hol zl2 a2 a3 al wN wM
    go_wp2_with fail
    go_loopw [9, 39] (fun s9 s39 wr => ∃ q : Nat, q ≤ P ∧ s39 = .int .i64 q ∧ s9 = .int .i64 (jC ps q) ∧ firstN (jR X Y W H ps) q = 0 ∧ JnR w wr [.int .i64 X, .int .i64 Y, .int .i64 W, .int .i64 H] [.int .i64 X, .int .i64 Y, .int .i64 W, .int .i64 H, .slice (some ⟨go, 0, none⟩) n n] nf go n (jO X Y W ps q) gb m (jF X Y W ps q)) (fun _ s39 _ => P - (intOf s39).toNat)
    case atStart => exact ⟨0, Nat.zero_le _, rfl, rfl, rfl, H4.out⟩
    case round =>
      obtain ⟨q, hq, rfl, rfl, hz, hK⟩ := hrel
      have HZ := Lib.hid hz; have HK := Lib.hid hK
      clear hz H4
      by_cases hqP : q < P
      · have hqi : (q : Int) < (P : Int) := by omega
        have hfr := HP.out.below hK.U
        obtain ⟨g, off, rfl, hc⟩ := hfr.1 (by omega)
        have hrow := hfr.2 q hqP
        have hrow0 := HP.out.2 q hqP
        have hcc := hc q hqP
        have HJQ := Lib.hid (HJ.out q hqP HZ.out)
        have HS := Lib.hid (fun hk => firstN_succ (k := q) HZ.out hk : jR X Y W H ps q = 0 → firstN (jR X Y W H ps) (q + 1) = 0)
        have HD := Lib.hid (show jR X Y W H ps q = firstE (frE (ps q)) (if insB X Y W H (ps q) then firstN (mkE (jF X Y W ps q) (plK X Y W (ps q))) (npF (ps q)) else 5) ∧ jF X Y W ps (q + 1) = mkF (jF X Y W ps q) (plK X Y W (ps q)) (npF (ps q)) ∧ jO X Y W ps (q + 1) = cpF (jO X Y W ps q) ((ps q).x - X).toNat ((ps q).y - Y).toNat W (ps q).v.toNat (ps q).fs ((ps q).h.toNat * (4 * (ps q).v.toNat)) ∧ jC ps (q + 1) = mcS (jC ps q) (npF (ps q)) from ⟨rfl, rfl, rfl, rfl⟩)
        obtain ⟨k, hk⟩ : ∃ k, k = ps q := ⟨_, rfl⟩
        rw [← hk] at hrow hrow0 hcc HD
        obtain ⟨F0, hF0⟩ : ∃ F0, F0 = jF X Y W ps q := ⟨_, rfl⟩
        obtain ⟨O0, hO0⟩ : ∃ O0, O0 = jO X Y W ps q := ⟨_, rfl⟩
        obtain ⟨C0, hC0⟩ : ∃ C0, C0 = jC ps q := ⟨_, rfl⟩
        obtain ⟨R0, hR0⟩ : ∃ R0, R0 = jR X Y W H ps q := ⟨_, rfl⟩
        rw [← hF0, ← hO0] at HK
        rw [← hF0, ← hO0, ← hC0, ← hR0] at HD
        rw [← hR0] at HS HJQ
        rw [← hC0]
        clear hk hF0 hO0 hC0 hR0 hc hfr hK
        obtain ⟨x, y, v, h, aa, an, ac, fs⟩ := k
        simp only [frE] at HD
        have c0 := hcc 0 _ rfl; have c1 := hcc 1 _ rfl; have c2 := hcc 2 _ rfl; have c3 := hcc 3 _ rfl; have c4 := hcc 4 _ rfl
        simp only [Nat.add_zero] at c0 c1 c2 c3 c4
        have l0 := cell_lt c0; simp only at l0
        have HRW := Lib.hid hrow; have HRW0 := Lib.hid hrow0
        clear hcc hrow hrow0
        go_upto_region 10 with fail
        refine wp_world (fun W5 hW5 => ?_)
        have B5 : Below wr.heap.size wr W5 := by rw [hW5]; (repeat (first | exact Below.refl _ _ | assumption | (refine Below.setCell ?_ (by first | (simp; done) | (simp; omega) | omega) _) | (refine Below.drew ?_) | (refine below_drewN ?_ _) | (refine Below.alloc ?_ (by first | (simp; done) | (simp; omega) | omega) _) | (refine Below.trans ?_ (Below.mono (by assumption) (by first | (simp; done) | (simp; omega) | omega)))))
        have C5 : Blk W5 wr.heap.size [.int .i64 x, .int .i64 y, .int .i64 v, .int .i64 h, .slice aa an ac] := by rw [hW5]; exact Blk.new _ _ _ _ rfl
        have H5 := Lib.hid (And.intro (HK.out.past B5) C5)
        have hrl := And.intro HK.out.N.lt (And.intro HK.out.O.lt HK.out.F.lt)
        clear hW5 B5 C5 c0 c1 c2 c3 c4 l0 HK
        generalize wr.heap.size = nb at *
        have m0 := H5.out.2.c 0 _ rfl; have m1 := H5.out.2.c 1 _ rfl; have m2 := H5.out.2.c 2 _ rfl; have m3 := H5.out.2.c 3 _ rfl; have m4 := H5.out.2.c 4 _ rfl; have ml := H5.out.2.lt
        obtain ⟨E, hE⟩ : ∃ E, E = fraErr x y v h an := ⟨_, rfl⟩
        rw [← hE] at HD
        have HE := Lib.hid hE
        clear hE
        go_upto_region 11 with (first | (go_at_call 52; refine (FCheck_any _ _ _ _ _ _ _ _).mono ?_; rintro e w6 ⟨rfl, hb⟩; rw [← HE.out]; have H6 := Lib.hid (And.intro (H5.out.1.past hb) (H5.out.2.past hb)); clear hb m0 m1 m2 m3 m4 ml H5))
        by_cases hE0 : E = 0
        · subst hE0
          have hfe : fraErr x y v h an = 0 := HE.out.symm
          obtain ⟨hr2, hl⟩ := fraErr_ok hfe
          obtain ⟨s1, s2, s3, s4, s5, s6, s7, s8, s9, s10⟩ := regErr_ok hr2
          obtain ⟨V, rfl⟩ : ∃ V : Nat, v = V := ⟨v.toNat, by omega⟩
          obtain ⟨h, rfl⟩ : ∃ h' : Nat, h = h' := ⟨h.toNat, by omega⟩
          have HR1 := Lib.hid (show R0 = (if insB X Y W H ⟨x, y, V, h, aa, an, ac, fs⟩ then firstN (mkE F0 (plK X Y W ⟨x, y, V, h, aa, an, ac, fs⟩)) (npF ⟨x, y, V, h, aa, an, ac, fs⟩) else 5) from HD.out.1)
          have HR2 := Lib.hid HD.out.2
          have HFE := Lib.hid (And.intro hfe hl)
          have hV : 1 ≤ V ∧ V ≤ 256 := by omega
          have hh : 1 ≤ h ∧ h ≤ 256 := by omega
          have hxb : -1048576 ≤ x ∧ x ≤ 1048576 := by omega
          have hyb : -1048576 ≤ y ∧ y ≤ 1048576 := by omega
          clear HD HE hfe hl hr2 s1 s2 s3 s4 s5 s6 s7 s8 s9 s10
          have a0 := H6.out.1.A.c 0 _ rfl; have a1 := H6.out.1.A.c 1 _ rfl; have a2 := H6.out.1.A.c 2 _ rfl; have a3 := H6.out.1.A.c 3 _ rfl; have al := H6.out.1.A.lt
          have m0 := H6.out.2.c 0 _ rfl; have m1 := H6.out.2.c 1 _ rfl; have m2 := H6.out.2.c 2 _ rfl; have m3 := H6.out.2.c 3 _ rfl; have m4 := H6.out.2.c 4 _ rfl; have ml := H6.out.2.lt
          by_cases hin : X ≤ x ∧ Y ≤ y ∧ x + V ≤ X + W ∧ y + h ≤ Y + H
          · have HIN := Lib.hid (fun w' => Inside_yes x y V h X Y W H w' b1 b2 hxb hyb (by omega) (by omega) (by omega) (by omega) hin.1 hin.2.1 hin.2.2.1 hin.2.2.2 : ∀ w', _)
            obtain ⟨K, hK⟩ : ∃ K, K = plK X Y W ⟨x, y, V, h, aa, an, ac, fs⟩ := ⟨_, rfl⟩
            obtain ⟨dx, hdx⟩ : ∃ dx : Nat, x = X + dx := ⟨(x - X).toNat, by omega⟩
            obtain ⟨dy, hdy⟩ : ∃ dy : Nat, y = Y + dy := ⟨(y - Y).toNat, by omega⟩
            have hc3 : dx + V ≤ W := by omega
            have hc4 : dy + h ≤ H := by omega
            have HKP := Lib.hid (fun p => by
              rw [hK]
              show ((y - Y).toNat + p / (V : Int).toNat) * W + ((x - X).toNat + p % (V : Int).toNat) = _
              rw [show (y - Y).toNat = dy by omega, show (x - X).toNat = dx by omega, Int.toNat_natCast] : ∀ p, K p = (dy + p / V) * W + (dx + p % V))
            have HRE := Lib.hid (show R0 = firstN (mkE F0 K) (h * V) by
              rw [HR1.out, if_pos (show insB X Y W H ⟨x, y, V, h, aa, an, ac, fs⟩ from hin), ← hK]
              rfl)
            have HQ1 := Lib.hid (show jF X Y W ps (q + 1) = mkF F0 K (h * V) ∧ jO X Y W ps (q + 1) = cpF O0 dx dy W V fs (h * (4 * V)) ∧ jC ps (q + 1) = mcS C0 (h * V) by
              obtain ⟨e1, e2, e3⟩ := HR2.out
              refine ⟨by rw [e1, ← hK]; rfl, ?_, e3⟩
              rw [e2]
              show cpF O0 (x - X).toNat (y - Y).toNat W (V : Int).toNat fs ((h : Int).toNat * (4 * (V : Int).toNat)) = _
              rw [show (y - Y).toNat = dy by omega, show (x - X).toNat = dx by omega, Int.toNat_natCast, Int.toNat_natCast])
            have HXY := Lib.hid (And.intro hdx hdy)
            clear hin hK hdx hdy HR1 HR2
            go_upto_region 15 with (first | (go_at_call 61; refine (HIN.out _).mono ?_; rintro e w7 ⟨rfl, hb⟩; have H7 := Lib.hid (And.intro (H6.out.1.past hb) (H6.out.2.past hb)); clear hb a0 a1 a2 a3 al m0 m1 m2 m3 m4 ml H6 HIN))
            have m1 := H7.out.2.c 1 _ rfl; have ml := H7.out.2.lt
            go_wp2_with fail
            clear m1 ml
            go_loopw [9, 13, 14, 15] (fun s9 s13 _ _ wr => ∃ (r : Nat) (yv : Int), r ≤ h ∧ s13 = .int .i64 yv ∧ yv = y + r ∧ s9 = .int .i64 (mcS C0 (r * V)) ∧ firstN (mkE F0 K) (r * V) = 0 ∧ JnR w wr [.int .i64 X, .int .i64 Y, .int .i64 W, .int .i64 H] [.int .i64 X, .int .i64 Y, .int .i64 W, .int .i64 H, .slice (some ⟨go, 0, none⟩) n n] nf go n (O0) gb m (mkF F0 K (r * V)) ∧ Blk wr nb [.int .i64 x, .int .i64 y, .int .i64 V, .int .i64 h, .slice aa an ac]) (fun _ s13 _ _ _ => (y + h - intOf s13).toNat)
            case atStart => exact ⟨0, _, Nat.zero_le _, rfl, by simp, by simp [mcS], by simp [firstN], by simpa [mkF] using H7.out.1, H7.out.2⟩
            case round =>
              obtain ⟨r, yv, hr, rfl, hyv, rfl, hz, hJ, hN⟩ := hrel
              have HJ2 := Lib.hid (And.intro hJ hN); have HZ2 := Lib.hid hz; have HYV := Lib.hid hyv
              have hyvb : y ≤ yv ∧ yv ≤ y + h := by omega
              clear hz hJ hN H7
              have m0 := HJ2.out.2.c 0 _ rfl; have m1 := HJ2.out.2.c 1 _ rfl; have m3 := HJ2.out.2.c 3 _ rfl; have ml := HJ2.out.2.lt
              by_cases hrh : r < h
              · have hyl : yv < y + (h : Int) := by omega
                clear hyv
                go_wp2_with fail
                clear m0 m1 m3 ml
                go_loopw [9, 14, 15] (fun s9 s14 _ wr => ∃ (i : Nat) (xv : Int), i ≤ V ∧ s14 = .int .i64 xv ∧ xv = x + i ∧ s9 = .int .i64 (mcS C0 (r * V + i)) ∧ firstN (mkE F0 K) (r * V + i) = 0 ∧ JnR w wr [.int .i64 X, .int .i64 Y, .int .i64 W, .int .i64 H] [.int .i64 X, .int .i64 Y, .int .i64 W, .int .i64 H, .slice (some ⟨go, 0, none⟩) n n] nf go n (O0) gb m (mkF F0 K (r * V + i)) ∧ Blk wr nb [.int .i64 x, .int .i64 y, .int .i64 V, .int .i64 h, .slice aa an ac]) (fun _ s14 _ _ => (x + V - intOf s14).toNat)
                case atStart => exact ⟨0, _, Nat.zero_le _, rfl, by simp, by simp, by simpa using HZ2.out, by simpa using HJ2.out.1, HJ2.out.2⟩
                case round =>
                  obtain ⟨i, xv, hi, rfl, hxv, rfl, hz, hJ, hN⟩ := hrel
                  have HJ3 := Lib.hid (And.intro hJ hN); have HZ3 := Lib.hid hz; have HXV := Lib.hid hxv
                  have hxvb : x ≤ xv ∧ xv ≤ x + V := by omega
                  clear hz hJ hN HJ2
                  have m0 := HJ3.out.2.c 0 _ rfl; have m2 := HJ3.out.2.c 2 _ rfl; have ml := HJ3.out.2.lt
                  by_cases hiV : i < V
                  · have hxl : xv < x + (V : Int) := by omega
                    clear hxv
                    obtain ⟨p, hp⟩ : ∃ p, p = r * V + i := ⟨_, rfl⟩
                    have hpn : p < h * V := by
                      have h1 : (r + 1) * V ≤ h * V := Nat.mul_le_mul_right _ (by omega)
                      rw [Nat.add_mul, Nat.one_mul] at h1
                      omega
                    obtain ⟨kk, hkk⟩ : ∃ kk, kk = K p := ⟨_, rfl⟩
                    have hkk2 : kk = (dy + r) * W + (dx + i) := by
                      rw [hkk, HKP.out, hp, Nat.add_comm (r * V) i, Nat.add_mul_div_right _ _ (by omega), Nat.div_eq_of_lt hiV, Nat.zero_add, Nat.add_mul_mod_self_right, Nat.mod_eq_of_lt hiV]
                    have hkm : kk < m := by
                      have h1 : (dy + r + 1) * W ≤ H * W := Nat.mul_le_mul_right _ (by omega)
                      rw [Nat.add_mul, Nat.one_mul, Nat.mul_comm H W] at h1
                      have := HM.out.1
                      omega
                    have hkmi : (kk : Int) < (m : Int) := by omega
                    obtain ⟨ok, hok⟩ : ∃ ok, ok = 4 * kk := ⟨_, rfl⟩
                    have HOK := Lib.hid (show 4 * ((yv - Y) * (W : Int) + xv - X) = (ok : Int) by
                      have e1 : yv - Y = ((dy + r : Nat) : Int) := by have := HXY.out.2; have := HYV.out; omega
                      have e2 : xv = X + dx + i := by have := HXY.out.1; have := HXV.out; omega
                      rw [e1, e2, ← Int.natCast_mul, hok, hkk2]
                      omega)
                    have hq1 : (ok : Int).tdiv 4 = (kk : Int) := by rw [hok]; exact_mod_cast Int.mul_tdiv_cancel_left (kk : Int) (show (4 : Int) ≠ 0 by decide)
                    have hq2 : (ok : Int) / 4 = (kk : Int) := by rw [hok]; omega
                    have HST := Lib.hid (show mkE F0 K p = (if mkF F0 K p kk = true then 7 else 0) ∧ (∀ j, mkF F0 K (p + 1) j = if j = kk then true else mkF F0 K p j) ∧ mcS C0 (p + 1) = wrap64 (mcS C0 p + 1) by rw [hkk]; exact ⟨rfl, fun _ => rfl, rfl⟩)
                    rw [← hp] at HJ3 HZ3 ⊢
                    have HPP := Lib.hid hp
                    have f0 := HJ3.out.1.F.cell hkm
                    have fl := HJ3.out.1.F.lt
                    have a0 := HJ3.out.1.A.c 0 _ rfl; have a1 := HJ3.out.1.A.c 1 _ rfl; have a2 := HJ3.out.1.A.c 2 _ rfl; have a3 := HJ3.out.1.A.c 3 _ rfl; have al := HJ3.out.1.A.lt
                    obtain ⟨b, hb⟩ : ∃ b, mkF F0 K p kk = b := ⟨_, rfl⟩
                    rw [hb] at f0 HST
                    have HBB := Lib.hid hb
                    obtain ⟨C1, hC1⟩ : ∃ C1, C1 = mcS C0 p := ⟨_, rfl⟩
                    rw [← hC1] at HST ⊢
                    clear hkk hkk2 hok hp hb hC1
                    go_upto_region 22 with (first | (go_at_call 62; refine (offset_any X Y W H xv yv _ _ b2 b1 (by have := HXY.out; omega) (by have := HXY.out; omega) (by omega) rfl).mono ?_; rintro e w8 ⟨rfl, hbb⟩; rw [HOK.out]; have H8 := Lib.hid (And.intro (HJ3.out.1.past hbb) (HJ3.out.2.past hbb)); clear hbb a0 a1 a2 a3 al m0 m2 ml f0 fl HJ3))
                    have f0 := H8.out.1.F.cell hkm
                    rw [HBB.out] at f0
                    have fl := H8.out.1.F.lt; have ff := H8.out.1.F.frozen kk
                    cases b
                    · have hNE := HG.out
                      go_wp2_with fail
                      go_roundw
                      case rel =>
                        refine ⟨i + 1, _, by omega, rfl, by have := HXV.out; simp; omega, ?_, ?_, ?_, H8.out.2.far _ _ (by simp; omega)⟩
                        · rw [show r * V + (i + 1) = p + 1 by rw [HPP.out]; omega, HST.out.2.2]
                        · rw [show r * V + (i + 1) = p + 1 by rw [HPP.out]; omega]
                          exact firstN_succ HZ3.out (by rw [HST.out.1]; rfl)
                        · rw [show r * V + (i + 1) = p + 1 by rw [HPP.out]; omega]
                          exact H8.out.1.mark hNE.2.2.1 hNE.2.2.2.2.1 hNE.2.2.2.2.2 kk (fun j _ => HST.out.2.1 j)
                      case measure => simp [intOf]; omega
                    · have hEQ := Lib.hid (show jnE X Y W H ps P = 7 by
                        have e1 : mkE F0 K p = 7 := by rw [HST.out.1]; rfl
                        have e2 : R0 = 7 := by rw [HRE.out, firstN_of HZ3.out (by rw [e1]; decide) hpn, e1]
                        rw [HJQ.out (by rw [e2]; decide), e2])
                      have z0 := H8.out.1.Z.c 0 _ rfl; have z1 := H8.out.1.Z.c 1 _ rfl; have z2 := H8.out.1.Z.c 2 _ rfl; have z3 := H8.out.1.Z.c 3 _ rfl; have z4 := H8.out.1.Z.c 4 _ rfl; have zf := H8.out.1.Z.f; have zl := H8.out.1.Z.lt
                      have B2 := H8.out.1.U
                      go_wp2_with fail
                      refine bodyPost_ret (v := .tuple #[.agg #[.int .i64 0, .int .i64 0, .int .i64 0, .int .i64 0, .slice none 0 0], .int .i64 7]) (by simp [results, Try.results32, go_sem, z0, z1, z2, z3, z4]) rfl ⟨Or.inl ⟨by rw [hEQ.out]; first | decide | assumption, by rw [hEQ.out]⟩, ?_⟩
                      exact ((((B2.setCell (by first | (simp; done) | (simp; omega) | omega) _).setCell (by first | (simp; done) | (simp; omega) | omega) _).setCell (by first | (simp; done) | (simp; omega) | omega) _).setCell (by first | (simp; done) | (simp; omega) | omega) _).setCell (by first | (simp; done) | (simp; omega) | omega) _
                  · have hxl : ¬ xv < x + (V : Int) := by omega
                    have hie : i = V := by omega
                    have HN3 := Lib.hid (show (JnR w wr [.int .i64 X, .int .i64 Y, .int .i64 W, .int .i64 H] [.int .i64 X, .int .i64 Y, .int .i64 W, .int .i64 H, .slice (some ⟨go, 0, none⟩) n n] nf go n (O0) gb m (mkF F0 K ((r + 1) * V))) ∧ Blk wr nb [.int .i64 x, .int .i64 y, .int .i64 V, .int .i64 h, .slice aa an ac] by have h3 := HJ3.out; rw [hie] at h3; rw [Nat.add_mul, Nat.one_mul]; exact h3)
                    have HZ4 := Lib.hid (show firstN (mkE F0 K) ((r + 1) * V) = 0 by have h3 := HZ3.out; rw [hie] at h3; rw [Nat.add_mul, Nat.one_mul]; exact h3)
                    have HC4 := Lib.hid (show mcS C0 (r * V + i) = mcS C0 ((r + 1) * V) by rw [hie, Nat.add_mul, Nat.one_mul])
                    clear hxv
                    go_wp2_with fail
                    go_roundw
                    case rel => exact ⟨r + 1, _, by omega, rfl, by have := HYV.out; simp; omega, by rw [HC4.out], HZ4.out, HN3.out.1, HN3.out.2⟩
                    case measure => simp [intOf]; omega
              · have hyl : ¬ yv < y + (h : Int) := by omega
                have hre : r = h := by omega
                subst hre
                clear hyv
                obtain ⟨bf, offf, rfl, hF⟩ := HRW0.out (by have h2 := HFE.out.2; have h3 : 4 ≤ 4 * (V : Int) * r := (by rw [Int.mul_assoc]; have : 1 * 1 ≤ (V : Int) * r := Int.mul_le_mul (by omega) (by omega) (by omega) (by omega); omega); omega)
                have hbf : bf < w.heap.size := hF.lt (by have h2 := HFE.out.2; have h3 : 4 ≤ 4 * (V : Int) * r := (by rw [Int.mul_assoc]; have : 1 * 1 ≤ (V : Int) * r := Int.mul_le_mul (by omega) (by omega) (by omega) (by omega); omega); omega)
                have HCP := Lib.hid (copyInto_any X Y x y W H dx dy V r go n bf offf an ac O0 fs wr HR.out HFE.out.1 HXY.out.1 HXY.out.2 hc3 hc4 (by rw [HM.out.2, HM.out.1]) (by have := HG.out; omega) HJ2.out.1.O (hF.past HJ2.out.1.U))
                have n0 := HJ2.out.1.N.c 0 _ rfl; have n1 := HJ2.out.1.N.c 1 _ rfl; have n2 := HJ2.out.1.N.c 2 _ rfl; have n3 := HJ2.out.1.N.c 3 _ rfl; have n4 := HJ2.out.1.N.c 4 _ rfl; have nl := HJ2.out.1.N.lt
                have m2 := HJ2.out.2.c 2 _ rfl; have m4 := HJ2.out.2.c 4 _ rfl
                clear hF
                go_wp2_with fail
                refine (HCP.out).mono ?_
                rintro e w9 ⟨rfl, ho, hT⟩
                have hNE := HG.out
                have H9 := Lib.hid (HJ2.out.1.copy ho hNE.2.1 hNE.2.2.2.1 (Ne.symm hNE.2.2.2.2.2) hT)
                have HF9 := Lib.hid (HS.out (by rw [HRE.out]; exact HZ2.out))
                clear ho hT HCP n0 n1 n2 n3 n4 nl m0 m1 m2 m3 m4 ml HJ2
                go_wp2_with fail
                go_roundw
                case rel => exact ⟨q + 1, by omega, by go_num, by rw [HQ1.out.2.2], HF9.out, by rw [HQ1.out.1, HQ1.out.2.1]; exact H9.out⟩
                case measure => simp [intOf]; omega
          · have HIN := Lib.hid (fun w' => Inside_no x y V h X Y W H w' b1 b2 hxb hyb (by omega) (by omega) (by omega) (by omega) hin : ∀ w', _)
            have hEQ := Lib.hid (show jnE X Y W H ps P = 5 by
              have e2 : R0 = 5 := by rw [HR1.out, if_neg (show ¬ insB X Y W H ⟨x, y, V, h, aa, an, ac, fs⟩ from hin)]
              rw [HJQ.out (by rw [e2]; decide), e2])
            clear hin HR1 HR2
            go_upto_if 53 with (first | (go_at_call 61; refine (HIN.out _).mono ?_; rintro e w7 ⟨rfl, hb⟩; have H7 := Lib.hid (H6.out.1.past hb); clear hb a0 a1 a2 a3 al m0 m1 m2 m3 m4 ml H6 HIN))
            have z0 := H7.out.Z.c 0 _ rfl; have z1 := H7.out.Z.c 1 _ rfl; have z2 := H7.out.Z.c 2 _ rfl; have z3 := H7.out.Z.c 3 _ rfl; have z4 := H7.out.Z.c 4 _ rfl; have zf := H7.out.Z.f; have zl := H7.out.Z.lt
            have B2 := H7.out.U
            go_wp2_with fail
            refine bodyPost_ret (v := .tuple #[.agg #[.int .i64 0, .int .i64 0, .int .i64 0, .int .i64 0, .slice none 0 0], .int .i64 5]) (by simp [results, Try.results32, go_sem, z0, z1, z2, z3, z4]) rfl ⟨Or.inl ⟨by rw [hEQ.out]; first | decide | assumption, by rw [hEQ.out]⟩, ?_⟩
            exact ((((B2.setCell (by first | (simp; done) | (simp; omega) | omega) _).setCell (by first | (simp; done) | (simp; omega) | omega) _).setCell (by first | (simp; done) | (simp; omega) | omega) _).setCell (by first | (simp; done) | (simp; omega) | omega) _).setCell (by first | (simp; done) | (simp; omega) | omega) _
        · have hEb : (E != 0) = true := by simpa using hE0
          have hEQ := Lib.hid (show jnE X Y W H ps P = E by rw [HD.out.1, firstE_of _ hE0] at HJQ; exact HJQ.out hE0)
          have z0 := H6.out.1.Z.c 0 _ rfl; have z1 := H6.out.1.Z.c 1 _ rfl; have z2 := H6.out.1.Z.c 2 _ rfl; have z3 := H6.out.1.Z.c 3 _ rfl; have z4 := H6.out.1.Z.c 4 _ rfl; have zf := H6.out.1.Z.f; have zl := H6.out.1.Z.lt
          have B2 := H6.out.1.U
          go_wp2_with fail
          refine bodyPost_ret (v := .tuple #[.agg #[.int .i64 0, .int .i64 0, .int .i64 0, .int .i64 0, .slice none 0 0], .int .i64 E]) (by simp [results, Try.results32, go_sem, z0, z1, z2, z3, z4]) rfl ⟨Or.inl ⟨by rw [hEQ.out]; first | decide | assumption, by rw [hEQ.out]⟩, ?_⟩
          exact ((((B2.setCell (by first | (simp; done) | (simp; omega) | omega) _).setCell (by first | (simp; done) | (simp; omega) | omega) _).setCell (by first | (simp; done) | (simp; omega) | omega) _).setCell (by first | (simp; done) | (simp; omega) | omega) _).setCell (by first | (simp; done) | (simp; omega) | omega) _

      · have hqi : ¬ (q : Int) < (P : Int) := by omega
        have hqe : q = P := by omega
        subst hqe
        have a4 := HK.out.N.c 4 _ rfl
        by_cases hcm : jC ps q < (m : Int)
        · have hEQ := Lib.hid (show jnE X Y W H ps q = 10 by unfold jnE; rw [if_neg (by rw [HZ.out]; decide), if_pos (by rw [← HM.out.1]; exact hcm)])
          clear hK
          have z0 := HK.out.Z.c 0 _ rfl; have z1 := HK.out.Z.c 1 _ rfl; have z2 := HK.out.Z.c 2 _ rfl; have z3 := HK.out.Z.c 3 _ rfl; have z4 := HK.out.Z.c 4 _ rfl; have zf := HK.out.Z.f; have zl := HK.out.Z.lt
          have B2 := HK.out.U
          go_wp2_with fail
          refine bodyPost_ret (v := .tuple #[.agg #[.int .i64 0, .int .i64 0, .int .i64 0, .int .i64 0, .slice none 0 0], .int .i64 10]) (by simp [results, Try.results32, go_sem, z0, z1, z2, z3, z4]) rfl ⟨Or.inl ⟨by rw [hEQ.out]; first | decide | assumption, by rw [hEQ.out]⟩, ?_⟩
          exact ((((B2.setCell (by first | (simp; done) | (simp; omega) | omega) _).setCell (by first | (simp; done) | (simp; omega) | omega) _).setCell (by first | (simp; done) | (simp; omega) | omega) _).setCell (by first | (simp; done) | (simp; omega) | omega) _).setCell (by first | (simp; done) | (simp; omega) | omega) _

        · have hEQ := Lib.hid (show jnE X Y W H ps q = 0 by unfold jnE; rw [if_neg (by rw [HZ.out]; decide), if_neg (by rw [← HM.out.1]; exact hcm)])
          have n0 := HK.out.N.c 0 _ rfl; have n1 := HK.out.N.c 1 _ rfl; have n2 := HK.out.N.c 2 _ rfl; have n3 := HK.out.N.c 3 _ rfl; have nl := HK.out.N.lt
          have z0 := HK.out.Z.c 0 _ rfl; have z1 := HK.out.Z.c 1 _ rfl; have z2 := HK.out.Z.c 2 _ rfl; have z3 := HK.out.Z.c 3 _ rfl; have z4 := HK.out.Z.c 4 _ rfl; have zf := HK.out.Z.f; have zl := HK.out.Z.lt
          have B2 := HK.out.U
          have hg := HG.out
          have hol := HK.out.O.lt
          have hgg : w.heap.size + 1 ≠ go := by omega
          have HCL := Lib.hid (fun i hi => HK.out.O.cell hi : ∀ i, i < n → _)
          clear hK
          go_wp2_with fail
          refine bodyPost_ret (v := .tuple #[.agg #[.int .i64 X, .int .i64 Y, .int .i64 W, .int .i64 H, .slice (some ⟨go, 0, none⟩) n n], .int .i64 0]) (by simp [results, Try.results32, go_sem, z0, z1, z2, z3, z4]) rfl ⟨Or.inr ⟨hEQ.out, go, rfl, hg.2.1, by simpa [World.setCell] using hol, fun i hi => ?_⟩, ?_⟩
          · rw [← HCL.out i hi]
            simp only [World.cell?_setCell_other _ _ _ _ (show (⟨w.heap.size + 1, _, none⟩ : Addr) ≠ ⟨go, i, none⟩ from fun e => hgg (congrArg Addr.block e))]
          · exact ((((B2.setCell (by first | (simp; done) | (simp; omega) | omega) _).setCell (by first | (simp; done) | (simp; omega) | omega) _).setCell (by first | (simp; done) | (simp; omega) | omega) _).setCell (by first | (simp; done) | (simp; omega) | omega) _).setCell (by first | (simp; done) | (simp; omega) | omega) _
end Go.Proofs.Ytnicamndlkdcmaa
