/- Levels of a frame: finish.Levels. Conditions: what each theorem names. -/
import Derived.Test.YtcdcfkgdgimmcaaDoorBG
import Derived.BigQuiet
import Derived.Test.YtcdcfkgdgimmcaaDoorBD
namespace Go.Proofs.YtcdcfkgdgimmcaaDoor
open Go Go.RowKit
theorem lv_exit {next : Act → World → Prop} {Q : Exit → Act → World → Prop} {e : Exit} {a : Act} {w : World} (h : ∀ W, W = w → Exit.then next Q e a W) : Exit.then next Q e a w := h w rfl
/-- The offset and the level of a value by its place in the row. -/
def offZ (how s x y : Int) (V k : Nat) : Nat := if k % 4 < 3 then offF how s (x + ((k / 4 % V : Nat) : Int)) (y + ((k / 4 / V : Nat) : Int)) ((k % 4 : Nat) : Int) else 0
def lvZ (how s x y : Int) (V : Nat) (fs : Nat → Nat) (d : Int) (k : Nat) : Int := levelOf (fs k) (offZ how s x y V k) d
def levE (how d : Int) (E : Int) : Int := firstE E (firstE (whenE (!inB how 0 2) 1) (whenE (!inB d 1 16) 3))
set_option maxRecDepth 100000 in
set_option maxHeartbeats 3200000 in
theorem Levels_yes (x y h how s d : Int) (V b off n cap : Nat) (fs : Nat → Nat) (w : World) (he : fraErr x y (V : Int) h n = 0) (hh : 0 ≤ how ∧ how ≤ 2) (hd : 1 ≤ d ∧ d ≤ 16) (hc : Row w b off n fs) :
    Calls Tryd.prog 68 #[.agg #[.int .i64 x, .int .i64 y, .int .i64 V, .int .i64 h, .slice (some ⟨b, off, none⟩) n cap], .int .i64 how, .int .u32 s, .int .i64 d] w fun e w' =>
      ∃ g, e = .returned (.tuple #[.slice (some ⟨g, 0, none⟩) n n, .int .i64 0]) ∧ w.heap.size ≤ g ∧ (∀ i, i < n → w'.cell? ⟨g, i, none⟩ = some (.int .i64 (lvZ how s x y V fs d i))) ∧ Below w.heap.size w w' := by
  obtain ⟨hr, hl⟩ := fraErr_ok he
  obtain ⟨r1, r2, r3, r4, r5, r6, r7, r8, r9, r10⟩ := regErr_ok hr
  have hi := inB_t hd
  have hlt : 4 * (V : Int) * h ≤ 65536 := by rw [Int.mul_assoc]; omega
  have hlt1 : 4 ≤ 4 * (V : Int) * h := by rw [Int.mul_assoc]; omega
  have hn6 : n ≤ 65536 := by omega
  have hn0 : 0 < n := by omega
  have hV : 0 < V ∧ V ≤ 256 := by omega
  have hbw : b < w.heap.size := hc.lt hn0
  obtain ⟨Z, hZ⟩ : ∃ Z : Nat → Int, Z = lvZ how s x y V fs d := ⟨_, rfl⟩
  rw [← hZ]
  have HZ := Lib.hid hZ; have HE := Lib.hid he; have HL := Lib.hid (And.intro hl hlt)
  have HC := Lib.hid (fun (w' : World) (hb : Below w.heap.size w w') => hc.below hb hbw : ∀ w', Below w.heap.size w w' → _)
  have hmk := run_make_row' (P := Tryd.prog) 82 3 (.int .i64 0) 8 Tryd.underlying82 (by kernel_rfl) rfl .i64 .i64 n (by omega) (by omega)
  have hd' := Lib.hid hd; have hh' := Lib.hid hh
  obtain ⟨h1, h2⟩ := hh
  have hp0 : ¬ how < 0 := by omega
  have hp2 : ¬ 2 < how := by omega
  clear hZ he hl hlt hlt1 hr r5 r6 hc hd h1 h2
  go_enter Tryd.func68, Tryd.ntmps68
  go_upto_region 1 with fail
  refine wp_world (fun W hW => ?_)
  have A0 : Blk W w.heap.size [.int .i64 x, .int .i64 y, .int .i64 V, .int .i64 h, .slice (some ⟨b, off, none⟩) n cap] := by rw [hW]; exact Blk.new _ _ _ _ rfl
  have BW : Below w.heap.size w W := by rw [hW]; (repeat (first | exact Below.refl _ _ | assumption | (refine Below.setCell ?_ (by first | (simp; done) | (simp; omega) | omega) _) | (refine Below.drew ?_) | (refine below_drewN ?_ _) | (refine Below.alloc ?_ (by first | (simp; done) | (simp; omega) | omega) _) | (refine Below.trans ?_ (Below.mono (by assumption) (by first | (simp; done) | (simp; omega) | omega)))))
  have H0 := Lib.hid (And.intro A0 BW)
  have a0 := A0.c 0 _ rfl; have a1 := A0.c 1 _ rfl; have a2 := A0.c 2 _ rfl; have a3 := A0.c 3 _ rfl; have a4 := A0.c 4 _ rfl; have al := A0.lt
  clear hW A0 BW
  go_wp2_with fail
  refine (FCheck_any _ _ _ _ _ _ _ _).mono ?_
  rintro e w1 ⟨rfl, hb1⟩
  rw [HE.out]
  have H1 := Lib.hid (And.intro (H0.out.1.past hb1) (H0.out.2.trans (hb1.mono H0.out.2.size)))
  clear a0 a1 a2 a3 a4 al hb1 H0
  have a4 := H1.out.1.c 4 _ rfl; have al := H1.out.1.lt
  go_upto_region 9 with (first | (go_at_call 99; refine (deep_any _ _).mono ?_; rintro e w' ⟨rfl, rfl⟩))
  refine wp_world (fun W2 hW2 => ?_)
  have A2 : Blk W2 w.heap.size [.int .i64 x, .int .i64 y, .int .i64 V, .int .i64 h, .slice (some ⟨b, off, none⟩) n cap] := by rw [hW2]; exact H1.out.1.past (by (repeat (first | exact Below.refl _ _ | assumption | (refine Below.setCell ?_ (by first | (simp; done) | (simp; omega) | omega) _) | (refine Below.drew ?_) | (refine below_drewN ?_ _) | (refine Below.alloc ?_ (by first | (simp; done) | (simp; omega) | omega) _) | (refine Below.trans ?_ (Below.mono (by assumption) (by first | (simp; done) | (simp; omega) | omega))))))
  have B2 : Below w.heap.size w W2 := by rw [hW2]; exact H1.out.2.trans (Below.mono (by (repeat (first | exact Below.refl _ _ | assumption | (refine Below.setCell ?_ (by first | (simp; done) | (simp; omega) | omega) _) | (refine Below.drew ?_) | (refine below_drewN ?_ _) | (refine Below.alloc ?_ (by first | (simp; done) | (simp; omega) | omega) _) | (refine Below.trans ?_ (Below.mono (by assumption) (by first | (simp; done) | (simp; omega) | omega)))))) H1.out.2.size)
  have G2 : W2.rowIs w1.heap.size 3 n (fun _ => .int .i64 0) := by rw [hW2]; exact World.rowIs_made w1 _ n _
  have hg1 : w.heap.size < w1.heap.size := H1.out.1.lt
  have H2 := Lib.hid (And.intro A2 (And.intro B2 G2))
  clear a4 al hW2 A2 B2 G2 hmk H1
  generalize w1.heap.size = g at *
  have a4 := H2.out.1.c 4 _ rfl; have al := H2.out.1.lt
  go_wp2_with fail
  clear a4 al
  go_loopw [37] (fun s37 wr => ∃ k : Nat, k ≤ n ∧ s37 = .int .i64 k ∧ wr.rowIs g 3 n (fun j => if j < k then .int .i64 (Z j) else .int .i64 0) ∧ Blk wr w.heap.size [.int .i64 x, .int .i64 y, .int .i64 V, .int .i64 h, .slice (some ⟨b, off, none⟩) n cap] ∧ Below w.heap.size w wr) (fun s37 _ => n - (intOf s37).toNat)
  case atStart => exact ⟨0, Nat.zero_le _, rfl, by simpa using H2.out.2.2, H2.out.1, H2.out.2.1⟩
  case round =>
    obtain ⟨k, hk, rfl, hG, hA, hB⟩ := hrel
    have HR := Lib.hid (And.intro hG (And.intro hA hB))
    clear hG hA hB H2
    by_cases hkn : k < n
    · have hkn' : (k : Int) < (n : Int) := by omega
      have c0 := HC.out _ HR.out.2.2 k hkn
      obtain ⟨v, hv⟩ : ∃ v, v = fs k := ⟨_, rfl⟩
      rw [← hv] at c0
      have l0 := cell_lt c0; simp only at l0
      obtain ⟨c, hcc⟩ : ∃ c, c = k % 4 := ⟨_, rfl⟩
      have hc4 : c < 4 := by omega
      have tm : (k : Int).tmod 4 = (c : Int) := by rw [Int.tmod_eq_emod_of_nonneg (by omega)]; omega
      have a0 := HR.out.2.1.c 0 _ rfl; have a1 := HR.out.2.1.c 1 _ rfl; have a2 := HR.out.2.1.c 2 _ rfl; have al := HR.out.2.1.lt
      have gl := HR.out.1.lt
      by_cases hc3 : c < 3
      · have hc3' : (c : Int) < 3 := by omega
        obtain ⟨q, hq⟩ : ∃ q, q = k / 4 := ⟨_, rfl⟩
        obtain ⟨qm, hqm⟩ : ∃ q', q' = q % V := ⟨_, rfl⟩
        obtain ⟨qd, hqd⟩ : ∃ q', q' = q / V := ⟨_, rfl⟩
        have hqm2 : qm < V := by rw [hqm]; exact Nat.mod_lt _ hV.1
        have hqd2 : qd ≤ q := by rw [hqd]; exact Nat.div_le_self _ _
        have hq6 : q ≤ 16384 := by omega
        have d4 : (k : Int).tdiv 4 = (q : Int) := by rw [Int.tdiv_eq_ediv_of_nonneg (by omega)]; omega
        have dm : (q : Int).tmod (V : Int) = (qm : Int) := by rw [Int.tmod_eq_emod_of_nonneg (by omega), hqm]; exact (Int.natCast_emod _ _).symm
        have dd : (q : Int).tdiv (V : Int) = (qd : Int) := by rw [Int.tdiv_eq_ediv_of_nonneg (by omega), hqd]; exact (Int.natCast_ediv _ _).symm
        obtain ⟨X, hX⟩ : ∃ X : Int, X = x + (qm : Int) := ⟨_, rfl⟩
        obtain ⟨Y, hY⟩ : ∃ Y : Int, Y = y + (qd : Int) := ⟨_, rfl⟩
        have wX : IntKind.i64.wrap (x + (qm : Int)) = X := by rw [IntKind.wrap_i64, hX]; omega
        have wY : IntKind.i64.wrap (y + (qd : Int)) = Y := by rw [IntKind.wrap_i64, hY]; omega
        have hV0 : ¬ (V : Int) = 0 := by omega
        have hVn : ¬ V = 0 := by omega
        have wq : IntKind.i64.wrap (q : Int) = (q : Int) := by rw [IntKind.wrap_i64]; omega
        have wqd : IntKind.i64.wrap (qd : Int) = (qd : Int) := by rw [IntKind.wrap_i64]; omega
        have wqm : IntKind.i64.wrap (qm : Int) = (qm : Int) := by rw [IntKind.wrap_i64]; omega
        obtain ⟨O, hO⟩ : ∃ O, O = offF how s X Y (c : Int) := ⟨_, rfl⟩
        have HX := Lib.hid (show Z k = levelOf v O d by rw [HZ.out]; unfold lvZ offZ; rw [← hcc, if_pos hc3, ← hq, ← hqm, ← hqd, ← hX, ← hY, ← hO, ← hv])
        have HO := Lib.hid hO
        clear hv hcc hq hqm hqd hX hY hO
        go_upto_region 15 with fail
        go_quiet ((go_at_call 109; refine Calls.quiet_of (v := .tuple #[.float .f32 O, .int .i64 0]) ((Offset_yes how s X Y (c : Int) _ hh'.out).mono (fun _ _ h => h.elim fun m h => ⟨by rw [HO.out]; exact h.1, m, h.2⟩))))
        refine lv_exit (fun w5 hw5 => ?_)
        have hb5 : Below wr.heap.size wr w5 := by rw [hw5]; (repeat (first | exact Below.refl _ _ | assumption | (refine Below.setCell ?_ (by first | (simp; done) | (simp; omega) | omega) _) | (refine Below.drew ?_) | (refine below_drewN ?_ _) | (refine Below.alloc ?_ (by first | (simp; done) | (simp; omega) | omega) _) | (refine Below.trans ?_ (Below.mono (by assumption) (by first | (simp; done) | (simp; omega) | omega)))))
        clear hw5
        have hg5 := HR.out.1.of_block (hb5.block g gl)
        have H5 := Lib.hid (And.intro hg5 (And.intro (HR.out.2.1.past hb5) (HR.out.2.2.trans (hb5.mono HR.out.2.2.size))))
        have gl5 := hg5.lt
        have gc5 : w5.cell? ⟨g, k, none⟩ = some (.int .i64 0) := by have := hg5.cell hkn; rw [this]; simp
        have gf5 : w5.frozen? ⟨g, k, none⟩ = false := hg5.frozen k
        clear hg5 hb5 c0 a0 a1 a2 al l0 gl HR
        go_wp2_with (first | (go_at_call 100; refine (level_any _ _ _ _ hd'.out).mono ?_; rintro e w' ⟨m, rfl, rfl⟩))
        go_roundw
        case rel =>
          refine ⟨k + 1, by omega, by go_num, ?_, (H5.out.2.1.past (below_drewN (Below.refl _ _) m)).far _ _ (by simp; omega), (H5.out.2.2.trans ((below_drewN (Below.refl _ _) m).mono H5.out.2.2.size)).setCell (by simp; omega) _⟩
          refine World.rowIs.congr (World.rowIs.set (World.rowIs.of_block H5.out.1 ((below_drewN (Below.refl _ _) m).block g gl5)) k _) (fun j hj => ?_)
          by_cases hjk : j = k
          · subst hjk; rw [if_pos rfl, if_pos (Nat.lt_succ_self _), HX.out]
          · rw [if_neg hjk]
            by_cases h : j < k
            · rw [if_pos h, if_pos (by omega)]
            · rw [if_neg h, if_neg (by omega)]
        case measure => simp [intOf]; omega
      · have hc3' : ¬ (c : Int) < 3 := by omega
        have HX := Lib.hid (show Z k = levelOf v 0 d by rw [HZ.out]; unfold lvZ offZ; rw [← hcc, if_neg hc3, ← hv])
        have gc5 : wr.cell? ⟨g, k, none⟩ = some (.int .i64 0) := by have := HR.out.1.cell hkn; rw [this]; simp
        have gf5 : wr.frozen? ⟨g, k, none⟩ = false := HR.out.1.frozen k
        have H5 := HR
        have gl5 := gl
        clear hv hcc HR
        go_wp2_with (first | (go_at_call 100; refine (level_any _ _ _ _ hd'.out).mono ?_; rintro e w' ⟨m, rfl, rfl⟩))
        go_roundw
        case rel =>
          refine ⟨k + 1, by omega, by go_num, ?_, (H5.out.2.1.past (below_drewN (Below.refl _ _) m)).far _ _ (by simp; omega), (H5.out.2.2.trans ((below_drewN (Below.refl _ _) m).mono H5.out.2.2.size)).setCell (by simp; omega) _⟩
          refine World.rowIs.congr (World.rowIs.set (World.rowIs.of_block H5.out.1 ((below_drewN (Below.refl _ _) m).block g gl5)) k _) (fun j hj => ?_)
          by_cases hjk : j = k
          · subst hjk; rw [if_pos rfl, if_pos (Nat.lt_succ_self _), HX.out]
          · rw [if_neg hjk]
            by_cases h : j < k
            · rw [if_pos h, if_pos (by omega)]
            · rw [if_neg h, if_neg (by omega)]
        case measure => simp [intOf]; omega
    · have hkk : ¬ (k : Int) < (n : Int) := by omega
      have HX := Lib.hid (show ∀ i, i < n → wr.cell? ⟨g, i, none⟩ = some (.int .i64 (Z i)) from fun i hi => by have := HR.out.1.cell hi; rw [this, if_pos (by omega)])
      go_wp2_with fail
      refine bodyPost_ret (v := .tuple #[.slice (some ⟨g, 0, none⟩) n n, .int .i64 0]) (by simp [results, Tryd.results68, go_sem]) rfl ⟨g, rfl, by omega, HX.out, HR.out.2.2⟩
end Go.Proofs.YtcdcfkgdgimmcaaDoor
