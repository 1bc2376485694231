/- farm.Left: what a journal leaves to be done. Conditions: what each theorem names; the library's variables read as listed (LibW). -/
import Derived.Test.YtcdcfkgdgimmcaaGreatDoorRnE
import Derived.Test.YtcdcfkgdgimmcaaGreatDoorNtG
import Derived.Test.YtcdcfkgdgimmcaaGreatDoorNuF
namespace Go.Proofs.YtcdcfkgdgimmcaaGreatDoor
open Go Go.RowKit
/-- The runs, by their numbers. -/
def rvF (m : List Ru) (k : Nat) : RunV := let r := m.getD k ⟨0, 0, 0, 0, false⟩; ⟨r.a, r.b, r.c, r.d, r.f⟩
theorem rvF_at {m : List Ru} {k : Nat} (h : k < m.length) : rvF m k = ⟨m[k].a, m[k].b, m[k].c, m[k].d, m[k].f⟩ := by
  unfold rvF; simp [h]
theorem isRuns_of {w : World} {a : Option Addr} {c : Nat} {m : List Ru} (h : RnsIn w a m) (hz : rsE m = 0) (h1 : m.length ≤ c) (h2 : c ≤ maxLen) : IsRuns w a m.length c (rvF m) := by
  refine ⟨h1, h2, fun h0 => ?_⟩
  obtain ⟨b, off, e, hc⟩ := h h0
  refine ⟨b, off, e, fun i hi => ?_⟩
  obtain ⟨c0, c1, c2, c3, c4⟩ := hc i hi
  have hb := rE_bd (rsE_get hz i hi)
  rw [rvF_at hi]
  exact ⟨c0, c1, c2, c3, c4, by show (-9223372036854775808 : Int) ≤ m[i].a; omega, by show m[i].a ≤ (9223372036854775807 : Int); omega⟩
theorem Left_no (a : Option Addr) (n c : Nat) (ks : Nat → Wk) (s : ByteArray) (w : World) (h : IsWorks w a n c ks) (hE : wkErr n ks ≠ 0) :
    Calls Tryz.prog 10 #[.slice a n c, .string s] w fun e w' => e = .returned (.tuple #[.slice none 0 0, .int .i64 (wkErr n ks)]) ∧ Below w.heap.size w w' := by
  have HH := Lib.hid h
  obtain ⟨E, hEE⟩ : ∃ E, E = wkErr n ks := ⟨_, rfl⟩
  have HC : Hid (Calls Tryz.prog 27 #[.slice a n c] w fun e w' => e = .returned (.int .i64 E) ∧ Below w.heap.size w w') := Lib.hid (by rw [hEE]; exact CheckWork_any _ _ _ _ _ h)
  rw [← hEE] at hE ⊢
  have hE1 : (E != 0) = true := by simpa using hE
  clear h hEE
  go_enter Tryz.func10, Tryz.ntmps10
  go_wp2_with (go_at_call 27; refine HC.out.mono ?_; rintro e w1 ⟨rfl, hb⟩)
  go_ret2
  exact ⟨rfl, hb⟩
/-- The last newline of a journal. -/
theorem LastNl (s : ByteArray) (P rest : List UInt8) (hs : s.data.toList = P ++ rest) (h : (10 : UInt8) ∉ rest) (hp : P = [] ∨ ∃ q, P = q ++ [10]) (hz : s.size ≤ 1048576) (w : World) :
    Calls Tryz.prog 28 #[.string s, .int .u8 10] w fun e w' => e = .returned (.int .i64 ((P.length : Int) - 1)) ∧ w = w' := by
  refine (Tryz.strings_LastIndexByte s 10 (by omega) w).mono ?_
  rintro e w' ⟨rfl, rfl⟩
  refine ⟨?_, rfl⟩
  rw [← last_nl P rest h hp, mk_of hs]
/-- What Parse makes of whole runs. -/
theorem Parse_runs (s : ByteArray) (m : List Ru) (w : World) (hL : LibW w) (hs : s.size ≤ 1048576) (hm : s.data.toList = runsT m) (hz : runsE m = 0) : Calls Tryz.prog 8 #[.string s] w fun e w' => Below w.heap.size w w' ∧ ∃ a c, e = .returned (.tuple #[.slice a m.length c, .int .i64 0, .int .i64 0]) ∧ RnsIn w' a m ∧ m.length ≤ c ∧ c ≤ maxLen := by
  have hz' : rsE m = 0 := by
    unfold runsE at hz
    by_cases h : 200000 < m.length
    · rw [if_pos h] at hz; exact absurd hz (by decide)
    · rwa [if_neg h] at hz
  refine (Parse_any s w hL hs).mono ?_
  rintro e w' ⟨hb, ⟨rs, t, h1, h2, h3, -⟩ | ⟨rs, h1, h2, -⟩ | ⟨rs, a, c, h1, -, rfl, h3⟩⟩
  · exact absurd (runs_all rs m t hz' (by rw [← hm, h1]) h3 h2) id
  · exact absurd (show runsE rs = 0 by rw [runs_inj rs m (by rw [← h1, hm])]; exact hz) h2
  · have e := runs_inj rs m (by rw [← h1, hm])
    subst e
    exact ⟨hb, a, c, rfl, h3⟩
/-- What Left leaves. -/
def LeftPost (n M : Nat) (rv : Nat → RunV) (w : World) (e : Ending) (w' : World) : Prop :=
  (firstN (rnE n rv) M = 0 ∧ ∃ u w2, e = .returned (.tuple #[u, .int .i64 0]) ∧ w.heap.size ≤ w2.heap.size ∧ NmR w2 w' u (nmZ (fun i => !dnB rv M i) n) ∧ Below w.heap.size w w') ∨
  (firstN (rnE n rv) M ≠ 0 ∧ e = .returned (.tuple #[.slice none 0 0, .int .i64 (firstN (rnE n rv) M)]) ∧ Below w.heap.size w w')
set_option maxRecDepth 100000 in
set_option maxHeartbeats 3200000 in
theorem Left_any (a : Option Addr) (n c : Nat) (ks : Nat → Wk) (s : ByteArray) (m : List Ru) (rest : List UInt8) (w : World) (hL : LibW w) (h : IsWorks w a n c ks) (hE : wkErr n ks = 0) (hs : s.data.toList = runsT m ++ rest) (hr : (10 : UInt8) ∉ rest) (hz : runsE m = 0) (hsz : s.size ≤ 1048576) :
    Calls Tryz.prog 10 #[.slice a n c, .string s] w (LeftPost n m.length (rvF m) w) := by
  obtain ⟨hn, -⟩ := wk_ok hE
  have hz' : rsE m = 0 := by
    unfold runsE at hz
    by_cases h : 200000 < m.length
    · rw [if_pos h] at hz; exact absurd hz (by decide)
    · rwa [if_neg h] at hz
  have HH := Lib.hid h; have HE := Lib.hid hE; have HL := Lib.hid hL
  have HC : Hid (Calls Tryz.prog 27 #[.slice a n c] w fun e w' => e = .returned (.int .i64 0) ∧ Below w.heap.size w w') := Lib.hid (by rw [← hE]; exact CheckWork_any _ _ _ _ _ h)
  obtain ⟨N, hN⟩ : ∃ N, N = (runsT m).length := ⟨_, rfl⟩
  have hNs : N ≤ s.size := by rw [Lib.size_eq, hs, List.length_append, hN]; omega
  have HNl : Hid (∀ w', Calls Tryz.prog 28 #[.string s, .int .u8 10] w' fun e w'' => e = .returned (.int .i64 ((N : Int) - 1)) ∧ w' = w'') := Lib.hid (fun w' => by rw [hN]; exact LastNl s _ rest hs hr (runs_end m) hsz w')
  have HX : Hid ((s.extract 0 N).data.toList = runsT m) := Lib.hid (by
    have : (s.extract 0 N).data.toList = s.data.toList.take N := by simp
    rw [this, hs, hN, List.take_left'] ; rfl)
  have HXs : Hid ((s.extract 0 N).size ≤ 1048576) := Lib.hid (by rw [Lib.size_eq, HX.out]; omega)
  have HPR : Hid (∀ w', LibW w' → Calls Tryz.prog 8 #[.string (s.extract 0 N)] w' fun e w'' => Below w'.heap.size w' w'' ∧ ∃ a c, e = .returned (.tuple #[.slice a m.length c, .int .i64 0, .int .i64 0]) ∧ RnsIn w'' a m ∧ m.length ≤ c ∧ c ≤ maxLen) := Lib.hid (fun w' h => Parse_runs _ m w' h HXs.out HX.out hz)
  have HZ := Lib.hid hz'
  have hmk := run_make_row' (P := Tryz.prog) 77 4 (.bool false) 1 Tryz.underlying77 (by kernel_rfl) rfl .i64 .i64 n (by omega) (by omega)
  have HRN := Lib.hid (show rnE n (rvF m) = rnE n (rvF m) from rfl)
  clear h hE hL hs hr hz hN hz' HX HXs
  go_enter Tryz.func10, Tryz.ntmps10
  go_upto_region 4 with (go_at_call 27; refine HC.out.mono ?_; rintro e w1 ⟨rfl, hb⟩; have HB1 := Lib.hid hb; clear hb)
  have HLW := Lib.hid (HL.out.past HB1.out)
  go_upto_region 7 with (first | (go_at_call 28; refine (HNl.out _).mono ?_; rintro e w2 ⟨rfl, rfl⟩) | (go_at_call 8; refine (HPR.out _ HLW.out).mono ?_; rintro e w2 ⟨hb2, a2, c2, rfl, hin, hc1, hc2⟩))
  have HB2 := Lib.hid (HB1.out.trans (hb2.mono HB1.out.size))
  have HD := Lib.hid (Done_any a n c ks a2 m.length c2 (rvF m) w2 (HH.out.below HB2.out) (isRuns_of hin HZ.out hc1 hc2) HE.out)
  obtain ⟨X, hX⟩ : ∃ X, X = firstN (rnE n (rvF m)) m.length := ⟨_, rfl⟩
  have HXX : Hid (X = firstN (rnE n (rvF m)) m.length) := Lib.hid hX
  rw [← hX] at HD
  clear hb2 HB1 HC HNl HPR HLW hin hc1 hc2 hX hsz hNs HZ HRN
  generalize rvF m = rv at *
  generalize m.length = M at *
  by_cases hX0 : X = 0
  · subst hX0
    have HD2 : Hid (Calls Tryz.prog 29 #[.slice a n c, .slice a2 M c2] w2 fun e w' => ∃ L gu au cu, e = .returned (.tuple #[.slice au L.length cu, .int .i64 0]) ∧ L = nmZ (dnB rv M) n ∧ (0 < L.length → au = some ⟨gu, 0, none⟩) ∧ (∀ i, i < L.length → w'.cell? ⟨gu, i, none⟩ = some (.int .i64 (L.getD i 0))) ∧ Below w2.heap.size w2 w') := Lib.hid (by
      refine HD.out.mono ?_
      rintro e w' (⟨-, u, wz, rfl, hz1, hN, hB⟩ | ⟨h, -, -⟩)
      · obtain ⟨gu, au, cu, rfl, hu1, hu2⟩ := hN.cells
        exact ⟨_, gu, au, cu, rfl, rfl, hu1, fun i hi => by have := hu2 i hi; rwa [Nat.zero_add] at this, hB⟩
      · exact absurd rfl h)
    clear HD
    go_upto_region 10 with (go_at_call 29; refine HD2.out.mono ?_; rintro e w3 ⟨L, gu, au, cu, rfl, hLL, hu1, hu2, hb3⟩; have HB3 := Lib.hid (HB2.out.trans (hb3.mono HB2.out.size)); have HU1 := Lib.hid hu1; have HU2 := Lib.hid hu2; have HLL := Lib.hid hLL; clear hb3 hu1 hu2 hLL HD2 HB2)
    go_upto_region 11 with fail
    refine wp_world (fun W2 hW2 => ?_)
    have HR2 : Hid (W2.rowIs w3.heap.size 4 n (fun j => .bool (setB L 0 j))) := Lib.hid (by rw [hW2]; simp only [setB_zero]; exact World.rowIs_made w3 (.bool false) n 4)
    have hb4 : Below w3.heap.size w3 W2 := by rw [hW2]; (repeat (first | exact Below.refl _ _ | assumption | (refine Below.setCell ?_ (by first | (simp; done) | (simp; omega) | omega) _) | (refine Below.drew ?_) | (refine below_drewN ?_ _) | (refine Below.alloc ?_ (by first | (simp; done) | (simp; omega) | omega) _) | (refine Below.trans ?_ (Below.mono (by assumption) (by first | (simp; done) | (simp; omega) | omega)))))
    have HU : Hid (∀ i, i < L.length → W2.cell? ⟨gu, i, none⟩ = some (.int .i64 (L.getD i 0)) ∧ gu < w3.heap.size) := Lib.hid (fun i hi => by
      have hc := HU2.out i hi
      have hl := cell_lt hc
      simp only at hl
      exact ⟨by rw [hb4.cell (p := ⟨gu, i, none⟩) hl]; exact hc, hl⟩)
    have HB4 := Lib.hid (HB3.out.trans (hb4.mono HB3.out.size))
    have hgw : w.heap.size ≤ w3.heap.size := HB3.out.size
    clear hW2 hb4 HU2 HB3 hmk
    generalize w3.heap.size = g at *
    have hLn : L.length ≤ n := by rw [HLL.out]; exact nmZ_len _ _
    go_wp2_with fail
    go_loopw [46] (fun s46 wr => ∃ k : Nat, k ≤ L.length ∧ s46 = .int .i64 k ∧ wr.rowIs g 4 n (fun j => .bool (setB L k j)) ∧ (∀ i, i < L.length → wr.cell? ⟨gu, i, none⟩ = some (.int .i64 (L.getD i 0))) ∧ Below w.heap.size w wr) (fun s46 _ => L.length - (intOf s46).toNat)
    case atStart => exact ⟨0, Nat.zero_le _, rfl, HR2.out, fun i hi => (HU.out i hi).1, HB4.out⟩
    case round =>
      obtain ⟨k, hk, rfl, hR, hU, hB⟩ := hrel
      have HR := Lib.hid hR; have HUk := Lib.hid hU; have HB := Lib.hid hB
      clear hR hU hB HR2 HB4
      by_cases hkm : k < L.length
      · have hkmi : (k : Int) < (L.length : Int) := by omega
        obtain ⟨q, hq, hqn⟩ : ∃ q : Nat, L.getD k 0 = q ∧ q < n := by have := nmZ_at (dnB rv M) n k (by rw [← HLL.out]; exact hkm); rwa [← HLL.out] at this
        have c0 := HUk.out k hkm
        rw [hq] at c0
        have HQ := Lib.hid hq
        have hqni : (q : Int) < (n : Int) := by omega
        have e0 := HU1.out (by omega)
        subst e0
        have hgu := (HU.out k hkm).2
        have cl := cell_lt c0; simp only at cl
        have r0 := HR.out.cell hqn
        have gl := HR.out.lt
        have y0 : wr.frozen? ⟨g, q, none⟩ = false := HR.out.frozen _
        have hbs := HB.out.size
        clear hq
        go_wp2_with fail
        go_roundw
        case rel =>
          refine ⟨k + 1, by omega, by go_num, ?_, fun i hi => ?_, HB.out.setCell (by first | (simp; done) | (simp; omega) | omega) _⟩
          · refine World.rowIs.congr (World.rowIs.set HR.out q _) (fun j hj => ?_)
            rw [setB_succ L k q j hkm HQ.out]
            by_cases e : q = j
            · subst e; simp
            · simp [e, Ne.symm e]
          · rw [World.cell?_setCell_other _ _ _ _ (by first | (simp; done) | (simp; omega) | omega)]
            exact HUk.out i hi
        case measure => simp [intOf]; omega
      · have hkmi : ¬ (k : Int) < (L.length : Int) := by omega
        have hke : k = L.length := by omega
        subst hke
        have HS : Hid (wr.rowIs g 4 n (fun j => .bool (!(!setB L L.length j)))) := Lib.hid (World.rowIs.congr HR.out (fun j _ => by simp))
        go_wp2_with (go_at_call 30; refine (NumbersF_any g n n (fun j => !setB L L.length j) wr (by omega) HS.out).mono ?_; rintro e w5 ⟨u, rfl, hN⟩)
        go_ret2
        refine Or.inl ⟨HXX.out.symm, _, _, rfl, HB.out.size, ?_, HB.out.trans (hN.bel.mono HB.out.size)⟩
        rw [nmZ_congr (f := fun i => !dnB rv M i) (g := fun j => !setB L L.length j) n (fun i hi => by rw [HLL.out, setB_all _ _ _ hi])]
        exact hN
  · have hX1 : (X != 0) = true := by simpa using hX0
    have HD2 : Hid (Calls Tryz.prog 29 #[.slice a n c, .slice a2 M c2] w2 fun e w' => e = .returned (.tuple #[.slice none 0 0, .int .i64 X]) ∧ Below w2.heap.size w2 w') := Lib.hid (by
      refine HD.out.mono ?_
      rintro e w' (⟨h, -⟩ | ⟨-, h1, h2⟩)
      · exact absurd h hX0
      · exact ⟨h1, h2⟩)
    clear HD
    go_wp2_with (go_at_call 29; refine HD2.out.mono ?_; rintro e w3 ⟨rfl, hb3⟩)
    go_ret2
    exact Or.inr ⟨by rw [← HXX.out]; exact hX0, by rw [← HXX.out]; rfl, HB2.out.trans (hb3.mono HB2.out.size)⟩
end Go.Proofs.YtcdcfkgdgimmcaaGreatDoor
