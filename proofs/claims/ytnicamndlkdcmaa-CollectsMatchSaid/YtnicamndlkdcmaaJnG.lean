/- Parts of a frame, put together: farm.Collect. Conditions: what each theorem names. -/
import Derived.Test.YtnicamndlkdcmaaJnE
import Derived.Test.YtnicamndlkdcmaaOpT
namespace Go.Proofs.Ytnicamndlkdcmaa
open Go Go.RowKit
def regB (k : Fr) (t : Tk) : Bool := k.x == t.x && (k.y == t.y && (k.v == t.v && k.h == t.h))
/-- What is wrong with part i. -/
def coE (ks : Nat → Fr) (ts : Nat → Tk) (i : Nat) : Int := firstE (frE (ks i)) (whenE (!regB (ks i) (ts i)) 12)
/-- The parts of that number. -/
def ptL (ks : Nat → Fr) (ts : Nat → Tk) (no : Int) : Nat → List Fr
  | 0 => []
  | i + 1 => if ((ts i).no == no) = true then ptL ks ts no i ++ [ks i] else ptL ks ts no i
theorem ptL_len (ks : Nat → Fr) (ts : Nat → Tk) (no : Int) (n : Nat) : (ptL ks ts no n).length ≤ n := by
  induction n with
  | zero => exact Nat.le_refl _
  | succ n ih =>
    unfold ptL
    split
    · rw [List.length_append]; simp; omega
    · omega
theorem ptL_mem {ks : Nat → Fr} {ts : Nat → Tk} {no : Int} {n : Nat} {x : Fr} (h : x ∈ ptL ks ts no n) : ∃ i, i < n ∧ x = ks i := by
  induction n with
  | zero => simp [ptL] at h
  | succ n ih =>
    unfold ptL at h
    split at h
    · rcases List.mem_append.1 h with h | h
      · obtain ⟨i, h1, h2⟩ := ih h; exact ⟨i, by omega, h2⟩
      · exact ⟨n, by omega, by simpa using h⟩
    · obtain ⟨i, h1, h2⟩ := ih h; exact ⟨i, by omega, h2⟩
/-- The error of Collect. -/
def clE (X Y W H : Int) (ts : Nat → Tk) (nT : Nat) (ks : Nat → Fr) (n : Nat) (no : Int) : Int :=
  firstE (whenE (n != nT) 2) (firstE (firstN (coE ks ts) n) (joE X Y W H (fun q => (ptL ks ts no n).getD q default) (ptL ks ts no n).length))
/-- What Collect answers. -/
def ColAns (X Y W H : Int) (ts : Nat → Tk) (nT : Nat) (ks : Nat → Fr) (n : Nat) (no : Int) (e : Ending) (w' : World) : Prop :=
  (clE X Y W H ts nT ks n no ≠ 0 ∧ e = .returned (.tuple #[.agg #[.int .i64 0, .int .i64 0, .int .i64 0, .int .i64 0, .slice none 0 0], .int .i64 (clE X Y W H ts nT ks n no)])) ∨
  (clE X Y W H ts nT ks n no = 0 ∧ ∃ g m, m ≤ 65536 ∧ e = .returned (.tuple #[.agg #[.int .i64 X, .int .i64 Y, .int .i64 W, .int .i64 H, .slice (some ⟨g, 0, none⟩) m m], .int .i64 0]) ∧ m = 4 * (W.toNat * H.toNat) ∧ g < w'.heap.size ∧ ∀ i, i < m → w'.cell? ⟨g, 0 + i, none⟩ = some (.float .f32 (jO X Y W.toNat (fun q => (ptL ks ts no n).getD q default) (ptL ks ts no n).length i)))
theorem IsTasks.cell {w w' : World} {a : Option Addr} {n : Nat} {ts : Nat → Tk} (h : IsTasks w a n ts) (hb : Below w.heap.size w w') {i : Nat} (hi : i < n) : ∃ b off, a = some ⟨b, off, none⟩ ∧ ∀ j v, (tkC (ts i))[j]? = some v → w'.cell? ⟨b, off + i * 5 + j, none⟩ = some v := by
  obtain ⟨b, off, h1, h2⟩ := h.2 (by omega)
  exact ⟨b, off, h1, fun j v hj => (hb.cell (p := ⟨b, off + i * 5 + j, none⟩) (cell_lt (h2 i hi j v hj))).trans (h2 i hi j v hj)⟩
set_option maxRecDepth 100000 in
set_option maxHeartbeats 6400000 in
theorem Collect_any (X Y W H : Int) (at' : Option Addr) (nT cT : Nat) (ts : Nat → Tk) (af : Option Addr) (n cf : Nat) (ks : Nat → Fr) (no : Int) (w : World) (hT : IsTasks w at' nT ts) (hF : IsFrames w af n ks) (hB : n * 56 ≤ 140737488351232) :
    Calls Try.prog 31 #[.agg #[.int .i64 X, .int .i64 Y, .int .i64 W, .int .i64 H], .slice at' nT cT, .slice af n cf, .int .i64 no] w fun e w' => ColAns X Y W H ts nT ks n no e w' ∧ Below w.heap.size w w' := by
  have hn63 : n ≤ 9223372036854775807 := by have := hF.1; unfold maxLen at this; omega
  have hT63 : nT ≤ 9223372036854775807 := by have := hT.1; unfold maxLen at this; omega
  have HH := Lib.hid (And.intro hT hF)
  have HBT := Lib.hid hB
  clear hB
  obtain ⟨i0, hi0, hz0, hz1, hz2⟩ := info_parts infoFrame
  clear hT hF
  by_cases hnT : n = nT
  · subst hnT
    have HC := Lib.hid (show clE X Y W H ts n ks n no = firstE (firstN (coE ks ts) n) (joE X Y W H (fun q => (ptL ks ts no n).getD q default) (ptL ks ts no n).length) by unfold clE; simp [whenE, firstE])
    go_enter Try.func31, Try.ntmps31
    go_upto_region 1 with fail
    refine wp_world (fun wb hW1 => ?_)
    have B1 : Below w.heap.size w wb := by rw [hW1]; (repeat (first | exact Below.refl _ _ | assumption | (refine Below.setCell ?_ (by first | (simp; done) | (simp; omega) | omega) _) | (refine Below.drew ?_) | (refine below_drewN ?_ _) | (refine Below.alloc ?_ (by first | (simp; done) | (simp; omega) | omega) _) | (refine Below.trans ?_ (Below.mono (by assumption) (by first | (simp; done) | (simp; omega) | omega)))))
    have A1 : Blk wb w.heap.size [.int .i64 X, .int .i64 Y, .int .i64 W, .int .i64 H] := by rw [hW1]; exact (Blk.new _ _ _ _ rfl).alloc _
    have Z1 : Blk wb (w.heap.size + 1) [.int .i64 0, .int .i64 0, .int .i64 0, .int .i64 0, .slice none 0 0] := by rw [hW1]; exact Blk.new _ _ _ _ (by simp)
    have H1 := Lib.hid (And.intro A1 (And.intro Z1 B1))
    clear hW1 B1 A1 Z1
    go_wp2_with fail
    go_loopw [10, 22] (fun s10 s22 wr => ∃ (i : Nat) (u : Value), i ≤ n ∧ s22 = .int .i64 i ∧ u = s10 ∧ firstN (coE ks ts) i = 0 ∧ PtR wb wr u (ptL ks ts no i)) (fun _ s22 _ => n - (intOf s22).toNat)
    case atStart => exact ⟨0, _, Nat.zero_le _, rfl, rfl, rfl, PtR.nil _⟩
    case round =>
      obtain ⟨i, u, hi, rfl, rfl, hz, hM⟩ := hrel
      have HZ := Lib.hid hz; have HM := Lib.hid hM
      have HBW := Lib.hid (H1.out.2.2.trans (hM.bel.mono H1.out.2.2.size))
      clear hz hM
      by_cases hin : i < n
      · have hini : (i : Int) < (n : Int) := by omega
        have hfr := HH.out.2.2.1.below HBW.out
        obtain ⟨g, off, rfl, hc⟩ := hfr.1 (by omega)
        have hcc := hc i hin
        obtain ⟨bt, offt, rfl, htc⟩ := HH.out.1.cell HBW.out hin
        have hL := ptL_len ks ts no i
        have HPT := Lib.hid (show ptL ks ts no (i + 1) = if ((ts i).no == no) = true then ptL ks ts no i ++ [ks i] else ptL ks ts no i from rfl)
        have HCO := Lib.hid (And.intro (show coE ks ts i = firstE (frE (ks i)) (whenE (!regB (ks i) (ts i)) 12) from rfl) (And.intro (fun hne => firstN_of HZ.out hne hin : coE ks ts i ≠ 0 → firstN (coE ks ts) n = coE ks ts i) (fun h0 => firstN_succ (k := i) HZ.out h0 : coE ks ts i = 0 → firstN (coE ks ts) (i + 1) = 0)))
        obtain ⟨k, hk⟩ : ∃ k, k = ks i := ⟨_, rfl⟩
        obtain ⟨t, ht⟩ : ∃ t, t = ts i := ⟨_, rfl⟩
        obtain ⟨L, hLL⟩ : ∃ L, L = ptL ks ts no i := ⟨_, rfl⟩
        obtain ⟨C0, hC0⟩ : ∃ C, C = coE ks ts i := ⟨_, rfl⟩
        rw [← hk] at hcc
        rw [← ht] at htc
        rw [← hk, ← ht, ← hLL] at HPT
        rw [← hk, ← ht, ← hC0] at HCO
        rw [← hLL] at HM hL
        clear hk ht hLL hC0 hc hfr
        obtain ⟨x, y, v, h, aa, an, ac, fs⟩ := k
        obtain ⟨tn, tx, ty, tv, th⟩ := t
        have c0 := hcc 0 _ rfl; have c1 := hcc 1 _ rfl; have c2 := hcc 2 _ rfl; have c3 := hcc 3 _ rfl; have c4 := hcc 4 _ rfl
        have t0 := htc 0 _ rfl; have t1 := htc 1 _ rfl; have t2 := htc 2 _ rfl; have t3 := htc 3 _ rfl; have t4 := htc 4 _ rfl
        simp only [Nat.add_zero] at c0 c1 c2 c3 c4 t0 t1 t2 t3 t4 HPT
        have l0 := cell_lt c0; have lt0 := cell_lt t0; simp only at l0 lt0
        have HTC := Lib.hid (And.intro lt0 (And.intro t0 (And.intro t1 (And.intro t2 (And.intro t3 t4)))))
        clear hcc htc t0 t1 t2 t3 t4 lt0
        go_upto_region 7 with fail
        refine wp_world (fun W5 hW5 => ?_)
        have B5 : Below wr.heap.size wr W5 := by rw [hW5]; (repeat (first | exact Below.refl _ _ | assumption | (refine Below.setCell ?_ (by first | (simp; done) | (simp; omega) | omega) _) | (refine Below.drew ?_) | (refine below_drewN ?_ _) | (refine Below.alloc ?_ (by first | (simp; done) | (simp; omega) | omega) _) | (refine Below.trans ?_ (Below.mono (by assumption) (by first | (simp; done) | (simp; omega) | omega)))))
        have C5 : Blk W5 wr.heap.size [.int .i64 x, .int .i64 y, .int .i64 v, .int .i64 h, .slice aa an ac] := by rw [hW5]; exact Blk.new _ _ _ _ rfl
        have H5 := Lib.hid (And.intro (HM.out.past B5) (And.intro C5 B5))
        clear hW5 B5 C5 c0 c1 c2 c3 c4 l0 HM
        obtain ⟨nb, hnb⟩ : ∃ nb, nb = wr.heap.size := ⟨_, rfl⟩
        have m0 := H5.out.2.1.c 0 _ rfl; have m1 := H5.out.2.1.c 1 _ rfl; have m2 := H5.out.2.1.c 2 _ rfl; have m3 := H5.out.2.1.c 3 _ rfl; have m4 := H5.out.2.1.c 4 _ rfl; have ml := H5.out.2.1.lt
        obtain ⟨E, hE⟩ : ∃ E, E = fraErr x y v h an := ⟨_, rfl⟩
        obtain ⟨rb, hrb⟩ : ∃ rb, rb = (x == tx && (y == ty && (v == tv && h == th))) := ⟨_, rfl⟩
        have heq := eq_reg x y v h tx ty tv th
        rw [← hrb] at heq
        have HC0 := Lib.hid (show C0 = firstE E (whenE (!rb) 12) by rw [HCO.out.1, hE, hrb]; rfl)
        have HE := Lib.hid hE
        clear hE hrb hnb
        go_upto_region 8 with (first | (go_at_call 52; refine (FCheck_any _ _ _ _ _ _ _ _).mono ?_; rintro e w6 ⟨rfl, hb⟩; rw [← HE.out]; have H6 := Lib.hid (And.intro (H5.out.1.past hb) (And.intro (H5.out.2.1.past hb) (H5.out.2.2.trans (hb.mono H5.out.2.2.size)))); clear hb m0 m1 m2 m3 m4 ml H5))
        have HZB := Lib.hid (And.intro (H1.out.2.1.past H6.out.1.bel) (H1.out.2.2.trans (H6.out.1.bel.mono H1.out.2.2.size)))
        by_cases hE0 : E = 0
        · subst hE0
          have HC1 := Lib.hid (show C0 = whenE (!rb) 12 from HC0.out)
          have m0 := H6.out.2.1.c 0 _ rfl; have m1 := H6.out.2.1.c 1 _ rfl; have m2 := H6.out.2.1.c 2 _ rfl; have m3 := H6.out.2.1.c 3 _ rfl; have m4 := H6.out.2.1.c 4 _ rfl; have ml := H6.out.2.1.lt
          have hbs := H6.out.2.2.size
          have lt0 : bt < w6.heap.size := Nat.lt_of_lt_of_le HTC.out.1 hbs
          have t0 := (H6.out.2.2.cell (p := ⟨bt, offt + i * 5, none⟩) HTC.out.1).trans HTC.out.2.1
          have t1 := (H6.out.2.2.cell (p := ⟨bt, offt + i * 5 + 1, none⟩) HTC.out.1).trans HTC.out.2.2.1
          have t2 := (H6.out.2.2.cell (p := ⟨bt, offt + i * 5 + 2, none⟩) HTC.out.1).trans HTC.out.2.2.2.1
          have t3 := (H6.out.2.2.cell (p := ⟨bt, offt + i * 5 + 3, none⟩) HTC.out.1).trans HTC.out.2.2.2.2.1
          have t4 := (H6.out.2.2.cell (p := ⟨bt, offt + i * 5 + 4, none⟩) HTC.out.1).trans HTC.out.2.2.2.2.2
          have HT6 := Lib.hid (And.intro lt0 t0)
          go_wp2_with fail
          go_quiet (fail)
          refine sp_exit (fun W7 hW7 => ?_)
          have B7 : Below w6.heap.size w6 W7 := by rw [hW7]; exact below_drewN (Below.refl _ _) _
          have H7 := Lib.hid (And.intro (H6.out.1.past B7) (H6.out.2.1.past B7))
          have HT7 := Lib.hid (And.intro (Nat.lt_of_lt_of_le HT6.out.1 B7.size) ((B7.cell (p := ⟨bt, offt + i * 5, none⟩) HT6.out.1).trans HT6.out.2))
          have HZ7 := Lib.hid (And.intro (HZB.out.1.past B7) (HZB.out.2.trans (B7.mono HZB.out.2.size)))
          clear hW7 B7 m0 m1 m2 m3 m4 ml t0 t1 t2 t3 t4 lt0 heq hbs H6
          cases rb
          · have hEQ := Lib.hid (show clE X Y W H ts n ks n no = 12 by
              have e1 : C0 = 12 := HC1.out
              rw [HC.out, HCO.out.2.1 (by rw [e1]; decide), e1]
              rfl)
            have z0 := HZ7.out.1.c 0 _ rfl; have z1 := HZ7.out.1.c 1 _ rfl; have z2 := HZ7.out.1.c 2 _ rfl; have z3 := HZ7.out.1.c 3 _ rfl; have z4 := HZ7.out.1.c 4 _ rfl; have zf := HZ7.out.1.f; have zl := HZ7.out.1.lt
            have B2 := HZ7.out.2
            go_wp2_with fail
            refine bodyPost_ret (v := .tuple #[.agg #[.int .i64 0, .int .i64 0, .int .i64 0, .int .i64 0, .slice none 0 0], .int .i64 12]) (by simp [results, Try.results31, go_sem, z0, z1, z2, z3, z4]) rfl ⟨Or.inl ⟨by rw [hEQ.out]; first | decide | assumption, by rw [hEQ.out]⟩, ?_⟩
            exact ((((B2.setCell (by first | (simp; done) | (simp; omega) | omega) _).setCell (by first | (simp; done) | (simp; omega) | omega) _).setCell (by first | (simp; done) | (simp; omega) | omega) _).setCell (by first | (simp; done) | (simp; omega) | omega) _).setCell (by first | (simp; done) | (simp; omega) | omega) _
          · have HS := Lib.hid (HCO.out.2.2 HC1.out)
            have t0 := HT7.out.2; have tl := HT7.out.1
            by_cases hno : tn = no
            · have hnob : (tn == no) = true := by simpa using hno
              have HP2 := Lib.hid (show ptL ks ts no (i + 1) = L ++ [⟨x, y, v, h, aa, an, ac, fs⟩] by rw [HPT.out, if_pos hnob])
              have m0 := H7.out.2.c 0 _ rfl; have m1 := H7.out.2.c 1 _ rfl; have m2 := H7.out.2.c 2 _ rfl; have m3 := H7.out.2.c 3 _ rfl; have m4 := H7.out.2.c 4 _ rfl; have ml := H7.out.2.lt
              have hb7 := H7.out.1.bel.size
              have hcap : L.length < n := by omega
              clear hno
              go_wp2_with (first | (at_builtin; refine wpList_append_lies _ rfl _ _ _ rfl wb.heap.size 43 i0 (.agg #[.int .i64 0, .int .i64 0, .int .i64 0, .int .i64 0, .slice none 0 0]) 5 56 Try.underlying72 hi0 hz0 hz1 hz2 rfl (by decide) u L.length (L.flatMap frV) rfl (own_past H7.out.1.own (by (repeat (first | exact Below.refl _ _ | assumption | (refine Below.setCell ?_ (by first | (simp; done) | (simp; omega) | omega) _) | (refine Below.drew ?_) | (refine below_drewN ?_ _) | (refine Below.alloc ?_ (by first | (simp; done) | (simp; omega) | omega) _) | (refine Below.trans ?_ (Below.mono (by assumption) (by first | (simp; done) | (simp; omega) | omega))))))) ⟨W7.heap.size, 0, none⟩ 1 1 [.int .i64 x, .int .i64 y, .int .i64 v, .int .i64 h, .slice aa an ac] rfl rfl (by intro j u hj; match j, hj with | 0, hj => (simp at hj; subst hj; simp [Addr.add]) | 1, hj => (simp at hj; subst hj; simp [Addr.add]) | 2, hj => (simp at hj; subst hj; simp [Addr.add]) | 3, hj => (simp at hj; subst hj; simp [Addr.add]) | 4, hj => (simp at hj; subst hj; simp [Addr.add])) (by intro u hu; simp at hu; rcases hu with rfl | rfl | rfl | rfl | rfl <;> rfl) (by decide) (by unfold maxLen; omega) (by have h56 := HBT.out; (first | omega | (simp; omega))) (by simp; omega) _ rfl ?_; intro g' cap w8 hown hgrow hat hlt))
              have HN8 := Lib.hid (PtR.app (x := ⟨x, y, v, h, aa, an, ac, fs⟩) H7.out.1 (by (repeat (first | exact Below.refl _ _ | assumption | (refine Below.setCell ?_ (by first | (simp; done) | (simp; omega) | omega) _) | (refine Below.drew ?_) | (refine below_drewN ?_ _) | (refine Below.alloc ?_ (by first | (simp; done) | (simp; omega) | omega) _) | (refine Below.trans ?_ (Below.mono (by assumption) (by first | (simp; done) | (simp; omega) | omega)))))) hown hgrow)
              clear hown hgrow hat hlt
              go_roundw
              case rel => exact ⟨i + 1, _, by omega, by go_num, rfl, HS.out, by rw [HP2.out]; simpa using HN8.out⟩
              case measure => simp [intOf]; omega
            · have hnob : (tn == no) = false := by simpa using hno
              have HP2 := Lib.hid (show ptL ks ts no (i + 1) = L by rw [HPT.out, if_neg (by rw [hnob]; decide)])
              clear hno
              go_wp2_with fail
              go_roundw
              case rel => exact ⟨i + 1, _, by omega, by go_num, rfl, HS.out, by rw [HP2.out]; exact H7.out.1⟩
              case measure => simp [intOf]; omega
        · have hEb : (E != 0) = true := by simpa using hE0
          have hEQ := Lib.hid (show clE X Y W H ts n ks n no = E by
            have e1 : C0 = E := by rw [HC0.out, firstE_of _ hE0]
            rw [HC.out, HCO.out.2.1 (by rw [e1]; exact hE0), e1, firstE_of _ hE0])
          have z0 := HZB.out.1.c 0 _ rfl; have z1 := HZB.out.1.c 1 _ rfl; have z2 := HZB.out.1.c 2 _ rfl; have z3 := HZB.out.1.c 3 _ rfl; have z4 := HZB.out.1.c 4 _ rfl; have zf := HZB.out.1.f; have zl := HZB.out.1.lt
          have B2 := HZB.out.2
          go_wp2_with fail
          refine bodyPost_ret (v := .tuple #[.agg #[.int .i64 0, .int .i64 0, .int .i64 0, .int .i64 0, .slice none 0 0], .int .i64 E]) (by simp [results, Try.results31, go_sem, z0, z1, z2, z3, z4]) rfl ⟨Or.inl ⟨by rw [hEQ.out]; first | decide | assumption, by rw [hEQ.out]⟩, ?_⟩
          exact ((((B2.setCell (by first | (simp; done) | (simp; omega) | omega) _).setCell (by first | (simp; done) | (simp; omega) | omega) _).setCell (by first | (simp; done) | (simp; omega) | omega) _).setCell (by first | (simp; done) | (simp; omega) | omega) _).setCell (by first | (simp; done) | (simp; omega) | omega) _

      · have hini : ¬ (i : Int) < (n : Int) := by omega
        have hie : i = n := by omega
        subst hie
        have hfr := HH.out.2.2.1.below HBW.out
        obtain ⟨ap, cp, rfl, hfs⟩ := HM.out.frs (fun x hx h0 => by
          obtain ⟨j, hj, rfl⟩ := ptL_mem hx
          exact hfr.2 j hj h0)
        have hL := ptL_len ks ts no i
        have HJ := Lib.hid (Join_all X Y W H ap (ptL ks ts no i).length cp (fun q => (ptL ks ts no i).getD q default) wr (by omega) hfs)
        rw [HZ.out] at HC
        have HC2 := Lib.hid (show clE X Y W H ts i ks i no = joE X Y W H (fun q => (ptL ks ts no i).getD q default) (ptL ks ts no i).length from HC.out)
        have HZB := Lib.hid (And.intro (H1.out.2.1.past HM.out.bel) (And.intro (H1.out.1.past HM.out.bel) HBW.out))
        have a0 := HZB.out.2.1.c 0 _ rfl; have a1 := HZB.out.2.1.c 1 _ rfl; have a2 := HZB.out.2.1.c 2 _ rfl; have a3 := HZB.out.2.1.c 3 _ rfl; have al := HZB.out.2.1.lt
        clear hfr hfs
        go_wp2_with fail
        refine (HJ.out).mono ?_
        rintro e w9 ⟨hans, hb⟩
        have HZ9 := Lib.hid (And.intro (HZB.out.1.past hb) (HZB.out.2.2.trans (hb.mono HZB.out.2.2.size)))
        have z0 := HZ9.out.1.c 0 _ rfl; have z1 := HZ9.out.1.c 1 _ rfl; have z2 := HZ9.out.1.c 2 _ rfl; have z3 := HZ9.out.1.c 3 _ rfl; have z4 := HZ9.out.1.c 4 _ rfl; have zf := HZ9.out.1.f; have zl := HZ9.out.1.lt
        have B2 := HZ9.out.2
        clear hb a0 a1 a2 a3 al
        rcases hans with ⟨hne, rfl⟩ | ⟨h0, g, m, hm, rfl, hm2, hgn, hg, hcl⟩
        · obtain ⟨E, hE⟩ : ∃ E, E = joE X Y W H (fun q => (ptL ks ts no i).getD q default) (ptL ks ts no i).length := ⟨_, rfl⟩
          have HEE := Lib.hid (And.intro hE hne)
          rw [← hE]
          clear hE hne
          go_wp2_with fail
          refine bodyPost_ret (v := .tuple #[.agg #[.int .i64 0, .int .i64 0, .int .i64 0, .int .i64 0, .slice none 0 0], .int .i64 E]) (by simp [results, Try.results31, go_sem, z0, z1, z2, z3, z4]) rfl ⟨Or.inl ⟨by rw [HC2.out]; exact HEE.out.2, by rw [HC2.out, HEE.out.1]⟩, ?_⟩
          exact ((((B2.setCell (by first | (simp; done) | (simp; omega) | omega) _).setCell (by first | (simp; done) | (simp; omega) | omega) _).setCell (by first | (simp; done) | (simp; omega) | omega) _).setCell (by first | (simp; done) | (simp; omega) | omega) _).setCell (by first | (simp; done) | (simp; omega) | omega) _
        · have hgz : w.heap.size + 1 ≠ g := by have := HZB.out.1.lt; omega
          have HCL := Lib.hid hcl; have HM2 := Lib.hid (And.intro hm (And.intro hm2 hg)); have H00 := Lib.hid h0
          clear hcl hm hm2 h0
          go_wp2_with fail
          refine bodyPost_ret (v := .tuple #[.agg #[.int .i64 X, .int .i64 Y, .int .i64 W, .int .i64 H, .slice (some ⟨g, 0, none⟩) m m], .int .i64 0]) (by simp [results, Try.results31, go_sem, z0, z1, z2, z3, z4]) rfl ⟨Or.inr ⟨by rw [HC2.out]; exact H00.out, g, m, HM2.out.1, rfl, HM2.out.2.1, by simpa [World.setCell] using HM2.out.2.2, fun i hi => ?_⟩, ?_⟩
          · rw [← HCL.out i hi]
            simp only [World.cell?_setCell_other _ _ _ _ (show (⟨w.heap.size + 1, _, none⟩ : Addr) ≠ ⟨g, 0 + i, none⟩ from fun e => hgz (congrArg Addr.block e))]
          · exact ((((B2.setCell (by first | (simp; done) | (simp; omega) | omega) _).setCell (by first | (simp; done) | (simp; omega) | omega) _).setCell (by first | (simp; done) | (simp; omega) | omega) _).setCell (by first | (simp; done) | (simp; omega) | omega) _).setCell (by first | (simp; done) | (simp; omega) | omega) _
  · have hb : ((n : Int) != (nT : Int)) = true := by simp; omega
    have hEQ := Lib.hid (show clE X Y W H ts nT ks n no = 2 by unfold clE; rw [show (n != nT) = true by simpa using hnT]; rfl)
    clear hnT
    go_enter Try.func31, Try.ntmps31
    go_upto_region 1 with fail
    refine wp_world (fun wb hW1 => ?_)
    have B1 : Below w.heap.size w wb := by rw [hW1]; (repeat (first | exact Below.refl _ _ | assumption | (refine Below.setCell ?_ (by first | (simp; done) | (simp; omega) | omega) _) | (refine Below.drew ?_) | (refine below_drewN ?_ _) | (refine Below.alloc ?_ (by first | (simp; done) | (simp; omega) | omega) _) | (refine Below.trans ?_ (Below.mono (by assumption) (by first | (simp; done) | (simp; omega) | omega)))))
    have Z1 : Blk wb (w.heap.size + 1) [.int .i64 0, .int .i64 0, .int .i64 0, .int .i64 0, .slice none 0 0] := by rw [hW1]; exact Blk.new _ _ _ _ (by simp)
    have HZB := Lib.hid (And.intro Z1 B1)
    clear hW1 B1 Z1
    have z0 := HZB.out.1.c 0 _ rfl; have z1 := HZB.out.1.c 1 _ rfl; have z2 := HZB.out.1.c 2 _ rfl; have z3 := HZB.out.1.c 3 _ rfl; have z4 := HZB.out.1.c 4 _ rfl; have zf := HZB.out.1.f; have zl := HZB.out.1.lt
    have B2 := HZB.out.2
    go_wp2_with fail
    refine bodyPost_ret (v := .tuple #[.agg #[.int .i64 0, .int .i64 0, .int .i64 0, .int .i64 0, .slice none 0 0], .int .i64 2]) (by simp [results, Try.results31, go_sem, z0, z1, z2, z3, z4]) rfl ⟨Or.inl ⟨by rw [hEQ.out]; first | decide | assumption, by rw [hEQ.out]⟩, ?_⟩
    exact ((((B2.setCell (by first | (simp; done) | (simp; omega) | omega) _).setCell (by first | (simp; done) | (simp; omega) | omega) _).setCell (by first | (simp; done) | (simp; omega) | omega) _).setCell (by first | (simp; done) | (simp; omega) | omega) _).setCell (by first | (simp; done) | (simp; omega) | omega) _

end Go.Proofs.Ytnicamndlkdcmaa
