/- Work on machines, the document's: its closures. Conditions: what each theorem names. (with: SnA, SnB, SnF) -/
import Derived.Test.YtkadinjhfldokaaSY
import Derived.Test.YtkadinjhfldokaaSiC
import Derived.Test.YtkadinjhfldokaaSiI
import Derived.Test.YtkadinjhfldokaaSiJ
namespace Go.Proofs.Ytkadinjhfldokaa
open Go Go.RowKit
/-- Whether a time lies in a span. -/
theorem spanIn_any (f t tt : Int) (nb : Nat) (w : World) (h : Blk w nb [.int .i64 tt]) :
    Calls Try.prog 29 #[.agg #[.int .i64 f, .int .i64 t], .pointer (some ⟨nb, 0, none⟩)] w fun e w' => e = .returned (.bool (decide (f ≤ tt) && decide (tt < t))) ∧ Below w.heap.size w w' := by
  have b0 := h.c 0 _ rfl; have bl := h.lt
  clear h
  by_cases h1 : f ≤ tt
  · go_enter Try.func29, Try.ntmps29
    go_wp2_with fail
    go_ret
    exact ⟨by simp [h1], by (repeat (first | exact Below.refl _ _ | assumption | (refine Below.setCell ?_ (by first | (simp; done) | (simp; omega) | omega) _) | (refine Below.drew ?_) | (refine below_drewN ?_ _) | (refine Below.alloc ?_ (by first | (simp; done) | (simp; omega) | omega) _) | (refine Below.trans ?_ (Below.mono (by assumption) (by first | (simp; done) | (simp; omega) | omega)))))⟩
  · go_enter Try.func29, Try.ntmps29
    go_wp2_with fail
    go_ret
    exact ⟨by simp; omega, by (repeat (first | exact Below.refl _ _ | assumption | (refine Below.setCell ?_ (by first | (simp; done) | (simp; omega) | omega) _) | (refine Below.drew ?_) | (refine below_drewN ?_ _) | (refine Below.alloc ?_ (by first | (simp; done) | (simp; omega) | omega) _) | (refine Below.trans ?_ (Below.mono (by assumption) (by first | (simp; done) | (simp; omega) | omega)))))⟩
set_option maxRecDepth 100000 in
set_option maxHeartbeats 3200000 in
theorem IndexFS (K : Nat) (caps : Array Value) (a : Option Addr) (n c : Nat) (df dt : Nat → Int) (p : Nat → Bool) (w : World) (h : InS w a n c df dt) (hent : ∀ args w, (callFunc K args).run Try.prog w = .ok (.enter K args) w)
    (hk : ∀ j wr, j < n → Below w.heap.size w wr → Calls Try.prog K (#[.agg #[.int .i64 (df j), .int .i64 (dt j)]] ++ caps) wr fun e w' => e = .returned (.bool (p j)) ∧ Below wr.heap.size wr w') :
    Calls Try.prog 41 #[.slice a n c, .func (.func K) #[] caps] w fun e w' => (∃ r : Int, e = .returned (.int .i64 r) ∧ (0 ≤ r ↔ anyP p n = true)) ∧ Below w.heap.size w w' := by
  have HH := Lib.hid h; have HK := Lib.hid hk
  have hm63 : n ≤ 9223372036854775807 := by have h1 := h.1; have h3 := h.2.1; unfold maxLen at h3; omega
  clear h hk
  go_enter Try.func41, Try.ntmps41
  go_wp2_with fail
  go_loopw [8] (fun s8 wr => ∃ k : Nat, k ≤ n ∧ s8 = .int .i64 k ∧ anyP p k = false ∧ Below w.heap.size w wr) (fun s8 _ => n - (intOf s8).toNat)
  case atStart => exact ⟨0, Nat.zero_le _, rfl, rfl, Below.refl _ _⟩
  case round =>
    obtain ⟨k, hk, rfl, hz, hB⟩ := hrel
    have HZ := Lib.hid hz; have HB := Lib.hid hB
    clear hz
    by_cases hkm : k < n
    · have hkmi : (k : Int) < (n : Int) := by omega
      obtain ⟨b, off, rfl, hc⟩ := HH.out.2.2 (by omega)
      have c1 := HH.out.1
      have c2 : c ≤ 9223372036854775807 := by have := HH.out.2.1; unfold maxLen at this; omega
      obtain ⟨d0, d1, -, -⟩ := hc k hkm
      have c0 := (hB.cell (p := ⟨b, off + k * 2, none⟩) (cell_lt d0)).trans d0
      have c3 := (hB.cell (p := ⟨b, off + k * 2 + 1, none⟩) (cell_lt d1)).trans d1
      have l0 := cell_lt c0; simp only at l0
      have HC := Lib.hid (HK.out k wr hkm hB)
      have HT := Lib.hid (fun h => anyP_true hkm h : p k = true → anyP p n = true)
      have HN := Lib.hid (show anyP p (k + 1) = (anyP p k || p k) from rfl)
      generalize df k = zf at *
      generalize dt k = zt at *
      cases hr : p k
      · rw [hr] at HC
        have HS := Lib.hid (show anyP p (k + 1) = false by rw [HN.out, HZ.out, hr]; rfl)
        clear hc hB hr HN HT d0 d1
        go_wp2_with fail
        refine (HC.out).mono ?_
        rintro e w5 ⟨rfl, hb5⟩
        have HB5 := Lib.hid (HB.out.trans (hb5.mono HB.out.size))
        clear HC hb5 c0 c3 l0
        go_wp2_with fail
        go_roundw
        case rel => exact ⟨k + 1, by omega, by go_num, HS.out, HB5.out⟩
        case measure => simp [intOf]; omega
      · rw [hr] at HC
        have HS := Lib.hid (HT.out hr)
        clear hc hB hr HN HT d0 d1
        go_wp2_with fail
        refine (HC.out).mono ?_
        rintro e w5 ⟨rfl, hb5⟩
        have HB5 := Lib.hid (HB.out.trans (hb5.mono HB.out.size))
        clear HC hb5 c0 c3 l0
        go_wp2_with fail
        go_ret
        exact ⟨⟨_, rfl, by rw [HS.out]; simp⟩, HB5.out⟩
    · have hkmi : ¬ (k : Int) < (n : Int) := by omega
      have hkn : k = n := by omega
      have HE := Lib.hid (show anyP p n = false by rw [← hkn]; exact HZ.out)
      clear hB hkn
      go_wp2_with fail
      go_ret
      exact ⟨⟨_, rfl, by rw [HE.out]; simp⟩, HB.out⟩
theorem ContainsFS (K : Nat) (caps : Array Value) (a : Option Addr) (n c : Nat) (df dt : Nat → Int) (p : Nat → Bool) (w : World) (h : InS w a n c df dt) (hent : ∀ args w, (callFunc K args).run Try.prog w = .ok (.enter K args) w)
    (hk : ∀ j wr, j < n → Below w.heap.size w wr → Calls Try.prog K (#[.agg #[.int .i64 (df j), .int .i64 (dt j)]] ++ caps) wr fun e w' => e = .returned (.bool (p j)) ∧ Below wr.heap.size wr w') :
    Calls Try.prog 28 #[.slice a n c, .func (.func K) #[] caps] w fun e w' => e = .returned (.bool (anyP p n)) ∧ Below w.heap.size w w' := by
  have HC := Lib.hid (IndexFS K caps a n c df dt p w h hent hk)
  clear h hk hent
  go_enter Try.func28, Try.ntmps28
  go_wp2_with fail
  refine (HC.out).mono ?_
  rintro e w5 ⟨⟨r, rfl, hr⟩, hb⟩
  have HB := Lib.hid hb; have HR := Lib.hid hr
  clear hb hr
  have HD := Lib.hid (show decide ((0 : Int) ≤ r) = anyP p n by
    cases ha : anyP p n
    · exact decide_eq_false (fun h => by rw [HR.out, ha] at h; cases h)
    · exact decide_eq_true (HR.out.2 ha))
  go_wp2_with fail
  go_ret
  exact ⟨by rw [← HD.out]; rfl, HB.out⟩
/-- Whether a machine is down at a time. -/
theorem down_any {D : SimD} {am : Option Addr} {cm : Nat} (m pm : Nat) (t : Int) (w : World) (hM : IsMachines w am D.nm cm D.M) (hm : m < D.nm) (hn : D.nm ≤ 64) (hp : Blk w pm [.slice am D.nm cm]) :
    Calls Try.prog 27 #[.int .i64 m, .int .i64 t, .pointer (some ⟨pm, 0, none⟩)] w fun e w' => e = .returned (.bool (downB (D.M m) t)) ∧ Below w.heap.size w w' := by
  have p0 := hp.c 0 _ rfl; have pl := hp.lt
  obtain ⟨b, off, rfl, hc⟩ := hM.2.2 (by omega)
  have hcm : D.nm ≤ cm := hM.1
  have hcm2 : cm ≤ 9223372036854775807 := by have := hM.2.1; unfold maxLen at this; omega
  have hmi : (m : Int) < (D.nm : Int) := by omega
  have hw := hc m hm
  have HDB := Lib.hid (show downB (D.M m) t = anyP (fun j => decide ((D.M m).df j ≤ t) && decide (t < (D.M m).dt j)) (D.M m).dn from rfl)
  obtain ⟨K, hK⟩ : ∃ K, K = D.M m := ⟨_, rfl⟩
  rw [← hK] at hw HDB ⊢
  obtain ⟨sp, da, dn, dc, df, dt⟩ := K
  have c1 := hw.2.1
  simp only at c1 HDB
  have l0 := cell_lt c1; simp only at l0
  have HI := Lib.hid (show InS w da dn dc df dt from hw.2.2.2)
  have hent : ∀ args w, (callFunc 29 args).run Try.prog w = .ok (.enter 29 args) w := fun _ _ => by kernel_rfl
  have HENT := Lib.hid hent
  have HCF := Lib.hid (fun (nb : Nat) (wy : World) (hy : Below w.heap.size w wy) (hnb : Blk wy nb [.int .i64 t]) => ContainsFS 29 #[.pointer (some ⟨nb, 0, none⟩)] da dn dc df dt (fun j => decide (df j ≤ t) && decide (t < dt j)) wy (HI.out.below hy) HENT.out (fun j wz _ hz => spanIn_any (df j) (dt j) t nb wz (hnb.past hz)))
  clear hw hK hc hM hp hent
  go_enter Try.func27, Try.ntmps27
  go_wp2_with (go_at_call 28; refine (HCF.out _ _ (by (repeat (first | exact Below.refl _ _ | assumption | (refine Below.setCell ?_ (by first | (simp; done) | (simp; omega) | omega) _) | (refine Below.drew ?_) | (refine below_drewN ?_ _) | (refine Below.alloc ?_ (by first | (simp; done) | (simp; omega) | omega) _) | (refine Below.trans ?_ (Below.mono (by assumption) (by first | (simp; done) | (simp; omega) | omega)))))) (Blk.new _ _ _ _ rfl)).mono ?_; rintro e w5 ⟨rfl, hb5⟩; have HB5 := Lib.hid hb5; clear hb5)
  go_ret
  have hb5 := HB5.out
  exact ⟨by rw [HDB.out]; rfl, Below.trans (by (repeat (first | exact Below.refl _ _ | assumption | (refine Below.setCell ?_ (by first | (simp; done) | (simp; omega) | omega) _) | (refine Below.drew ?_) | (refine below_drewN ?_ _) | (refine Below.alloc ?_ (by first | (simp; done) | (simp; omega) | omega) _) | (refine Below.trans ?_ (Below.mono (by assumption) (by first | (simp; done) | (simp; omega) | omega)))))) (hb5.mono (by simp))⟩
/-- Whether a work is not done. -/
theorem notDone_any (z pd gd nw : Nat) (dn : Nat → Bool) (w : World) (hp : Blk w pd [.slice (some ⟨gd, 0, none⟩) nw nw]) (hv : VecV w gd nw (fun i => .bool (dn i))) (hz : z < nw) (_hn : nw ≤ 2000) :
    Calls Try.prog 31 #[.int .i64 z, .pointer (some ⟨pd, 0, none⟩)] w fun e w' => e = .returned (.bool (!dn z)) ∧ w' = w := by
  have p0 := hp.c 0 _ rfl; have pl := hp.lt; have v0 := hv.c z hz; have vl := hv.lt
  have hzi : (z : Int) < (nw : Int) := by omega
  generalize dn z = v at *
  clear hp hv
  go_enter Try.func31, Try.ntmps31
  go_wp2_with fail
  go_ret
  exact ⟨rfl, rfl⟩
/-- The next time so far. -/
def noteV (t v n : Int) : Int := if t < n ∧ (v < 0 ∨ n < v) then n else v
theorem note_any (n t v : Int) (pt pn : Nat) (w : World) (_h : pt ≠ pn) (ht : Blk w pt [.int .i64 t]) (hp : Blk w pn [.int .i64 v]) :
    Calls Try.prog 32 #[.int .i64 n, .pointer (some ⟨pt, 0, none⟩), .pointer (some ⟨pn, 0, none⟩)] w fun e w' => e = .returned (.tuple #[]) ∧ (w' = w ∨ w' = w.setCell ⟨pn, 0, none⟩ (.int .i64 n)) ∧ Blk w' pn [.int .i64 (noteV t v n)] := by
  have t0 := ht.c 0 _ rfl; have tl := ht.lt; have p0 := hp.c 0 _ rfl; have pl := hp.lt; have pf := hp.f
  have HP := Lib.hid hp
  have HE := Lib.hid (show noteV t v n = if t < n ∧ (v < 0 ∨ n < v) then n else v from rfl)
  clear ht hp
  by_cases h1 : t < n
  · by_cases h2 : v < 0
    · go_enter Try.func32, Try.ntmps32
      go_wp2_with fail
      go_end0
      exact ⟨rfl, .inr rfl, by rw [HE.out, if_pos ⟨by omega, .inl (by omega)⟩]; exact HP.out.set 0 _⟩
    · by_cases h3 : n < v
      · go_enter Try.func32, Try.ntmps32
        go_wp2_with fail
        go_end0
        exact ⟨rfl, .inr rfl, by rw [HE.out, if_pos ⟨by omega, .inr (by omega)⟩]; exact HP.out.set 0 _⟩
      · go_enter Try.func32, Try.ntmps32
        go_wp2_with fail
        go_end0
        exact ⟨rfl, .inl rfl, by rw [HE.out, if_neg (fun h => by omega)]; exact HP.out⟩
  · go_enter Try.func32, Try.ntmps32
    go_wp2_with fail
    go_end0
    exact ⟨rfl, .inl rfl, by rw [HE.out, if_neg (fun h => by omega)]; exact HP.out⟩
end Go.Proofs.Ytkadinjhfldokaa

namespace Go.Proofs.Ytkadinjhfldokaa
/-- What is done next. -/
def simStep (D : SimD) : Bool × SimS → Option (Bool × SimS)
  | (false, S) => some (true, endS D.tr S D.nm)
  | (true, S) => if 0 ≤ bestW D S.st D.nw ∧ 0 ≤ bestM D S D.nm then some (true, beginS D S (bestW D S.st D.nw).toNat (bestM D S D.nm).toNat) else match nextT D S with
    | some t => some (false, { S with now := t })
    | none => none
def simAt (D : SimD) : Nat → Option (Bool × SimS)
  | 0 => some (false, startS)
  | n + 1 => (simAt D n).bind (simStep D)
theorem SimR.steps {D : SimD} {p : Bool} {S : SimS} (h : SimR D p S) : ∃ n, simAt D n = some (p, S) := by
  induction h with
  | start => exact ⟨0, rfl⟩
  | @ended S _ ih =>
    obtain ⟨n, hn⟩ := ih
    refine ⟨n + 1, ?_⟩
    show (simAt D n).bind (simStep D) = _
    rw [hn]; rfl
  | @given S w m _ h1 h2 ih =>
    obtain ⟨n, hn⟩ := ih
    refine ⟨n + 1, ?_⟩
    show (simAt D n).bind (simStep D) = _
    rw [hn]
    show (if 0 ≤ bestW D S.st D.nw ∧ 0 ≤ bestM D S D.nm then some (true, beginS D S (bestW D S.st D.nw).toNat (bestM D S D.nm).toNat) else match nextT D S with
      | some t => some (false, { S with now := t })
      | none => none) = _
    rw [if_pos ⟨by omega, by omega⟩, h1, h2]; rfl
  | @next S t _ h1 h2 ih =>
    obtain ⟨n, hn⟩ := ih
    refine ⟨n + 1, ?_⟩
    show (simAt D n).bind (simStep D) = _
    rw [hn]
    show (if 0 ≤ bestW D S.st D.nw ∧ 0 ≤ bestM D S D.nm then some (true, beginS D S (bestW D S.st D.nw).toNat (bestM D S D.nm).toNat) else match nextT D S with
      | some t => some (false, { S with now := t })
      | none => none) = _
    rw [if_neg (by omega), h2]
theorem simAt_none {D : SimD} {a b : Nat} (h : simAt D a = none) (hab : a ≤ b) : simAt D b = none := by
  induction b with
  | zero => obtain rfl : a = 0 := by omega
            exact h
  | succ b ih =>
    rcases Nat.lt_or_ge b a with h1 | h1
    · obtain rfl : a = b + 1 := by omega
      exact h
    · show (simAt D b).bind (simStep D) = none
      rw [ih h1]; rfl
theorem simAt_stop {D : SimD} {n : Nat} {S : SimS} (h : simAt D n = some (true, S)) (hs : bestW D S.st D.nw < 0 ∨ bestM D S D.nm < 0) (hn : nextT D S = none) : simAt D (n + 1) = none := by
  show (simAt D n).bind (simStep D) = _
  rw [h]
  show (if 0 ≤ bestW D S.st D.nw ∧ 0 ≤ bestM D S D.nm then some (true, beginS D S (bestW D S.st D.nw).toNat (bestM D S D.nm).toNat) else match nextT D S with
    | some t => some (false, { S with now := t })
    | none => none) = _
  rw [if_neg (by omega), hn]
/-- The end is one. -/
theorem SimR.one {D : SimD} {S S' : SimS} (h : SimR D true S) (hs : bestW D S.st D.nw < 0 ∨ bestM D S D.nm < 0) (hn : nextT D S = none) (h' : SimR D true S') (hs' : bestW D S'.st D.nw < 0 ∨ bestM D S' D.nm < 0) (hn' : nextT D S' = none) : S = S' := by
  obtain ⟨n, a1⟩ := h.steps
  obtain ⟨n', a2⟩ := h'.steps
  rcases Nat.lt_trichotomy n n' with hlt | rfl | hgt
  · rw [simAt_none (simAt_stop a1 hs hn) (show n + 1 ≤ n' by omega)] at a2; cases a2
  · rw [a1] at a2; injection a2 with a2; injection a2
  · rw [simAt_none (simAt_stop a2 hs' hn') (show n' + 1 ≤ n by omega)] at a1; cases a1
/-- Bounds of what the document's simulation holds. -/
structure DocB (D : SimD) (T : DocS) : Prop where
  t : 0 ≤ T.t ∧ T.t ≤ 23001000000
  k : T.k ≤ 22064
  fl : ∀ i, i < D.nw → 0 ≤ T.fl i ∧ T.fl i ≤ 10
  rn : ∀ m, m < D.nm → T.rn m = -1 ∨ ∃ j : Nat, T.rn m = (j : Int) ∧ j < T.k ∧ ∃ n : Nat, (T.q j).wk = (n : Int) ∧ n < D.nw
  q : ∀ j, j < T.k → PrR (T.q j)
theorem DocR.tle {D : SimD} (g : GoodD D) {p : Bool} {T : DocS} (h : DocR D p T) : 0 ≤ T.t ∧ T.t ≤ 23001000000 := by
  induction h with
  | start ht _ _ _ => rw [ht]; omega
  | @ended T _ ih => rw [docEnd_t]; exact ih
  | given _ _ _ ih => exact ih
  | @next T t hp _ h2 _ ih =>
    have h0 := h2.1
    show 0 ≤ t ∧ t ≤ 23001000000
    refine ⟨by omega, ?_⟩
    rcases h2.2 with ⟨m, hm, hr, hto⟩ | ⟨m, j, hm, hj, hd⟩
    · obtain ⟨S, hM, hb⟩ := hp.bis g
      have hv : InvS D S D.nm := by
        rcases hb with ⟨k1, -⟩ | hl
        · exact k1.inv g
        · exact hl.r.inv g
      rcases hM.m m hm with ⟨-, e⟩ | ⟨r, e1, x, e2, e3, e4⟩
      · omega
      · have hk := hv.kle g
        have hx : (T.rn m).toNat = x := by omega
        rw [hx, e4] at hto
        have := (hv.busy m r hm e1).2.2.2.1
        omega
    · have := ((g.mach.2 m hm).2.2 j hj).1
      omega
open Classical in
theorem DocR.bd {D : SimD} (g : GoodD D) {p : Bool} {T : DocS} (h : DocR D p T) : DocB D T := by
  obtain ⟨S, hM, hb⟩ := h.bis g
  obtain ⟨mm, hv⟩ : ∃ mm, InvS D S mm := by
    rcases hb with ⟨k1, -⟩ | hl
    · exact ⟨_, k1.inv g⟩
    · exact ⟨_, hl.r.inv g⟩
  have hk := hv.kle g
  have hnl := hv.nowle g
  have hnm := g.mach.1.2
  have c1 := hM.c (fun _ => true)
  rw [cn0_all.2 (fun _ _ => rfl), cn0_all.2 (fun _ _ => rfl)] at c1
  have c2 : cntB (fun _ => true) S D.nm ≤ 1 * D.nm := sumI_le (fun j hj => by
    show (match S.bz j with | some r => (((fun _ => true) r : Bool).toNat : Int) | none => 0) ≤ 1
    cases S.bz j <;> simp)
  have pq : ∀ j, j < S.k → PrR (S.q j) := fun j hj => by
    obtain ⟨⟨n, n1, n2⟩, -, h3, h4, h5⟩ := hv.done j hj
    exact ⟨⟨by omega, by omega⟩, ⟨by omega, by omega⟩, by omega, by omega⟩
  have pb : ∀ m r, m < D.nm → S.bz m = some r → PrR r := fun m r hm hr => by
    obtain ⟨h1, -, h3, h4, h5, -⟩ := hv.busy m r hm hr
    exact ⟨⟨by omega, by omega⟩, ⟨by omega, by omega⟩, by omega, by omega⟩
  have c3 := hM.c (fun r => decide (PrR r))
  have e1 : cn0 (fun r => decide (PrR r)) S.q 0 S.k = S.k := cn0_all.2 (fun i hi => by rw [Nat.zero_add]; exact decide_eq_true (pq i hi))
  have e2 : cntB (fun r => decide (PrR r)) S D.nm = cntB (fun _ => true) S D.nm := sumI_congr (fun j hj => by
    show (match S.bz j with | some r => (((fun r => decide (PrR r)) r : Bool).toNat : Int) | none => 0) = (match S.bz j with | some r => (((fun _ => true) r : Bool).toNat : Int) | none => 0)
    cases hb : S.bz j with
    | none => rfl
    | some r => simp [pb j r hj hb])
  have e3 : cn0 (fun r => decide (PrR r)) T.q 0 T.k = T.k := by rw [e1, e2] at c3; omega
  refine ⟨h.tle g, by omega, fun i hi => ?_, fun m hm => ?_, fun j hj => ?_⟩
  · have h1 := (hv.st i hi).2.1
    have h2 := (hM.w i hi).2.2.2
    have := g.t
    omega
  · rcases hM.m m hm with ⟨-, e⟩ | ⟨r, a1, x, a2, a3, a4⟩
    · exact .inl e
    · obtain ⟨-, ⟨n, n1, n2, -⟩, -⟩ := hv.busy m r hm a1
      exact .inr ⟨x, a3, a2, n, by rw [a4]; exact n1, n2⟩
  · have := cn0_all.1 e3 j hj
    rw [Nat.zero_add] at this
    exact of_decide_eq_true this
/-- The least of the times ahead among some; -1: none. -/
def LeastOf (P : Int → Prop) (t v : Int) : Prop := (v = -1 ∧ ∀ c, P c → ¬ t < c) ∨ (t < v ∧ P v ∧ ∀ c, P c → t < c → v ≤ c)
theorem LeastOf.note {P Q : Int → Prop} {t v n : Int} (ht : 0 ≤ t) (h : LeastOf P t v) (hq : ∀ c, Q c ↔ P c ∨ c = n) : LeastOf Q t (noteV t v n) := by
  unfold noteV
  by_cases h1 : t < n
  · rcases h with ⟨hv, h2⟩ | ⟨h2, h3, h4⟩
    · rw [if_pos ⟨h1, .inl (by omega)⟩]
      refine .inr ⟨h1, (hq n).2 (.inr rfl), fun c hc hl => ?_⟩
      rcases (hq c).1 hc with hc | hc
      · exact absurd hl (h2 c hc)
      · omega
    · by_cases h5 : n < v
      · rw [if_pos ⟨h1, .inr h5⟩]
        refine .inr ⟨h1, (hq n).2 (.inr rfl), fun c hc hl => ?_⟩
        rcases (hq c).1 hc with hc | hc
        · have := h4 c hc hl; omega
        · omega
      · rw [if_neg (by omega)]
        refine .inr ⟨h2, (hq v).2 (.inl h3), fun c hc hl => ?_⟩
        rcases (hq c).1 hc with hc | hc
        · exact h4 c hc hl
        · omega
  · rw [if_neg (by omega)]
    rcases h with ⟨hv, h2⟩ | ⟨h2, h3, h4⟩
    · refine .inl ⟨hv, fun c hc => ?_⟩
      rcases (hq c).1 hc with hc | hc
      · exact h2 c hc
      · omega
    · refine .inr ⟨h2, (hq v).2 (.inl h3), fun c hc hl => ?_⟩
      rcases (hq c).1 hc with hc | hc
      · exact h4 c hc hl
      · omega
theorem LeastOf.congr {P Q : Int → Prop} {t v : Int} (h : LeastOf P t v) (hq : ∀ c, Q c ↔ P c) : LeastOf Q t v := by
  obtain rfl : Q = P := funext fun c => propext (hq c)
  exact h
/-- The ends ahead of the first machines' runs. -/
def endP (T : DocS) (n : Nat) (c : Int) : Prop := ∃ m, m < n ∧ 0 ≤ T.rn m ∧ (T.q (T.rn m).toNat).to = c
/-- The ends of the first spans at which a machine is down. -/
def spanP (k : Mc) (n : Nat) (c : Int) : Prop := ∃ j, j < n ∧ k.dt j = c
def downP (D : SimD) (n : Nat) (c : Int) : Prop := ∃ m, m < n ∧ spanP (D.M m) (D.M m).dn c
theorem endP_no {T : DocS} {n : Nat} (h : T.rn n < 0) (c : Int) : endP T (n + 1) c ↔ endP T n c := by
  constructor
  · rintro ⟨m, h1, h2, h3⟩
    have : m ≠ n := fun e => by subst e; omega
    exact ⟨m, by omega, h2, h3⟩
  · rintro ⟨m, h1, h2, h3⟩; exact ⟨m, by omega, h2, h3⟩
theorem endP_yes {T : DocS} {n j : Nat} (h : T.rn n = (j : Int)) (c : Int) : endP T (n + 1) c ↔ endP T n c ∨ c = (T.q j).to := by
  have hj : (T.rn n).toNat = j := by omega
  constructor
  · rintro ⟨m, h1, h2, h3⟩
    by_cases e : m = n
    · subst e; rw [hj] at h3; exact .inr h3.symm
    · exact .inl ⟨m, by omega, h2, h3⟩
  · rintro (⟨m, h1, h2, h3⟩ | rfl)
    · exact ⟨m, by omega, h2, h3⟩
    · exact ⟨n, by omega, by omega, by rw [hj]⟩
theorem spanP_succ (k : Mc) (n : Nat) (c : Int) : spanP k (n + 1) c ↔ spanP k n c ∨ c = k.dt n := by
  constructor
  · rintro ⟨j, h1, h2⟩
    by_cases e : j = n
    · subst e; exact .inr h2.symm
    · exact .inl ⟨j, by omega, h2⟩
  · rintro (⟨j, h1, h2⟩ | rfl)
    · exact ⟨j, by omega, h2⟩
    · exact ⟨n, by omega, rfl⟩
theorem downP_succ (D : SimD) (n : Nat) (c : Int) : downP D (n + 1) c ↔ downP D n c ∨ spanP (D.M n) (D.M n).dn c := by
  constructor
  · rintro ⟨m, h1, h2⟩
    by_cases e : m = n
    · subst e; exact .inr h2
    · exact .inl ⟨m, by omega, h2⟩
  · rintro (⟨m, h1, h2⟩ | h)
    · exact ⟨m, by omega, h2⟩
    · exact ⟨n, by omega, h⟩
theorem spanP_zero (k : Mc) (c : Int) : ¬ spanP k 0 c := fun ⟨_, h, _⟩ => by omega
theorem downP_zero (D : SimD) (c : Int) : ¬ downP D 0 c := fun ⟨_, h, _⟩ => by omega
theorem endP_zero (T : DocS) (c : Int) : ¬ endP T 0 c := fun ⟨_, h, _⟩ => by omega
theorem cand_iff (D : SimD) (T : DocS) (c : Int) : Cand D T c ↔ T.t < c ∧ (endP T D.nm c ∨ downP D D.nm c) := by
  unfold Cand
  refine and_congr_right fun _ => or_congr Iff.rfl ?_
  constructor
  · rintro ⟨m, j, h1, h2, h3⟩; exact ⟨m, h1, j, h2, h3⟩
  · rintro ⟨m, h1, j, h2, h3⟩; exact ⟨m, j, h1, h2, h3⟩
/-- Where runs end, what does not change. -/
theorem docEnd_inv (tr : Int) (T : DocS) (m : Nat) : (docEnd tr T m).k = T.k ∧ (docEnd tr T m).q = T.q ∧ (docEnd tr T m).t = T.t ∧ (∀ j, m ≤ j → (docEnd tr T m).rn j = T.rn j) ∧ ∀ i, T.fl i ≤ (docEnd tr T m).fl i ∧ (docEnd tr T m).fl i ≤ T.fl i + m := by
  induction m with
  | zero => exact ⟨rfl, rfl, rfl, fun _ _ => rfl, fun i => ⟨Int.le_refl _, by show T.fl i ≤ T.fl i + ((0 : Nat) : Int); omega⟩⟩
  | succ m ih =>
    obtain ⟨h1, h2, h3, h4, h5⟩ := ih
    have e : docEnd tr T (m + 1) = docEnd1 tr (docEnd tr T m) m := rfl
    rw [e]
    generalize docEnd tr T m = U at *
    unfold docEnd1
    split
    · exact ⟨h1, h2, h3, fun j hj => h4 j (by omega), fun i => by have := h5 i; omega⟩
    · refine ⟨h1, h2, h3, fun j hj => ?_, fun i => ?_⟩
      · show updF U.rn m (-1) j = _
        rw [updF_ne _ _ (by omega)]; exact h4 j (by omega)
      · show T.fl i ≤ (if _ then updF U.fl _ _ else U.fl) i ∧ (if _ then updF U.fl _ _ else U.fl) i ≤ _
        have a := h5 i
        split
        · by_cases hi : i = (U.q (U.rn m).toNat).wk.toNat
          · rw [← hi, updF_at]; omega
          · rw [updF_ne _ _ hi]; omega
        · omega
theorem docEnd1_keep {tr : Int} {T : DocS} {m : Nat} (h : T.rn m < 0 ∨ (T.q (T.rn m).toNat).to ≠ T.t) : docEnd1 tr T m = T := if_pos h
theorem docEnd1_end {tr : Int} {T : DocS} {m j wn : Nat} {r : RunV} (hj : T.rn m = (j : Int)) (hq : T.q j = r) (ht : r.to = T.t) (hw : r.wk = (wn : Int)) : docEnd1 tr T m =
    { t := T.t, k := T.k, q := T.q, rn := updF T.rn m (-1), bs := updF T.bs wn false, dn := if r.fl = true then T.dn else updF T.dn wn true, fl := if r.fl = true then updF T.fl wn (T.fl wn + 1) else T.fl, ov := if r.fl = true ∧ T.fl wn + 1 = tr then updF T.ov wn true else T.ov } := by
  have h1 : (T.rn m).toNat = j := by omega
  have h2 : (T.q j).wk.toNat = wn := by rw [hq]; omega
  unfold docEnd1
  rw [h1, h2, hq, if_neg (by intro h; rcases h with h | h; · omega
                             · exact h ht)]
/-- How many machines are idle. -/
def idleN (T : DocS) : Nat → Nat
  | 0 => 0
  | n + 1 => idleN T n + if T.rn n < 0 then 1 else 0
theorem idleN_le (T : DocS) (n : Nat) : idleN T n ≤ n := by
  induction n with
  | zero => exact Nat.le_refl _
  | succ n ih => unfold idleN; split <;> omega
theorem idleN_begin {D : SimD} {T : DocS} {w m : Nat} (hb : T.rn m < 0) {n : Nat} (hm : m < n) : idleN (docBegin D T w m) n + 1 = idleN T n := by
  have e : ∀ j, j ≠ m → (docBegin D T w m).rn j = T.rn j := fun j hj => updF_ne _ _ hj
  have e0 : (docBegin D T w m).rn m = (T.k : Int) := updF_at _ _ _
  have keep : ∀ k, k ≤ m → idleN (docBegin D T w m) k = idleN T k := fun k hk => by
    induction k with
    | zero => rfl
    | succ k ih => unfold idleN; rw [ih (by omega), e k (by omega)]
  induction n with
  | zero => omega
  | succ n ih =>
    unfold idleN
    rcases Nat.lt_or_ge m n with h | h
    · rw [e n (by omega)]; have := ih h; omega
    · obtain rfl : m = n := by omega
      rw [keep m (Nat.le_refl _), e0, if_neg (by omega), if_pos hb]
/-- The document's end. -/
theorem DocR.last {D : SimD} (g : GoodD D) {T : DocS} (h : DocR D true T) (hst : docW D T D.nw < 0 ∨ docM D T D.nm < 0) (hl : LeastOf (fun c => endP T D.nm c ∨ downP D D.nm c) T.t (-1)) : ∃ S, SimR D true S ∧ (bestW D S.st D.nw < 0 ∨ bestM D S D.nm < 0) ∧ nextT D S = none ∧ T.k = S.k ∧ ∀ P : RunV → Bool, cn0 P T.q 0 T.k = cn0 P S.q 0 S.k := by
  refine h.final g hst (fun c hc => ?_)
  rw [cand_iff] at hc
  have := (h.tle g).1
  rcases hl with ⟨-, h1⟩ | ⟨h1, -⟩
  · exact h1 c hc.2 hc.1
  · omega
theorem DocR.more {D : SimD} (_g : GoodD D) {T : DocS} {v : Int} (h : DocR D true T) (hst : docW D T D.nw < 0 ∨ docM D T D.nm < 0) (hl : LeastOf (fun c => endP T D.nm c ∨ downP D D.nm c) T.t v) (hv : 0 ≤ v) : T.t < v ∧ DocR D false { T with t := v } := by
  rcases hl with ⟨h1, -⟩ | ⟨h1, h2, h3⟩
  · omega
  · exact ⟨h1, DocR.next h hst ((cand_iff D T v).2 ⟨h1, h2⟩) (fun c hc => by rw [cand_iff] at hc; exact h3 c hc.2 hc.1)⟩
theorem LeastOf.sign {P : Int → Prop} {t v : Int} (ht : 0 ≤ t) (h : LeastOf P t v) : v = -1 ∨ (0 ≤ v ∧ t < v) := by
  rcases h with ⟨h, -⟩ | ⟨h, -, -⟩
  · exact .inl h
  · exact .inr ⟨by omega, h⟩
end Go.Proofs.Ytkadinjhfldokaa

namespace Go.Proofs.Ytkadinjhfldokaa
open Go Go.RowKit
/-- What the document's simulation holds, in memory: its own blocks lie from w0's end on, below b1; its time and its runs from b1 on. -/
structure DocG (w0 : World) (am : Option Addr) (cm : Nat) (D : SimD) (pm pd gd go gf gr gb b1 : Nat) (w : World) (T : DocS) (pt : Nat) (rv : Value) : Prop where
  kM : Blk w pm [.slice am D.nm cm]
  kD : Blk w pd [.slice (some ⟨gd, 0, none⟩) D.nw D.nw]
  vD : VecV w gd D.nw (fun i => .bool (T.dn i))
  vO : VecV w go D.nw (fun i => .bool (T.ov i))
  vF : VecV w gf D.nw (fun i => .int .i64 (T.fl i))
  vR : VecV w gr D.nm (fun i => .int .i64 (T.rn i))
  vB : VecV w gb D.nw (fun i => .bool (T.bs i))
  kT : Blk w pt [.int .i64 T.t]
  kP : b1 ≤ pt ∧ some pt ≠ rv.ownBlock
  kR : w.ownsRow b1 36 5 rv T.k (accL (fun i => runL (T.q i)) T.k)
  bel : Below w0.heap.size w0 w
  sz : b1 ≤ w.heap.size
/-- Its blocks differ. -/
def NeD (w0 : World) (pm pd gd go gf gr gb b1 : Nat) : Prop :=
  ((pm ≠ pd ∧ pm ≠ gd ∧ pm ≠ go ∧ pm ≠ gf ∧ pm ≠ gr ∧ pm ≠ gb) ∧ (pd ≠ gd ∧ pd ≠ go ∧ pd ≠ gf ∧ pd ≠ gr ∧ pd ≠ gb) ∧ (gd ≠ go ∧ gd ≠ gf ∧ gd ≠ gr ∧ gd ≠ gb) ∧ (go ≠ gf ∧ go ≠ gr ∧ go ≠ gb) ∧ (gf ≠ gr ∧ gf ≠ gb) ∧ gr ≠ gb) ∧
  (w0.heap.size ≤ pm ∧ w0.heap.size ≤ pd ∧ w0.heap.size ≤ gd ∧ w0.heap.size ≤ go ∧ w0.heap.size ≤ gf ∧ w0.heap.size ≤ gr ∧ w0.heap.size ≤ gb) ∧
  (pm < b1 ∧ pd < b1 ∧ gd < b1 ∧ go < b1 ∧ gf < b1 ∧ gr < b1 ∧ gb < b1)
section
variable {w0 : World} {am : Option Addr} {cm : Nat} {D : SimD} {pm pd gd go gf gr gb b1 : Nat} {T : DocS} {pt : Nat} {rv : Value}
theorem DocG.past {w wy : World} (k : DocG w0 am cm D pm pd gd go gf gr gb b1 w T pt rv) (h : Below w.heap.size w wy) : DocG w0 am cm D pm pd gd go gf gr gb b1 wy T pt rv :=
  ⟨k.kM.past h, k.kD.past h, k.vD.past h, k.vO.past h, k.vF.past h, k.vR.past h, k.vB.past h, k.kT.past h, k.kP, own_past k.kR h, k.bel.trans (h.mono k.bel.size), Nat.le_trans k.sz h.size⟩
theorem DocG.sD {w : World} (k : DocG w0 am cm D pm pd gd go gf gr gb b1 w T pt rv) (hne : NeD w0 pm pd gd go gf gr gb b1) (i : Nat) (v : Bool) : DocG w0 am cm D pm pd gd go gf gr gb b1 (w.setCell ⟨gd, i, none⟩ (.bool v)) { T with dn := updF T.dn i v } pt rv := by
  obtain ⟨⟨⟨a1, a2, a3, a4, a5, a6⟩, ⟨c1, c2, c3, c4, c5⟩, ⟨d1, d2, d3, d4⟩, ⟨e1, e2, e3⟩, ⟨g1, g2⟩, h1⟩, ⟨f1, f2, f3, f4, f5, f6, f7⟩, ⟨l1, l2, l3, l4, l5, l6, l7⟩⟩ := hne
  refine ⟨k.kM.far _ _ (by show gd ≠ _; first | assumption | (apply Ne.symm; assumption)), k.kD.far _ _ (by show gd ≠ _; first | assumption | (apply Ne.symm; assumption)), VecV.congr (k.vD.set i _) (fun j _ => ?_), k.vO.far _ _ (by show gd ≠ _; first | assumption | (apply Ne.symm; assumption)), k.vF.far _ _ (by show gd ≠ _; first | assumption | (apply Ne.symm; assumption)), k.vR.far _ _ (by show gd ≠ _; first | assumption | (apply Ne.symm; assumption)), k.vB.far _ _ (by show gd ≠ _; first | assumption | (apply Ne.symm; assumption)), k.kT.far _ _ (by show gd ≠ _; have := k.kP.1; omega), k.kP, own_far k.kR _ _ (by simp; omega), k.bel.setCell (by show w0.heap.size ≤ gd; assumption) _, by simp [World.setCell]; exact k.sz⟩
  show updF _ i _ j = Value.bool (updF T.dn i v j)
  unfold updF; split <;> rfl
theorem DocG.sO {w : World} (k : DocG w0 am cm D pm pd gd go gf gr gb b1 w T pt rv) (hne : NeD w0 pm pd gd go gf gr gb b1) (i : Nat) (v : Bool) : DocG w0 am cm D pm pd gd go gf gr gb b1 (w.setCell ⟨go, i, none⟩ (.bool v)) { T with ov := updF T.ov i v } pt rv := by
  obtain ⟨⟨⟨a1, a2, a3, a4, a5, a6⟩, ⟨c1, c2, c3, c4, c5⟩, ⟨d1, d2, d3, d4⟩, ⟨e1, e2, e3⟩, ⟨g1, g2⟩, h1⟩, ⟨f1, f2, f3, f4, f5, f6, f7⟩, ⟨l1, l2, l3, l4, l5, l6, l7⟩⟩ := hne
  refine ⟨k.kM.far _ _ (by show go ≠ _; first | assumption | (apply Ne.symm; assumption)), k.kD.far _ _ (by show go ≠ _; first | assumption | (apply Ne.symm; assumption)), k.vD.far _ _ (by show go ≠ _; first | assumption | (apply Ne.symm; assumption)), VecV.congr (k.vO.set i _) (fun j _ => ?_), k.vF.far _ _ (by show go ≠ _; first | assumption | (apply Ne.symm; assumption)), k.vR.far _ _ (by show go ≠ _; first | assumption | (apply Ne.symm; assumption)), k.vB.far _ _ (by show go ≠ _; first | assumption | (apply Ne.symm; assumption)), k.kT.far _ _ (by show go ≠ _; have := k.kP.1; omega), k.kP, own_far k.kR _ _ (by simp; omega), k.bel.setCell (by show w0.heap.size ≤ go; assumption) _, by simp [World.setCell]; exact k.sz⟩
  show updF _ i _ j = Value.bool (updF T.ov i v j)
  unfold updF; split <;> rfl
theorem DocG.sF {w : World} (k : DocG w0 am cm D pm pd gd go gf gr gb b1 w T pt rv) (hne : NeD w0 pm pd gd go gf gr gb b1) (i : Nat) (v : Int) : DocG w0 am cm D pm pd gd go gf gr gb b1 (w.setCell ⟨gf, i, none⟩ (.int .i64 v)) { T with fl := updF T.fl i v } pt rv := by
  obtain ⟨⟨⟨a1, a2, a3, a4, a5, a6⟩, ⟨c1, c2, c3, c4, c5⟩, ⟨d1, d2, d3, d4⟩, ⟨e1, e2, e3⟩, ⟨g1, g2⟩, h1⟩, ⟨f1, f2, f3, f4, f5, f6, f7⟩, ⟨l1, l2, l3, l4, l5, l6, l7⟩⟩ := hne
  refine ⟨k.kM.far _ _ (by show gf ≠ _; first | assumption | (apply Ne.symm; assumption)), k.kD.far _ _ (by show gf ≠ _; first | assumption | (apply Ne.symm; assumption)), k.vD.far _ _ (by show gf ≠ _; first | assumption | (apply Ne.symm; assumption)), k.vO.far _ _ (by show gf ≠ _; first | assumption | (apply Ne.symm; assumption)), VecV.congr (k.vF.set i _) (fun j _ => ?_), k.vR.far _ _ (by show gf ≠ _; first | assumption | (apply Ne.symm; assumption)), k.vB.far _ _ (by show gf ≠ _; first | assumption | (apply Ne.symm; assumption)), k.kT.far _ _ (by show gf ≠ _; have := k.kP.1; omega), k.kP, own_far k.kR _ _ (by simp; omega), k.bel.setCell (by show w0.heap.size ≤ gf; assumption) _, by simp [World.setCell]; exact k.sz⟩
  show updF _ i _ j = Value.int .i64 (updF T.fl i v j)
  unfold updF; split <;> rfl
theorem DocG.sR {w : World} (k : DocG w0 am cm D pm pd gd go gf gr gb b1 w T pt rv) (hne : NeD w0 pm pd gd go gf gr gb b1) (i : Nat) (v : Int) : DocG w0 am cm D pm pd gd go gf gr gb b1 (w.setCell ⟨gr, i, none⟩ (.int .i64 v)) { T with rn := updF T.rn i v } pt rv := by
  obtain ⟨⟨⟨a1, a2, a3, a4, a5, a6⟩, ⟨c1, c2, c3, c4, c5⟩, ⟨d1, d2, d3, d4⟩, ⟨e1, e2, e3⟩, ⟨g1, g2⟩, h1⟩, ⟨f1, f2, f3, f4, f5, f6, f7⟩, ⟨l1, l2, l3, l4, l5, l6, l7⟩⟩ := hne
  refine ⟨k.kM.far _ _ (by show gr ≠ _; first | assumption | (apply Ne.symm; assumption)), k.kD.far _ _ (by show gr ≠ _; first | assumption | (apply Ne.symm; assumption)), k.vD.far _ _ (by show gr ≠ _; first | assumption | (apply Ne.symm; assumption)), k.vO.far _ _ (by show gr ≠ _; first | assumption | (apply Ne.symm; assumption)), k.vF.far _ _ (by show gr ≠ _; first | assumption | (apply Ne.symm; assumption)), VecV.congr (k.vR.set i _) (fun j _ => ?_), k.vB.far _ _ (by show gr ≠ _; first | assumption | (apply Ne.symm; assumption)), k.kT.far _ _ (by show gr ≠ _; have := k.kP.1; omega), k.kP, own_far k.kR _ _ (by simp; omega), k.bel.setCell (by show w0.heap.size ≤ gr; assumption) _, by simp [World.setCell]; exact k.sz⟩
  show updF _ i _ j = Value.int .i64 (updF T.rn i v j)
  unfold updF; split <;> rfl
theorem DocG.sB {w : World} (k : DocG w0 am cm D pm pd gd go gf gr gb b1 w T pt rv) (hne : NeD w0 pm pd gd go gf gr gb b1) (i : Nat) (v : Bool) : DocG w0 am cm D pm pd gd go gf gr gb b1 (w.setCell ⟨gb, i, none⟩ (.bool v)) { T with bs := updF T.bs i v } pt rv := by
  obtain ⟨⟨⟨a1, a2, a3, a4, a5, a6⟩, ⟨c1, c2, c3, c4, c5⟩, ⟨d1, d2, d3, d4⟩, ⟨e1, e2, e3⟩, ⟨g1, g2⟩, h1⟩, ⟨f1, f2, f3, f4, f5, f6, f7⟩, ⟨l1, l2, l3, l4, l5, l6, l7⟩⟩ := hne
  refine ⟨k.kM.far _ _ (by show gb ≠ _; first | assumption | (apply Ne.symm; assumption)), k.kD.far _ _ (by show gb ≠ _; first | assumption | (apply Ne.symm; assumption)), k.vD.far _ _ (by show gb ≠ _; first | assumption | (apply Ne.symm; assumption)), k.vO.far _ _ (by show gb ≠ _; first | assumption | (apply Ne.symm; assumption)), k.vF.far _ _ (by show gb ≠ _; first | assumption | (apply Ne.symm; assumption)), k.vR.far _ _ (by show gb ≠ _; first | assumption | (apply Ne.symm; assumption)), VecV.congr (k.vB.set i _) (fun j _ => ?_), k.kT.far _ _ (by show gb ≠ _; have := k.kP.1; omega), k.kP, own_far k.kR _ _ (by simp; omega), k.bel.setCell (by show w0.heap.size ≤ gb; assumption) _, by simp [World.setCell]; exact k.sz⟩
  show updF _ i _ j = Value.bool (updF T.bs i v j)
  unfold updF; split <;> rfl
theorem DocG.setN {w : World} (k : DocG w0 am cm D pm pd gd go gf gr gb b1 w T pt rv) (hne : NeD w0 pm pd gd go gf gr gb b1) (v : Int) : DocG w0 am cm D pm pd gd go gf gr gb b1 (w.setCell ⟨pt, 0, none⟩ (.int .i64 v)) { T with t := v } pt rv := by
  obtain ⟨⟨⟨a1, a2, a3, a4, a5, a6⟩, ⟨c1, c2, c3, c4, c5⟩, ⟨d1, d2, d3, d4⟩, ⟨e1, e2, e3⟩, ⟨g1, g2⟩, h1⟩, ⟨f1, f2, f3, f4, f5, f6, f7⟩, ⟨l1, l2, l3, l4, l5, l6, l7⟩⟩ := hne
  have hp := k.kP
  exact ⟨k.kM.far _ _ (by show pt ≠ _; omega), k.kD.far _ _ (by show pt ≠ _; omega), k.vD.far _ _ (by show pt ≠ _; omega), k.vO.far _ _ (by show pt ≠ _; omega), k.vF.far _ _ (by show pt ≠ _; omega), k.vR.far _ _ (by show pt ≠ _; omega), k.vB.far _ _ (by show pt ≠ _; omega), k.kT.set 0 _, k.kP, ownsRow_setCell_other k.kR (fun h => k.kP.2 h.symm) _, k.bel.setCell (by show w0.heap.size ≤ pt; omega) _, by simp [World.setCell]; exact k.sz⟩
theorem DocG.newT {w : World} (k : DocG w0 am cm D pm pd gd go gf gr gb b1 w T pt rv) (ty : TypeId) : DocG w0 am cm D pm pd gd go gf gr gb b1 (w.alloc (.cells #[.int .i64 T.t] ty)) T w.heap.size rv := by
  have B : Below w.heap.size w (w.alloc (.cells #[.int .i64 T.t] ty)) := (Below.refl _ _).alloc (Nat.le_refl _) _
  have k2 := k.past B
  exact ⟨k2.kM, k2.kD, k2.vD, k2.vO, k2.vF, k2.vR, k2.vB, Blk.new _ [.int .i64 T.t] _ _ rfl, ⟨k.sz, fun h => by have := (k.kR.lt _ h.symm).2; omega⟩, k2.kR, k2.bel, k2.sz⟩
theorem DocG.app {W V W6 : World} {r : RunV} {gn cap : Nat} (k : DocG w0 am cm D pm pd gd go gf gr gb b1 W T pt rv) (hne : NeD w0 pm pd gd go gf gr gb b1) (hV : Below W.heap.size W V) (hg : V.grownBy W6 rv.ownBlock)
    (hown : W6.ownsRow b1 36 5 (.slice (some ⟨gn, 0, none⟩) (T.k + 1) cap) (T.k + 1) (accL (fun i => runL (T.q i)) T.k ++ runL r)) (hat : rv.ownBlock = some gn ∨ W.heap.size ≤ gn) :
    DocG w0 am cm D pm pd gd go gf gr gb b1 W6 { T with k := T.k + 1, q := updF T.q T.k r } pt (.slice (some ⟨gn, 0, none⟩) (T.k + 1) cap) := by
  obtain ⟨⟨⟨a1, a2, a3, a4, a5, a6⟩, ⟨c1, c2, c3, c4, c5⟩, ⟨d1, d2, d3, d4⟩, ⟨e1, e2, e3⟩, ⟨g1, g2⟩, h1⟩, ⟨f1, f2, f3, f4, f5, f6, f7⟩, ⟨l1, l2, l3, l4, l5, l6, l7⟩⟩ := hne
  have hlow : ∀ j, j < b1 → some j ≠ rv.ownBlock := fun j hj h => by have := (k.kR.lt j h.symm).1; omega
  have hzV := hV.size
  have hz6 := hg.size
  have hsz := k.sz
  refine ⟨k.kM.grownO hV hg (hlow _ l1), k.kD.grownO hV hg (hlow _ l2), k.vD.grownO hV hg (hlow _ l3), k.vO.grownO hV hg (hlow _ l4), k.vF.grownO hV hg (hlow _ l5), k.vR.grownO hV hg (hlow _ l6), k.vB.grownO hV hg (hlow _ l7), k.kT.grownO hV hg k.kP.2, ⟨k.kP.1, fun h => ?_⟩, ?_, ?_, by omega⟩
  · have h : some pt = some gn := h
    injection h with h
    rcases hat with h1 | h1
    · exact k.kP.2 (by rw [h1, h])
    · have := k.kT.lt; omega
  · show W6.ownsRow b1 _ 5 _ (T.k + 1) (accL (fun i => runL (updF T.q T.k r i)) (T.k + 1))
    unfold accL
    rw [updF_at, accL_congr (f := fun i => runL (updF T.q T.k r i)) (g := fun i => runL (T.q i)) (fun i hi => by rw [updF_ne _ _ (by omega)])]
    exact hown
  · exact Below.grown (k.bel.trans (hV.mono k.bel.size)) hg (by have := k.bel.size; omega) (fun j hj => by have := (k.kR.lt j hj).1; omega)
theorem DocG.eqT {w : World} {T' : DocS} (k : DocG w0 am cm D pm pd gd go gf gr gb b1 w T pt rv) (h : T = T') : DocG w0 am cm D pm pd gd go gf gr gb b1 w T' pt rv := h ▸ k
/-- A run that stands in memory. -/
theorem DocG.run {w : World} (k : DocG w0 am cm D pm pd gd go gf gr gb b1 w T pt rv) {j : Nat} (hj : j < T.k) : ∃ g c, rv = .slice (some ⟨g, 0, none⟩) T.k c ∧ T.k ≤ c ∧ c ≤ 9223372036854775807 ∧ b1 ≤ g ∧ g < w.heap.size ∧ w.cell? ⟨g, j * 5, none⟩ = some (.int .i64 (T.q j).wk) ∧ w.cell? ⟨g, j * 5 + 1, none⟩ = some (.int .i64 (T.q j).mc) ∧ w.cell? ⟨g, j * 5 + 2, none⟩ = some (.int .i64 (T.q j).fr) ∧ w.cell? ⟨g, j * 5 + 3, none⟩ = some (.int .i64 (T.q j).to) ∧ w.cell? ⟨g, j * 5 + 4, none⟩ = some (.bool (T.q j).fl) := by
  obtain ⟨g, c, h1, h2, h3, h4, h5⟩ := own_vecR k.kR (by omega)
  refine ⟨g, c, h1, h3, h4, h2, ?_⟩
  have hc := own_cells k.kR (fun _ => rfl) (by omega)
  obtain ⟨g', c', e1, -, e3, e4⟩ := hc
  rw [h1] at e1
  injection e1 with e1
  injection e1 with e1
  injection e1 with e1
  subst e1
  have e5 := fun o v => e4 j o v hj
  rw [Nat.mul_comm 5 j] at e5
  exact ⟨e3, e5 0 _ rfl, e5 1 _ rfl, e5 2 _ rfl, e5 3 _ rfl, e5 4 _ rfl⟩
end
end Go.Proofs.Ytkadinjhfldokaa

namespace Go.Proofs.Ytkadinjhfldokaa
open Go Go.RowKit
theorem exp318 (l : List Value) (h : l.length = 318) : ∃ (us : Nat → Value) (x0 x1 x2 x4 x7 x8 x9 x10 x12 x13 x14 x15 : Value), l = [x0, x1, x2, us 3, x4, us 5, us 6, x7, x8, x9, x10, us 11, x12, x13, x14, x15, us 16, us 17, us 18, us 19, us 20, us 21, us 22, us 23, us 24, us 25, us 26, us 27, us 28, us 29, us 30, us 31, us 32, us 33, us 34, us 35, us 36, us 37, us 38, us 39, us 40, us 41, us 42, us 43, us 44, us 45, us 46, us 47, us 48, us 49, us 50, us 51, us 52, us 53, us 54, us 55, us 56, us 57, us 58, us 59, us 60, us 61, us 62, us 63, us 64, us 65, us 66, us 67, us 68, us 69, us 70, us 71, us 72, us 73, us 74, us 75, us 76, us 77, us 78, us 79, us 80, us 81, us 82, us 83, us 84, us 85, us 86, us 87, us 88, us 89, us 90, us 91, us 92, us 93, us 94, us 95, us 96, us 97, us 98, us 99, us 100, us 101, us 102, us 103, us 104, us 105, us 106, us 107, us 108, us 109, us 110, us 111, us 112, us 113, us 114, us 115, us 116, us 117, us 118, us 119, us 120, us 121, us 122, us 123, us 124, us 125, us 126, us 127, us 128, us 129, us 130, us 131, us 132, us 133, us 134, us 135, us 136, us 137, us 138, us 139, us 140, us 141, us 142, us 143, us 144, us 145, us 146, us 147, us 148, us 149, us 150, us 151, us 152, us 153, us 154, us 155, us 156, us 157, us 158, us 159, us 160, us 161, us 162, us 163, us 164, us 165, us 166, us 167, us 168, us 169, us 170, us 171, us 172, us 173, us 174, us 175, us 176, us 177, us 178, us 179, us 180, us 181, us 182, us 183, us 184, us 185, us 186, us 187, us 188, us 189, us 190, us 191, us 192, us 193, us 194, us 195, us 196, us 197, us 198, us 199, us 200, us 201, us 202, us 203, us 204, us 205, us 206, us 207, us 208, us 209, us 210, us 211, us 212, us 213, us 214, us 215, us 216, us 217, us 218, us 219, us 220, us 221, us 222, us 223, us 224, us 225, us 226, us 227, us 228, us 229, us 230, us 231, us 232, us 233, us 234, us 235, us 236, us 237, us 238, us 239, us 240, us 241, us 242, us 243, us 244, us 245, us 246, us 247, us 248, us 249, us 250, us 251, us 252, us 253, us 254, us 255, us 256, us 257, us 258, us 259, us 260, us 261, us 262, us 263, us 264, us 265, us 266, us 267, us 268, us 269, us 270, us 271, us 272, us 273, us 274, us 275, us 276, us 277, us 278, us 279, us 280, us 281, us 282, us 283, us 284, us 285, us 286, us 287, us 288, us 289, us 290, us 291, us 292, us 293, us 294, us 295, us 296, us 297, us 298, us 299, us 300, us 301, us 302, us 303, us 304, us 305, us 306, us 307, us 308, us 309, us 310, us 311, us 312, us 313, us 314, us 315, us 316, us 317] := by
  have e : l = (List.range 318).map (fun i => l.getD i (.bool false)) := by
    refine List.ext_getElem (by simp [h]) (fun i h1 h2 => ?_)
    simp [List.getD, h1]
  exact ⟨fun i => l.getD i (.bool false), l.getD 0 (.bool false), l.getD 1 (.bool false), l.getD 2 (.bool false), l.getD 4 (.bool false), l.getD 7 (.bool false), l.getD 8 (.bool false), l.getD 9 (.bool false), l.getD 10 (.bool false), l.getD 12 (.bool false), l.getD 13 (.bool false), l.getD 14 (.bool false), l.getD 15 (.bool false), e.trans (by kernel_rfl)⟩
structure AtS (aw : Option Addr) (cw : Nat) (am : Option Addr) (cm : Nat) (D : SimD) (pm pd go gf gr gb : Nat) (s12 : Value) (pt : Nat) (l : List Value) : Prop where
  n : l.length = 318
  s0 : l[0]? = some (.slice aw D.nw cw)
  s1 : l[1]? = some (.slice am D.nm cm)
  s2 : l[2]? = some (.int .i64 D.tr)
  s4 : l[4]? = some (.pointer (some ⟨pm, 0, none⟩))
  s7 : l[7]? = some (.pointer (some ⟨pd, 0, none⟩))
  s8 : l[8]? = some (.slice (some ⟨go, 0, none⟩) D.nw D.nw)
  s9 : l[9]? = some (.slice (some ⟨gf, 0, none⟩) D.nw D.nw)
  s10 : l[10]? = some (.slice (some ⟨gr, 0, none⟩) D.nm D.nm)
  s12 : l[12]? = some (s12)
  s13 : l[13]? = some (.slice (some ⟨gb, 0, none⟩) D.nw D.nw)
  s14 : l[14]? = some (.func (.func 27) #[] #[.pointer (some ⟨pm, 0, none⟩)])
  s15 : l[15]? = some (.pointer (some ⟨pt, 0, none⟩))
theorem AtS.out {aw : Option Addr} {cw : Nat} {am : Option Addr} {cm : Nat} {D : SimD} {pm pd go gf gr gb : Nat} {s12 : Value} {pt : Nat} {l : List Value} (h : AtS aw cw am cm D pm pd go gf gr gb s12 pt l) : ∃ us : Nat → Value, l = [.slice aw D.nw cw, .slice am D.nm cm, .int .i64 D.tr, us 3, .pointer (some ⟨pm, 0, none⟩), us 5, us 6, .pointer (some ⟨pd, 0, none⟩), .slice (some ⟨go, 0, none⟩) D.nw D.nw, .slice (some ⟨gf, 0, none⟩) D.nw D.nw, .slice (some ⟨gr, 0, none⟩) D.nm D.nm, us 11, s12, .slice (some ⟨gb, 0, none⟩) D.nw D.nw, .func (.func 27) #[] #[.pointer (some ⟨pm, 0, none⟩)], .pointer (some ⟨pt, 0, none⟩), us 16, us 17, us 18, us 19, us 20, us 21, us 22, us 23, us 24, us 25, us 26, us 27, us 28, us 29, us 30, us 31, us 32, us 33, us 34, us 35, us 36, us 37, us 38, us 39, us 40, us 41, us 42, us 43, us 44, us 45, us 46, us 47, us 48, us 49, us 50, us 51, us 52, us 53, us 54, us 55, us 56, us 57, us 58, us 59, us 60, us 61, us 62, us 63, us 64, us 65, us 66, us 67, us 68, us 69, us 70, us 71, us 72, us 73, us 74, us 75, us 76, us 77, us 78, us 79, us 80, us 81, us 82, us 83, us 84, us 85, us 86, us 87, us 88, us 89, us 90, us 91, us 92, us 93, us 94, us 95, us 96, us 97, us 98, us 99, us 100, us 101, us 102, us 103, us 104, us 105, us 106, us 107, us 108, us 109, us 110, us 111, us 112, us 113, us 114, us 115, us 116, us 117, us 118, us 119, us 120, us 121, us 122, us 123, us 124, us 125, us 126, us 127, us 128, us 129, us 130, us 131, us 132, us 133, us 134, us 135, us 136, us 137, us 138, us 139, us 140, us 141, us 142, us 143, us 144, us 145, us 146, us 147, us 148, us 149, us 150, us 151, us 152, us 153, us 154, us 155, us 156, us 157, us 158, us 159, us 160, us 161, us 162, us 163, us 164, us 165, us 166, us 167, us 168, us 169, us 170, us 171, us 172, us 173, us 174, us 175, us 176, us 177, us 178, us 179, us 180, us 181, us 182, us 183, us 184, us 185, us 186, us 187, us 188, us 189, us 190, us 191, us 192, us 193, us 194, us 195, us 196, us 197, us 198, us 199, us 200, us 201, us 202, us 203, us 204, us 205, us 206, us 207, us 208, us 209, us 210, us 211, us 212, us 213, us 214, us 215, us 216, us 217, us 218, us 219, us 220, us 221, us 222, us 223, us 224, us 225, us 226, us 227, us 228, us 229, us 230, us 231, us 232, us 233, us 234, us 235, us 236, us 237, us 238, us 239, us 240, us 241, us 242, us 243, us 244, us 245, us 246, us 247, us 248, us 249, us 250, us 251, us 252, us 253, us 254, us 255, us 256, us 257, us 258, us 259, us 260, us 261, us 262, us 263, us 264, us 265, us 266, us 267, us 268, us 269, us 270, us 271, us 272, us 273, us 274, us 275, us 276, us 277, us 278, us 279, us 280, us 281, us 282, us 283, us 284, us 285, us 286, us 287, us 288, us 289, us 290, us 291, us 292, us 293, us 294, us 295, us 296, us 297, us 298, us 299, us 300, us 301, us 302, us 303, us 304, us 305, us 306, us 307, us 308, us 309, us 310, us 311, us 312, us 313, us 314, us 315, us 316, us 317] := by
  obtain ⟨us, x0, x1, x2, x4, x7, x8, x9, x10, x12, x13, x14, x15, rfl⟩ := exp318 l h.n
  have h0 := Option.some.inj h.s0
  have h1 := Option.some.inj h.s1
  have h2 := Option.some.inj h.s2
  have h4 := Option.some.inj h.s4
  have h7 := Option.some.inj h.s7
  have h8 := Option.some.inj h.s8
  have h9 := Option.some.inj h.s9
  have h10 := Option.some.inj h.s10
  have h12 := Option.some.inj h.s12
  have h13 := Option.some.inj h.s13
  have h14 := Option.some.inj h.s14
  have h15 := Option.some.inj h.s15
  subst h0 h1 h2 h4 h7 h8 h9 h10 h12 h13 h14 h15
  exact ⟨us, rfl⟩
/-- A run that is being told: cut at a time at which its machine goes down, or not. -/
def partR (wn mn : Nat) (now et : Int) (c : Option Int) : RunV := match c with
  | some x => ⟨wn, mn, now, x, true⟩
  | none => ⟨wn, mn, now, et, false⟩
theorem Blk.lies {w : World} {n : Nat} {vs : List Value} {t : TypeId} (h : w.heap[n]? = some (.cells vs.toArray t (0, 0))) : Blk w n vs := by
  have hl : n < w.heap.size := (Array.getElem?_eq_some_iff.1 h).1
  exact ⟨hl, fun i v hv => by simp [World.cell?, h, hv], fun o => by simp [World.frozen?, h]⟩
/-- What the document's simulation gives: the runs of the farm's end, in order. -/
def DocOut (D : SimD) (lo : Nat) (w : World) (rv : Value) : Prop := ∃ (S : SimS) (q : Nat → RunV), SimR D true S ∧ (bestW D S.st D.nw < 0 ∨ bestM D S D.nm < 0) ∧ nextT D S = none ∧ (∀ P : RunV → Bool, cn0 P q 0 S.k = cn0 P S.q 0 S.k) ∧ SoR keyR 0 S.k q ∧
  ((S.k = 0 ∧ rv = .slice none 0 0) ∨ (∃ g c, rv = .slice (some ⟨g, 0, none⟩) S.k c ∧ lo ≤ g ∧ S.k ≤ c ∧ c ≤ 9223372036854775807 ∧ VecR w g S.k q))
/-- Block n of a code. -/
def codeBlk (n : Nat) : Code → Option Code
  | .block m c => if m = n then some (.block m c) else codeBlk n c
  | .seq a b => match codeBlk n a with
    | some c => some c
    | none => codeBlk n b
  | .cond _ a b => match codeBlk n a with
    | some c => some c
    | none => codeBlk n b
  | .loop c => codeBlk n c
  | .scope c => codeBlk n c
  | _ => none
def blkOf (f : Func) (n : Nat) : Code := (codeBlk n (f.body.getD .skip)).getD .skip
end Go.Proofs.Ytkadinjhfldokaa
