/- slices.Contains and slices.ContainsFunc of ints, slices.Collect of rangeOf. Conditions: what each theorem names. (with: CtT) -/
import Derived.Test.YtbclecoblcfboaaGreatDoorCtR
import Derived.Test.YtbclecoblcfboaaGreatDoorQK
import Derived.Test.YtbclecoblcfboaaGreatDoorQE
namespace Go.Proofs.YtbclecoblcfboaaGreatDoor
open Go Go.RowKit
/-- Whether p holds below n. -/
def anyQ (p : Nat → Bool) : Nat → Bool
  | 0 => false
  | n + 1 => anyQ p n || p n
theorem anyQ_true {p : Nat → Bool} {k n : Nat} (hk : k < n) (h : p k = true) : anyQ p n = true := by
  induction n with
  | zero => omega
  | succ n ih =>
    unfold anyQ
    by_cases e : k = n
    · subst e; rw [h]; simp
    · rw [ih (by omega)]; rfl
theorem anyQ_range (p : Nat → Bool) (n : Nat) : anyQ p n = (List.range n).any p := by
  induction n with
  | zero => rfl
  | succ n ih => rw [List.range_succ]; simp [anyQ, ih]
theorem anyQ_congr {p q : Nat → Bool} : ∀ n, (∀ k, k < n → p k = q k) → anyQ p n = anyQ q n
  | 0, _ => rfl
  | n + 1, h => by unfold anyQ; rw [anyQ_congr n (fun k hk => h k (by omega)), h n (by omega)]
theorem anyQ_list (l : List Int) (f : Int → Bool) : anyQ (fun j => f (l.getD j 0)) l.length = l.any f := by
  rw [anyQ_range]
  have h : (List.range l.length).map (fun j => l.getD j 0) = l := by
    apply List.ext_getElem?
    intro i
    rw [List.getElem?_map]
    by_cases hi : i < l.length
    · rw [List.getElem?_range hi]; simp [hi]
    · rw [List.getElem?_eq_none (by simpa using hi), List.getElem?_eq_none (by simpa using hi)]; rfl
  conv => rhs; rw [← h]
  rw [List.any_map]
  rfl
set_option maxRecDepth 100000 in
set_option maxHeartbeats 1600000 in
theorem IndexI (a : Option Addr) (n c : Nat) (l : List Int) (x : Int) (w : World) (hl : l.length = n) (hn : n ≤ 65536) (h : IntsAt 0 w a l) :
    Calls Tryz.prog 43 #[.slice a n c, .int .i64 x] w fun e w' => (∃ r : Int, e = .returned (.int .i64 r) ∧ (0 ≤ r ↔ anyQ (fun j => l.getD j 0 == x) n = true)) ∧ Below w.heap.size w w' := by
  obtain ⟨b, off, hA, hC⟩ := h.get
  rw [hl] at hA hC
  obtain ⟨P, hP⟩ : ∃ P : Nat → Bool, P = fun j => l.getD j 0 == x := ⟨_, rfl⟩
  rw [← hP]
  have HP := Lib.hid (fun k => by rw [hP] : ∀ k, P k = (l.getD k 0 == x))
  clear hP
  have HA := Lib.hid hA; have HC := Lib.hid hC
  have HBW := Lib.hid (fun h => cell_lt (hC 0 h) : 0 < n → b < w.heap.size)
  clear hA hC h hl
  go_enter Tryz.func43, Tryz.ntmps43
  go_wp2_with fail
  go_loopw [8] (fun s8 wr => ∃ k : Nat, k ≤ n ∧ s8 = .int .i64 k ∧ anyQ P k = false ∧ Below w.heap.size w wr) (fun s8 _ => n - (intOf s8).toNat)
  case atStart => exact ⟨0, Nat.zero_le _, rfl, rfl, Below.refl _ _⟩
  case round =>
    obtain ⟨k, hk, rfl, hz, hB⟩ := hrel
    have HZ := Lib.hid hz; have HB := Lib.hid hB
    clear hz hB
    by_cases hkm : k < n
    · have hkmi : (k : Int) < (n : Int) := by omega
      obtain rfl := HA.out (by omega)
      have c0 := (HB.out.cell (p := ⟨b, off + k, none⟩) (HBW.out (by omega))).trans (HC.out k hkm)
      have l0 := cell_lt c0; simp only at l0
      have HT := Lib.hid (fun h => anyQ_true hkm h : P k = true → anyQ P n = true)
      have HN := Lib.hid (show anyQ P (k + 1) = (anyQ P k || P k) from rfl)
      obtain ⟨z, hz⟩ : ∃ z, z = l.getD k 0 := ⟨_, rfl⟩
      rw [← hz] at c0
      by_cases hr : x = z
      · have HS := Lib.hid (HT.out (by rw [HP.out, ← hz, hr]; simp))
        clear HN HT hz
        go_wp2_with fail
        go_ret
        exact ⟨⟨_, rfl, by rw [HS.out]; simp⟩, HB.out⟩
      · have HS := Lib.hid (show anyQ P (k + 1) = false by rw [HN.out, HZ.out, HP.out, ← hz, beq_false_of_ne (fun e => hr e.symm)]; rfl)
        clear HN HT hz
        go_wp2_with fail
        go_roundw
        case rel => exact ⟨k + 1, by omega, by go_num, HS.out, HB.out⟩
        case measure => simp [intOf]; omega
    · have hkmi : ¬ (k : Int) < (n : Int) := by omega
      have hkn : k = n := by omega
      have HE := Lib.hid (show anyQ P n = false by rw [← hkn]; exact HZ.out)
      clear hkn
      go_wp2_with fail
      go_ret
      exact ⟨⟨_, rfl, by rw [HE.out]; simp⟩, HB.out⟩
set_option maxRecDepth 100000 in
set_option maxHeartbeats 1600000 in
theorem ContI (a : Option Addr) (n c : Nat) (l : List Int) (x : Int) (w : World) (hl : l.length = n) (hn : n ≤ 65536) (h : IntsAt 0 w a l) :
    Calls Tryz.prog 17 #[.slice a n c, .int .i64 x] w fun e w' => e = .returned (.bool (l.any (fun y => y == x))) ∧ Below w.heap.size w w' := by
  have HC := Lib.hid (IndexI a n c l x w hl hn h)
  have HL := Lib.hid (show l.any (fun y => y == x) = anyQ (fun j => l.getD j 0 == x) n by rw [← hl]; exact (anyQ_list l (fun y => y == x)).symm)
  rw [HL.out]
  obtain ⟨p, hp⟩ : ∃ p, p = anyQ (fun j => l.getD j 0 == x) n := ⟨_, rfl⟩
  rw [← hp] at HC
  rw [← hp]
  clear h hl hp HL
  go_enter Tryz.func17, Tryz.ntmps17
  go_wp2_with (go_at_call 43; refine (HC.out).mono ?_; rintro e w5 ⟨⟨r, rfl, hr⟩, hb⟩)
  have HB := Lib.hid hb; have HR := Lib.hid hr
  clear hb hr
  have HD := Lib.hid (show decide ((0 : Int) ≤ r) = p by
    cases p
    · exact decide_eq_false (fun h => by have := HR.out.1 h; cases this)
    · exact decide_eq_true (HR.out.2 rfl))
  go_wp2_with fail
  go_ret
  exact ⟨by rw [← HD.out]; rfl, HB.out⟩
set_option maxRecDepth 100000 in
set_option maxHeartbeats 1600000 in
theorem IndexFI (K : Nat) (caps : Array Value) (a : Option Addr) (n c : Nat) (l : List Int) (p : Nat → Bool) (w : World) (hl : l.length = n) (hn : n ≤ 65536) (h : IntsAt 0 w a l) (hent : ∀ args w, (callFunc K args).run Tryz.prog w = .ok (.enter K args) w)
    (hk : ∀ j wr, j < n → Below w.heap.size w wr → Calls Tryz.prog K (#[.int .i64 (l.getD j 0)] ++ caps) wr fun e w' => e = .returned (.bool (p j)) ∧ Below wr.heap.size wr w') :
    Calls Tryz.prog 40 #[.slice a n c, .func (.func K) #[] caps] w fun e w' => (∃ r : Int, e = .returned (.int .i64 r) ∧ (0 ≤ r ↔ anyQ p n = true)) ∧ Below w.heap.size w w' := by
  obtain ⟨b, off, hA, hC⟩ := h.get
  rw [hl] at hA hC
  have HA := Lib.hid hA; have HCC := Lib.hid hC
  have HBW := Lib.hid (fun h => cell_lt (hC 0 h) : 0 < n → b < w.heap.size)
  have HK := Lib.hid hk
  clear hA hC h hl hk
  go_enter Tryz.func40, Tryz.ntmps40
  go_wp2_with fail
  go_loopw [8] (fun s8 wr => ∃ k : Nat, k ≤ n ∧ s8 = .int .i64 k ∧ anyQ p k = false ∧ Below w.heap.size w wr) (fun s8 _ => n - (intOf s8).toNat)
  case atStart => exact ⟨0, Nat.zero_le _, rfl, rfl, Below.refl _ _⟩
  case round =>
    obtain ⟨k, hk, rfl, hz, hB⟩ := hrel
    have HZ := Lib.hid hz; have HB := Lib.hid hB
    clear hz
    by_cases hkm : k < n
    · have hkmi : (k : Int) < (n : Int) := by omega
      obtain rfl := HA.out (by omega)
      have c0 := (HB.out.cell (p := ⟨b, off + k, none⟩) (HBW.out (by omega))).trans (HCC.out k hkm)
      have l0 := cell_lt c0; simp only at l0
      have HC := Lib.hid (HK.out k wr hkm hB)
      have HT := Lib.hid (fun h => anyQ_true hkm h : p k = true → anyQ p n = true)
      have HN := Lib.hid (show anyQ p (k + 1) = (anyQ p k || p k) from rfl)
      generalize l.getD k 0 = zf at *
      cases hr : p k
      · rw [hr] at HC
        have HS := Lib.hid (show anyQ p (k + 1) = false by rw [HN.out, HZ.out, hr]; rfl)
        clear hB hr HN HT
        go_wp2_with fail
        refine (HC.out).mono ?_
        rintro e w5 ⟨rfl, hb5⟩
        have HB5 := Lib.hid (HB.out.trans (hb5.mono HB.out.size))
        clear HC hb5 c0 l0
        go_wp2_with fail
        go_roundw
        case rel => exact ⟨k + 1, by omega, by go_num, HS.out, HB5.out⟩
        case measure => simp [intOf]; omega
      · rw [hr] at HC
        have HS := Lib.hid (HT.out hr)
        clear hB hr HN HT
        go_wp2_with fail
        refine (HC.out).mono ?_
        rintro e w5 ⟨rfl, hb5⟩
        have HB5 := Lib.hid (HB.out.trans (hb5.mono HB.out.size))
        clear HC hb5 c0 l0
        go_wp2_with fail
        go_ret
        exact ⟨⟨_, rfl, by rw [HS.out]; simp⟩, HB5.out⟩
    · have hkmi : ¬ (k : Int) < (n : Int) := by omega
      have hkn : k = n := by omega
      have HE := Lib.hid (show anyQ p n = false by rw [← hkn]; exact HZ.out)
      clear hB hkn
      go_wp2_with fail
      go_ret
      exact ⟨⟨_, rfl, by rw [HE.out]; simp⟩, HB.out⟩
set_option maxRecDepth 100000 in
set_option maxHeartbeats 1600000 in
theorem ContainsFI (K : Nat) (caps : Array Value) (a : Option Addr) (n c : Nat) (l : List Int) (p : Nat → Bool) (w : World) (hl : l.length = n) (hn : n ≤ 65536) (h : IntsAt 0 w a l) (hent : ∀ args w, (callFunc K args).run Tryz.prog w = .ok (.enter K args) w)
    (hk : ∀ j wr, j < n → Below w.heap.size w wr → Calls Tryz.prog K (#[.int .i64 (l.getD j 0)] ++ caps) wr fun e w' => e = .returned (.bool (p j)) ∧ Below wr.heap.size wr w') :
    Calls Tryz.prog 13 #[.slice a n c, .func (.func K) #[] caps] w fun e w' => e = .returned (.bool (anyQ p n)) ∧ Below w.heap.size w w' := by
  have HC := Lib.hid (IndexFI K caps a n c l p w hl hn h hent hk)
  clear h hk hent hl
  go_enter Tryz.func13, Tryz.ntmps13
  go_wp2_with fail
  refine (HC.out).mono ?_
  rintro e w5 ⟨⟨r, rfl, hr⟩, hb⟩
  have HB := Lib.hid hb; have HR := Lib.hid hr
  clear hb hr
  have HD := Lib.hid (show decide ((0 : Int) ≤ r) = anyQ p n by
    cases ha : anyQ p n
    · exact decide_eq_false (fun h => by rw [HR.out, ha] at h; cases h)
    · exact decide_eq_true (HR.out.2 ha))
  go_wp2_with fail
  go_ret
  exact ⟨by rw [← HD.out]; rfl, HB.out⟩
def numI (m : Nat) : List Int := (List.range m).map (fun x : Nat => (x : Int))
theorem numI_len (m : Nat) : (numI m).length = m := by simp [numI]
theorem numI_at {m j : Nat} (h : j < m) : (numI m).getD j 0 = (j : Int) := by
  rw [List.getD_eq_getElem?_getD]
  simp [numI, List.getElem?_range h]
theorem numV_map (m : Nat) : (List.range m).map numV = (numI m).map (Value.int .i64) := by
  unfold numI
  rw [List.map_map]
  rfl
/-- What Collect hands back. -/
def ColP (m : Nat) (w : World) (e : Ending) (w' : World) : Prop := ∃ a c, e = .returned (.slice a m c) ∧ IntsAt 0 w' a (numI m) ∧ Below w.heap.size w w'
theorem NmR.ints {w wr : World} {u : Value} {l : List Int} (k : NmR w wr u l) : ∃ a c, u = .slice a l.length c ∧ IntsAt 0 wr a l := by
  obtain ⟨g, a, c, rfl, h1, h2⟩ := k.cells
  refine ⟨a, c, rfl, ?_⟩
  rcases Nat.eq_zero_or_pos l.length with h0 | h0
  · exact .inl (List.eq_nil_of_length_eq_zero h0)
  · exact .inr ⟨g, 0, h1 h0, Nat.zero_le _, cell_lt (h2 0 h0), fun i v hv => by
      have hi := (List.getElem?_eq_some_iff.1 hv).1
      rw [h2 i hi, List.getD_eq_getElem?_getD, hv, Option.getD_some]⟩
set_option maxRecDepth 100000 in
set_option maxHeartbeats 1600000 in
theorem Collect_any (Bn m : Nat) (hm : m ≤ 1000) (w : World) (hBn : Bn < w.heap.size) (hc : w.cell? ⟨Bn, 0, none⟩ = some (.int .i64 m)) :
    Calls Tryz.prog 14 #[.func (.func 42) #[] #[.pointer (some ⟨Bn, 0, none⟩)]] w (ColP m w) := by
  have HA : Hid (Calls Tryz.prog 41 #[.slice none 0 0, .func (.func 42) #[] #[.pointer (some ⟨Bn, 0, none⟩)]] w fun e W' => ∃ v, e = .returned v ∧ NmR w W' v (numI m)) := Lib.hid ((callsIn_wide.1 (apSeq_in Fence.wide 5 trivial trivial rfl (by omega) Bn m hm w hBn hc)).mono (by
    rintro e W' ⟨v, rfl, h1, h2⟩
    exact ⟨v, rfl, ⟨by rw [numI_len, ← numV_map]; exact h1, h2⟩⟩))
  clear hc hBn
  go_enter Tryz.func14, Tryz.ntmps14
  go_wp2_with (go_at_call 41; refine (HA.out).mono ?_; rintro e w5 ⟨v, rfl, hv⟩)
  obtain ⟨a, c, rfl, hI⟩ := hv.ints
  go_wp2_with fail
  go_ret
  exact ⟨a, c, by rw [numI_len]; rfl, hI, hv.bel⟩
set_option maxRecDepth 100000 in
set_option maxHeartbeats 1600000 in
theorem rangeOf_any (m : Int) (w : World) :
    Calls Tryz.prog 15 #[.int .i64 m] w fun e w' => e = .returned (.func (.func 42) #[] #[.pointer (some ⟨w.heap.size, 0, none⟩)]) ∧ w' = w.alloc (.cells #[.int .i64 m] 3) := by
  go_enter Tryz.func15, Tryz.ntmps15
  go_wp2_with fail
  go_ret
  exact ⟨rfl, rfl⟩
end Go.Proofs.YtbclecoblcfboaaGreatDoor

namespace Go.Proofs.YtbclecoblcfboaaGreatDoor
open Go Go.RowKit
theorem stO_and (ns : List NodeD) (C : Nat → Int) (k m : Nat) : stO ns C k m = (!(C m == C k) && (insO ns m).any (fun y => y == (k : Int))) := by
  unfold stO
  by_cases e : C m = C k
  · simp [e]
  · have h1 : (C m == C k) = false := beq_false_of_ne e
    have h2 : (C k != C m) = true := by simpa using fun h => e h.symm
    simp [h1, h2]
set_option maxRecDepth 100000 in
set_option maxHeartbeats 3200000 in
theorem cutCl_any (a : Option Addr) (c : Nat) (ns : List NodeD) (out : Int) (n bc oc cc : Nat) (C : Nat → Int) (pc pk pg k m : Nat) (w : World) (hn : n = ns.length) (h : IsNodes w a c ns) (hz : fstN (ndE ns) ns.length = 0)
    (hC : ∀ i, i < n → w.cell? ⟨bc, oc + i, none⟩ = some (.int .i64 (C i))) (hm : m < n) (hk : k < n) (B1 : Blk w pc [.slice (some ⟨bc, oc, none⟩) n cc]) (B2 : Blk w pk [.int .i64 k]) (B3 : Blk w pg [.slice a n c, .int .i64 out]) :
    Calls Tryz.prog 16 #[.int .i64 m, .pointer (some ⟨pc, 0, none⟩), .pointer (some ⟨pk, 0, none⟩), .pointer (some ⟨pg, 0, none⟩)] w fun e w' => e = .returned (.bool (stO ns C k m)) ∧ Below w.heap.size w w' := by
  have hmi : (m : Int) < (n : Int) := by omega
  have hki : (k : Int) < (n : Int) := by omega
  obtain ⟨nd, hnd⟩ : ∃ nd, ns[m]? = some nd := ⟨_, List.getElem?_eq_getElem (by omega)⟩
  obtain ⟨b, off, rfl, hna, hnb⟩ := h.get hnd
  have hins : insO ns m = nd.ins := by unfold insO; rw [hnd]
  have hin := (nd_in hz (show m < ns.length by omega)).2.1
  rw [hins] at hin
  have hcn : n ≤ c ∧ c ≤ 9223372036854775807 := by have h1 := h.lc; have h2 := h.lm; unfold maxLen at h2; omega
  obtain ⟨hc1, hc2⟩ := hcn
  rw [stO_and, hins]
  obtain ⟨op, ins, ints, reals, ia, ic, na, nc, ra, rc⟩ := nd
  have x1 : w.cell? ⟨b, off + m * 4 + 1, none⟩ = some (.slice ia ins.length ic) := hna.c1
  have y0 := hC m hm
  have y1 := hC k hk
  have z1 := B1.c 0 _ rfl; have z2 := B2.c 0 _ rfl; have z3 := B3.c 0 _ rfl
  have HI := Lib.hid hna.i
  have HIN := Lib.hid hin
  obtain ⟨v, hv⟩ : ∃ v, v = C m := ⟨_, rfl⟩
  obtain ⟨y, hy⟩ : ∃ y, y = C k := ⟨_, rfl⟩
  rw [← hv] at y0
  rw [← hy] at y1
  rw [← hv, ← hy]
  obtain ⟨R, hR⟩ : ∃ R, R = (!(v == y) && ins.any (fun y => y == (k : Int))) := ⟨_, rfl⟩
  rw [← hR]
  have HR := Lib.hid hR
  have HCP : Hid (∀ w', Below w.heap.size w w' → w'.cell? ⟨pc, 0, none⟩ = some (.slice (some ⟨bc, oc, none⟩) n cc) ∧ w'.cell? ⟨pk, 0, none⟩ = some (.int .i64 k) ∧ w'.cell? ⟨pg, 0, none⟩ = some (.slice (some ⟨b, off, none⟩) n c) ∧ w'.cell? ⟨bc, oc + m, none⟩ = some (.int .i64 v) ∧ w'.cell? ⟨bc, oc + k, none⟩ = some (.int .i64 y) ∧ w'.cell? ⟨b, off + m * 4 + 1, none⟩ = some (.slice ia ins.length ic)) := Lib.hid (fun w' hb => by
    simp only at HIN
    exact ⟨(hb.cell (p := ⟨pc, 0, none⟩) (cell_lt z1)).trans z1, (hb.cell (p := ⟨pk, 0, none⟩) (cell_lt z2)).trans z2, (hb.cell (p := ⟨pg, 0, none⟩) (cell_lt z3)).trans z3, (hb.cell (p := ⟨bc, oc + m, none⟩) (cell_lt y0)).trans y0, (hb.cell (p := ⟨bc, oc + k, none⟩) (cell_lt y1)).trans y1, (hb.cell (p := ⟨b, off + m * 4 + 1, none⟩) (cell_lt x1)).trans x1⟩)
  clear hnd hna hnb hins hin h hC B1 B2 B3 x1 y0 y1 z1 z2 z3 hv hy hz hn hR
  simp only at HI HIN
  go_enter Tryz.func16, Tryz.ntmps16
  go_upto_region 1 with fail
  refine wp_region_C (fun w' => w'.cell? ⟨pc, 0, none⟩ = some (.slice (some ⟨bc, oc, none⟩) n cc) ∧ w'.cell? ⟨pk, 0, none⟩ = some (.int .i64 k) ∧ w'.cell? ⟨pg, 0, none⟩ = some (.slice (some ⟨b, off, none⟩) n c) ∧ w'.cell? ⟨bc, oc + m, none⟩ = some (.int .i64 v) ∧ w'.cell? ⟨bc, oc + k, none⟩ = some (.int .i64 y) ∧ w'.cell? ⟨b, off + m * 4 + 1, none⟩ = some (.slice ia ins.length ic)) 19 20 (by kernel_rfl) rfl ?_
  have hC := HCP.out w.drew ((Below.refl _ _).drew)
  refine wpAnyC_take (i := 0) (v := .slice (some ⟨bc, oc, none⟩) n cc) rfl (by kernel_rfl) (by kernel_rfl) (fun _ _ _ h => h) (.inl ⟨rfl, fun w' hw' => ?_⟩) hC ?_
  · obtain ⟨k0, k1, k2, k3, k4, k5⟩ := hw'
    go_simp
  refine wpAnyC_act (by rfl) ?_
  simp only [Act.put, List.setIfInBounds_toArray, List.set_cons_zero, List.set_cons_succ]
  refine wpAnyC_take (i := 1) (v := .int .i64 m) rfl (by kernel_rfl) (by kernel_rfl) (fun _ _ _ h => h) (.inl ⟨rfl, fun w' hw' => ?_⟩) hC ?_
  · obtain ⟨k0, k1, k2, k3, k4, k5⟩ := hw'
    go_simp
  refine wpAnyC_act (by rfl) ?_
  simp only [Act.put, List.setIfInBounds_toArray, List.set_cons_zero, List.set_cons_succ]
  refine wpAnyC_take (i := 2) (v := .pointer (some ⟨bc, oc + m, none⟩)) rfl (by kernel_rfl) (by kernel_rfl) (fun _ _ _ h => h) (.inl ⟨rfl, fun w' hw' => ?_⟩) hC ?_
  · obtain ⟨k0, k1, k2, k3, k4, k5⟩ := hw'
    go_simp
  refine wpAnyC_act (by rfl) ?_
  simp only [Act.put, List.setIfInBounds_toArray, List.set_cons_zero, List.set_cons_succ]
  refine wpAnyC_take (i := 3) (v := .int .i64 v) rfl (by kernel_rfl) (by kernel_rfl) (fun _ _ _ h => h) (.inl ⟨rfl, fun w' hw' => ?_⟩) hC ?_
  · obtain ⟨k0, k1, k2, k3, k4, k5⟩ := hw'
    go_simp
  refine wpAnyC_act (by rfl) ?_
  simp only [Act.put, List.setIfInBounds_toArray, List.set_cons_zero, List.set_cons_succ]
  refine wpAnyC_take (i := 4) (v := .slice (some ⟨bc, oc, none⟩) n cc) rfl (by kernel_rfl) (by kernel_rfl) (fun _ _ _ h => h) (.inl ⟨rfl, fun w' hw' => ?_⟩) hC ?_
  · obtain ⟨k0, k1, k2, k3, k4, k5⟩ := hw'
    go_simp
  refine wpAnyC_act (by rfl) ?_
  simp only [Act.put, List.setIfInBounds_toArray, List.set_cons_zero, List.set_cons_succ]
  refine wpAnyC_take (i := 5) (v := .int .i64 k) rfl (by kernel_rfl) (by kernel_rfl) (fun _ _ _ h => h) (.inl ⟨rfl, fun w' hw' => ?_⟩) hC ?_
  · obtain ⟨k0, k1, k2, k3, k4, k5⟩ := hw'
    go_simp
  refine wpAnyC_act (by rfl) ?_
  simp only [Act.put, List.setIfInBounds_toArray, List.set_cons_zero, List.set_cons_succ]
  refine wpAnyC_take (i := 6) (v := .pointer (some ⟨bc, oc + k, none⟩)) rfl (by kernel_rfl) (by kernel_rfl) (fun _ _ _ h => h) (.inl ⟨rfl, fun w' hw' => ?_⟩) hC ?_
  · obtain ⟨k0, k1, k2, k3, k4, k5⟩ := hw'
    go_simp
  refine wpAnyC_act (by rfl) ?_
  simp only [Act.put, List.setIfInBounds_toArray, List.set_cons_zero, List.set_cons_succ]
  refine wpAnyC_take (i := 7) (v := .int .i64 y) rfl (by kernel_rfl) (by kernel_rfl) (fun _ _ _ h => h) (.inl ⟨rfl, fun w' hw' => ?_⟩) hC ?_
  · obtain ⟨k0, k1, k2, k3, k4, k5⟩ := hw'
    go_simp
  refine wpAnyC_act (by rfl) ?_
  simp only [Act.put, List.setIfInBounds_toArray, List.set_cons_zero, List.set_cons_succ]
  by_cases hvy : v = y
  · have HV : Hid (R = false) := Lib.hid (by rw [HR.out, hvy]; simp)
    refine wpAnyC_take (i := 8) (v := .bool false) rfl (by kernel_rfl) (by kernel_rfl) (fun _ _ _ h => h) (.inl ⟨rfl, fun w' hw' => ?_⟩) hC ?_
    · obtain ⟨k0, k1, k2, k3, k4, k5⟩ := hw'
      go_simp
    refine wpAnyC_act (by rfl) ?_
    simp only [Act.put, List.setIfInBounds_toArray, List.set_cons_zero, List.set_cons_succ]
    refine wpAnyC_take (i := 9) (v := .bool false) rfl (by kernel_rfl) (by kernel_rfl) (fun _ _ _ h => h) (.inl ⟨rfl, fun w' hw' => ?_⟩) hC ?_
    · obtain ⟨k0, k1, k2, k3, k4, k5⟩ := hw'
      go_simp
    refine wpAnyC_act (by rfl) ?_
    simp only [Act.put, List.setIfInBounds_toArray, List.set_cons_zero, List.set_cons_succ]
    refine wpAnyC_take (i := 10) (v := undef) rfl (by kernel_rfl) (by kernel_rfl) (fun _ _ _ h => h) (.inr ⟨rfl, rfl⟩) hC ?_
    refine wpAnyC_act (by rfl) ?_
    simp only [Act.put, List.setIfInBounds_toArray, List.set_cons_zero, List.set_cons_succ]
    refine wpAnyC_take (i := 11) (v := undef) rfl (by kernel_rfl) (by kernel_rfl) (fun _ _ _ h => h) (.inr ⟨rfl, rfl⟩) hC ?_
    refine wpAnyC_act (by rfl) ?_
    simp only [Act.put, List.setIfInBounds_toArray, List.set_cons_zero, List.set_cons_succ]
    refine wpAnyC_take (i := 12) (v := undef) rfl (by kernel_rfl) (by kernel_rfl) (fun _ _ _ h => h) (.inr ⟨rfl, rfl⟩) hC ?_
    refine wpAnyC_act (by rfl) ?_
    simp only [Act.put, List.setIfInBounds_toArray, List.set_cons_zero, List.set_cons_succ]
    refine wpAnyC_take (i := 13) (v := undef) rfl (by kernel_rfl) (by kernel_rfl) (fun _ _ _ h => h) (.inr ⟨rfl, rfl⟩) hC ?_
    refine wpAnyC_act (by rfl) ?_
    simp only [Act.put, List.setIfInBounds_toArray, List.set_cons_zero, List.set_cons_succ]
    refine wpAnyC_take (i := 14) (v := undef) rfl (by kernel_rfl) (by kernel_rfl) (fun _ _ _ h => h) (.inr ⟨rfl, rfl⟩) hC ?_
    refine wpAnyC_act (by rfl) ?_
    simp only [Act.put, List.setIfInBounds_toArray, List.set_cons_zero, List.set_cons_succ]
    refine wpAnyC_take (i := 15) (v := undef) rfl (by kernel_rfl) (by kernel_rfl) (fun _ _ _ h => h) (.inr ⟨rfl, rfl⟩) hC ?_
    refine wpAnyC_act (by rfl) ?_
    simp only [Act.put, List.setIfInBounds_toArray, List.set_cons_zero, List.set_cons_succ]
    refine wpAnyC_take (i := 16) (v := undef) rfl (by kernel_rfl) (by kernel_rfl) (fun _ _ _ h => h) (.inr ⟨rfl, rfl⟩) hC ?_
    refine wpAnyC_act (by rfl) ?_
    simp only [Act.put, List.setIfInBounds_toArray, List.set_cons_zero, List.set_cons_succ]
    refine wpAnyC_take (i := 17) (v := undef) rfl (by kernel_rfl) (by kernel_rfl) (fun _ _ _ h => h) (.inr ⟨rfl, rfl⟩) hC ?_
    refine wpAnyC_act (by rfl) ?_
    simp only [Act.put, List.setIfInBounds_toArray, List.set_cons_zero, List.set_cons_succ]
    refine wpAnyC_take (i := 18) (v := .bool false) rfl (by kernel_rfl) (by kernel_rfl) (fun _ _ _ h => h) (.inl ⟨rfl, fun w' hw' => ?_⟩) hC ?_
    · obtain ⟨k0, k1, k2, k3, k4, k5⟩ := hw'
      go_simp
    refine wpAnyC_act (by rfl) ?_
    simp only [Act.put, List.setIfInBounds_toArray, List.set_cons_zero, List.set_cons_succ]
    clear hC
    refine wpAnyC_one (i := 19) rfl (by kernel_rfl) (fun K hK => ?_)
    go_simp
    refine hK _ _ (fun h => by rw [getD_setSelf] at h; cases h) ?_
    clear hK K
    refine wpAnyC_done (by kernel_rfl) ?_
    go_wp2_with fail
    go_ret
    rw [HV.out]
    exact ⟨rfl, (Below.refl _ _).drew⟩
  · have HV : Hid (R = ins.any (fun y => y == (k : Int))) := Lib.hid (by rw [HR.out, beq_false_of_ne hvy]; rfl)
    refine wpAnyC_take (i := 8) (v := .bool true) rfl (by kernel_rfl) (by kernel_rfl) (fun _ _ _ h => h) (.inl ⟨rfl, fun w' hw' => ?_⟩) hC ?_
    · obtain ⟨k0, k1, k2, k3, k4, k5⟩ := hw'
      go_simp
    refine wpAnyC_act (by rfl) ?_
    simp only [Act.put, List.setIfInBounds_toArray, List.set_cons_zero, List.set_cons_succ]
    refine wpAnyC_take (i := 9) (v := .bool true) rfl (by kernel_rfl) (by kernel_rfl) (fun _ _ _ h => h) (.inl ⟨rfl, fun w' hw' => ?_⟩) hC ?_
    · obtain ⟨k0, k1, k2, k3, k4, k5⟩ := hw'
      go_simp
    refine wpAnyC_act (by rfl) ?_
    simp only [Act.put, List.setIfInBounds_toArray, List.set_cons_zero, List.set_cons_succ]
    refine wpAnyC_take (i := 10) (v := .pointer (some ⟨pg, 0, none⟩)) rfl (by kernel_rfl) (by kernel_rfl) (fun _ _ _ h => h) (.inl ⟨rfl, fun w' hw' => ?_⟩) hC ?_
    · obtain ⟨k0, k1, k2, k3, k4, k5⟩ := hw'
      go_simp
    refine wpAnyC_act (by rfl) ?_
    simp only [Act.put, List.setIfInBounds_toArray, List.set_cons_zero, List.set_cons_succ]
    refine wpAnyC_take (i := 11) (v := .slice (some ⟨b, off, none⟩) n c) rfl (by kernel_rfl) (by kernel_rfl) (fun _ _ _ h => h) (.inl ⟨rfl, fun w' hw' => ?_⟩) hC ?_
    · obtain ⟨k0, k1, k2, k3, k4, k5⟩ := hw'
      go_simp
    refine wpAnyC_act (by rfl) ?_
    simp only [Act.put, List.setIfInBounds_toArray, List.set_cons_zero, List.set_cons_succ]
    refine wpAnyC_take (i := 12) (v := .int .i64 m) rfl (by kernel_rfl) (by kernel_rfl) (fun _ _ _ h => h) (.inl ⟨rfl, fun w' hw' => ?_⟩) hC ?_
    · obtain ⟨k0, k1, k2, k3, k4, k5⟩ := hw'
      go_simp
    refine wpAnyC_act (by rfl) ?_
    simp only [Act.put, List.setIfInBounds_toArray, List.set_cons_zero, List.set_cons_succ]
    refine wpAnyC_take (i := 13) (v := .pointer (some ⟨b, off + m * 4, none⟩)) rfl (by kernel_rfl) (by kernel_rfl) (fun _ _ _ h => h) (.inl ⟨rfl, fun w' hw' => ?_⟩) hC ?_
    · obtain ⟨k0, k1, k2, k3, k4, k5⟩ := hw'
      go_simp
    refine wpAnyC_act (by rfl) ?_
    simp only [Act.put, List.setIfInBounds_toArray, List.set_cons_zero, List.set_cons_succ]
    refine wpAnyC_take (i := 14) (v := .pointer (some ⟨b, off + m * 4 + 1, none⟩)) rfl (by kernel_rfl) (by kernel_rfl) (fun _ _ _ h => h) (.inl ⟨rfl, fun w' hw' => ?_⟩) hC ?_
    · obtain ⟨k0, k1, k2, k3, k4, k5⟩ := hw'
      go_simp
    refine wpAnyC_act (by rfl) ?_
    simp only [Act.put, List.setIfInBounds_toArray, List.set_cons_zero, List.set_cons_succ]
    refine wpAnyC_take (i := 15) (v := .slice ia ins.length ic) rfl (by kernel_rfl) (by kernel_rfl) (fun _ _ _ h => h) (.inl ⟨rfl, fun w' hw' => ?_⟩) hC ?_
    · obtain ⟨k0, k1, k2, k3, k4, k5⟩ := hw'
      go_simp
    refine wpAnyC_act (by rfl) ?_
    simp only [Act.put, List.setIfInBounds_toArray, List.set_cons_zero, List.set_cons_succ]
    refine wpAnyC_take (i := 16) (v := .int .i64 k) rfl (by kernel_rfl) (by kernel_rfl) (fun _ _ _ h => h) (.inl ⟨rfl, fun w' hw' => ?_⟩) hC ?_
    · obtain ⟨k0, k1, k2, k3, k4, k5⟩ := hw'
      go_simp
    refine wpAnyC_act (by rfl) ?_
    simp only [Act.put, List.setIfInBounds_toArray, List.set_cons_zero, List.set_cons_succ]
    obtain ⟨r, hr⟩ : ∃ r, r = ins.any (fun y => y == (k : Int)) := ⟨_, rfl⟩
    have HCO := Lib.hid (fun w' hw' => ContI ia ins.length ic ins k w' rfl (by have := HIN.out; omega) (HI.out.past hw') : ∀ w', Below w.heap.size w w' → _)
    rw [← hr] at HCO HV
    clear hr
    refine wpAnyC_one (i := 17) rfl (by kernel_rfl) (fun K hK => ?_)
    go_simp
    refine (HCO.out _ ((Below.refl _ _).drew)).mono ?_
    rintro e w5 ⟨rfl, hb5⟩
    have hb : Below w.heap.size w w5 := (Below.refl _ _).drew.trans (hb5.mono (by simp))
    have HB := Lib.hid hb
    go_simp
    refine hK _ _ (fun _ => HCP.out _ hb) ?_
    clear hK K hb5 hb hC
    refine wpAnyC_one (i := 18) rfl (by kernel_rfl) (fun K hK => ?_)
    go_simp
    refine hK _ _ (fun _ => HCP.out _ HB.out) ?_
    clear hK K
    refine wpAnyC_one (i := 19) rfl (by kernel_rfl) (fun K hK => ?_)
    go_simp
    refine hK _ _ (fun h => by rw [getD_setSelf] at h; cases h) ?_
    clear hK K
    refine wpAnyC_done (by kernel_rfl) ?_
    go_wp2_with fail
    go_ret
    rw [HV.out]
    exact ⟨by simp, HB.out⟩
end Go.Proofs.YtbclecoblcfboaaGreatDoor
