/- Cuts of a graph as plain data: what is wrong with a cut, the fuser's cut, what is stored. No program. No condition. (with: CtC) -/
import Derived.Test.YtbclecoblcfboaaGreatDoorQF
import Derived.Test.YtbclecoblcfboaaGreatDoorGhD
namespace Go.Proofs.YtbclecoblcfboaaGreatDoor
open Go Go.RowKit
/-- Whether node j looks around. -/
def arO (ns : List NodeD) (j : Nat) : Bool := match ns[j]? with
  | none => false
  | some n => match opK n.op.data.toList with
    | none => false
    | some k => (F k).area
theorem arO_at {ns : List NodeD} {j k : Nat} {n : NodeD} (hj : ns[j]? = some n) (hk : opK n.op.data.toList = some k) : arO ns j = (F k).area := by
  unfold arO; rw [hj]; simp only; rw [hk]
/-- What a cut says of x. -/
def cv (C : Nat → Int) (x : Int) : Int := C x.toNat
def ckI (C : Nat → Int) (i : Nat) (ins : List Int) : Nat → Int := fun j => if C i < cv C (ins.getD j 0) then 8 else 0
def ckA (C : Nat → Int) (i : Nat) (ar : Bool) (ins : List Int) : Nat → Int := fun j => if ar = true ∧ cv C (ins.getD j 0) = C i then 12 else 0
def ck1 (C : Nat → Int) (i : Nat) (ar : Bool) (ins : List Int) : Int := if C i < 0 ∨ 99 < C i then 3 else fst2 (fstN (ckI C i ins) ins.length) (fstN (ckA C i ar ins) ins.length)
def insO (ns : List NodeD) (j : Nat) : List Int := match ns[j]? with
  | none => []
  | some n => n.ins
def ckE (ns : List NodeD) (C : Nat → Int) (i : Nat) : Int := ck1 C i (arO ns i) (insO ns i)
/-- What is wrong with a cut. -/
def cE (ns : List NodeD) (out : Int) (cut : List Int) : Int := fst2 (gE ns out) (if cut.length = ns.length then fstN (ckE ns (fun i => cut.getD i 0)) ns.length else 2)
/-- The greatest level of the first j that go in. -/
def lvM (L : Nat → Int) (ins : List Int) : Nat → Int
  | 0 => 0
  | j + 1 => max (lvM L ins j) (L (ins.getD j 0).toNat)
/-- The levels when i nodes are done. -/
def lvS (ns : List NodeD) : Nat → Nat → Int
  | 0 => fun _ => 0
  | i + 1 => fun q => if q = i then lvM (lvS ns i) (insO ns i) (insO ns i).length + (if arO ns i = true then 1 else 0) else lvS ns i q
theorem lvS_new (ns : List NodeD) (i : Nat) : lvS ns (i + 1) i = lvM (lvS ns i) (insO ns i) (insO ns i).length + (if arO ns i = true then 1 else 0) := by
  simp [lvS]
theorem lvS_old (ns : List NodeD) {i q : Nat} (h : q ≠ i) : lvS ns (i + 1) q = lvS ns i q := by
  simp [lvS, h]
theorem lvS_far (ns : List NodeD) {i q : Nat} (h : i ≤ q) : lvS ns i q = 0 := by
  induction i with
  | zero => rfl
  | succ i ih => rw [lvS_old ns (by omega)]; exact ih (by omega)
theorem lvS_stay (ns : List NodeD) {q i j : Nat} (h : q < i) (hj : i ≤ j) : lvS ns j q = lvS ns i q := by
  induction j with
  | zero => omega
  | succ j ih =>
    by_cases e : i = j + 1
    · rw [e]
    · rw [lvS_old ns (by omega)]; exact ih (by omega)
theorem lvM_le {L : Nat → Int} {ins : List Int} {b : Int} (hb : 0 ≤ b) : ∀ n, (∀ j, j < n → L (ins.getD j 0).toNat ≤ b) → lvM L ins n ≤ b
  | 0, _ => hb
  | n + 1, h => by
    have h1 := lvM_le hb n (fun j hj => h j (by omega))
    have h2 := h n (by omega)
    unfold lvM
    omega
theorem lvM_ge {L : Nat → Int} {ins : List Int} : ∀ n j, j < n → L (ins.getD j 0).toNat ≤ lvM L ins n
  | 0, j, h => by omega
  | n + 1, j, h => by
    unfold lvM
    by_cases e : j = n
    · subst e; omega
    · have := lvM_ge (L := L) (ins := ins) n j (by omega)
      omega
theorem lvM_nn {L : Nat → Int} {ins : List Int} : ∀ n, 0 ≤ lvM L ins n
  | 0 => Int.le_refl 0
  | n + 1 => by
    have := lvM_nn (L := L) (ins := ins) n
    unfold lvM
    omega
theorem area_in {k : Nat} (hk : k < 27) (h : (F k).area = true) : 0 < (F k).ins.length := by
  have : ∀ k, k < 27 → (F k).area = true → 0 < (F k).ins.length := by decide +kernel
  exact this k hk h
/-- What a right graph's node is. -/
theorem nd_in {ns : List NodeD} (hz : fstN (ndE ns) ns.length = 0) {i : Nat} (hi : i < ns.length) : (∀ j, j < (insO ns i).length → 0 ≤ (insO ns i).getD j 0 ∧ (insO ns i).getD j 0 < (i : Int)) ∧ (insO ns i).length ≤ 3 ∧ (arO ns i = true → 0 < (insO ns i).length) := by
  obtain ⟨n, hn⟩ : ∃ n, ns[i]? = some n := ⟨_, List.getElem?_eq_getElem hi⟩
  obtain ⟨k, h1, h2, h3, h4, h5, h6, h7, h8⟩ := nd_ok hn (fstN_zero hz i hi)
  have e : insO ns i = n.ins := by unfold insO; rw [hn]
  rw [e]
  refine ⟨h7, by rw [h4]; exact (F_small h1).2.1, fun ha => ?_⟩
  rw [arO_at hn h3] at ha
  rw [h4]
  exact area_in h1 ha
theorem lvS_bd {ns : List NodeD} (hz : fstN (ndE ns) ns.length = 0) : ∀ i, i ≤ ns.length → ∀ q, q < i → 0 ≤ lvS ns i q ∧ lvS ns i q ≤ (q : Int) := by
  intro i
  induction i with
  | zero => intro _ q hq; omega
  | succ i ih =>
    intro hi q hq
    have IH := ih (by omega)
    by_cases e : q = i
    · subst e
      obtain ⟨hin, -, har⟩ := nd_in hz (show q < ns.length by omega)
      rw [lvS_new]
      have hnn := lvM_nn (L := lvS ns q) (ins := insO ns q) (insO ns q).length
      have hone : ∀ j, j < (insO ns q).length → lvS ns q ((insO ns q).getD j 0).toNat ≤ (q : Int) - 1 := fun j hj => by
        have h1 := hin j hj
        have h2 := (IH ((insO ns q).getD j 0).toNat (by omega)).2
        omega
      by_cases h0 : (insO ns q).length = 0
      · have ha : ¬ arO ns q = true := fun h => by have := har h; omega
        rw [if_neg ha, h0]
        simp only [lvM]
        omega
      · have h1 := hin 0 (by omega)
        have h2 := lvM_le (L := lvS ns q) (ins := insO ns q) (b := (q : Int) - 1) (by omega) (insO ns q).length hone
        split <;> omega
    · rw [lvS_old ns e]
      exact IH q (by omega)
theorem fstN_all {f : Nat → Int} : ∀ n, (∀ k, k < n → f k = 0) → fstN f n = 0
  | 0, _ => rfl
  | n + 1, h => by
    unfold fstN
    rw [if_pos (fstN_all n (fun k hk => h k (by omega)))]
    exact h n (by omega)
theorem lv_zero {ns : List NodeD} (h1 : ns.length ≤ 100) (hz : fstN (ndE ns) ns.length = 0) (C : Nat → Int) (hC : ∀ q, q < ns.length → C q = lvS ns ns.length q) {i : Nat} (hi : i < ns.length) : ckE ns C i = 0 := by
  obtain ⟨hin, -, har⟩ := nd_in hz hi
  have hbd := lvS_bd hz ns.length (Nat.le_refl _)
  have hnew : C i = lvM (lvS ns i) (insO ns i) (insO ns i).length + (if arO ns i = true then 1 else 0) := by
    rw [hC i hi, lvS_stay ns (show i < i + 1 by omega) (by omega), lvS_new]
  have hone : ∀ j, j < (insO ns i).length → cv C ((insO ns i).getD j 0) ≤ lvM (lvS ns i) (insO ns i) (insO ns i).length := fun j hj => by
    have h2 := hin j hj
    unfold cv
    rw [hC _ (by omega), lvS_stay ns (show ((insO ns i).getD j 0).toNat < i by omega) (by omega)]
    exact lvM_ge _ j hj
  have hb := hbd i hi
  rw [← hC i hi] at hb
  unfold ckE ck1
  rw [if_neg (by omega)]
  have e1 : fstN (ckI C i (insO ns i)) (insO ns i).length = 0 := fstN_all _ fun j hj => by
    unfold ckI
    have h3 := hone j hj
    rw [if_neg (by rw [hnew]; split <;> omega)]
  rw [e1, fst2_0]
  refine fstN_all _ fun j hj => ?_
  unfold ckA
  have h3 := hone j hj
  by_cases ha : arO ns i = true
  · rw [if_pos ha] at hnew
    rw [if_neg (by rintro ⟨-, h4⟩; omega)]
  · rw [if_neg (fun h => ha h.1)]
/-- The fuser's cut is right. -/
theorem lv_right {ns : List NodeD} {out : Int} (hg : gE ns out = 0) : cE ns out ((List.range ns.length).map (lvS ns ns.length)) = 0 := by
  obtain ⟨h0, h1, hz, -, -, -⟩ := gE_ok hg
  unfold cE
  rw [hg, fst2_0, if_pos (by simp)]
  exact fstN_all _ fun i hi => lv_zero h1 hz _ (fun q hq => by simp [List.getD_eq_getElem?_getD, List.getElem?_range hq]) hi
/-- Whether what node m takes in leads from q over a cut. -/
def stO (ns : List NodeD) (C : Nat → Int) (q m : Nat) : Bool := (insO ns m).any (fun x => x == (q : Int) && C q != C m)
/-- What is stored when i nodes are done. -/
def stS (ns : List NodeD) (out : Nat) (C : Nat → Int) (i q : Nat) : Bool := decide (q = out) || (List.range i).any (stO ns C q)
/-- .. and j of those that go into node i. -/
def stT (ns : List NodeD) (out : Nat) (C : Nat → Int) (i j q : Nat) : Bool := stS ns out C i q || ((insO ns i).take j).any (fun x => x == (q : Int) && C q != C i)
theorem stT_zero (ns : List NodeD) (out : Nat) (C : Nat → Int) (i q : Nat) : stT ns out C i 0 q = stS ns out C i q := by simp [stT]
theorem stT_all (ns : List NodeD) (out : Nat) (C : Nat → Int) (i q : Nat) : stT ns out C i (insO ns i).length q = stS ns out C (i + 1) q := by
  simp [stT, stS, List.range_succ, stO, Bool.or_assoc]
theorem stT_succ (ns : List NodeD) (out : Nat) (C : Nat → Int) (i j q : Nat) {x : Nat} (hx : (insO ns i)[j]? = some (x : Int)) : stT ns out C i (j + 1) q = if q = x then (stT ns out C i j x || C x != C i) else stT ns out C i j q := by
  unfold stT
  rw [List.take_add_one, hx]
  simp only [Option.toList_some, List.any_append, List.any_cons, List.any_nil, Bool.or_false]
  by_cases e : q = x
  · subst e
    simp [Bool.or_assoc]
  · rw [if_neg e]
    have h1 : ((x : Int) == (q : Int)) = false := by simpa using fun h => e (by omega)
    simp [h1]
/-- What is stored. -/
def stL (ns : List NodeD) (out : Nat) (C : Nat → Int) (i : Nat) : List Int := ((List.range i).filter (fun q => stS ns out C ns.length q)).map (fun q : Nat => (q : Int))
theorem stL_succ (ns : List NodeD) (out : Nat) (C : Nat → Int) (i : Nat) : stL ns out C (i + 1) = if stS ns out C ns.length i = true then stL ns out C i ++ [(i : Int)] else stL ns out C i := by
  unfold stL
  rw [List.range_succ, List.filter_append, List.map_append]
  by_cases e : stS ns out C ns.length i = true
  · rw [if_pos e]; simp [e]
  · rw [if_neg e]; simp [e]
end Go.Proofs.YtbclecoblcfboaaGreatDoor

namespace Go.Proofs.YtbclecoblcfboaaGreatDoor
open Go Go.RowKit
set_option maxRecDepth 100000 in
set_option maxHeartbeats 6400000 in
theorem cutError_any (a : Option Addr) (c : Nat) (ns : List NodeD) (out : Int) (ca : Option Addr) (cc : Nat) (cut : List Int) (w : World) (h : IsNodes w a c ns) (hcut : IntsAt 0 w ca cut) (hL : LibW w) :
    Calls Tryz.prog 5 #[.agg #[.slice a ns.length c, .int .i64 out], .slice ca cut.length cc] w fun e w' => e = .returned (.int .i64 (cE ns out cut)) ∧ Below w.heap.size w w' := by
  have HH := Lib.hid h
  have HC := Lib.hid hcut
  have HL := Lib.hid hL
  clear h hcut hL
  have HK := Lib.hid (fun w' hb => graphError_any a c ns out w' (HH.out.past hb) (HL.out.past hb) : ∀ w', Below w.heap.size w w' → _)
  obtain ⟨m, hm⟩ : ∃ m, m = ns.length := ⟨_, rfl⟩
  obtain ⟨l, hl⟩ : ∃ l, l = cut.length := ⟨_, rfl⟩
  obtain ⟨E, hE⟩ : ∃ E, E = cE ns out cut := ⟨_, rfl⟩
  obtain ⟨G, hG⟩ : ∃ G, G = gE ns out := ⟨_, rfl⟩
  have HEE := Lib.hid (show E = fst2 G (if l = m then fstN (ckE ns (fun i => cut.getD i 0)) m else 2) by rw [hE, hG, hl, hm]; rfl)
  have HM := Lib.hid hm
  have HLL := Lib.hid hl
  have HGE := Lib.hid hG
  rw [← hE, ← hm, ← hl]
  rw [← hm, ← hG] at HK
  clear hE hG hm hl
  by_cases hg : G = 0
  case neg =>
    have HV := Lib.hid (show E = G by rw [HEE.out, fst2_n hg])
    clear HEE
    go_enter Tryz.func5, Tryz.ntmps5
    go_wp2_with (go_at_call 10; refine (HK.out _ (by (repeat (first | exact Below.refl _ _ | assumption | (refine Below.setCell ?_ (by first | (simp; done) | (simp; omega) | omega) _) | (refine Below.drew ?_) | (refine below_drewN ?_ _) | (refine Below.alloc ?_ (by first | (simp; done) | (simp; omega) | omega) _) | (refine Below.trans ?_ (Below.mono (by assumption) (by first | (simp; done) | (simp; omega) | omega))))))).mono ?_; rintro e w1 ⟨rfl, hb1⟩)
    go_ret
    rw [HV.out]
    exact ⟨rfl, ((Below.refl _ _).alloc (Nat.le_refl _) _).trans (hb1.mono (by simp))⟩
  subst hg
  rw [fst2_0] at HEE
  have HZ0 := Lib.hid (gE_ok HGE.out.symm)
  by_cases hlm : l = m
  case neg =>
    rw [if_neg hlm] at HEE
    have hlmi : ¬ ((l : Int) = (m : Int)) := by omega
    go_enter Tryz.func5, Tryz.ntmps5
    go_wp2_with (go_at_call 10; refine (HK.out _ (by (repeat (first | exact Below.refl _ _ | assumption | (refine Below.setCell ?_ (by first | (simp; done) | (simp; omega) | omega) _) | (refine Below.drew ?_) | (refine below_drewN ?_ _) | (refine Below.alloc ?_ (by first | (simp; done) | (simp; omega) | omega) _) | (refine Below.trans ?_ (Below.mono (by assumption) (by first | (simp; done) | (simp; omega) | omega))))))).mono ?_; rintro e w1 ⟨rfl, hb1⟩; have g0 := ((Blk.new w [.slice a m c, .int .i64 out] 24 _ rfl).past hb1).c 0 _ rfl; have gl := ((Blk.new w [.slice a m c, .int .i64 out] 24 _ rfl).past hb1).lt)
    go_ret
    rw [HEE.out]
    exact ⟨rfl, ((Below.refl _ _).alloc (Nat.le_refl _) _).trans (hb1.mono (by simp))⟩
  subst hlm
  rw [if_pos rfl] at HEE
  have hm0 : 0 < l := by have := HZ0.out.1; have := HM.out; omega
  have hm1 : l ≤ 100 := by have := HZ0.out.2.1; have := HM.out; omega
  obtain ⟨C, hC⟩ : ∃ C : Nat → Int, C = fun i => cut.getD i 0 := ⟨_, rfl⟩
  rw [← hC] at HEE
  obtain ⟨bc, oc, hca, hcc⟩ := HC.out.get
  obtain rfl := hca (by rw [← HLL.out]; exact hm0)
  have HCC : Hid (∀ w', Below w.heap.size w w' → ∀ i, i < l → w'.cell? ⟨bc, oc + i, none⟩ = some (.int .i64 (C i))) := Lib.hid (fun w' hb i hi => by
    have h1 := hcc i (by rw [← HLL.out]; exact hi)
    rw [hb.cell (p := ⟨bc, oc + i, none⟩) (cell_lt h1), h1, hC])
  clear hC hca hcc HC HLL
  go_enter Tryz.func5, Tryz.ntmps5
  go_upto_region 6 with (go_at_call 10; refine (HK.out _ (by (repeat (first | exact Below.refl _ _ | assumption | (refine Below.setCell ?_ (by first | (simp; done) | (simp; omega) | omega) _) | (refine Below.drew ?_) | (refine below_drewN ?_ _) | (refine Below.alloc ?_ (by first | (simp; done) | (simp; omega) | omega) _) | (refine Below.trans ?_ (Below.mono (by assumption) (by first | (simp; done) | (simp; omega) | omega))))))).mono ?_; rintro e w1 ⟨rfl, hb1⟩; have g0 := ((Blk.new w [.slice a l c, .int .i64 out] 24 _ rfl).past hb1).c 0 _ rfl; have gl := ((Blk.new w [.slice a l c, .int .i64 out] 24 _ rfl).past hb1).lt)
  have H2 : Hid (Below w.heap.size w w1) := Lib.hid (((Below.refl _ _).alloc (Nat.le_refl _) _).trans (hb1.mono (by simp)))
  clear hb1
  go_wp2_with fail
  clear g0 gl
  go_loopw [28] (fun s28 wr => ∃ i : Nat, i ≤ l ∧ s28 = .int .i64 i ∧ fstN (ckE ns C) i = 0 ∧ Below w.heap.size w wr) (fun s28 _ => l - (intOf s28).toNat)
  case atStart => exact ⟨0, Nat.zero_le _, rfl, rfl, H2.out⟩
  case round =>
    obtain ⟨i, hi, rfl, hz, hB⟩ := hrel
    have HZ := Lib.hid hz; have HB := Lib.hid hB
    clear hz hB H2
    by_cases him : i < l
    · have himi : (i : Int) < (l : Int) := by omega
      have him2 : i < ns.length := by rw [← HM.out]; exact him
      obtain ⟨n, hn⟩ : ∃ n, ns[i]? = some n := ⟨_, List.getElem?_eq_getElem him2⟩
      obtain ⟨b, off, rfl, hna, hnb⟩ := HH.out.get hn
      have hna2 := hna.past HB.out
      obtain ⟨op, ins, ints, reals, ia, ic, na, nc, ra, rc⟩ := n
      have HN := Lib.hid (And.intro hn (And.intro hna2 hnb))
      have hins : insO ns i = ins := by unfold insO; rw [hn]
      have HIN := Lib.hid (nd_in HZ0.out.2.2.1 him2)
      obtain ⟨n', k, hn', hk, hkd⟩ := nd_op him2 (fstN_zero HZ0.out.2.2.1 i him2)
      rw [hn] at hn'
      cases hn'
      have har := arO_at hn hk
      have HOP := Lib.hid (fun w' hl => form_yes hk w' hl)
      have HX := Lib.hid (fun hk => fstN_of HZ.out hk him : ckE ns C i ≠ 0 → fstN (ckE ns C) l = ckE ns C i)
      have HS := Lib.hid (fun hk => fstN_succ (k := i) HZ.out hk : ckE ns C i = 0 → fstN (ckE ns C) (i + 1) = 0)
      obtain ⟨v, hv⟩ : ∃ v, v = C i := ⟨_, rfl⟩
      obtain ⟨f, hf⟩ : ∃ f, f = F k := ⟨_, rfl⟩
      obtain ⟨ar, har2⟩ : ∃ ar, ar = f.area := ⟨_, rfl⟩
      have HE := Lib.hid (show ckE ns C i = if v < 0 ∨ 99 < v then 3 else fst2 (fstN (ckI C i ins) ins.length) (fstN (ckA C i ar ins) ins.length) by unfold ckE ck1; rw [hins, har, har2, hf, hv])
      have HXE : Hid (∀ v, v ≠ 0 → ckE ns C i = v → E = v) := Lib.hid (fun v h1 h2 => by rw [HEE.out, HX.out (by rw [h2]; exact h1), h2])
      rw [hins] at HIN
      simp only at hk
      rw [← hf] at HOP
      have HV := Lib.hid hv
      have HAR := Lib.hid har2
      have c0 : wr.cell? ⟨b, off + i * 4, none⟩ = some (.string op) := HN.out.2.1.c0
      have c1 : wr.cell? ⟨b, off + i * 4 + 1, none⟩ = some (.slice ia ins.length ic) := HN.out.2.1.c1
      have c2 : wr.cell? ⟨b, off + i * 4 + 2, none⟩ = some (.slice na ints.length nc) := HN.out.2.1.c2
      have c3 : wr.cell? ⟨b, off + i * 4 + 3, none⟩ = some (.slice ra reals.length rc) := HN.out.2.1.c3
      have l0 := cell_lt c0; simp only at l0
      clear hn hna hnb hna2 hins hk hkd har hf har2 hv him2 HX
      go_upto_region 9 with fail
      refine wp_world (fun W4 hW4 => ?_)
      have H4p : Blk W4 wr.heap.size [.string op, .slice ia ins.length ic, .slice na ints.length nc, .slice ra reals.length rc] ∧ Below wr.heap.size wr W4 := by rw [hW4]; exact ⟨Blk.new _ _ _ _ rfl, by (repeat (first | exact Below.refl _ _ | assumption | (refine Below.setCell ?_ (by first | (simp; done) | (simp; omega) | omega) _) | (refine Below.drew ?_) | (refine below_drewN ?_ _) | (refine Below.alloc ?_ (by first | (simp; done) | (simp; omega) | omega) _) | (refine Below.trans ?_ (Below.mono (by assumption) (by first | (simp; done) | (simp; omega) | omega)))))⟩
      obtain ⟨nb, hnb⟩ : ∃ nb, nb = wr.heap.size := ⟨_, rfl⟩
      have H4 : Hid (Blk W4 nb [.string op, .slice ia ins.length ic, .slice na ints.length nc, .slice ra reals.length rc] ∧ Below wr.heap.size wr W4 ∧ Below w.heap.size w W4) := Lib.hid ⟨by rw [hnb]; exact H4p.1, H4p.2, HB.out.trans (H4p.2.mono HB.out.size)⟩
      rw [← hnb]
      clear hW4 c0 c1 c2 c3 l0 hnb H4p
      have m0 := H4.out.1.c 0 _ rfl; have ml := H4.out.1.lt
      have kc := HCC.out W4 H4.out.2.2 i him
      rw [← HV.out] at kc
      have kl := cell_lt kc; simp only at kl
      by_cases hvr : v < 0 ∨ 99 < v
      · have HW : Hid (E = 3) := Lib.hid (HXE.out 3 (by decide) (by rw [HE.out, if_pos hvr]))
        have q0 : inB v 0 99 = false := inB_f (by omega)
        clear hvr HE
        go_wp2_with (first | (go_at_call 26; refine (In_any _ _ _ _).mono ?_; rintro e w' ⟨rfl, rfl⟩))
        go_ret
        rw [HW.out]
        exact ⟨rfl, H4.out.2.2⟩
      · have q0 : inB v 0 99 = true := inB_t (by omega)
        rw [if_neg hvr] at HE
        clear hvr
        go_upto_region 11 with (first | (go_at_call 26; refine (In_any _ _ _ _).mono ?_; rintro e w' ⟨rfl, rfl⟩))
        clear m0 kc kl q0
        have m1 := H4.out.1.c 1 _ rfl
        go_wp2_with fail
        clear m1 ml
        go_loopw [42] (fun s42 wq => ∃ j : Nat, j ≤ ins.length ∧ s42 = .int .i64 j ∧ fstN (ckI C i ins) j = 0 ∧ Below W4.heap.size W4 wq) (fun s42 _ => ins.length - (intOf s42).toNat)
        case atStart => exact ⟨0, Nat.zero_le _, rfl, rfl, Below.refl _ _⟩
        case round =>
          obtain ⟨j, hj, rfl, hjz, hq⟩ := hrel
          have HJZ := Lib.hid hjz; have HQ := Lib.hid hq
          clear hjz hq
          have HWB := Lib.hid (H4.out.2.2.trans (HQ.out.mono H4.out.2.2.size))
          by_cases hjl : j < ins.length
          · have hjli : (j : Int) < (ins.length : Int) := by omega
            have hj3 : j ≤ 3 := by have := HIN.out.2.1; omega
            obtain ⟨u, hu⟩ : ∃ u, ins[j]? = some u := ⟨_, List.getElem?_eq_getElem hjl⟩
            have hgd : ins.getD j 0 = u := by rw [List.getD_eq_getElem?_getD, hu, Option.getD_some]
            have hur := HIN.out.1 j hjl
            rw [hgd] at hur
            obtain ⟨x, hx⟩ : ∃ x : Nat, u = (x : Int) := ⟨u.toNat, by omega⟩
            subst hx
            have hxi : x < i := by omega
            have hxl : x < l := by omega
            have hxli : (x : Int) < (l : Int) := by omega
            obtain ⟨bi, oi, rfl, ci⟩ := (HN.out.2.1.i.past (H4.out.2.1.trans (HQ.out.mono H4.out.2.1.size))).one hu
            have li := cell_lt ci; simp only at li
            have kc := HCC.out _ HWB.out i him
            rw [← HV.out] at kc
            have kx := HCC.out _ HWB.out x hxl
            obtain ⟨y, hy⟩ : ∃ y, y = C x := ⟨_, rfl⟩
            rw [← hy] at kx
            have kl := cell_lt kc; simp only at kl
            have HI1 := Lib.hid (show ckI C i ins j = if v < y then 8 else 0 by unfold ckI cv; rw [hgd, ← HV.out, Int.toNat_natCast, ← hy])
            have HIE := Lib.hid (fun h => HXE.out _ h (by rw [HE.out, fstN_of HJZ.out h hjl, fst2_n h]) : ckI C i ins j ≠ 0 → E = ckI C i ins j)
            have HIS := Lib.hid (fun h => fstN_succ HJZ.out h : ckI C i ins j = 0 → _)
            clear hu hgd hur hy
            by_cases hvy : v < y
            · have HW : Hid (E = 8) := Lib.hid (by rw [HIE.out (by rw [HI1.out, if_pos hvy]; decide), HI1.out, if_pos hvy])
              go_upto_region 14 with fail
              go_quiet (fail)
              go_wp2_with fail
              go_ret
              rw [HW.out]
              exact ⟨rfl, below_drewN HWB.out _⟩
            · have HW := Lib.hid (HIS.out (by rw [HI1.out, if_neg hvy]))
              go_upto_region 14 with fail
              go_quiet (fail)
              go_wp2_with fail
              go_roundw
              case rel => exact ⟨j + 1, by omega, by go_num, HW.out, below_drewN HQ.out _⟩
              case measure => simp [intOf]; omega
          · have hjli : ¬ (j : Int) < (ins.length : Int) := by omega
            obtain rfl : j = ins.length := by omega
            rw [HJZ.out, fst2_0] at HE
            have n0 := (H4.out.1.past HQ.out).c 0 _ rfl; have nl := (H4.out.1.past HQ.out).lt
            go_upto_region 18 with (go_at_call 11; refine (HOP.out _ (HL.out.past HWB.out)).mono ?_; rintro e w5 ⟨fa, fc, rfl, hI, hb5⟩)
            refine wp_world (fun W6 hW6 => ?_)
            have hb6 : Below w5.heap.size w5 W6 := by rw [hW6]; (repeat (first | exact Below.refl _ _ | assumption | (refine Below.setCell ?_ (by first | (simp; done) | (simp; omega) | omega) _) | (refine Below.drew ?_) | (refine below_drewN ?_ _) | (refine Below.alloc ?_ (by first | (simp; done) | (simp; omega) | omega) _) | (refine Below.trans ?_ (Below.mono (by assumption) (by first | (simp; done) | (simp; omega) | omega)))))
            have hq6 := HQ.out.trans ((hb5.trans (hb6.mono hb5.size)).mono HQ.out.size)
            have hB6 := H4.out.2.1.trans (hq6.mono H4.out.2.1.size)
            have H6p : Blk W6 nb [.string op, .slice ia ins.length ic, .slice na ints.length nc, .slice ra reals.length rc] ∧ Blk W6 w5.heap.size (fCells f fa fc) := by
              exact ⟨H4.out.1.past hq6, by rw [hW6]; exact Blk.new _ _ _ _ rfl⟩
            obtain ⟨fb, hfb⟩ : ∃ fb, fb = w5.heap.size := ⟨_, rfl⟩
            have H6 : Hid (Blk W6 nb [.string op, .slice ia ins.length ic, .slice na ints.length nc, .slice ra reals.length rc] ∧ Blk W6 fb (fCells f fa fc) ∧ Below w.heap.size w W6) := Lib.hid ⟨H6p.1, by rw [hfb]; exact H6p.2, HB.out.trans (hB6.mono HB.out.size)⟩
            have HB6 := Lib.hid hB6
            rw [← hfb]
            clear hW6 hI hb5 hfb n0 nl H4 H6p hb6 hB6 hq6
            have n1 := H6.out.1.c 1 _ rfl; have nl := H6.out.1.lt
            go_wp2_with fail
            clear n1 nl
            go_loopw [65] (fun s65 wz => ∃ j : Nat, j ≤ ins.length ∧ s65 = .int .i64 j ∧ fstN (ckA C i ar ins) j = 0 ∧ Below W6.heap.size W6 wz) (fun s65 _ => ins.length - (intOf s65).toNat)
            case atStart => exact ⟨0, Nat.zero_le _, rfl, rfl, Below.refl _ _⟩
            case round =>
              obtain ⟨j, hj, rfl, hjz, hq⟩ := hrel
              clear HQ HWB HJZ
              have HJZ := Lib.hid hjz; have HQ := Lib.hid hq
              clear hjz hq
              have HWB := Lib.hid (H6.out.2.2.trans (HQ.out.mono H6.out.2.2.size))
              by_cases hjl : j < ins.length
              · have hjli : (j : Int) < (ins.length : Int) := by omega
                have hj3 : j ≤ 3 := by have := HIN.out.2.1; omega
                obtain ⟨u, hu⟩ : ∃ u, ins[j]? = some u := ⟨_, List.getElem?_eq_getElem hjl⟩
                have hgd : ins.getD j 0 = u := by rw [List.getD_eq_getElem?_getD, hu, Option.getD_some]
                have hur := HIN.out.1 j hjl
                rw [hgd] at hur
                obtain ⟨x, hx⟩ : ∃ x : Nat, u = (x : Int) := ⟨u.toNat, by omega⟩
                subst hx
                have hxi : x < i := by omega
                have hxl : x < l := by omega
                have hxli : (x : Int) < (l : Int) := by omega
                obtain ⟨bi, oi, rfl, ci⟩ := (HN.out.2.1.i.past (HB6.out.trans (HQ.out.mono HB6.out.size))).one hu
                have li := cell_lt ci; simp only at li
                have kc := HCC.out _ HWB.out i him
                rw [← HV.out] at kc
                have kx := HCC.out _ HWB.out x hxl
                obtain ⟨y, hy⟩ : ∃ y, y = C x := ⟨_, rfl⟩
                rw [← hy] at kx
                have kl := cell_lt kc; simp only at kl
                have z5 := (fCells_at (H6.out.2.1.past HQ.out)).2.2.2.2.2
                rw [← HAR.out] at z5
                have zl := (H6.out.2.1.past HQ.out).lt
                have HI1 := Lib.hid (show ckA C i ar ins j = if ar = true ∧ y = v then 12 else 0 by unfold ckA cv; rw [hgd, ← HV.out, Int.toNat_natCast, ← hy])
                have HIE := Lib.hid (fun h => HXE.out _ h (by rw [HE.out, fstN_of HJZ.out h hjl]) : ckA C i ar ins j ≠ 0 → E = ckA C i ar ins j)
                have HIS := Lib.hid (fun h => fstN_succ HJZ.out h : ckA C i ar ins j = 0 → _)
                clear hu hgd hur hy HE HAR
                cases ar
                case false =>
                  have HW := Lib.hid (HIS.out (by rw [HI1.out, if_neg (by simp)]))
                  go_upto_region 21 with fail
                  go_quiet (fail)
                  go_wp2_with fail
                  go_roundw
                  case rel => exact ⟨j + 1, by omega, by go_num, HW.out, below_drewN HQ.out _⟩
                  case measure => simp [intOf]; omega
                case true =>
                  by_cases hvy : y = v
                  · have HW : Hid (E = 12) := Lib.hid (by rw [HIE.out (by rw [HI1.out, if_pos ⟨rfl, hvy⟩]; decide), HI1.out, if_pos ⟨rfl, hvy⟩])
                    go_upto_region 21 with fail
                    go_quiet (fail)
                    go_wp2_with fail
                    go_ret
                    rw [HW.out]
                    exact ⟨rfl, below_drewN HWB.out _⟩
                  · have HW := Lib.hid (HIS.out (by rw [HI1.out, if_neg (fun h => hvy h.2)]))
                    go_upto_region 21 with fail
                    go_quiet (fail)
                    go_wp2_with fail
                    go_roundw
                    case rel => exact ⟨j + 1, by omega, by go_num, HW.out, below_drewN HQ.out _⟩
                    case measure => simp [intOf]; omega
              · have hjli : ¬ (j : Int) < (ins.length : Int) := by omega
                obtain rfl : j = ins.length := by omega
                have HW := Lib.hid (HS.out (by rw [HE.out, HJZ.out]))
                go_wp2_with fail
                go_roundw
                case rel => exact ⟨i + 1, by omega, by go_num, HW.out, HWB.out⟩
                case measure => simp [intOf]; omega
    · have himi : ¬ (i : Int) < (l : Int) := by omega
      obtain rfl : i = l := by omega
      go_wp2_with fail
      go_ret
      rw [HEE.out, HZ.out]
      exact ⟨rfl, HB.out⟩
end Go.Proofs.YtbclecoblcfboaaGreatDoor
