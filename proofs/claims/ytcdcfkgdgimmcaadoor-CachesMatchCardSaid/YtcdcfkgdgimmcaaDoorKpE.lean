/- The cache's own calls: forget, Drop. Conditions: what each theorem names. -/
import Derived.Test.YtcdcfkgdgimmcaaDoorKpD
namespace Go.Proofs.YtcdcfkgdgimmcaaDoor
open Go Go.RowKit
theorem kp_exit {next : Act → World → Prop} {Q : Exit → Act → World → Prop} {e : Exit} {a : Act} {w : World} (h : ∀ W, W = w → Exit.then next Q e a W) : Exit.then next Q e a w := h w rfl
theorem lawS : Maps.Keyed Tryd.prog 9 := Maps.string_keyed Tryd.underlying9
def zeroFr : Value := .agg #[.int .i64 0, .int .i64 0, .int .i64 0, .int .i64 0, .slice none 0 0]
theorem zeroFrame : ∀ w, (zeroValue 38).run Tryd.prog w = .ok zeroFr w := fun w => by kernel_rfl
theorem key_mk {nm : ByteArray} (h : nm.size ≤ maxLen) : keyOf Tryd.prog 9 (.string nm) = some (kyL nm) := WideMaps.keyOf_string_mk Tryd.underlying9 h
theorem ownsMap_tch {S : Nat → Prop} {P : Program} {k : TypeId} {R : Value → Option (DataW Value × List MemPlace)} {w w' : World} {b n : Nat} {D : DataW Value} (h : w.ownsMap P k R b n D) (t : Tch S w w') (hb : ¬ S b) : w'.ownsMap P k R b n D := by
  have hl := h.lt
  obtain ⟨es, clock, hbk, r⟩ := h
  exact ⟨es, clock, by rw [t.block b hl hb]; exact hbk, r⟩
theorem turned_tch {S : Nat → Prop} {w w' : World} {b : Nat} (h : w.mapTurned w' b) (hb : S b) : Tch S w w' := Tch.of_grown h.grown (fun j hj => by cases hj; exact hb)
/-- v, ok := m[k], its value known. -/
theorem wpList_look {P : Program} (w : World) {ops : Array Oper} {rest : List Oper} {o : Oper} {a : Act} {Q : Exit → Act → World → Prop} (hg : o.guard = none) (m x : Operand) (t : TypeId) (hop : o.op = Op.lookup t m x true)
    (k e : TypeId) (K : Maps.Keyed P k) (ht : P.underlying t = some (.map k e)) {z : Value} (hz : (zeroValue e).run P w = .ok z w) (b n : Nat) (D : DataW Value) (hm : a.eval m = .map (some b)) (hown : w.ownsMap P k heldR b n D) (key : Value) (kl : Lit) (hx : a.eval x = key) (hkey : keyOf P k key = some kl)
    (v : Value) (is : Bool) (hat : D.atKey kl (.held z) = .held v) (his : Maps.has D kl = is) (hK : wpList P ops Q rest (a.put o.dst (.tuple #[v, .bool is])) w) : wpList P ops Q (o :: rest) a w :=
  wpList_lookup_own_ok w hg m x t hop k e K ht heldR hz (.held z) [] rfl b n D hm hown key kl hx hkey (fun v' ps hv => by
    unfold heldR at hv
    rw [hat] at hv
    injection hv with hv
    injection hv with hv _
    injection hv with hv
    subst hv
    rw [his]; exact hK)
/-- What a look at the map gives. -/
theorem MapK.hit {w : World} {G : Nat → Prop} {D : DataW Value} {L : List Kp} (h : MapK w G D L) {nm : ByteArray} (hl : posK nm L < L.length) : ∃ k g, L[posK nm L]? = some k ∧ k.nm = nm ∧ G g ∧ g < w.heap.size ∧ Row w g 0 k.n k.fs ∧ Maps.has D (kyL nm) = true ∧ ∀ z, D.atKey (kyL nm) z = .held (kpV k g) := by
  obtain ⟨k, h1, h2⟩ := posK_hit hl
  obtain ⟨a1, g, a2, a3, a4, a5⟩ := h.2 k (List.mem_of_getElem? h1)
  rw [h2] at a1 a4
  exact ⟨k, g, h1, h2, a2, a3, a5, a1, a4⟩
theorem MapK.miss {w : World} {G : Nat → Prop} {D : DataW Value} {L : List Kp} (h : MapK w G D L) {nm : ByteArray} (hl : ¬ posK nm L < L.length) : Maps.has D (kyL nm) = false ∧ ∀ z, D.atKey (kyL nm) z = z := by
  have h1 := h.1 nm (by have := posK_le nm L; omega)
  exact ⟨h1, fun z => Maps.atKey_of_not_has h1 z⟩
theorem dropK_flat (nm : ByteArray) (L : List Kp) (h : posK nm L < L.length) : (dropK nm L).flatMap nmC = (L.flatMap nmC).take (posK nm L * 1) ++ (L.flatMap nmC).drop ((posK nm L + 1) * 1) := by
  unfold dropK; rw [if_pos h]; exact flat_erase nmC 1 nmC_len L _
theorem nm_one (L : List Kp) : ∀ u ∈ L.flatMap nmC, u.oneCell' = true := fun u hu => by
  obtain ⟨k, -, hk⟩ := List.mem_flatMap.1 hu
  simp [nmC] at hk; subst hk; rfl
set_option maxRecDepth 100000 in
set_option maxHeartbeats 1600000 in
theorem forget_any (c : Nat) (v0 v1 v3 v4 v5 ks : Value) (L : List Kp) (nm : ByteArray) (w : World) (hB : Blk w c [v0, v1, ks, v3, v4, v5]) (hK : RowV w 1 ks L.length (L.flatMap nmC)) (hne : ∀ b, ks.ownBlock = some b → b ≠ c) (hL : L.length ≤ 1000) :
    Calls Tryd.prog 55 #[.pointer (some ⟨c, 0, none⟩), .string nm] w fun e w' => e = .returned (.tuple #[]) ∧ ∃ ks', Blk w' c [v0, v1, ks', v3, v4, v5] ∧ ks'.ownBlock = ks.ownBlock ∧ RowV w' 1 ks' (dropK nm L).length ((dropK nm L).flatMap nmC) ∧ Tch (fun b => b = c ∨ ks.ownBlock = some b) w w' := by
  have HI := Lib.hid (idx_any ks L nm w hK)
  have HB := Lib.hid hB; have HK := Lib.hid hK; have HN := Lib.hid hne
  obtain ⟨z, hz⟩ : ∃ z, z = posI nm L := ⟨_, rfl⟩
  rw [← hz] at HI
  have HZ := Lib.hid hz
  have b2 := hB.c 2 _ rfl; have bl := hB.lt; have bf := hB.f
  have hks : ∃ ao n cap, ks = .slice ao n cap := by obtain ⟨-, ao, cap, rfl, -⟩ := hK; exact ⟨_, _, _, rfl⟩
  obtain ⟨ao, kn, kc, rfl⟩ := hks
  clear hz hB hK hne
  go_enter Tryd.func55, Tryd.ntmps55
  by_cases hp : posK nm L < L.length
  · have hzp : z = (posK nm L : Int) := by rw [HZ.out]; unfold posI; rw [if_pos hp]
    obtain ⟨k, hk⟩ : ∃ k, k = posK nm L := ⟨_, rfl⟩
    have HD := Lib.hid (delStr _ _ k _ w HK.out (by omega) (nm_one L))
    have HKK := Lib.hid hk
    rw [← hk] at hp hzp
    subst hzp
    clear hk
    have hk1 : (k : Int) ≤ 1000 := by omega
    go_wp2_with (go_at_call 95; refine HI.out.mono ?_; rintro e w1 ⟨rfl, rfl⟩)
    refine HD.out.mono ?_
    rintro e w1 ⟨v', rfl, ho, hR, hG⟩
    have HR := Lib.hid (And.intro ho (And.intro hR hG))
    have hB1 := HB.out.tch (Tch.of_grown (S := fun b => Value.ownBlock (.slice ao kn kc) = some b) hG (fun b hb => hb)) (fun hb => HN.out c hb rfl)
    have HB1 := Lib.hid hB1
    have b2' := hB1.c 2 _ rfl; have bl' := hB1.lt; have bf' := hB1.f
    obtain ⟨ao', n', c', rfl⟩ : ∃ ao n cap, v' = .slice ao n cap := by obtain ⟨-, ao, cap, rfl, -⟩ := hR; exact ⟨_, _, _, rfl⟩
    clear ho hR hG hB1 b2 bl bf
    go_wp2_with fail
    have hl : (dropK nm L).length = L.length - 1 := by
      unfold dropK
      rw [if_pos (by have := HKK.out; omega), List.length_eraseIdx, if_pos (by have := HKK.out; omega)]
    have hfl := dropK_flat nm L (by have := HKK.out; omega)
    rw [← HKK.out] at hfl
    have hne' : ∀ b, (Value.slice ao' n' c').ownBlock = some b → b ≠ c := fun b hb => HN.out b (by rw [← HR.out.1]; exact hb)
    refine bodyPost_end (v := .tuple #[]) (by simp [results, Tryd.results55, go_sem]) rfl ⟨rfl, .slice ao' n' c', by simpa using HB1.out.set 2 (.slice ao' n' c'), HR.out.1, ?_, ?_⟩
    · rw [hl, hfl]
      exact HR.out.2.1.tch (S := fun b => b = c) ((Tch.refl _ _).set ⟨c, 2, none⟩ _ rfl) (fun b hb e => hne' b hb e)
    · exact ((Tch.of_grown HR.out.2.2 (fun b hb => .inr hb)).set ⟨c, 2, none⟩ _ (.inl rfl))
  · have hzp : z = -1 := by rw [HZ.out]; unfold posI; rw [if_neg hp]
    subst hzp
    have hd : dropK nm L = L := by unfold dropK; rw [if_neg hp]
    have HD := Lib.hid hd
    clear hp hd
    go_wp2_with (go_at_call 95; refine HI.out.mono ?_; rintro e w1 ⟨rfl, rfl⟩)
    exact bodyPost_end (v := .tuple #[]) (by simp [results, Tryd.results55, go_sem]) rfl ⟨rfl, _, HB.out, rfl, by rw [HD.out]; exact HK.out, Tch.refl _ _⟩
/-- What leaving a name out gives. -/
def DropR (w : World) (c mb : Nat) (ks : Value) (most hi mi : Int) (N : Nat) (L : List Kp) (T : Option Nat) (w' : World) : Prop :=
  ∃ ks', ks'.ownBlock = ks.ownBlock ∧ CacheG w' Tryd.prog 9 c mb ks' most hi mi N L T ∧ Tch (Sp c mb ks) w w'
set_option maxRecDepth 100000 in
set_option maxHeartbeats 3200000 in
theorem Drop_any (c mb : Nat) (ks : Value) (most hi mi : Int) (N : Nat) (L : List Kp) (T : Option Nat) (nm : ByteArray) (w : World) (h : CacheG w Tryd.prog 9 c mb ks most hi mi N L T) (hL : L.length ≤ 1000) (hnm : nm.size ≤ maxLen) :
    Calls Tryd.prog 25 #[.pointer (some ⟨c, 0, none⟩), .string nm] w fun e w' => e = .returned (.bool (decide (posK nm L < L.length))) ∧ DropR w c mb ks most hi mi N (dropK nm L) T w' := by
  obtain ⟨D, hD, hM⟩ := h.m
  have hbd := pixL_bd h.ok.1
  have H := Lib.hid h
  have HD := Lib.hid (And.intro hD hM)
  have b3 := h.b.c 3 _ rfl; have bl := h.b.lt; have bf := h.b.f
  have hk := key_mk hnm
  obtain ⟨S, hS⟩ : ∃ S, S = pixL L := ⟨_, rfl⟩
  rw [← hS] at hbd
  have HSS := Lib.hid hS
  clear hD hM hS
  by_cases hp : posK nm L < L.length
  · obtain ⟨k, g, k1, k2, k3, k4, k5, k6, k7⟩ := HD.out.2.hit hp
    have kb := Kp.ok_bd (H.out.ok.1 k (List.mem_of_getElem? k1))
    have hpe := pixL_erase k1
    have hde : dropK nm L = L.eraseIdx (posK nm L) := by unfold dropK; rw [if_pos hp]
    rw [decide_eq_true hp]
    obtain ⟨q, hq⟩ : ∃ q, q = k.pix := ⟨_, rfl⟩
    have hqv : k.v * k.h = q := hq.symm
    have HPE : Hid (S - q = pixL (dropK nm L)) := Lib.hid (by rw [hde, hpe, HSS.out, hq])
    rw [← hq] at kb
    obtain ⟨kn, kx, ky, kv, kh, kl, kf⟩ := k
    simp only at hqv kb
    have hD1 := HD.out.1
    have hat := k7 (.held zeroFr)
    have hval : kpV ⟨kn, kx, ky, kv, kh, kl, kf⟩ g = .agg #[.int .i64 kx, .int .i64 ky, .int .i64 kv, .int .i64 kh, .slice (some ⟨g, 0, none⟩) kl kl] := rfl
    rw [hval] at hat
    have HP := Lib.hid (And.intro hp (And.intro k3 k4))
    have hml := hD1.lt
    clear hval hde hpe hq k1 k2 k3 k4 k5 k7 hp h
    go_enter Tryd.func25, Tryd.ntmps25
    go_upto_region 2 with (at_lookup; refine wpList_look _ rfl _ _ 92 rfl 9 38 lawS Tryd.underlying92 (zeroFrame _) mb N D rfl hD1 _ _ rfl hk _ true hat k6 ?_)
    refine wp_world (fun W hW => ?_)
    have BW : Below w.heap.size w W := by rw [hW]; (repeat (first | exact Below.refl _ _ | assumption | (refine Below.setCell ?_ (by first | (simp; done) | (simp; omega) | omega) _) | (refine Below.drew ?_) | (refine below_drewN ?_ _) | (refine Below.alloc ?_ (by first | (simp; done) | (simp; omega) | omega) _) | (refine Below.trans ?_ (Below.mono (by assumption) (by first | (simp; done) | (simp; omega) | omega)))))
    have FW : Blk W w.heap.size [.int .i64 kx, .int .i64 ky, .int .i64 kv, .int .i64 kh, .slice (some ⟨g, 0, none⟩) kl kl] := by rw [hW]; exact Blk.new _ _ _ _ rfl
    have GW := H.out.past BW
    have c1 := GW.b.c 1 _ rfl; have c2 := GW.b.c 2 _ rfl; have c3 := GW.b.c 3 _ rfl; have cl := GW.b.lt; have cf := GW.b.f
    have f2 := FW.c 2 _ rfl; have f3 := FW.c 3 _ rfl; have fl := FW.lt
    rw [← HSS.out] at c1
    have HW := Lib.hid (And.intro BW (And.intro GW (ownsMap_tch (S := fun _ => False) hD1 (Tch.of_below BW) (fun h => h))))
    have hcn : c ≠ w.heap.size := by omega
    clear hW BW FW GW hD1 hat k6 b3 bl bf
    go_wp2_with fail
    go_region
    refine kp_exit (fun W1 hW1 => ?_)
    have B1 := HW.out.2.1.b.set 1 (.int .i64 (S - q))
    have t1 : Tch (fun b => b = c) W W1 := by rw [hW1]; have h := (Tch.refl (fun b => b = c) W).set ⟨c, 1, none⟩ (.int .i64 (S - q)) rfl; exact ⟨h.os, h.tape, h.output, h.size, h.block⟩
    have B1 : Blk W1 c [.int .i64 most, .int .i64 (S - q), ks, .map (some mb), .int .i64 hi, .int .i64 mi] := by rw [hW1]; exact (by simpa using B1.drew)
    have M1 := ownsMap_tch HW.out.2.2 t1 (fun e => H.out.ne e.symm)
    have c3 := B1.c 3 _ rfl; have cl := B1.lt; have cf := B1.f
    have H1 := Lib.hid (And.intro B1 (And.intro t1 (HW.out.2.1.k.tch t1 (fun b hb e => (H.out.nk b hb).1 e))))
    clear hW1 B1 t1 c1 c2 f2 f3 fl
    go_wp2_with (at_delete; refine wpList_delete_own _ rfl _ _ 92 9 rfl 38 lawS Tryd.underlying92 heldR mb N D rfl M1 _ _ rfl hk ?_; intro w2 hown2 hturn2; have M2 := Lib.hid (And.intro hown2 hturn2); clear hown2 hturn2)
    have t2 : Tch (fun b => b = mb) W1 w2 := turned_tch M2.out.2 rfl
    have B2 := H1.out.1.tch t2 H.out.ne
    have K2 := H1.out.2.2.tch t2 (fun b hb e => (H.out.nk b hb).2 e)
    refine (forget_any c _ _ _ _ _ ks L nm w2 B2 K2 (fun b hb => (H.out.nk b hb).1) hL).mono ?_
    rintro e w3 ⟨rfl, ks', B3, o3, K3, t3⟩
    have H3 := Lib.hid (And.intro B3 (And.intro o3 (And.intro K3 (And.intro t2 t3))))
    clear B2 K2 B3 o3 K3 t2 t3 M1 c3 cl cf
    go_wp2_with fail
    go_ret
    have tS : Tch (Sp c mb ks) w w3 := ((((Tch.of_below HW.out.1).trans (H1.out.2.1.mono (fun b _ e => .inl e)))).trans (H3.out.2.2.2.1.mono (fun b _ e => .inr (.inl e)))).trans (H3.out.2.2.2.2.mono (fun b _ e => by rcases e with e | e; exact .inl e; exact .inr (.inr e)))
    have M3 := ownsMap_tch M2.out.1 H3.out.2.2.2.2 (fun e => by rcases e with e | e; exact H.out.ne e.symm; exact (H.out.nk mb e).2 rfl)
    refine ⟨rfl, ks', H3.out.2.1, ⟨by rw [← HPE.out]; exact H3.out.1, H3.out.2.2.1, ⟨_, M3, ?_⟩, H.out.ne, ?_, ?_, H.out.ok.drop nm⟩, tS⟩
    · refine (HD.out.2.del H.out.ok nm).tch tS (fun g' _ hg' => ⟨?_, hg'.1, hg'.2.1, by rw [H3.out.2.1]; exact hg'.2.2.1, hg'.2.2.2⟩)
      rintro (e | e | e)
      · exact hg'.1 e
      · exact hg'.2.1 e
      · exact hg'.2.2.1 e
    · rw [H3.out.2.1]; exact H.out.nk
    · rw [H3.out.2.1]; exact H.out.t
  · have hm := HD.out.2.miss hp
    have hD1 := HD.out.1
    have hat := hm.2 (.held zeroFr)
    have his := hm.1
    rw [decide_eq_false hp]
    have hde : dropK nm L = L := by unfold dropK; rw [if_neg hp]
    rw [hde]
    clear hm hp hde h hbd
    unfold zeroFr at hat
    have hzf := zeroFrame
    unfold zeroFr at hzf
    go_enter Tryd.func25, Tryd.ntmps25
    go_upto_region 2 with (at_lookup; refine wpList_look _ rfl _ _ 92 rfl 9 38 lawS Tryd.underlying92 (hzf _) mb N D rfl hD1 _ _ rfl hk _ false hat his ?_)
    refine wp_world (fun W hW => ?_)
    have BW : Below w.heap.size w W := by rw [hW]; (repeat (first | exact Below.refl _ _ | assumption | (refine Below.setCell ?_ (by first | (simp; done) | (simp; omega) | omega) _) | (refine Below.drew ?_) | (refine below_drewN ?_ _) | (refine Below.alloc ?_ (by first | (simp; done) | (simp; omega) | omega) _) | (refine Below.trans ?_ (Below.mono (by assumption) (by first | (simp; done) | (simp; omega) | omega)))))
    have HB := Lib.hid BW
    clear hW BW hat hD1 b3 bl bf
    go_wp2_with fail
    go_ret
    exact ⟨rfl, ks, rfl, H.out.past HB.out, Tch.of_below HB.out⟩
end Go.Proofs.YtcdcfkgdgimmcaaDoor
