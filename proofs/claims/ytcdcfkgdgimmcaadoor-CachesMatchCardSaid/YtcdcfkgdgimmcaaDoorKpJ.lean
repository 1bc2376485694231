/- What the document's cache keeps, in memory: rows of names and frames; slices.IndexFunc by a name, pixels, none. Conditions: what each theorem names. -/
import Derived.Test.YtcdcfkgdgimmcaaDoorKpI
namespace Go.Proofs.YtcdcfkgdgimmcaaDoor
open Go Go.RowKit
/-- A frame that is kept, and where its singles lie. -/
structure KA where
  k : Kp
  g : Nat
  off : Nat
  cap : Nat
def kaF (a : KA) : List Value := [.int .i64 a.k.x, .int .i64 a.k.y, .int .i64 a.k.v, .int .i64 a.k.h, .slice (some ⟨a.g, a.off, none⟩) a.k.n a.cap]
def kaC (a : KA) : List Value := [.string a.k.nm, .int .i64 a.k.x, .int .i64 a.k.y, .int .i64 a.k.v, .int .i64 a.k.h, .slice (some ⟨a.g, a.off, none⟩) a.k.n a.cap]
theorem kaC_len (a : KA) : (kaC a).length = 6 := rfl
structure KeptG (w : World) (lv : Value) (E : List KA) (F : Nat → Prop) : Prop where
  row : RowV w 6 lv E.length (E.flatMap kaC)
  each : ∀ a ∈ E, Row w a.g a.off a.k.n a.k.fs ∧ a.g < w.heap.size ∧ lv.ownBlock ≠ some a.g ∧ F a.g
  own : ∀ b, lv.ownBlock = some b → F b
  ok : ∀ a ∈ E, a.k.ok
theorem KeptG.tch {S : Nat → Prop} {w w' : World} {lv : Value} {E : List KA} {F F' : Nat → Prop} (h : KeptG w lv E F) (t : Tch S w w') (hs : ∀ b, b < w.heap.size → F b → ¬ S b ∧ F' b) : KeptG w' lv E F' := by
  refine ⟨h.row.tch t (fun b hb => (hs b (h.row.lt hb) (h.own b hb)).1), fun a ha => ?_, fun b hb => (hs b (h.row.lt hb) (h.own b hb)).2, h.ok⟩
  obtain ⟨h1, h2, h3, h4⟩ := h.each a ha
  exact ⟨fun i hi => (World.cell?_of_block (a := ⟨a.g, a.off + i, none⟩) (t.block a.g h2 (hs _ h2 h4).1)).trans (h1 i hi), Nat.lt_of_lt_of_le h2 t.size, h3, (hs _ h2 h4).2⟩
theorem KeptG.past {w w' : World} {lv : Value} {E : List KA} {F : Nat → Prop} (h : KeptG w lv E F) (t : Below w.heap.size w w') : KeptG w' lv E F :=
  h.tch (S := fun _ => False) (Tch.of_below t) (fun _ _ hf => ⟨fun h => h, hf⟩)
theorem ka_at {w : World} {v : Value} {E : List KA} (h : RowV w 6 v E.length (E.flatMap kaC)) {k : Nat} {x : KA} (hk : E[k]? = some x) : ∃ b off cap, v = .slice (some ⟨b, off, none⟩) E.length cap ∧ E.length ≤ cap ∧ cap ≤ maxLen ∧ b < w.heap.size ∧ ∀ j u, (kaC x)[j]? = some u → w.cell? ⟨b, off + k * 6 + j, none⟩ = some u := by
  obtain ⟨h0, ao, cap, rfl, h1, h2, ⟨rfl, h3⟩ | ⟨b, off, rfl, hl, hc, hf⟩⟩ := h
  · have := (List.getElem?_eq_some_iff.1 hk).1
    omega
  · refine ⟨b, off, cap, rfl, h1, h2, hl, fun j u hj => ?_⟩
    have hj6 : j < 6 := by have := (List.getElem?_eq_some_iff.1 hj).1; rwa [kaC_len] at this
    have := flat_get kaC 6 kaC_len hk hj6
    rw [Nat.add_assoc]
    exact hc _ u (by rw [this]; exact hj)
set_option maxRecDepth 100000 in
set_option maxHeartbeats 1600000 in
theorem keyIs_any (a : KA) (nm : ByteArray) (pn : Nat) (w : World) (h : Blk w pn [.string nm]) :
    Calls Tryd.prog 11 #[.agg #[.string a.k.nm, .int .i64 a.k.x, .int .i64 a.k.y, .int .i64 a.k.v, .int .i64 a.k.h, .slice (some ⟨a.g, a.off, none⟩) a.k.n a.cap], .pointer (some ⟨pn, 0, none⟩)] w fun e w' => e = .returned (.bool (a.k.nm.toList == nm.toList)) ∧ Below w.heap.size w w' := by
  have c0 := h.c 0 _ rfl; have cl := h.lt
  clear h
  go_enter Tryd.func11, Tryd.ntmps11
  go_wp2_with fail
  go_ret
  exact ⟨rfl, by (repeat (first | exact Below.refl _ _ | assumption | (refine Below.setCell ?_ (by first | (simp; done) | (simp; omega) | omega) _) | (refine Below.drew ?_) | (refine below_drewN ?_ _) | (refine Below.alloc ?_ (by first | (simp; done) | (simp; omega) | omega) _) | (refine Below.trans ?_ (Below.mono (by assumption) (by first | (simp; done) | (simp; omega) | omega)))))⟩
theorem entKey : ∀ args w, (callFunc 11 args).run Tryd.prog w = .ok (.enter 11 args) w := body_enters Tryd.func11 (by kernel_rfl) rfl
set_option maxRecDepth 100000 in
set_option maxHeartbeats 1600000 in
theorem idxF_any (lv : Value) (E : List KA) (nm : ByteArray) (pn : Nat) (w : World) (h : RowV w 6 lv E.length (E.flatMap kaC)) (hp : Blk w pn [.string nm]) :
    Calls Tryd.prog 10 #[lv, .func (.func 11) #[] #[.pointer (some ⟨pn, 0, none⟩)]] w fun e w' => e = .returned (.int .i64 (posI nm (E.map KA.k))) ∧ Below w.heap.size w w' := by
  have HR := Lib.hid (And.intro h hp)
  obtain ⟨-, ao, cap, rfl, hn, hm, -⟩ := h
  obtain ⟨n, hnn⟩ : ∃ n, n = E.length := ⟨_, rfl⟩
  rw [← hnn] at hn ⊢
  have HN := Lib.hid hnn
  have hcb : cap ≤ 9223372036854775807 := by unfold maxLen at hm; omega
  have hent := entKey
  clear hnn hm hp
  go_enter Tryd.func10, Tryd.ntmps10
  go_wp2_with fail
  go_loopw [8] (fun s8 wr => ∃ k : Nat, k ≤ n ∧ s8 = .int .i64 k ∧ Below w.heap.size w wr ∧ ∀ j k', j < k → (E.map KA.k)[j]? = some k' → k'.nm ≠ nm) (fun s8 _ => n - (intOf s8).toNat)
  case atStart => exact ⟨0, Nat.zero_le _, rfl, Below.refl _ _, fun j k' hj => absurd hj (Nat.not_lt_zero _)⟩
  case round =>
    obtain ⟨k, hk, rfl, hB, hne⟩ := hrel
    have HNE := Lib.hid (And.intro hne hB)
    clear hne
    by_cases hkn : k < n
    · obtain ⟨x, hx⟩ : ∃ x, E[k]? = some x := ⟨_, List.getElem?_eq_getElem (by have := HN.out; omega)⟩
      obtain ⟨b, off, cap', e, -, -, hbl, hc⟩ := ka_at (HR.out.1.past hB) hx
      injection e with e1 e2 e3
      subst e1; subst e3
      clear e2
      have HX := Lib.hid (show (E.map KA.k)[k]? = some x.k by rw [List.getElem?_map, hx]; rfl)
      have HP := Lib.hid (HR.out.2.past hB)
      have d0 := hc 0 _ rfl; have d1 := hc 1 _ rfl; have d2 := hc 2 _ rfl; have d3 := hc 3 _ rfl; have d4 := hc 4 _ rfl; have d5 := hc 5 _ rfl
      rw [Nat.add_zero] at d0
      obtain ⟨r, hr⟩ : ∃ r, r = (x.k.nm.toList == nm.toList) := ⟨_, rfl⟩
      have HRR := Lib.hid hr
      clear hx hc hB hr
      cases r with
      | true =>
        have he := (Lib.bytes_beq_iff _ _).1 HRR.out.symm
        have HE := Lib.hid (posI_hit HX.out he HNE.out.1)
        clear he
        go_wp2_with (go_at_call 11; refine (keyIs_any x nm pn _ HP.out).mono ?_; rintro e w1 ⟨rfl, hb1⟩; rw [← HRR.out])
        go_ret
        exact ⟨by rw [HE.out]; rfl, HNE.out.2.trans (hb1.mono HNE.out.2.size)⟩
      | false =>
        have he := (Lib.bytes_beq_false_iff _ _).1 HRR.out.symm
        have HE := Lib.hid he
        clear he
        go_wp2_with (go_at_call 11; refine (keyIs_any x nm pn _ HP.out).mono ?_; rintro e w1 ⟨rfl, hb1⟩; have HB1 := Lib.hid (HNE.out.2.trans (hb1.mono HNE.out.2.size)); clear hb1; rw [← HRR.out])
        go_roundw
        case rel =>
          refine ⟨k + 1, by omega, by go_num, HB1.out, fun j k' hj hk' => ?_⟩
          by_cases ej : j = k
          · subst ej; rw [HX.out] at hk'; cases hk'; exact HE.out
          · exact HNE.out.1 j k' (by omega) hk'
        case measure => simp [intOf]; omega
    · have hke : k = n := by omega
      subst hke
      have HE := Lib.hid (posI_miss (nm := nm) (L := E.map KA.k) (fun j k' hj => HNE.out.1 j k' (by have := HN.out; simp at hj; omega)))
      clear hB
      go_wp2_with fail
      go_ret
      exact ⟨by rw [HE.out]; rfl, HNE.out.2⟩
set_option maxRecDepth 100000 in
set_option maxHeartbeats 1600000 in
theorem none_zero (w : World) : Calls Tryd.prog 23 #[zeroFr] w fun e w' => e = .returned (.bool true) ∧ Below w.heap.size w w' := by
  unfold zeroFr
  have hbld := fun w => show (Instr.build 35 #[]).run Tryd.prog w = .ok (.agg #[.int .i64 0, .int .i64 0, .int .i64 0, .int .i64 0]) w by kernel_rfl
  have heq := fun w => show Sem.run Tryd.prog (Op.equalIn 10000 35 (.agg #[.int .i64 0, .int .i64 0, .int .i64 0, .int .i64 0]) (.agg #[.int .i64 0, .int .i64 0, .int .i64 0, .int .i64 0])) w = .ok true w by kernel_rfl
  go_enter Tryd.func23, Tryd.ntmps23
  go_wp2_with fail
  go_ret
  exact ⟨rfl, by (repeat (first | exact Below.refl _ _ | assumption | (refine Below.setCell ?_ (by first | (simp; done) | (simp; omega) | omega) _) | (refine Below.drew ?_) | (refine below_drewN ?_ _) | (refine Below.alloc ?_ (by first | (simp; done) | (simp; omega) | omega) _) | (refine Below.trans ?_ (Below.mono (by assumption) (by first | (simp; done) | (simp; omega) | omega)))))⟩
theorem pixL_take {L : List Kp} {k : Nat} {x : Kp} (h : L[k]? = some x) : pixL (L.take (k + 1)) = pixL (L.take k) + x.pix := by
  rw [List.take_add_one, h, pixL_app]; simp [pixL]
set_option maxRecDepth 100000 in
set_option maxHeartbeats 1600000 in
theorem pixels_any (lv : Value) (E : List KA) (w : World) (h : RowV w 6 lv E.length (E.flatMap kaC)) (hok : ∀ a ∈ E, a.k.ok) (hE : E.length ≤ 1000) :
    Calls Tryd.prog 21 #[lv] w fun e w' => e = .returned (.int .i64 (pixL (E.map KA.k))) ∧ Below w.heap.size w w' := by
  have HR := Lib.hid (And.intro h hok)
  obtain ⟨-, ao, cap, rfl, hn, hm, -⟩ := h
  obtain ⟨n, hnn⟩ : ∃ n, n = E.length := ⟨_, rfl⟩
  rw [← hnn] at hn hE ⊢
  have HN := Lib.hid hnn
  have hcb : cap ≤ 9223372036854775807 := by unfold maxLen at hm; omega
  clear hnn hm hok
  go_enter Tryd.func21, Tryd.ntmps21
  go_wp2_with fail
  go_loopw [3, 8] (fun s3 s8 wr => ∃ (k : Nat) (S : Int), k ≤ n ∧ s8 = .int .i64 k ∧ s3 = .int .i64 S ∧ S = pixL ((E.map KA.k).take k) ∧ Below w.heap.size w wr) (fun _ s8 _ => n - (intOf s8).toNat)
  case atStart => exact ⟨0, 0, Nat.zero_le _, rfl, rfl, by simp [pixL], Below.refl _ _⟩
  case round =>
    obtain ⟨k, S, hk, rfl, rfl, hS, hB⟩ := hrel
    have HS := Lib.hid (And.intro hS hB)
    have hSb : 0 ≤ S ∧ S ≤ 16384000 := by
      have h1 := pixL_bd (L := (E.map KA.k).take k) (fun y hy => by
        obtain ⟨a, ha, rfl⟩ := List.mem_map.1 (List.mem_of_mem_take hy)
        exact HR.out.2 a ha)
      have h2 : ((E.map KA.k).take k).length ≤ 1000 := by simp; omega
      rw [← hS] at h1
      omega
    clear hS
    by_cases hkn : k < n
    · obtain ⟨x, hx⟩ : ∃ x, E[k]? = some x := ⟨_, List.getElem?_eq_getElem (by have := HN.out; omega)⟩
      obtain ⟨b, off, cap', e, -, -, hbl, hc⟩ := ka_at (HR.out.1.past hB) hx
      injection e with e1 e2 e3
      subst e1; subst e3
      clear e2
      have HX := Lib.hid (show (E.map KA.k)[k]? = some x.k by rw [List.getElem?_map, hx]; rfl)
      have kb := Kp.ok_bd (HR.out.2 x (List.mem_of_getElem? hx))
      obtain ⟨q, hq⟩ : ∃ q, q = x.k.pix := ⟨_, rfl⟩
      have hvh : x.k.v * x.k.h = q := hq.symm
      rw [← hq] at kb
      have HQ := Lib.hid hq
      have d0 := hc 0 _ rfl; have d1 := hc 1 _ rfl; have d2 := hc 2 _ rfl; have d3 := hc 3 _ rfl; have d4 := hc 4 _ rfl; have d5 := hc 5 _ rfl
      rw [Nat.add_zero] at d0
      generalize x.k.v = xv at *
      generalize x.k.h = xh at *
      clear hx hc hB hq
      go_wp2_with fail
      go_roundw
      case rel =>
        have B1 := HS.out.2
        have hsz := B1.size
        refine ⟨k + 1, S + q, by omega, by go_num, by go_num, by rw [pixL_take HX.out, ← HQ.out, HS.out.1], by (repeat (first | exact Below.refl _ _ | assumption | (refine Below.setCell ?_ (by first | (simp; done) | (simp; omega) | omega) _) | (refine Below.drew ?_) | (refine below_drewN ?_ _) | (refine Below.alloc ?_ (by first | (simp; done) | (simp; omega) | omega) _) | (refine Below.trans ?_ (Below.mono (by assumption) (by first | (simp; done) | (simp; omega) | omega)))))⟩
      case measure => simp [intOf]; omega
    · have hke : k = n := by omega
      subst hke
      have HE : Hid (S = pixL (E.map KA.k)) := Lib.hid (by rw [HS.out.1, List.take_of_length_le (by have := HN.out; simp; omega)])
      clear hB
      go_wp2_with fail
      go_ret
      exact ⟨by rw [← HE.out]; rfl, HS.out.2⟩
end Go.Proofs.YtcdcfkgdgimmcaaDoor
