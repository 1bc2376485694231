/- Packed levels: what is packed is unpacked, and the other way round. Plain laws. Conditions: what each theorem names. -/
import Derived.Test.YtcdcfkgdgimmcaaDoorPkE
namespace Go.Proofs.YtcdcfkgdgimmcaaDoor
open Go Go.RowKit
theorem pkL_get {g : Nat → List UInt8} {m : Nat} (hl : ∀ k, (g k).length = m) : ∀ {K k j : Nat}, k < K → j < m → (pkL g K)[k * m + j]? = (g k)[j]? := by
  intro K
  induction K with
  | zero => intro k j h; omega
  | succ K ih =>
    intro k j hk hj
    rw [show pkL g (K + 1) = pkL g K ++ g K from rfl]
    have hlen := pkL_len hl K
    rcases (show k < K ∨ k = K by omega) with h | rfl
    · have h2 : (k + 1) * m ≤ K * m := Nat.mul_le_mul_right m h
      rw [Nat.add_mul, Nat.one_mul] at h2
      rw [List.getElem?_append_left (by rw [hlen]; omega)]
      exact ih h hj
    · rw [List.getElem?_append_right (by rw [hlen]; omega), hlen, show k * m + j - k * m = j by omega]
theorem pk_eq {g : Nat → List UInt8} {m K : Nat} {l : List UInt8} (hl : ∀ k, (g k).length = m) (hm : 0 < m) (hlen : l.length = K * m) (h : ∀ k j, k < K → j < m → (g k)[j]? = l[k * m + j]?) : pkL g K = l := by
  refine List.ext_getElem? (fun i => ?_)
  have hp := pkL_len hl K
  by_cases hi : i < K * m
  · have e : i / m * m + i % m = i := by rw [Nat.mul_comm]; exact Nat.div_add_mod i m
    have hk : i / m < K := (Nat.div_lt_iff_lt_mul hm).2 hi
    have h1 := pkL_get hl hk (Nat.mod_lt i hm)
    have h2 := h _ _ hk (Nat.mod_lt i hm)
    rw [e] at h1 h2
    rw [h1, h2]
  · rw [List.getElem?_eq_none (by omega), List.getElem?_eq_none (by omega)]
theorem by8_congr {x y : Int} (h : x % 256 = y % 256) : by8 x = by8 y := by unfold by8; rw [h]
theorem by8_of (b : UInt8) {x : Int} (h : x % 256 = (b.toNat : Int)) : by8 x = b := by
  have h2 := by8_nat x
  rw [h] at h2
  exact UInt8.toNat_inj.1 (by omega)
theorem bt_at {t : ByteArray} {i : Nat} {b : UInt8} (h : t.data.toList[i]? = some b) : btI t i = (b.toNat : Int) := by
  obtain ⟨hi, he⟩ := List.getElem?_eq_some_iff.1 h
  have hi' : i < t.size := by simpa using hi
  unfold btI
  rw [dif_pos hi']
  have : t[i] = b := by rw [← he]; simp; rfl
  rw [this]
theorem bt_some {t : ByteArray} {i : Nat} (h : i < t.size) : ∃ b, t.data.toList[i]? = some b ∧ btI t i = (b.toNat : Int) := by
  have hi : i < t.data.toList.length := by simpa using h
  exact ⟨_, List.getElem?_eq_getElem hi, bt_at (List.getElem?_eq_getElem hi)⟩
theorem bt_pk {g : Nat → List UInt8} {m : Nat} (hl : ∀ k, (g k).length = m) {K k j : Nat} (hk : k < K) (hj : j < m) {x : Int} (h : (g k)[j]? = some (by8 x)) : btI ⟨(pkL g K).toArray⟩ (k * m + j) = x % 256 := by
  rw [← by8_nat]
  refine bt_at ?_
  show (pkL g K).toArray.toList[k * m + j]? = _
  rw [List.toList_toArray, pkL_get hl hk hj, h]
theorem size_pk {g : Nat → List UInt8} {m : Nat} (hl : ∀ k, (g k).length = m) (K : Nat) : (⟨(pkL g K).toArray⟩ : ByteArray).size = K * m := by
  show (pkL g K).toArray.size = _
  rw [List.size_toArray, pkL_len hl]
/-- What is packed is unpacked. -/
theorem un8 {zs : Nat → Int} {N i : Nat} (hi : i < N) (hz : 0 ≤ zs i ∧ zs i ≤ 255) : wdI ⟨(pkL (g8 zs) N).toArray⟩ (1 * i) 1 = zs i := by
  have h := bt_pk (g := g8 zs) (m := 1) (fun _ => rfl) (K := N) hi (j := 0) (by omega) (x := zs i) rfl
  simp only [wdI]
  rw [show 1 * i + 0 = i * 1 + 0 by omega, h]; omega
theorem un16 {zs : Nat → Int} {N i : Nat} (hi : i < N) (hz : 0 ≤ zs i ∧ zs i ≤ 65535) : wdI ⟨(pkL (g16 zs) N).toArray⟩ (2 * i) 2 = zs i := by
  have h0 := bt_pk (g := g16 zs) (m := 2) (fun _ => rfl) (K := N) hi (j := 0) (by omega) (x := zs i / 256) rfl
  have h1 := bt_pk (g := g16 zs) (m := 2) (fun _ => rfl) (K := N) hi (j := 1) (by omega) (x := zs i) rfl
  simp only [wdI]
  rw [show 2 * i + 0 = i * 2 + 0 by omega, show 2 * i + 1 = i * 2 + 1 by omega, h0, h1]; omega
theorem w10_bd {zs : Nat → Int} {N : Nat} (hz : ∀ i, i < N → 0 ≤ zs i ∧ zs i ≤ 1023) (k : Nat) : 0 ≤ w10 zs N k ∧ w10 zs N k ≤ 4294967292 := by
  have b0 := at10_bd hz (3 * k); have b1 := at10_bd hz (3 * k + 1); have b2 := at10_bd hz (3 * k + 2)
  unfold w10; omega
theorem unw {zs : Nat → Int} {N k K : Nat} (hk : k < K) (hz : ∀ i, i < N → 0 ≤ zs i ∧ zs i ≤ 1023) : wdI ⟨(pkL (g10 zs N) K).toArray⟩ (4 * k) 4 = w10 zs N k := by
  have h0 := bt_pk (g := g10 zs N) (m := 4) (fun _ => rfl) (K := K) hk (j := 0) (by omega) (x := w10 zs N k / 16777216) rfl
  have h1 := bt_pk (g := g10 zs N) (m := 4) (fun _ => rfl) (K := K) hk (j := 1) (by omega) (x := w10 zs N k / 65536) rfl
  have h2 := bt_pk (g := g10 zs N) (m := 4) (fun _ => rfl) (K := K) hk (j := 2) (by omega) (x := w10 zs N k / 256) rfl
  have h3 := bt_pk (g := g10 zs N) (m := 4) (fun _ => rfl) (K := K) hk (j := 3) (by omega) (x := w10 zs N k) rfl
  have hb := w10_bd hz k
  simp only [wdI]
  rw [show 4 * k + 0 = k * 4 + 0 by omega, show 4 * k + 1 = k * 4 + 1 by omega, show 4 * k + 2 = k * 4 + 2 by omega, show 4 * k + 3 = k * 4 + 3 by omega, h0, h1, h2, h3]
  generalize w10 zs N k = W at *
  omega
theorem lev_pk {zs : Nat → Int} {N k K j : Nat} (hk : k < K) (hj : j < 3) (hz : ∀ i, i < N → 0 ≤ zs i ∧ zs i ≤ 1023) : lev10 ⟨(pkL (g10 zs N) K).toArray⟩ k j = at10 zs N (3 * k + j) := by
  have b0 := at10_bd hz (3 * k); have b1 := at10_bd hz (3 * k + 1); have b2 := at10_bd hz (3 * k + 2)
  unfold lev10
  rw [unw hk hz]
  unfold w10
  rcases (show j = 0 ∨ j = 1 ∨ j = 2 by omega) with rfl | rfl | rfl
  · rw [if_pos rfl, show 3 * k + 0 = 3 * k from rfl]
    generalize at10 zs N (3 * k) = a at *
    generalize at10 zs N (3 * k + 1) = b at *
    generalize at10 zs N (3 * k + 2) = c at *
    have e : ((a * 1024 + b) * 1024 + c) * 4 / 4194304 = a := by omega
    rw [e]; omega
  · rw [if_neg (by decide), if_pos rfl]
    generalize at10 zs N (3 * k) = a at *
    generalize at10 zs N (3 * k + 1) = b at *
    generalize at10 zs N (3 * k + 2) = c at *
    have e : ((a * 1024 + b) * 1024 + c) * 4 / 4096 = a * 1024 + b := by omega
    rw [e]; omega
  · rw [if_neg (by decide), if_neg (by decide)]; omega
theorem good_pk {zs : Nat → Int} {N k K : Nat} (hk : k < K) (hz : ∀ i, i < N → 0 ≤ zs i ∧ zs i ≤ 1023) : Good ⟨(pkL (g10 zs N) K).toArray⟩ N k := by
  refine ⟨by rw [unw hk hz]; unfold w10; omega, fun j hj hm => ?_⟩
  rw [lev_pk hk hj hz]; unfold at10; rw [if_neg (by omega)]
theorem un10 {zs : Nat → Int} {N i : Nat} (hi : i < N) (hz : ∀ i, i < N → 0 ≤ zs i ∧ zs i ≤ 1023) : f10 ⟨(pkL (g10 zs N) ((N + 2) / 3)).toArray⟩ i = zs i := by
  unfold f10
  rw [lev_pk (by omega) (by omega) hz, show 3 * (i / 3) + i % 3 = i by omega]
  unfold at10; rw [if_pos hi]
/-- What is unpacked is packed. -/
theorem pk8 {t : ByteArray} {N : Nat} (hs : t.size = N) : pkL (g8 (fun i => wdI t (1 * i) 1)) N = t.data.toList := by
  refine pk_eq (m := 1) (fun _ => rfl) (by omega) (by simpa using hs) (fun k j hk hj => ?_)
  obtain rfl : j = 0 := by omega
  obtain ⟨b, h1, h2⟩ := bt_some (t := t) (i := k * 1 + 0) (by omega)
  rw [h1]
  show some (by8 (wdI t (1 * k) 1)) = some b
  congr 1
  refine by8_of b ?_
  simp only [wdI]
  rw [show 1 * k + 0 = k * 1 + 0 by omega, h2]
  have := b.toNat_lt
  omega
theorem pk16 {t : ByteArray} {N : Nat} (hs : t.size = 2 * N) : pkL (g16 (fun i => wdI t (2 * i) 2)) N = t.data.toList := by
  refine pk_eq (m := 2) (fun _ => rfl) (by omega) (by rw [Nat.mul_comm N 2]; simpa using hs) (fun k j hk hj => ?_)
  obtain ⟨b0, h1, h2⟩ := bt_some (t := t) (i := k * 2 + 0) (by omega)
  obtain ⟨b1, h3, h4⟩ := bt_some (t := t) (i := k * 2 + 1) (by omega)
  have l0 := b0.toNat_lt; have l1 := b1.toNat_lt
  have hw : wdI t (2 * k) 2 = (b0.toNat : Int) * 256 + b1.toNat := by
    simp only [wdI]
    rw [show 2 * k + 0 = k * 2 + 0 by omega, show 2 * k + 1 = k * 2 + 1 by omega, h2, h4]; omega
  rcases (show j = 0 ∨ j = 1 by omega) with rfl | rfl
  · rw [h1]
    show some (by8 (wdI t (2 * k) 2 / 256)) = some b0
    rw [hw]; congr 1; exact by8_of b0 (by omega)
  · rw [h3]
    show some (by8 (wdI t (2 * k) 2)) = some b1
    rw [hw]; congr 1; exact by8_of b1 (by omega)
theorem pk10 {t : ByteArray} {N : Nat} (hs : t.size = (N + 2) / 3 * 4) (hg : ∀ k, k < (N + 2) / 3 → Good t N k) : pkL (g10 (f10 t) N) ((N + 2) / 3) = t.data.toList := by
  refine pk_eq (m := 4) (fun _ => rfl) (by omega) (by simpa using hs) (fun k j hk hj => ?_)
  obtain ⟨b0, h0, e0⟩ := bt_some (t := t) (i := k * 4 + 0) (by omega)
  obtain ⟨b1, h1, e1⟩ := bt_some (t := t) (i := k * 4 + 1) (by omega)
  obtain ⟨b2, h2, e2⟩ := bt_some (t := t) (i := k * 4 + 2) (by omega)
  obtain ⟨b3, h3, e3⟩ := bt_some (t := t) (i := k * 4 + 3) (by omega)
  have l0 := b0.toNat_lt; have l1 := b1.toNat_lt; have l2 := b2.toNat_lt; have l3 := b3.toNat_lt
  have hw : wdI t (4 * k) 4 = (((b0.toNat : Int) * 256 + b1.toNat) * 256 + b2.toNat) * 256 + b3.toNat := by
    simp only [wdI]
    rw [show 4 * k + 0 = k * 4 + 0 by omega, show 4 * k + 1 = k * 4 + 1 by omega, show 4 * k + 2 = k * 4 + 2 by omega, show 4 * k + 3 = k * 4 + 3 by omega, e0, e1, e2, e3]; omega
  have ha : ∀ j, j < 3 → at10 (f10 t) N (3 * k + j) = lev10 t k j := fun j hj => by
    unfold at10
    split
    · exact f10_at t k j hj
    · exact ((hg k hk).2 j hj (by omega)).symm
  have h4 := (hg k hk).1
  have hW : w10 (f10 t) N k = wdI t (4 * k) 4 := by
    unfold w10
    have a0 := ha 0 (by omega)
    rw [Nat.add_zero] at a0
    rw [a0, ha 1 (by omega), ha 2 (by omega)]
    unfold lev10
    rw [if_pos rfl, if_neg (by omega), if_pos rfl, if_neg (by omega), if_neg (by omega)]
    rw [hw] at h4 ⊢
    omega
  rcases (show j = 0 ∨ j = 1 ∨ j = 2 ∨ j = 3 by omega) with rfl | rfl | rfl | rfl
  · rw [h0]
    show some (by8 (w10 (f10 t) N k / 16777216)) = some b0
    rw [hW, hw]; congr 1; exact by8_of b0 (by omega)
  · rw [h1]
    show some (by8 (w10 (f10 t) N k / 65536)) = some b1
    rw [hW, hw]; congr 1; exact by8_of b1 (by omega)
  · rw [h2]
    show some (by8 (w10 (f10 t) N k / 256)) = some b2
    rw [hW, hw]; congr 1; exact by8_of b2 (by omega)
  · rw [h3]
    show some (by8 (w10 (f10 t) N k)) = some b3
    rw [hW, hw]; congr 1; exact by8_of b3 (by omega)
end Go.Proofs.YtcdcfkgdgimmcaaDoor
