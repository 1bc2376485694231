/- slices.Delete at one element, slices.Index of a name, slices.Clone: over rows as KpA tells them. Conditions: what each theorem names. -/
import Derived.Test.YtcdcfkgdgimmcaaDoorKpC
import Derived.Deep.RegionLaw
import Derived.BigQuiet
import Derived.Sort.Row
import Derived.Lib.Walk
namespace Go.Proofs.YtcdcfkgdgimmcaaDoor
open Go Go.RowKit
theorem infoStr : (Tryd.prog.info? 9).map (fun i => (i.zero, i.size, i.bytes)) = some (some (.string ⟨#[]⟩), 1, 16) := by kernel_rfl
theorem infoKept : (Tryd.prog.info? 41).map (fun i => (i.zero, i.size, i.bytes)) = some (some (.agg #[.string ⟨#[]⟩, .int .i64 0, .int .i64 0, .int .i64 0, .int .i64 0, .slice none 0 0]), 6, 72) := by kernel_rfl
theorem zeroStr : ∀ w, (zeroValue 9).run Tryd.prog w = .ok (.string ⟨#[]⟩) w := fun w => by kernel_rfl
theorem zeroKept : ∀ w, (zeroValue 41).run Tryd.prog w = .ok (.agg #[.string ⟨#[]⟩, .int .i64 0, .int .i64 0, .int .i64 0, .int .i64 0, .slice none 0 0]) w := fun w => by kernel_rfl
set_option maxRecDepth 100000 in
set_option maxHeartbeats 3200000 in
theorem delStr (v : Value) (n k : Nat) (xs : List Value) (w : World) (h : RowV w 1 v n xs) (hk : k < n) (h1 : ∀ u ∈ xs, u.oneCell' = true) :
    Calls Tryd.prog 96 #[v, .int .i64 k, .int .i64 ((k : Int) + 1)] w fun e w' => ∃ v', e = .returned v' ∧ v'.ownBlock = v.ownBlock ∧ RowV w' 1 v' (n - 1) (xs.take (k * 1) ++ xs.drop ((k + 1) * 1)) ∧ w.grownBy w' v.ownBlock := by
  obtain ⟨i0, hi0, hz0, hz1, hz2⟩ := info_parts infoStr
  obtain ⟨h0, ao, cap, rfl, hn, hm, ⟨rfl, h3⟩ | ⟨b, off, rfl, hb, hc, hf⟩⟩ := h
  · omega
  have hm2 : cap ≤ 9223372036854775807 := by unfold maxLen at hm; omega
  obtain ⟨news, hnews⟩ : ∃ news, news = xs.drop ((k + 1) * 1) := ⟨_, rfl⟩
  have hlen : news.length = (n - (k + 1)) * 1 := by rw [hnews, List.length_drop, h0]; omega
  obtain ⟨A, hA, hsrc⟩ : ∃ A : Addr, (if cap = k + 1 then some (⟨b, off, none⟩ : Addr) else some ⟨b, off + (k + 1) * 1, none⟩) = some A ∧ Hid (∀ t u, news[t]? = some u → w.drew.cell? (A.add t) = some u) := by
    by_cases h : cap = k + 1
    · refine ⟨⟨b, off, none⟩, by simp [h], fun t u hu => ?_⟩
      have : news.length = 0 := by rw [hlen]; omega
      rw [List.length_eq_zero_iff.1 this] at hu
      simp at hu
    · refine ⟨⟨b, off + (k + 1) * 1, none⟩, by simp [h], fun t u hu => ?_⟩
      rw [hnews, List.getElem?_drop] at hu
      rw [Addr.add_lit, Nat.add_assoc]
      exact hc _ u hu
  have s1 : Hid (news.length = (n - (k + 1)) * 1) := hlen
  have s2 : Hid (∀ u ∈ news, u.oneCell' = true) := fun u hu => h1 u (by rw [hnews] at hu; exact List.mem_of_mem_drop hu)
  have s3 : Hid (∀ t, t < news.length → (w.drew.cell? ⟨b, off + k * 1 + t, none⟩).isSome = true ∧ w.drew.frozen? ⟨b, off + k * 1 + t, none⟩ = false) := fun t ht => by
    rw [hlen] at ht
    rw [Nat.add_assoc]
    exact hf _ (by omega)
  obtain ⟨W1, hW1⟩ : ∃ W1, W1 = w.drew.setCells b (off + k * 1) news := ⟨_, rfl⟩
  have hg1 : w.grownBy W1 (some b) := by rw [hW1]; have h := grown_setCells b news (off + k * 1) w.drew; exact ⟨h.os, h.tape, h.output, h.size, h.block⟩
  have hcut := RowV.cut (w := w.drew) (zs := (Value.cells (.string ⟨#[]⟩)).toList) h0 hb hn hm hc hf hk rfl
  rw [← hnews, ← hW1] at hcut
  have hin : ∀ j, j < cap * 1 → (W1.cell? ⟨b, off + j, none⟩).isSome = true ∧ W1.frozen? ⟨b, off + j, none⟩ = false := fun j hj => by
    rw [hW1, World.frozen?_setCells]
    refine ⟨?_, (hf j hj).2⟩
    by_cases hj2 : k * 1 ≤ j ∧ j < k * 1 + news.length
    · have := World.cell?_setCells_in b news (off + k * 1) w.drew (fun j hj => (s3.out j hj).1) (j - k * 1) (by omega)
      rw [show off + k * 1 + (j - k * 1) = off + j by omega] at this
      rw [this]; rfl
    · rw [World.cell?_setCells_out b _ _ _ _ (fun _ _ => by show off + j < off + k * 1 ∨ off + k * 1 + news.length ≤ off + j; omega)]
      exact (hf j hj).1
  obtain ⟨W2, hW2⟩ : ∃ W2, W2 = W1.setCells b (off + (n - 1) * 1) (Value.cells (.string ⟨#[]⟩)).toList := ⟨_, rfl⟩
  have hcl : ∀ ty, (Builtin.clear_ #[23] ty #[.slice (some ⟨b, off + (n - 1) * 1, none⟩) 1 (cap - (n - 1))]).run Tryd.prog W1 = .ok (.tuple #[]) W2 :=
    fun ty => by rw [hW2]; exact run_clear_one W1 _ _ ty _ Tryd.underlying23 zeroStr (by decide) b (off + (n - 1) * 1) _ (fun t ht => by have ht : t < 1 := ht; rw [Nat.add_assoc]; exact (hin _ (by omega)).1) (fun t ht => by have ht : t < 1 := ht; rw [Nat.add_assoc]; exact (hin _ (by omega)).2)
  have hgg : w.grownBy W2 (some b) := by rw [hW2]; exact (hg1.trans (grown_setCells b (Value.cells (.string ⟨#[]⟩)).toList (off + (n - 1) * 1) W1))
  rw [← hW2] at hcut
  have HG := Lib.hid hgg
  have HC := Lib.hid hcut
  have HNW := Lib.hid hnews
  have hW : Hid (W1 = w.drew.setCells b (off + k * 1) news) := hW1
  have hkc : k ≤ cap := by omega
  have hkc1 : k + 1 ≤ cap := by omega
  have hkn : ¬ n < k + 1 := by omega
  have hki : IntKind.i64.wrap ((k : Int) + 1) = (k : Int) + 1 := by rw [IntKind.wrap_i64]; omega
  have hkt : ((k : Int) + 1).toNat = k + 1 := by omega
  have hkz : (0 : Int) ≤ (k : Int) + 1 := by omega
  have hkq : (k : Int) + 1 ≤ (n : Int) := by omega
  have hkqc : (k : Int) + 1 ≤ (cap : Int) := by omega
  have hkne : ¬ (k : Int) = (k : Int) + 1 := by omega
  have hnn : k + (n - (k + 1)) = n - 1 := by omega
  have hn1 : n - (n - 1) = 1 := by omega
  have hnc1 : ¬ cap = n - 1 := by omega
  have hA1 := hA
  have hcl1 := hcl
  try simp only [Nat.mul_one] at hA1 hcl1
  clear hW1 hW2 hcut hg1 hgg hin hf hc hnews hlen h0 h1 hm
  go_enter Tryd.func96, Tryd.ntmps96
  go_wp2_with fail
  go_region_law (refine step_append_room rfl (.tmp 22) (.tmp 25) 23 rfl 9 i0 1 Tryd.underlying23 hi0 hz1 b off k cap (by simp [Act.eval, Act.put]) A (n - (k + 1)) (cap - (k + 1)) news (by simp [Act.eval, Act.put]) s1.out hsrc.out s2.out (by omega) s3.out ?_; rw [← hW.out])
  go_wp2_with fail
  go_ret
  exact ⟨_, rfl, rfl, by rw [← HNW.out]; exact HC.out, HG.out⟩
set_option maxRecDepth 100000 in
set_option maxHeartbeats 3200000 in
theorem delKept (v : Value) (n k : Nat) (xs : List Value) (w : World) (h : RowV w 6 v n xs) (hk : k < n) (h1 : ∀ u ∈ xs, u.oneCell' = true) :
    Calls Tryd.prog 17 #[v, .int .i64 k, .int .i64 ((k : Int) + 1)] w fun e w' => ∃ v', e = .returned v' ∧ v'.ownBlock = v.ownBlock ∧ RowV w' 6 v' (n - 1) (xs.take (k * 6) ++ xs.drop ((k + 1) * 6)) ∧ w.grownBy w' v.ownBlock := by
  obtain ⟨i0, hi0, hz0, hz1, hz2⟩ := info_parts infoKept
  obtain ⟨h0, ao, cap, rfl, hn, hm, ⟨rfl, h3⟩ | ⟨b, off, rfl, hb, hc, hf⟩⟩ := h
  · omega
  have hm2 : cap ≤ 9223372036854775807 := by unfold maxLen at hm; omega
  obtain ⟨news, hnews⟩ : ∃ news, news = xs.drop ((k + 1) * 6) := ⟨_, rfl⟩
  have hlen : news.length = (n - (k + 1)) * 6 := by rw [hnews, List.length_drop, h0]; omega
  obtain ⟨A, hA, hsrc⟩ : ∃ A : Addr, (if cap = k + 1 then some (⟨b, off, none⟩ : Addr) else some ⟨b, off + (k + 1) * 6, none⟩) = some A ∧ Hid (∀ t u, news[t]? = some u → w.drew.cell? (A.add t) = some u) := by
    by_cases h : cap = k + 1
    · refine ⟨⟨b, off, none⟩, by simp [h], fun t u hu => ?_⟩
      have : news.length = 0 := by rw [hlen]; omega
      rw [List.length_eq_zero_iff.1 this] at hu
      simp at hu
    · refine ⟨⟨b, off + (k + 1) * 6, none⟩, by simp [h], fun t u hu => ?_⟩
      rw [hnews, List.getElem?_drop] at hu
      rw [Addr.add_lit, Nat.add_assoc]
      exact hc _ u hu
  have s1 : Hid (news.length = (n - (k + 1)) * 6) := hlen
  have s2 : Hid (∀ u ∈ news, u.oneCell' = true) := fun u hu => h1 u (by rw [hnews] at hu; exact List.mem_of_mem_drop hu)
  have s3 : Hid (∀ t, t < news.length → (w.drew.cell? ⟨b, off + k * 6 + t, none⟩).isSome = true ∧ w.drew.frozen? ⟨b, off + k * 6 + t, none⟩ = false) := fun t ht => by
    rw [hlen] at ht
    rw [Nat.add_assoc]
    exact hf _ (by omega)
  obtain ⟨W1, hW1⟩ : ∃ W1, W1 = w.drew.setCells b (off + k * 6) news := ⟨_, rfl⟩
  have hg1 : w.grownBy W1 (some b) := by rw [hW1]; have h := grown_setCells b news (off + k * 6) w.drew; exact ⟨h.os, h.tape, h.output, h.size, h.block⟩
  have hcut := RowV.cut (w := w.drew) (zs := (Value.cells (.agg #[.string ⟨#[]⟩, .int .i64 0, .int .i64 0, .int .i64 0, .int .i64 0, .slice none 0 0])).toList) h0 hb hn hm hc hf hk rfl
  rw [← hnews, ← hW1] at hcut
  have hin : ∀ j, j < cap * 6 → (W1.cell? ⟨b, off + j, none⟩).isSome = true ∧ W1.frozen? ⟨b, off + j, none⟩ = false := fun j hj => by
    rw [hW1, World.frozen?_setCells]
    refine ⟨?_, (hf j hj).2⟩
    by_cases hj2 : k * 6 ≤ j ∧ j < k * 6 + news.length
    · have := World.cell?_setCells_in b news (off + k * 6) w.drew (fun j hj => (s3.out j hj).1) (j - k * 6) (by omega)
      rw [show off + k * 6 + (j - k * 6) = off + j by omega] at this
      rw [this]; rfl
    · rw [World.cell?_setCells_out b _ _ _ _ (fun _ _ => by show off + j < off + k * 6 ∨ off + k * 6 + news.length ≤ off + j; omega)]
      exact (hf j hj).1
  obtain ⟨W2, hW2⟩ : ∃ W2, W2 = W1.setCells b (off + (n - 1) * 6) (Value.cells (.agg #[.string ⟨#[]⟩, .int .i64 0, .int .i64 0, .int .i64 0, .int .i64 0, .slice none 0 0])).toList := ⟨_, rfl⟩
  have hcl : ∀ ty, (Builtin.clear_ #[31] ty #[.slice (some ⟨b, off + (n - 1) * 6, none⟩) 1 (cap - (n - 1))]).run Tryd.prog W1 = .ok (.tuple #[]) W2 :=
    fun ty => by rw [hW2]; exact run_clear_one W1 _ _ ty _ Tryd.underlying31 zeroKept (by decide) b (off + (n - 1) * 6) _ (fun t ht => by have ht : t < 6 := ht; rw [Nat.add_assoc]; exact (hin _ (by omega)).1) (fun t ht => by have ht : t < 6 := ht; rw [Nat.add_assoc]; exact (hin _ (by omega)).2)
  have hgg : w.grownBy W2 (some b) := by rw [hW2]; exact (hg1.trans (grown_setCells b (Value.cells (.agg #[.string ⟨#[]⟩, .int .i64 0, .int .i64 0, .int .i64 0, .int .i64 0, .slice none 0 0])).toList (off + (n - 1) * 6) W1))
  rw [← hW2] at hcut
  have HG := Lib.hid hgg
  have HC := Lib.hid hcut
  have HNW := Lib.hid hnews
  have hW : Hid (W1 = w.drew.setCells b (off + k * 6) news) := hW1
  have hkc : k ≤ cap := by omega
  have hkc1 : k + 1 ≤ cap := by omega
  have hkn : ¬ n < k + 1 := by omega
  have hki : IntKind.i64.wrap ((k : Int) + 1) = (k : Int) + 1 := by rw [IntKind.wrap_i64]; omega
  have hkt : ((k : Int) + 1).toNat = k + 1 := by omega
  have hkz : (0 : Int) ≤ (k : Int) + 1 := by omega
  have hkq : (k : Int) + 1 ≤ (n : Int) := by omega
  have hkqc : (k : Int) + 1 ≤ (cap : Int) := by omega
  have hkne : ¬ (k : Int) = (k : Int) + 1 := by omega
  have hnn : k + (n - (k + 1)) = n - 1 := by omega
  have hn1 : n - (n - 1) = 1 := by omega
  have hnc1 : ¬ cap = n - 1 := by omega
  have hA1 := hA
  have hcl1 := hcl
  try simp only [Nat.mul_one] at hA1 hcl1
  clear hW1 hW2 hcut hg1 hgg hin hf hc hnews hlen h0 h1 hm
  go_enter Tryd.func17, Tryd.ntmps17
  go_wp2_with fail
  go_region_law (refine step_append_room rfl (.tmp 22) (.tmp 25) 31 rfl 41 i0 6 Tryd.underlying31 hi0 hz1 b off k cap (by simp [Act.eval, Act.put]) A (n - (k + 1)) (cap - (k + 1)) news (by simp [Act.eval, Act.put]) s1.out hsrc.out s2.out (by omega) s3.out ?_; rw [← hW.out])
  go_wp2_with fail
  go_ret
  exact ⟨_, rfl, rfl, by rw [← HNW.out]; exact HC.out, HG.out⟩
end Go.Proofs.YtcdcfkgdgimmcaaDoor
