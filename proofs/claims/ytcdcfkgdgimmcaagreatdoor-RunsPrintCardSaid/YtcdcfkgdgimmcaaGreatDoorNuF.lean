/- farm.numbersOf at false; rows of marks. Conditions: what each theorem names. -/
import Derived.Test.YtcdcfkgdgimmcaaGreatDoorDnE
namespace Go.Proofs.YtcdcfkgdgimmcaaGreatDoor
open Go Go.RowKit
set_option maxRecDepth 100000 in
set_option maxHeartbeats 3200000 in
theorem NumbersF_any (g n c : Nat) (f : Nat → Bool) (w : World) (hn : n ≤ 65536) (hr : w.rowIs g 4 n (fun j => .bool (!f j))) :
    Calls Tryz.prog 30 #[.slice (some ⟨g, 0, none⟩) n c, .bool false] w fun e w' => ∃ u, e = .returned u ∧ NmR w w' u (nmZ f n) := by
  obtain ⟨i0, hi0, hz0, hz1, hz2⟩ := info_parts infoInt
  have HR := Lib.hid hr
  clear hr
  go_enter Tryz.func30, Tryz.ntmps30
  go_wp2_with fail
  go_loopw [5, 10] (fun s5 s10 wr => ∃ (i : Nat) (u : Value), i ≤ n ∧ s10 = .int .i64 i ∧ u = s5 ∧ NmR w wr u (nmZ f i)) (fun _ s10 _ => n - (intOf s10).toNat)
  case atStart => exact ⟨0, _, Nat.zero_le _, rfl, rfl, NmR.nil _⟩
  case round =>
    obtain ⟨i, u, hi, rfl, rfl, hM⟩ := hrel
    have HM := Lib.hid hM
    by_cases hin : i < n
    · have hini : (i : Int) < (n : Int) := by omega
      have hR := HR.out.of_block (hM.bel.block g HR.out.lt)
      have r0 := hR.cell hin
      have gl := hR.lt
      have hL := nmZ_len f i
      have hbs := hM.bel.size
      have HF := Lib.hid (show nmZ f (i + 1) = if f i = true then nmZ f i ++ [(i : Int)] else nmZ f i from rfl)
      obtain ⟨L, hLL⟩ : ∃ L, L = nmZ f i := ⟨_, rfl⟩
      rw [← hLL] at HM HF hL
      obtain ⟨b, hb⟩ : ∃ b, b = f i := ⟨_, rfl⟩
      rw [← hb] at r0 HF
      clear hR hM hLL hb
      cases b
      · simp only [Bool.not_false] at r0
        go_wp2_with fail
        go_roundw
        case rel => exact ⟨i + 1, _, by omega, by go_num, rfl, by rw [HF.out]; simpa using HM.out⟩
        case measure => simp [intOf]; omega
      · simp only [Bool.not_true] at r0
        go_wp2_with (first | (at_builtin; refine wpList_append_lies _ rfl _ _ _ rfl w.heap.size 3 i0 (.int .i64 0) 1 8 Tryz.underlying36 hi0 hz0 hz1 hz2 rfl (by decide) u L.length (L.map (Value.int .i64)) rfl (own_past HM.out.own (by (repeat (first | exact Below.refl _ _ | assumption | (refine Below.setCell ?_ (by first | (simp; done) | (simp; omega) | omega) _) | (refine Below.drew ?_) | (refine below_drewN ?_ _) | (refine Below.alloc ?_ (by first | (simp; done) | (simp; omega) | omega) _) | (refine Below.trans ?_ (Below.mono (by assumption) (by first | (simp; done) | (simp; omega) | omega))))))) ⟨wr.heap.size, 0, none⟩ 1 1 [.int .i64 i] rfl rfl (by intro j u hj; match j, hj with | 0, hj => (simp at hj; subst hj; simp [Addr.add])) (by intro u hu; simp at hu; subst hu; rfl) (by decide) (by unfold maxLen; omega) (by omega) (by simp; omega) _ rfl ?_; intro g' cap w7 hown hgrow hat hlt))
        have HN := Lib.hid (NmR.app HM.out (by (repeat (first | exact Below.refl _ _ | assumption | (refine Below.setCell ?_ (by first | (simp; done) | (simp; omega) | omega) _) | (refine Below.drew ?_) | (refine below_drewN ?_ _) | (refine Below.alloc ?_ (by first | (simp; done) | (simp; omega) | omega) _) | (refine Below.trans ?_ (Below.mono (by assumption) (by first | (simp; done) | (simp; omega) | omega)))))) hown hgrow)
        clear hown hgrow hat hlt
        go_roundw
        case rel => exact ⟨i + 1, _, by omega, by go_num, rfl, by rw [HF.out]; simpa using HN.out⟩
        case measure => simp [intOf]; omega
    · have hini : ¬ (i : Int) < (n : Int) := by omega
      have hie : i = n := by omega
      clear hM
      go_wp2_with fail
      go_ret
      exact ⟨_, rfl, by rw [← hie]; exact HM.out⟩
theorem nmZ_congr {f g : Nat → Bool} : ∀ n : Nat, (∀ i, i < n → f i = g i) → nmZ f n = nmZ g n
  | 0, _ => rfl
  | n + 1, h => by
    unfold nmZ
    rw [h n (by omega), nmZ_congr n (fun i hi => h i (by omega))]
theorem nmZ_mem (f : Nat → Bool) (x : Int) : ∀ n : Nat, x ∈ nmZ f n ↔ ∃ i : Nat, i < n ∧ x = i ∧ f i = true
  | 0 => by simp [nmZ]
  | n + 1 => by
    have ih := nmZ_mem f x n
    unfold nmZ
    cases hf : f n
    · simp only [Bool.false_eq_true, if_false]
      rw [ih]
      refine ⟨fun ⟨i, h1, h2, h3⟩ => ⟨i, by omega, h2, h3⟩, fun ⟨i, h1, h2, h3⟩ => ⟨i, ?_, h2, h3⟩⟩
      rcases Nat.lt_or_ge i n with h | h
      · exact h
      · have : i = n := by omega
        subst this; rw [hf] at h3; cases h3
    · simp only [if_true]
      rw [List.mem_append, ih]
      constructor
      · rintro (⟨i, h1, h2, h3⟩ | h)
        · exact ⟨i, by omega, h2, h3⟩
        · exact ⟨n, by omega, by simpa using h, hf⟩
      · rintro ⟨i, h1, h2, h3⟩
        rcases Nat.lt_or_ge i n with h | h
        · exact .inl ⟨i, h, h2, h3⟩
        · have : i = n := by omega
          subst this; exact .inr (by simp [h2])
/-- Whether j is among the first k of L. -/
def setB (L : List Int) (k : Nat) (j : Nat) : Bool := decide ((j : Int) ∈ L.take k)
theorem setB_zero (L : List Int) (j : Nat) : setB L 0 j = false := by simp [setB]
theorem setB_succ (L : List Int) (k q j : Nat) (hk : k < L.length) (hq : L.getD k 0 = q) : setB L (k + 1) j = if q = j then true else setB L k j := by
  unfold setB
  have e : L[k] = (q : Int) := by rw [← hq]; simp [hk]
  rw [List.take_succ_eq_append_getElem hk, e]
  by_cases h : q = j
  · subst h; simp
  · rw [if_neg h]
    have : ¬ (j : Int) = (q : Int) := by omega
    simp [this]
theorem setB_all (f : Nat → Bool) (n j : Nat) (hj : j < n) : setB (nmZ f n) (nmZ f n).length j = f j := by
  unfold setB
  rw [List.take_length]
  cases hf : f j
  · refine decide_eq_false (fun h => ?_)
    obtain ⟨i, -, h2, h3⟩ := (nmZ_mem f _ n).1 h
    have : i = j := by omega
    subst this; rw [hf] at h3; cases h3
  · exact decide_eq_true ((nmZ_mem f _ n).2 ⟨j, hj, rfl, hf⟩)
theorem nmZ_at (f : Nat → Bool) (n k : Nat) (hk : k < (nmZ f n).length) : ∃ q : Nat, (nmZ f n).getD k 0 = q ∧ q < n := by
  have h : (nmZ f n)[k] ∈ nmZ f n := List.getElem_mem _
  obtain ⟨i, h1, h2, -⟩ := (nmZ_mem f _ n).1 h
  exact ⟨i, by rw [← h2]; simp [hk], h1⟩
end Go.Proofs.YtcdcfkgdgimmcaaGreatDoor
