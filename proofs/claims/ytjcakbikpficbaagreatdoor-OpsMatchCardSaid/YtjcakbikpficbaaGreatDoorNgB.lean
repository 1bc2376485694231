/- num.Hex: eight digits of the bits. Conditions: what each theorem names. -/
import Derived.Test.YtjcakbikpficbaaGreatDoorNgA
import Derived.Test.YtjcakbikpficbaaGreatDoorNfO
namespace Go.Proofs.YtjcakbikpficbaaGreatDoor
open Go Go.RowKit
theorem and15 (x : Int) : bits .and .u32 x 15 = x % 16 := and_low .u32 x 4 (by decide) (.inr (.inr (.inl rfl))) (by decide)
def hexD (d : Nat) : UInt8 := [48, 49, 50, 51, 52, 53, 54, 55, 56, 57, 97, 98, 99, 100, 101, 102].getD d 0
def hexL (n : Nat) : List UInt8 := (List.range 8).map fun i => hexD (n / 2 ^ (28 - 4 * i) % 16)
theorem hexL_len (n : Nat) : (hexL n).length = 8 := by simp [hexL]
theorem ix_any (q : IntKind) (s : ByteArray) (i : Nat) (b : UInt8) (h : s.data.toList[i]? = some b) (w : World) : (Instr.index 9 (.string s) (.int q i)).run Tryz.prog w = .ok (.int .u8 (b.toNat : Int)) w := by
  have hl : i < s.data.toList.length := (List.getElem?_eq_some_iff.1 h).1
  have hl' : i < s.size := by rw [Lib.size_eq]; exact hl
  have h' : s[i]? = some b := by
    rw [getElem?_pos s i hl']
    have e : s[i] = s.data.toList[i] := rfl
    rw [e]
    rw [List.getElem?_eq_getElem hl] at h
    exact h
  simp [Instr.index, asIntOf, run_underlying Tryz.underlying9, h', go_sem]
theorem bits_any (v : Nat) (w : World) : Calls Tryz.prog 182 #[.float .f32 v] w fun e w' => e = .returned (.int .u32 (cn .f32 v)) ∧ w = w' := by
  go_enter Tryz.func182, Tryz.ntmps182
  go_wp2_with (first | (go_at_call 183; refine (Clean_any _ _).mono ?_; rintro e w' ⟨rfl, rfl⟩))
  go_ret
  exact ⟨rfl, rfl⟩
set_option maxRecDepth 100000 in
set_option maxHeartbeats 1600000 in
theorem hex_any (v : Nat) (w : World) : Calls Tryz.prog 142 #[.float .f32 v] w fun e w' => e = .returned (.string (bs (hexL (cn .f32 v)))) ∧ Below w.heap.size w w' := by
  obtain ⟨n, hn⟩ : ∃ n, n = cn .f32 v := ⟨_, rfl⟩
  have HB : Hid (∀ w, Calls Tryz.prog 182 #[.float .f32 v] w fun e w' => e = .returned (.int .u32 n) ∧ w = w') := Lib.hid (fun w => by rw [hn]; exact bits_any v w)
  rw [← hn]
  clear hn
  go_enter Tryz.func142, Tryz.ntmps142
  go_wp2_with (go_at_call 182; refine (HB.out _).mono ?_; rintro e w' ⟨rfl, rfl⟩)
  go_loopw [8] (fun s8 wr => ∃ (k : Nat) (vs : List Value), k ≤ 8 ∧ s8 = .int .i64 k ∧ vs.length = 8 ∧ Blk wr w.heap.size vs ∧ Below w.heap.size w wr ∧ ∀ j, j < k → vs[j]? = some (.int .u8 ((hexD (n / 2 ^ (28 - 4 * j) % 16)).toNat : Int))) (fun s8 _ => 8 - (intOf s8).toNat)
  case atStart => exact ⟨0, _, by omega, rfl, rfl, Blk.new w [.int .u8 0, .int .u8 0, .int .u8 0, .int .u8 0, .int .u8 0, .int .u8 0, .int .u8 0, .int .u8 0] _ _ rfl, by (repeat (first | exact Below.refl _ _ | assumption | (refine Below.setCell ?_ (by first | (simp; done) | (simp; omega) | omega) _) | (refine Below.drew ?_) | (refine below_drewN ?_ _) | (refine Below.alloc ?_ (by first | (simp; done) | (simp; omega) | omega) _) | (refine Below.trans ?_ (Below.mono (by assumption) (by first | (simp; done) | (simp; omega) | omega))))), fun j hj => by omega⟩
  case round =>
    obtain ⟨k, vs, hk, rfl, hl, hM, hB, hJ⟩ := hrel
    have HM := Lib.hid (And.intro hM (And.intro hB (And.intro hJ hl)))
    by_cases hkn : k < 8
    · have hkm : (k : Int) < 8 := by omega
      obtain ⟨old, ho⟩ : ∃ old, vs[k]? = some old := ⟨_, List.getElem?_eq_getElem (by omega)⟩
      have c0 := hM.c k _ ho
      have cl := hM.lt
      have cf := hM.f
      have h1 : ¬ (28 : Int) - 4 * (k : Int) < 0 := by omega
      obtain ⟨d, hd⟩ : ∃ d, d = n / 2 ^ (28 - 4 * k) % 16 := ⟨_, rfl⟩
      have hd16 : d < 16 := by rw [hd]; exact Nat.mod_lt _ (by omega)
      have hand : bits .and .u32 ((n : Int) / 2 ^ (28 - 4 * k)) 15 = (d : Int) := by rw [and15, hd]; simp
      have hix := ix_any .u32 ⟨#[48, 49, 50, 51, 52, 53, 54, 55, 56, 57, 97, 98, 99, 100, 101, 102]⟩ d (hexD d) (by
        have : ∀ d, d < 16 → [48, 49, 50, 51, 52, 53, 54, 55, 56, 57, 97, 98, 99, 100, 101, 102][d]? = some (hexD d) := by decide +kernel
        exact this d hd16)
      have HD := Lib.hid hd
      clear hM hB hJ ho hd
      go_wp2_with fail
      go_roundw
      case rel =>
        refine ⟨k + 1, vs.set k (.int .u8 ((hexD d).toNat : Int)), by omega, by go_num, by rw [List.length_set]; exact HM.out.2.2.2, by simpa using HM.out.1.set k (.int .u8 ((hexD d).toNat : Int)), HM.out.2.1.setCell (Nat.le_refl _) _, fun j hj => ?_⟩
        by_cases e : j = k
        · subst e
          rw [List.getElem?_set, if_pos rfl, if_pos (by rw [HM.out.2.2.2]; exact hkn), HD.out]
        · rw [List.getElem?_set, if_neg (Ne.symm e)]
          exact HM.out.2.2.1 j (by omega)
      case measure => simp [intOf]; omega
    · obtain rfl : k = 8 := by omega
      have hkm : ¬ ((8 : Nat) : Int) < 8 := by omega
      have hcv : Sem.run Tryz.prog (convert 211 9 (.slice (some ⟨w.heap.size, 0, none⟩) 8 8)) wr = .ok (.string (bs (hexL n))) wr := by
        have h := run_convert_bytes_back wr 211 9 5 ⟨w.heap.size, 0, none⟩ 8 (hexL n) Tryz.underlying211 Tryz.underlying5 Tryz.underlying9 (fun j hj => by
          have hj8 : j < 8 := by rwa [hexL_len] at hj
          rw [Addr.add_lit, Nat.zero_add, hM.c j _ (hJ j hj8)]
          simp [hexL])
        rw [hexL_len] at h
        exact h
      clear hM hB hJ
      go_wp2_with fail
      go_ret
      exact ⟨rfl, HM.out.2.1⟩
end Go.Proofs.YtjcakbikpficbaaGreatDoor
