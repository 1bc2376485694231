/- node.numbers and node.words: a node's parameters as text. Conditions: the library's variables read as listed (LibW); at most 100 of each. -/
import Derived.Test.YtjcakbikpficbaaGreatDoorNgB
import Derived.Lib.ItoaLen
namespace Go.Proofs.YtjcakbikpficbaaGreatDoor
open Go Go.RowKit
/-- A slice's singles. -/
def RealsAt (B : Nat) (w : World) (a : Option Addr) (l : List Nat) : Prop := l = [] ∨ ∃ b off, a = some ⟨b, off, none⟩ ∧ B ≤ b ∧ b < w.heap.size ∧ ∀ i v, l[i]? = some v → w.cell? ⟨b, off + i, none⟩ = some (.float .f32 v)
theorem RealsAt.past {B : Nat} {w w' : World} {a : Option Addr} {l : List Nat} (h : RealsAt B w a l) (hb : Below w.heap.size w w') : RealsAt B w' a l := by
  rcases h with h | ⟨b, off, h1, h0, h2, h3⟩
  · exact .inl h
  · exact .inr ⟨b, off, h1, h0, Nat.lt_of_lt_of_le h2 hb.size, fun i v hv => by rw [hb.cell (p := ⟨b, off + i, none⟩) h2]; exact h3 i v hv⟩
theorem RealsAt.mono {B B' : Nat} {w : World} {a : Option Addr} {l : List Nat} (h : RealsAt B w a l) (hb : B' ≤ B) : RealsAt B' w a l := by
  rcases h with h | ⟨b, off, h1, h0, h2⟩
  · exact .inl h
  · exact .inr ⟨b, off, h1, Nat.le_trans hb h0, h2⟩
theorem RealsAt.get {B : Nat} {w : World} {a : Option Addr} {l : List Nat} (h : RealsAt B w a l) {i : Nat} {v : Nat} (hi : l[i]? = some v) : ∃ b off, a = some ⟨b, off, none⟩ ∧ w.cell? ⟨b, off + i, none⟩ = some (.float .f32 v) := by
  rcases h with rfl | ⟨b, off, h1, -, -, h2⟩
  · simp at hi
  · exact ⟨b, off, h1, h2 i v hi⟩
theorem IntsAt.one {B : Nat} {w : World} {a : Option Addr} {l : List Int} (h : IntsAt B w a l) {i : Nat} {v : Int} (hi : l[i]? = some v) : ∃ b off, a = some ⟨b, off, none⟩ ∧ w.cell? ⟨b, off + i, none⟩ = some (.int .i64 v) := by
  rcases h with rfl | ⟨b, off, h1, -, -, h2⟩
  · simp at hi
  · exact ⟨b, off, h1, h2 i v hi⟩
def intW (i : Int) : List UInt8 := 32 :: Lib.itoa i
def reaW (v : Nat) : List UInt8 := 32 :: hexL (cn .f32 v)
def numT (is : List Int) (rs : List Nat) : List UInt8 := is.flatMap intW ++ rs.flatMap reaW
def Int64 (i : Int) : Prop := -9223372036854775808 ≤ i ∧ i ≤ 9223372036854775807
theorem intW_len {i : Int} (h : Int64 i) : (intW i).length ≤ 22 := by
  have := Lib.itoa_length_le i h.1 h.2
  simp only [intW, List.length_cons]; omega
theorem reaW_len (v : Nat) : (reaW v).length = 9 := by simp [reaW, hexL_len]
theorem flatL_len {α : Type} (f : α → List UInt8) (c : Nat) : ∀ l : List α, (∀ x ∈ l, (f x).length ≤ c) → (l.flatMap f).length ≤ c * l.length
  | [], _ => by simp
  | x :: l, h => by
    have h1 := h x (by simp)
    have h2 := flatL_len f c l (fun y hy => h y (by simp [hy]))
    simp only [List.flatMap_cons, List.length_append, List.length_cons, Nat.mul_add, Nat.mul_one]; omega
theorem flatL_take {α : Type} (f : α → List UInt8) (l : List α) (k : Nat) (x : α) (h : l[k]? = some x) : (l.take (k + 1)).flatMap f = (l.take k).flatMap f ++ f x := by
  rw [List.take_add_one, h]; simp
set_option maxRecDepth 100000 in
set_option maxHeartbeats 3200000 in
theorem numbers_any (op : ByteArray) (ain ai ar : Option Addr) (nin cin ni ci nr cr : Nat) (is : List Int) (rs : List Nat) (w : World) (hL : LibW w) (hni : is.length = ni) (hnr : rs.length = nr) (hi1 : ni ≤ 100) (hr1 : nr ≤ 100) (hi : IntsAt 0 w ai is) (hr : RealsAt 0 w ar rs) (h64 : ∀ i ∈ is, Int64 i) :
    Calls Tryz.prog 95 #[.agg #[.string op, .slice ain nin cin, .slice ai ni ci, .slice ar nr cr]] w fun e w' => e = .returned (.string (bs (numT is rs))) ∧ Below w.heap.size w w' := by
  have HH := Lib.hid (And.intro hL (And.intro hni (And.intro hnr (And.intro hi (And.intro hr h64)))))
  clear hL hni hnr hi hr h64
  go_enter Tryz.func95, Tryz.ntmps95
  go_wp2_with fail
  refine wp_world (fun W hW => ?_)
  have HW : Hid (Below w.heap.size w W ∧ Blk W w.heap.size [.string op, .slice ain nin cin, .slice ai ni ci, .slice ar nr cr]) := Lib.hid (by rw [hW]; exact ⟨by (repeat (first | exact Below.refl _ _ | assumption | (refine Below.setCell ?_ (by first | (simp; done) | (simp; omega) | omega) _) | (refine Below.drew ?_) | (refine below_drewN ?_ _) | (refine Below.alloc ?_ (by first | (simp; done) | (simp; omega) | omega) _) | (refine Below.trans ?_ (Below.mono (by assumption) (by first | (simp; done) | (simp; omega) | omega))))), Blk.new _ _ _ _ rfl⟩)
  clear hW
  go_loopw [11, 3] (fun s11 s3 wr => ∃ (k : Nat) (T : ByteArray), k ≤ ni ∧ s11 = .int .i64 k ∧ s3 = .string T ∧ T.data.toList = (is.take k).flatMap intW ∧ Below W.heap.size W wr) (fun s11 _ _ => ni - (intOf s11).toNat)
  case atStart => exact ⟨0, ⟨#[]⟩, Nat.zero_le _, rfl, rfl, rfl, Below.refl _ _⟩
  case round =>
    obtain ⟨k, T, hk, rfl, rfl, hT, hB⟩ := hrel
    have HT := Lib.hid (And.intro hT hB)
    clear hT hB
    by_cases hkn : k < ni
    · have hkm : (k : Int) < (ni : Int) := by omega
      obtain ⟨z, hz⟩ : ∃ z, is[k]? = some z := ⟨_, List.getElem?_eq_getElem (by have := HH.out.2.1; omega)⟩
      have HZ := Lib.hid hz
      have hbw := HW.out.1.trans (HT.out.2.mono HW.out.1.size)
      obtain ⟨b, off, rfl, c0⟩ := (HH.out.2.2.2.1.past hbw).one hz
      have hz64 : Int64 z := HH.out.2.2.2.2.2 z (List.mem_of_getElem? hz)
      have HIT : Hid (∀ w', LibW w' → Calls Tryz.prog 94 #[.int .i64 z] w' fun e w'' => e = .returned (.string (bs (Lib.itoa z))) ∧ Below w'.heap.size w' w'') := Lib.hid (fun w' h' => Itoa_any z w' h' hz64.1 hz64.2)
      have HLW := Lib.hid (HH.out.1.past hbw)
      have htl : T.size ≤ 22 * k := by
        rw [Lib.size_eq, HT.out.1]
        have h1 := flatL_len intW 22 (is.take k) (fun x hx => intW_len (HH.out.2.2.2.2.2 x (List.mem_of_mem_take hx)))
        rw [List.length_take] at h1
        omega
      have hil := intW_len hz64
      have hi2 : (bs (Lib.itoa z)).size ≤ 22 := by rw [Lib.size_eq, bs_data]; simp only [intW, List.length_cons] at hil; omega
      obtain ⟨I, hI⟩ : ∃ I, I = bs (Lib.itoa z) := ⟨_, rfl⟩
      rw [← hI] at HIT hi2
      have HI := Lib.hid hI
      have l0 := cell_lt c0; simp only at l0
      have q1 : ¬ 9223372036854775807 < 1 + I.size := by omega
      have q2 : ¬ 9223372036854775807 < T.size + (1 + I.size) := by omega
      clear hz hbw hz64 hil hI
      go_wp2_with (go_at_call 94; refine (HIT.out _ HLW.out).mono ?_; rintro e w2 ⟨rfl, hb2⟩; have HB2 := Lib.hid (HT.out.2.trans (hb2.mono HT.out.2.size)); clear hb2)
      go_roundw
      case rel =>
        refine ⟨k + 1, _, by omega, by go_num, rfl, ?_, HB2.out⟩
        rw [flatL_take _ _ _ _ HZ.out, ← HT.out.1, HI.out]
        simp [intW, bs]
      case measure => simp [intOf]; omega
    · have hkm : ¬ (k : Int) < (ni : Int) := by omega
      have hte : T.data.toList = is.flatMap intW := by rw [HT.out.1, List.take_of_length_le (by have := HH.out.2.1; omega)]
      have htl : T.size ≤ 2200 := by
        rw [Lib.size_eq, hte]
        have h1 := flatL_len intW 22 is (fun x hx => intW_len (HH.out.2.2.2.2.2 x hx))
        have := HH.out.2.1
        omega
      have HT2 := Lib.hid (And.intro hte htl)
      have HB0 := Lib.hid (HW.out.1.trans (HT.out.2.mono HW.out.1.size))
      have HK := Lib.hid (HW.out.2.past HT.out.2)
      have m3 := HK.out.c 3 _ rfl
      have ml := HK.out.lt
      clear hte htl
      go_wp2_with fail
      clear m3 ml
      go_loopw [24, 3] (fun s24 s3 wx => ∃ (j : Nat) (S : ByteArray), j ≤ nr ∧ s24 = .int .i64 j ∧ s3 = .string S ∧ S.data.toList = is.flatMap intW ++ (rs.take j).flatMap reaW ∧ Below wr.heap.size wr wx) (fun s24 _ _ => nr - (intOf s24).toNat)
      case atStart => exact ⟨0, T, Nat.zero_le _, rfl, rfl, by rw [HT2.out.1]; simp, Below.refl _ _⟩
      case round =>
        obtain ⟨j, S, hj, rfl, rfl, hS, hBx⟩ := hrel
        have HS := Lib.hid (And.intro hS hBx)
        clear hS hBx
        by_cases hjn : j < nr
        · have hjm : (j : Int) < (nr : Int) := by omega
          obtain ⟨v, hv⟩ : ∃ v, rs[j]? = some v := ⟨_, List.getElem?_eq_getElem (by have := HH.out.2.2.1; omega)⟩
          have HV := Lib.hid hv
          have hbw := HB0.out.trans (HS.out.2.mono HB0.out.size)
          obtain ⟨b, off, rfl, c0⟩ := (HH.out.2.2.2.2.1.past hbw).get hv
          have htl : S.size ≤ 2200 + 9 * j := by
            rw [Lib.size_eq, HS.out.1, List.length_append]
            have h1 := flatL_len reaW 9 (rs.take j) (fun x _ => Nat.le_of_eq (reaW_len x))
            have h2 := HT2.out.2
            rw [Lib.size_eq, HT2.out.1] at h2
            rw [List.length_take] at h1
            omega
          obtain ⟨I, hI⟩ : ∃ I, I = bs (hexL (cn .f32 v)) := ⟨_, rfl⟩
          have hi2 : I.size = 8 := by rw [hI, Lib.size_eq, bs_data, hexL_len]
          have HHX : Hid (∀ w', Calls Tryz.prog 142 #[.float .f32 v] w' fun e w'' => e = .returned (.string I) ∧ Below w'.heap.size w' w'') := Lib.hid (fun w' => by rw [hI]; exact hex_any v w')
          have HI := Lib.hid hI
          have l0 := cell_lt c0; simp only at l0
          have q1 : ¬ 9223372036854775807 < 1 + I.size := by omega
          have q2 : ¬ 9223372036854775807 < S.size + (1 + I.size) := by omega
          clear hv hbw hI
          go_wp2_with (go_at_call 142; refine (HHX.out _).mono ?_; rintro e w2 ⟨rfl, hb2⟩; have HB2 := Lib.hid (HS.out.2.trans (hb2.mono HS.out.2.size)); clear hb2)
          go_roundw
          case rel =>
            refine ⟨j + 1, _, by omega, by go_num, rfl, ?_, HB2.out⟩
            rw [flatL_take _ _ _ _ HV.out, ← List.append_assoc, ← HS.out.1, HI.out]
            simp [reaW, bs]
          case measure => simp [intOf]; omega
        · have hjm : ¬ (j : Int) < (nr : Int) := by omega
          have HE : Hid (S = bs (numT is rs)) := Lib.hid (by
            have : S.data.toList = numT is rs := by rw [HS.out.1, List.take_of_length_le (by have := HH.out.2.2.1; omega)]; rfl
            rw [← this, bs_of])
          go_wp2_with fail
          go_ret
          exact ⟨by rw [← HE.out]; rfl, HB0.out.trans (HS.out.2.mono HB0.out.size)⟩
theorem numT_len {is : List Int} {rs : List Nat} (h : ∀ i ∈ is, Int64 i) : (numT is rs).length ≤ 22 * is.length + 9 * rs.length := by
  unfold numT
  rw [List.length_append]
  have h1 := flatL_len intW 22 is (fun x hx => intW_len (h x hx))
  have h2 := flatL_len reaW 9 rs (fun x _ => Nat.le_of_eq (reaW_len x))
  omega
/-- What goes into a node, and its parameters. -/
def wordT (ins is : List Int) (rs : List Nat) : List UInt8 := ins.flatMap intW ++ numT is rs
set_option maxRecDepth 100000 in
set_option maxHeartbeats 3200000 in
theorem words_any (op : ByteArray) (ain ai ar : Option Addr) (nin cin ni ci nr cr : Nat) (ins is : List Int) (rs : List Nat) (w : World) (hL : LibW w) (hnin : ins.length = nin) (hni : is.length = ni) (hnr : rs.length = nr) (hin1 : nin ≤ 100) (hi1 : ni ≤ 100) (hr1 : nr ≤ 100) (hin : IntsAt 0 w ain ins) (hi : IntsAt 0 w ai is) (hr : RealsAt 0 w ar rs) (hin64 : ∀ i ∈ ins, Int64 i) (h64 : ∀ i ∈ is, Int64 i) :
    Calls Tryz.prog 60 #[.agg #[.string op, .slice ain nin cin, .slice ai ni ci, .slice ar nr cr]] w fun e w' => e = .returned (.string (bs (wordT ins is rs))) ∧ Below w.heap.size w w' := by
  have HH := Lib.hid (And.intro hL (And.intro hnin (And.intro hin hin64)))
  have HN := Lib.hid (fun w' (hw' : Below w.heap.size w w') => numbers_any op ain ai ar nin cin ni ci nr cr is rs w' (hL.past hw') hni hnr hi1 hr1 (hi.past hw') (hr.past hw') h64 : ∀ w', _)
  have hnl := numT_len (rs := rs) h64
  obtain ⟨NT, hNT⟩ : ∃ NT, NT = bs (numT is rs) := ⟨_, rfl⟩
  have hns : NT.size ≤ 3100 := by rw [hNT, Lib.size_eq, bs_data]; omega
  rw [← hNT] at HN
  have HNT := Lib.hid hNT
  clear hL hnin hni hnr hi hr h64 hin hin64 hnl hNT
  go_enter Tryz.func60, Tryz.ntmps60
  go_wp2_with fail
  refine wp_world (fun W hW => ?_)
  have HW : Hid (Below w.heap.size w W ∧ Blk W w.heap.size [.string op, .slice ain nin cin, .slice ai ni ci, .slice ar nr cr]) := Lib.hid (by rw [hW]; exact ⟨by (repeat (first | exact Below.refl _ _ | assumption | (refine Below.setCell ?_ (by first | (simp; done) | (simp; omega) | omega) _) | (refine Below.drew ?_) | (refine below_drewN ?_ _) | (refine Below.alloc ?_ (by first | (simp; done) | (simp; omega) | omega) _) | (refine Below.trans ?_ (Below.mono (by assumption) (by first | (simp; done) | (simp; omega) | omega))))), Blk.new _ _ _ _ rfl⟩)
  clear hW
  go_loopw [9, 3] (fun s9 s3 wr => ∃ (k : Nat) (T : ByteArray), k ≤ nin ∧ s9 = .int .i64 k ∧ s3 = .string T ∧ T.data.toList = (ins.take k).flatMap intW ∧ Below W.heap.size W wr) (fun s9 _ _ => nin - (intOf s9).toNat)
  case atStart => exact ⟨0, ⟨#[]⟩, Nat.zero_le _, rfl, rfl, rfl, Below.refl _ _⟩
  case round =>
    obtain ⟨k, T, hk, rfl, rfl, hT, hB⟩ := hrel
    have HT := Lib.hid (And.intro hT hB)
    clear hT hB
    have htl : T.size ≤ 22 * k := by
      rw [Lib.size_eq, HT.out.1]
      have h1 := flatL_len intW 22 (ins.take k) (fun x hx => intW_len (HH.out.2.2.2 x (List.mem_of_mem_take hx)))
      rw [List.length_take] at h1
      omega
    by_cases hkn : k < nin
    · have hkm : (k : Int) < (nin : Int) := by omega
      obtain ⟨z, hz⟩ : ∃ z, ins[k]? = some z := ⟨_, List.getElem?_eq_getElem (by have := HH.out.2.1; omega)⟩
      have HZ := Lib.hid hz
      have hbw := HW.out.1.trans (HT.out.2.mono HW.out.1.size)
      obtain ⟨b, off, rfl, c0⟩ := (HH.out.2.2.1.past hbw).one hz
      have hz64 : Int64 z := HH.out.2.2.2 z (List.mem_of_getElem? hz)
      have HIT : Hid (∀ w', LibW w' → Calls Tryz.prog 94 #[.int .i64 z] w' fun e w'' => e = .returned (.string (bs (Lib.itoa z))) ∧ Below w'.heap.size w' w'') := Lib.hid (fun w' h' => Itoa_any z w' h' hz64.1 hz64.2)
      have HLW := Lib.hid (HH.out.1.past hbw)
      have hil := intW_len hz64
      have hi2 : (bs (Lib.itoa z)).size ≤ 22 := by rw [Lib.size_eq, bs_data]; simp only [intW, List.length_cons] at hil; omega
      obtain ⟨I, hI⟩ : ∃ I, I = bs (Lib.itoa z) := ⟨_, rfl⟩
      rw [← hI] at HIT hi2
      have HI := Lib.hid hI
      have l0 := cell_lt c0; simp only at l0
      have q1 : ¬ 9223372036854775807 < 1 + I.size := by omega
      have q2 : ¬ 9223372036854775807 < T.size + (1 + I.size) := by omega
      clear hz hbw hz64 hil hI
      go_wp2_with (go_at_call 94; refine (HIT.out _ HLW.out).mono ?_; rintro e w2 ⟨rfl, hb2⟩; have HB2 := Lib.hid (HT.out.2.trans (hb2.mono HT.out.2.size)); clear hb2)
      go_roundw
      case rel =>
        refine ⟨k + 1, _, by omega, by go_num, rfl, ?_, HB2.out⟩
        rw [flatL_take _ _ _ _ HZ.out, ← HT.out.1, HI.out]
        simp [intW, bs]
      case measure => simp [intOf]; omega
    · have hkm : ¬ (k : Int) < (nin : Int) := by omega
      have hte : T.data.toList = ins.flatMap intW := by rw [HT.out.1, List.take_of_length_le (by have := HH.out.2.1; omega)]
      have HTE := Lib.hid hte
      have HB0 := Lib.hid (HW.out.1.trans (HT.out.2.mono HW.out.1.size))
      have HK := Lib.hid (HW.out.2.past HT.out.2)
      have m0 := HK.out.c 0 _ rfl
      have m1 := HK.out.c 1 _ rfl
      have m2 := HK.out.c 2 _ rfl
      have m3 := HK.out.c 3 _ rfl
      have ml := HK.out.lt
      have q3 : ¬ 9223372036854775807 < T.size + NT.size := by omega
      clear hte
      go_wp2_with (go_at_call 95; refine (HN.out _ HB0.out).mono ?_; rintro e w2 ⟨rfl, hb2⟩; have HB2 := Lib.hid (HB0.out.trans (hb2.mono HB0.out.size)); clear hb2)
      go_ret
      refine ⟨?_, HB2.out⟩
      have e1 : T ++ NT = bs (wordT ins is rs) := by
        rw [← bs_of (T ++ NT)]
        congr 1
        rw [HNT.out]
        simp only [wordT, ByteArray.data_append, Array.toList_append, HTE.out, bs_data]
      rw [← e1]; rfl
end Go.Proofs.YtjcakbikpficbaaGreatDoor
